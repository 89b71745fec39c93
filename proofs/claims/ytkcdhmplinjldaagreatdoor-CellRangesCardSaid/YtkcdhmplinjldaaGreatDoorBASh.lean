/- A part of the proof: Sh. -/
import Derived.Test.YtkcdhmplinjldaaGreatDoorBATc
set_option linter.unusedVariables false
set_option linter.unusedSimpArgs false
namespace Go.Vf
open Go.Proofs Go.RowKit
theorem runN_cons_out {c : UInt8} {r set : List UInt8} (h : set.contains c = false) : runN (c :: r) set = 0 := by
  rw [runN_eq, List.takeWhile_cons, h]; rfl
theorem runN_cons_in {c : UInt8} {r set : List UInt8} (h : set.contains c = true) : 0 < runN (c :: r) set := by
  rw [runN_eq, List.takeWhile_cons, if_pos h]; simp
theorem runN_app2 {set : List UInt8} : ∀ {d : List UInt8}, (∀ b, b ∈ d → set.contains b = true) → ∀ r, runN (d ++ r) set = d.length + runN r set
  | [], _, r => by simp
  | c :: d, h, r => by
    have ih := runN_app2 (d := d) (fun b hb => h b (List.mem_cons_of_mem _ hb)) r
    rw [runN_eq] at *
    rw [List.cons_append, List.takeWhile_cons, if_pos (h c (List.mem_cons_self ..)), List.length_cons, ih, List.length_cons]
    omega
def Stops (r : List UInt8) : Prop := r = [] ∨ ∃ r', r = 32 :: r'
theorem Stops.run {r : List UInt8} (h : Stops r) {set : List UInt8} (hs : set.contains 32 = false) : runN r set = 0 := by
  rcases h with rfl | ⟨r', rfl⟩
  · exact runN_nil _
  · exact runN_cons_out hs
theorem digit_no_letter : ∀ b, b ∈ digitsL → lettersL.contains b = false := by decide
theorem digit_first {d : List UInt8} (hd : ∀ b, b ∈ d → digitsL.contains b = true) (hne : d ≠ []) (r : List UInt8) : runN (d ++ r) lettersL = 0 := by
  cases d with
  | nil => exact (hne rfl).elim
  | cons c d => exact runN_cons_out (digit_no_letter c (by simpa using hd c (List.mem_cons_self ..)))
theorem numN_app {d r : List UInt8} (hd : ∀ b, b ∈ d → digitsL.contains b = true) (hr : runN r digitsL = 0) :
    numN (d ++ r) = if List.isPrefixOf [46] r = true ∧ 0 < runN (r.drop 1) digitsL then d.length + (1 + runN (r.drop 1) digitsL) else d.length := by
  unfold numN
  rw [runN_app2 hd, hr, Nat.add_zero]
  have h1 : (d ++ r).drop d.length = r := by simp
  have h2 : (d ++ r).drop (d.length + 1) = r.drop 1 := by rw [← List.drop_drop, h1]
  rw [h1, h2]
theorem next_num {d r : List UInt8} (hd : ∀ b, b ∈ d → digitsL.contains b = true) (hne : d ≠ []) : nextL (d ++ r) = ⟨2, (d ++ r).take (numN (d ++ r)), numN (d ++ r), 0⟩ := by
  have h1 := digit_first hd hne r
  have h2 : 0 < runN (d ++ r) digitsL := by
    rw [runN_app2 hd]
    cases d with
    | nil => exact (hne rfl).elim
    | cons c d => simp; omega
  unfold nextL
  rw [if_neg (by omega), if_pos h2]
theorem next_num1 {d r : List UInt8} (hd : ∀ b, b ∈ d → digitsL.contains b = true) (hne : d ≠ []) (hr : runN r digitsL = 0) (h : ¬(List.isPrefixOf [46] r = true ∧ 0 < runN (r.drop 1) digitsL)) : nextL (d ++ r) = ⟨2, d, d.length, 0⟩ := by
  rw [next_num hd hne, numN_app hd hr, if_neg h]
  simp
theorem lexGo_step {s : List UInt8} {f p : Nat} {acc : List Tok} {k : Int} {t : List UInt8} {n : Nat} (hp : p < s.length) (hn : nextL (s.drop p) = ⟨k, t, n, 0⟩) (ha : acc.length < 60) :
    lexGo s (f + 1) p acc = lexGo s f (p + n + runN (s.drop (p + n)) [32]) (acc ++ [⟨k, t, p⟩]) := by
  rw [lexGo, if_pos hp, hn]
  simp only
  rw [if_neg (by omega), if_neg (fun h => h rfl)]
theorem lexGo_end {s : List UInt8} {f p : Nat} {acc : List Tok} (hp : s.length ≤ p) : lexGo s (f + 1) p acc = ⟨acc, s.length, 0⟩ := by
  rw [lexGo, if_neg (by omega)]
def digitsF : Nat → Nat → List UInt8
  | 0, _ => []
  | f + 1, n => if n < 10 then [UInt8.ofNat (48 + n)] else digitsF f (n / 10) ++ [UInt8.ofNat (48 + n % 10)]
def gDig (f : Nat) : List V → Option (Prop × V)
  | [.int .i64 m] => some ((0 ≤ m ∧ m < 1000000) ∧ m.toNat < 10 ^ f, .str (digitsF f m.toNat))
  | _ => none
theorem digitsF_len : ∀ (f n : Nat), (digitsF f n).length ≤ f
  | 0, _ => Nat.le_refl _
  | f + 1, n => by
    unfold digitsF
    split
    · simp
    · have := digitsF_len f (n / 10)
      simp; omega
theorem digitsF_ne (f n : Nat) : digitsF (f + 1) n ≠ [] := by
  unfold digitsF; split <;> simp
theorem ten_digits : ∀ n, n < 10 → digitsL.contains (UInt8.ofNat (48 + n)) = true := by decide
theorem digitsF_all : ∀ (f n : Nat), ∀ b, b ∈ digitsF f n → digitsL.contains b = true
  | 0, _, b, h => by simp [digitsF] at h
  | f + 1, n, b, h => by
    unfold digitsF at h
    split at h
    · rename_i hn
      have : b = UInt8.ofNat (48 + n) := by simpa using h
      rw [this]; exact ten_digits n hn
    · rcases List.mem_append.1 h with h | h
      · exact digitsF_all f _ b h
      · have : b = UInt8.ofNat (48 + n % 10) := by simpa using h
        rw [this]; exact ten_digits _ (Nat.mod_lt _ (by decide))
theorem u46d : Tryz.prog.underlying 82 = some (.slice 5) := by kernel_rfl
theorem te46d : telem Tryz.prog 82 = some 5 := by kernel_rfl
theorem z5d : tzero Tryz.prog 5 = some [.int .u8 0] := by kernel_rfl
theorem c5d : Tryz.prog.cellsOf 5 = 1 := by kernel_rfl
theorem tb5d : tbyte Tryz.prog 5 = true := by kernel_rfl
def T_ldig : Tab := ⟨fun id => if id = 3 then ([0, 1, 3, 4, 5, 6, 7, 8, 2, 9, 10], [(6, 2), (8, 2)]) else ([], []), fun _ => false⟩
theorem T_ldig_ord (id : Nat) : T_ldig.ord id = if id = 3 then ([0, 1, 3, 4, 5, 6, 7, 8, 2, 9, 10], [(6, 2), (8, 2)]) else ([], []) := rfl
theorem T_ldig_ghost (id : Nat) : T_ldig.ghost id = false := rfl
theorem ok_ldig : fnOk Tryz.prog 17 T_ldig 1 = true := by kernel_rfl
theorem wu8 {n : Nat} (h : n < 10) : IntKind.wrap .u8 ((48 + n : Nat) : Int) = ((48 + n : Nat) : Int) := by
  rw [IntKind.wrap_u8]; omega
set_option maxRecDepth 100000 in
theorem ldig_small (n : Nat) (G : Heap) (hn : n < 10) : VPure Tryz.prog 17 [.int .i64 n] G (.str [UInt8.ofNat (48 + n)]) := by
  refine VCalls.of (SOk.none _) mixed T_ldig ok_ldig fun hG => ?_
  have w1 : IntKind.wrap .i64 ((48 : Int) + (n : Int)) = ((48 + n : Nat) : Int) := by rw [w64 (by omega) (by omega)]; omega
  have w2 := wu8 hn
  have hn' : (n : Int) < 10 := by omega
  simp (maxSteps:=999999) -dsimp -implicitDefEqProofs only [↓eqD,eqU,eqV,eqW,vbuiltinQ,vlen,vslice,vindex,vstore,Array.toList,simprocAttr,fnWp_some Tryz.func17,Tryz.f17,T_ldig_ord,T_ldig_ghost,FB,FC,none_at,vreps,vfill,u46d,te46d,z5d,c5d,tb5d,vbytes,w1,w2,hn']; (repeat ((with_reducible (refine And.intro ?_ ?_)); (focus (first | omega | exact ⟨by omega, by omega⟩))))
  exact VDone.back hG (fun _ _ => rfl) rfl rfl
set_option maxRecDepth 100000 in
theorem ldig_walk : ∀ (f n : Nat) (G : Heap), f ≤ 10 → n < 1000000 → n < 10 ^ (f + 1) → VPure Tryz.prog 17 [.int .i64 n] G (.str (digitsF (f + 1) n))
  | 0, n, G, _, _, h => by
    rw [digitsF, if_pos (by simpa using h)]
    exact ldig_small n G (by simpa using h)
  | f + 1, n, G, hf, hm, h => by
    by_cases hn : n < 10
    · rw [digitsF, if_pos hn]
      exact ldig_small n G hn
    · have hS : SOk Tryz.prog (Specs.none.add 17 (gDig (f + 1))) := (SOk.none _).add fun xs G p v e hp => by
        unfold gDig at e
        split at e
        · rename_i m
          cases e
          obtain ⟨k, rfl⟩ := Int.eq_ofNat_of_zero_le hp.1.1
          exact ldig_walk f k G (by omega) (by omega) hp.2
        · cases e
      have hd : n / 10 < 10 ^ (f + 1) := by rw [Nat.div_lt_iff_lt_mul (by decide)]; exact h
      rw [digitsF, if_neg hn]
      refine VCalls.of (hS) mixed T_ldig ok_ldig fun hG => ?_
      have w1 : IntKind.wrap .i64 ((48 : Int) + ((n % 10 : Nat) : Int)) = ((48 + n % 10 : Nat) : Int) := by rw [w64 (by omega) (by omega)]; omega
      have w2 := wu8 (Nat.mod_lt n (by decide : 0 < 10))
      have hn' : ¬(n : Int) < 10 := by omega
      have w3 : (n : Int).tdiv 10 = ((n / 10 : Nat) : Int) := rfl
      have w5 : IntKind.wrap .i64 ((n / 10 : Nat) : Int) = ((n / 10 : Nat) : Int) := w64 (by omega) (by omega)
      have w4 : (n : Int).tmod 10 = ((n % 10 : Nat) : Int) := rfl
      have hlen := digitsF_len (f + 1) (n / 10)
      simp (maxSteps:=999999) -dsimp -implicitDefEqProofs only [↓eqD,eqU,eqV,eqW,vbuiltinQ,vlen,vslice,vindex,vstore,Array.toList,simprocAttr,fnWp_some Tryz.func17,Tryz.f17,T_ldig_ord,T_ldig_ghost,FB,FC,none_at,add_at,gDig,vreps,vfill,u46d,te46d,z5d,c5d,tb5d,vbytes,w1,w2,w3,w4,w5,Int.toNat_natCast,hn']; (repeat ((with_reducible (refine And.intro ?_ ?_)); (focus (first | omega | exact ⟨by omega, by omega⟩))))
      first | exact VDone.back hG (fun _ _ => rfl) rfl rfl | exact ⟨⟨⟨by omega, by omega⟩, hd⟩, by omega, VDone.back hG (fun _ _ => rfl) rfl rfl⟩
theorem lexL_short {s : List UInt8} (h : s.length ≤ 200) (h0 : runN s [32] = 0) : lexL s = lexGo s (s.length + 1) 0 [] := by
  unfold lexL; rw [if_neg (by omega), h0]
theorem first_no_blank {d : List UInt8} (hd : ∀ b, b ∈ d → digitsL.contains b = true) (hne : d ≠ []) (r : List UInt8) : runN (d ++ r) [32] = 0 := by
  cases d with
  | nil => exact (hne rfl).elim
  | cons c d => exact runN_cons_out ((by decide : ∀ b, b ∈ digitsL → ([32] : List UInt8).contains b = false) c (by simpa using hd c (List.mem_cons_self ..)))
theorem dots_next (r : List UInt8) : nextL (46 :: 46 :: r) = ⟨4, [46, 46], 2, 0⟩ := by
  have h1 : runN (46 :: 46 :: r) lettersL = 0 := runN_cons_out (by decide)
  have h2 : runN (46 :: 46 :: r) digitsL = 0 := runN_cons_out (by decide)
  unfold nextL
  rw [h1, h2]
  rfl
end Go.Vf
