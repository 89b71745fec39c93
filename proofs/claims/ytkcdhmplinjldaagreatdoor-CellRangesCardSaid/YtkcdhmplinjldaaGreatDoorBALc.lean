/- A part of the proof: Lc, Ld. -/
import Derived.Test.YtkcdhmplinjldaaGreatDoorBALa
import Derived.Test.YtkcdhmplinjldaaGreatDoorBShelf
set_option linter.unusedVariables false
set_option linter.unusedSimpArgs false
namespace Go.Vf
open Go.Proofs Go.RowKit
theorem cell_of_base {ρ : Rho} {G : Heap} {w : World} (hW : WRel ρ G w) {b o : Nat} {x : Value} (h : ρ.base.cell? ⟨b, o, none⟩ = some x) : w.cell? ⟨b, o, none⟩ = some x := by
  rw [hW.below.cell (p := ⟨b, o, none⟩) (cell_block_lt h)]; exact h
theorem tab_of_base {ρ : Rho} {G : Heap} {w : World} (hW : WRel ρ G w) {name : String} {k : IntKind} {zs : List Int} (h : Lib.TabIs Tryz.prog ρ.base name k zs) : Lib.TabIs Tryz.prog w name k zs := by
  unfold Lib.TabIs World.var? at *
  cases hg : Tryz.prog.globalNamed name with
  | none => rw [hg] at h; cases h
  | some g =>
    rw [hg] at h
    simp only [Option.bind_some] at h ⊢
    cases hb : ρ.base.heap[g]? with
    | none => rw [hb] at h; cases h
    | some o =>
      rw [hW.below.block g (Array.getElem?_eq_some_iff.1 hb).1]
      exact h
theorem contains_walk (s sub : List UInt8) (hs : s.length < 4294967281) (G : Heap) : VPure Tryz.prog 94 [.str s, .str sub] G (.bool (Lib.contains s sub)) := by
  refine VPure.lift (by kernel_rfl) fun ρ w xs hW hx => ?_
  obtain ⟨x0, e0, h0⟩ := hx.get (i := 0) rfl
  obtain ⟨x1, e1, h1⟩ := hx.get (i := 1) rfl
  have hl : xs = [x0, x1] := by
    have := hx.1
    match xs, this with
    | [a, b], _ => simp at e0 e1; rw [e0, e1]
  subst hl
  rw [h0.str_inv, h1.str_inv]
  obtain ⟨m, hm⟩ := hW.met.2
  refine (Tryz.strings_Contains ⟨s.toArray⟩ ⟨sub.toArray⟩ m w (by simpa [ByteArray.size] using hs) (cell_of_base hW hm)).mono ?_
  rintro e w' ⟨rfl, rfl⟩
  exact ⟨_, rfl, rfl, .bool _⟩
theorem fields_walk (s : List UInt8) (hs : s.length < 4294967281) (hascii : ∀ b, b ∈ s → b.toNat < 128) (G : Heap) : VPure Tryz.prog 96 [.str s] G (.slc 1 (Lib.fields s).length ((Lib.fields s).map .str)) := by
  refine ⟨by kernel_rfl, fun ρ w xs hW hx => ?_⟩
  obtain ⟨x0, e0, h0⟩ := hx.get (i := 0) rfl
  have hl : xs = [x0] := by
    have := hx.1
    match xs, this with
    | [a], _ => simp at e0; rw [e0]
  subst hl
  rw [h0.str_inv]
  refine (Tryz.strings_Fields ⟨s.toArray⟩ w (by simpa [ByteArray.size] using hs) (fun j b hb => hascii b (by simpa using List.mem_of_getElem? hb)) (tab_of_base hW hW.met.1)).mono ?_
  rintro e w' ⟨rfl, rfl⟩
  have hb := below_alloc w (.cells ((Lib.fields s).map fun l => Value.string ⟨l.toArray⟩).toArray 9)
  have hW' := hW.newImm (w' := w.alloc (.cells ((Lib.fields s).map fun l => Value.string ⟨l.toArray⟩).toArray 9)) hb (b := w.heap.size) (Nat.le_refl _) (xs := (Lib.fields s).map fun l => Value.string ⟨l.toArray⟩) ?_
  · obtain ⟨g1, g2, g3⟩ := hW'
    refine ⟨_, _, _, G, rfl, g1, g2, Nat.le_refl _, ?_, rfl, rfl⟩
    refine .slc _ _ _ _ _ _ ?_ ?_ g3 ?_ ?_
    · exact closedL_of fun v hv => by obtain ⟨l, _, rfl⟩ := List.mem_map.1 hv; exact ⟨rfl, rfl⟩
    · simp
    · simp
    · intro i v x h1 h2
      simp only [List.getElem?_map, Option.map_eq_some_iff] at h1 h2
      obtain ⟨l, hl, rfl⟩ := h1
      obtain ⟨l', hl', rfl⟩ := h2
      rw [hl] at hl'; cases hl'
      exact .str _
  · intro i x hx
    show World.cell? _ _ = _
    have hbk : (w.alloc (.cells ((Lib.fields s).map fun l => Value.string ⟨l.toArray⟩).toArray 9)).heap[w.heap.size]? = some (.cells ((Lib.fields s).map fun l => Value.string ⟨l.toArray⟩).toArray 9) := by
      show (w.heap.push _)[w.heap.size]? = _; simp
    simp only [World.cell?, hbk]
    simpa using hx
end Go.Vf
set_option linter.unusedVariables false
set_option linter.unusedSimpArgs false
namespace Go.Vf
open Go.Proofs Go.RowKit
theorem w64 {x : Int} (h0 : -9223372036854775808 ≤ x) (h1 : x ≤ 9223372036854775807) : IntKind.wrap .i64 x = x := by rw [IntKind.wrap_i64]; omega
def ascii (l : List UInt8) : Bool := l.all fun b => decide (b.toNat < 128)
theorem ascii_mem {l : List UInt8} (h : ascii l = true) : ∀ b, b ∈ l → b.toNat < 128 := fun b hb => by simpa using List.all_eq_true.1 h b hb
def g20 : List V → Option (Prop × V)
  | [.str s, .str set] => some (ascii set = true, .str (cutL s set))
  | _ => none
def runN (s set : List UInt8) : Nat := s.length - (cutL s set).length
def g16 : List V → Option (Prop × V)
  | [.str s, .str set] => some (ascii set = true ∧ s.length ≤ 4611686018427387904, .int .i64 (runN s set : Nat))
  | _ => none
def g21 : List V → Option (Prop × V)
  | [.str s, .str set] => some (ascii set = true ∧ s.length ≤ 4611686018427387904, .bool (decide (0 < runN s set)))
  | _ => none
def gPre : List V → Option (Prop × V)
  | [.str s, .str t] => some (True, .bool (t.isPrefixOf s))
  | _ => none
def g19 : List V → Option (Prop × V)
  | [.str s, .str t] => some (s.length < 4294967281, .bool (Lib.contains s t))
  | _ => none
def g29 : List V → Option (Prop × V)
  | [.str s] => some (s.length < 4294967281 ∧ ascii s = true, .slc 1 (Lib.fields s).length ((Lib.fields s).map .str))
  | _ => none
theorem cutL_le (s set : List UInt8) : (cutL s set).length ≤ s.length := by
  unfold cutL
  exact (List.dropWhile_sublist _).length_le
theorem runN_le (s set : List UInt8) : runN s set ≤ s.length := Nat.sub_le _ _
theorem ok16 : fnOk Tryz.prog 39 T0 2 = true := by kernel_rfl
theorem ok21 : fnOk Tryz.prog 65 T0 2 = true := by kernel_rfl
theorem ok31 : fnOk Tryz.prog 128 T0 2 = true := by kernel_rfl
theorem ok28 : fnOk Tryz.prog 95 T0 2 = true := by kernel_rfl
def SA : Specs := ((Specs.none.add 64 g20).add 94 g19).add 96 g29
theorem okA : SOk Tryz.prog SA := by
  refine ((SOk.add (SOk.none _) ?_).add ?_).add ?_
  · intro xs G p v e hp
    unfold g20 at e
    split at e
    · cases e; exact cutLeft_walk (SOk.none _) _ _ (ascii_mem hp) G
    · cases e
  · intro xs G p v e hp
    unfold g19 at e
    split at e
    · cases e; exact contains_walk _ _ hp G
    · cases e
  · intro xs G p v e hp
    unfold g29 at e
    split at e
    · cases e; exact fields_walk _ hp.1 (ascii_mem hp.2) G
    · cases e
theorem run_walk (s set : List UInt8) (h1 : ascii set = true) (h2 : s.length ≤ 4611686018427387904) (G : Heap) : VPure Tryz.prog 39 [.str s, .str set] G (.int .i64 (runN s set : Nat)) := by
  refine VCalls.of okA mixed T0 ok16 fun hG => ?_
  have hw : IntKind.wrap .i64 ((s.length : Int) - ((cutL s set).length : Int)) = (runN s set : Nat) := by
    have := cutL_le s set
    unfold runN
    rw [w64 (by omega) (by omega)]; omega
  simp (maxSteps:=999999) -dsimp -implicitDefEqProofs only [↓eqD,eqU,eqV,eqW,vbuiltinQ,vlen,vslice,vindex,vstore,Array.toList,simprocAttr,fnWp_some Tryz.func39,Tryz.f39,T0,u9,SA,add_at,none_at,g20,g19,g29,hw,h1]
  exact VDone.back hG (fun _ _ => rfl) rfl rfl
def SB : Specs := SA.add 39 g16
theorem okB : SOk Tryz.prog SB := by
  refine okA.add ?_
  intro xs G p v e hp
  unfold g16 at e
  split at e
  · cases e; exact run_walk _ _ hp.1 hp.2 G
  · cases e
theorem isOf_walk (s set : List UInt8) (h1 : ascii set = true) (h2 : s.length ≤ 4611686018427387904) (G : Heap) : VPure Tryz.prog 65 [.str s, .str set] G (.bool (decide (0 < runN s set))) := by
  refine VCalls.of okB mixed T0 ok21 fun hG => ?_
  simp (maxSteps:=999999) -dsimp -implicitDefEqProofs only [↓eqD,eqU,eqV,eqW,vbuiltinQ,vlen,vslice,vindex,vstore,Array.toList,simprocAttr,fnWp_some Tryz.func65,Tryz.f65,T0,u9,SB,add_at,g16,h1,h2]
  refine VDone.back hG (fun _ _ => rfl) rfl ?_
  congr 1
  rw [Bool.eq_iff_iff]; simp
theorem hasPre_walk (s t : List UInt8) (G : Heap) : VPure Tryz.prog 128 [.str s, .str t] G (.bool (t.isPrefixOf s)) := by
  refine VCalls.of okB mixed T0 ok31 fun hG => ?_
  simp (maxSteps:=999999) -dsimp -implicitDefEqProofs only [↓eqD,eqU,eqV,eqW,vbuiltinQ,vlen,vslice,vindex,vstore,Array.toList,simprocAttr,fnWp_some Tryz.func128,Tryz.f128,T0,u9]
  have hpre : t.isPrefixOf s = decide (s.take t.length = t) := by
    rw [Bool.eq_iff_iff, decide_eq_true_eq, List.isPrefixOf_iff_prefix, List.prefix_iff_eq_take]
    exact eq_comm
  split
  · rename_i h
    refine ⟨by omega, ?_⟩
    refine VDone.back hG (fun _ _ => rfl) rfl ?_
    rw [hpre]
  · rename_i h
    refine VDone.back hG (fun _ _ => rfl) rfl ?_
    rw [hpre]
    congr 1
    symm
    rw [decide_eq_false_iff_not]
    intro e
    have := congrArg List.length e
    simp only [List.length_take] at this
    omega
def SC : Specs := (SB.add 65 g21).add 128 gPre
theorem okC : SOk Tryz.prog SC := by
  refine (okB.add ?_).add ?_
  · intro xs G p v e hp
    unfold g21 at e
    split at e
    · cases e; exact isOf_walk _ _ hp.1 hp.2 G
    · cases e
  · intro xs G p v e hp
    unfold gPre at e
    split at e
    · cases e; exact hasPre_walk _ _ G
    · cases e
theorem hasPrefix_walk (s t : List UInt8) (G : Heap) : VPure Tryz.prog 95 [.str s, .str t] G (.bool (t.isPrefixOf s)) := by
  refine VCalls.of okC mixed T0 ok28 fun hG => ?_
  simp (maxSteps:=999999) -dsimp -implicitDefEqProofs only [↓eqD,eqU,eqV,eqW,vbuiltinQ,vlen,vslice,vindex,vstore,Array.toList,simprocAttr,fnWp_some Tryz.func95,Tryz.f95,T0,u9,SC,add_at,gPre]
  exact VDone.back hG (fun _ _ => rfl) rfl rfl
def wordsL : List UInt8 := [32, 116, 114, 117, 101, 32, 102, 97, 108, 115, 101, 32, 110, 117, 108, 108, 32, 105, 102, 32, 116, 104, 101, 110, 32, 101, 108, 115, 101, 32, 97, 110, 100, 32, 111, 114, 32, 105, 110, 32]
def wordB (s : List UInt8) : Bool := decide (s ≠ []) && (!Lib.contains s [32] && Lib.contains wordsL ([32] ++ s ++ [32]))
def g12 : List V → Option (Prop × V)
  | [.str s] => some (s.length < 4294967281, .bool (wordB s))
  | _ => none
theorem ok12 : fnOk Tryz.prog 66 T0 1 = true := by kernel_rfl
theorem word_walk (s : List UInt8) (hs : s.length < 4294967281) (G : Heap) : VPure Tryz.prog 66 [.str s] G (.bool (wordB s)) := by
  refine VCalls.of okC mixed T0 ok12 fun hG => ?_
  simp (maxSteps:=999999) -dsimp -implicitDefEqProofs only [↓eqD,eqU,eqV,eqW,vbuiltinQ,vlen,vslice,vindex,vstore,Array.toList,simprocAttr,fnWp_some Tryz.func66,Tryz.f66,T0,u9,SC,SB,SA,add_at,g19,hs]
  have e : ∀ b, wordB s = b → ∀ v, v = b → VDone G.next (.bool v) G fun u G' => u = .bool (wordB s) ∧ G' = G := fun b hb v hv => VDone.back hG (fun _ _ => rfl) rfl (by rw [hv, hb])
  split
  · rename_i h1
    split
    · rename_i h2
      refine ⟨by omega, by omega, e _ rfl _ ?_⟩
      simp only [wordB, decide_eq_true h1, h2, Bool.true_and]
      rfl
    · rename_i h2
      exact e _ (by simp only [wordB, decide_eq_true h1, Bool.true_and]; simp only [Bool.not_eq_true] at h2; rw [h2]; rfl) _ rfl
  · rename_i h1
    exact e _ (by simp only [wordB, decide_eq_false h1, Bool.false_and]) _ rfl
def digitsL : List UInt8 := [48, 49, 50, 51, 52, 53, 54, 55, 56, 57]
def numN (s : List UInt8) : Nat :=
  if List.isPrefixOf [46] (s.drop (runN s digitsL)) = true ∧ 0 < runN (s.drop (runN s digitsL + 1)) digitsL then runN s digitsL + (1 + runN (s.drop (runN s digitsL + 1)) digitsL) else runN s digitsL
theorem digits_fold : ([48, 49, 50, 51, 52, 53, 54, 55, 56, 57] : List UInt8) = digitsL := rfl
def g22 : List V → Option (Prop × V)
  | [.str s] => some (s.length < 4294967281, .int .i64 (numN s : Nat))
  | _ => none
theorem ok22 : fnOk Tryz.prog 67 T0 1 = true := by kernel_rfl
def SD : Specs := (SC.add 95 gPre).add 66 g12
theorem okD : SOk Tryz.prog SD := by
  refine (okC.add ?_).add ?_
  · intro xs G p v e hp
    unfold gPre at e
    split at e
    · cases e; exact hasPrefix_walk _ _ G
    · cases e
  · intro xs G p v e hp
    unfold g12 at e
    split at e
    · cases e; exact word_walk _ hp G
    · cases e
theorem num_walk (s : List UInt8) (hs : s.length < 4294967281) (G : Heap) : VPure Tryz.prog 67 [.str s] G (.int .i64 (numN s : Nat)) := by
  refine VCalls.of okD mixed T0 ok22 fun hG => ?_
  have hn := runN_le s digitsL
  have hm := runN_le (s.drop (runN s digitsL + 1)) digitsL
  have hl : (s.drop (runN s digitsL + 1)).length ≤ s.length := by simp
  have w1 : IntKind.wrap .i64 ((runN s digitsL : Int) + 1) = ((runN s digitsL + 1 : Nat) : Int) := by rw [w64 (by omega) (by omega)]; rfl
  have w2 : IntKind.wrap .i64 (1 + ((runN (s.drop (runN s digitsL + 1)) digitsL : Nat) : Int)) = ((1 + runN (s.drop (runN s digitsL + 1)) digitsL : Nat) : Int) := by rw [w64 (by omega) (by omega)]; omega
  have w3 : IntKind.wrap .i64 ((runN s digitsL : Int) + ((1 + runN (s.drop (runN s digitsL + 1)) digitsL : Nat) : Int)) = ((runN s digitsL + (1 + runN (s.drop (runN s digitsL + 1)) digitsL) : Nat) : Int) := by rw [w64 (by omega) (by omega)]; omega
  have hd : ascii digitsL = true := by decide
  simp (maxSteps:=999999) -dsimp -implicitDefEqProofs only [↓eqD,eqU,eqV,eqW,vbuiltinQ,vlen,vslice,vindex,vstore,Array.toList,simprocAttr,fnWp_some Tryz.func67,Tryz.f67,T0,u9,SD,SC,SB,SA,add_at,g16,g21,gPre,hs,digits_fold,w1,w2,w3,hd,Nat.mul_one]
  have e : ∀ n, numN s = n → VDone G.next (.int .i64 (n : Nat)) G fun u G' => u = .int .i64 (numN s : Nat) ∧ G' = G := fun n hn => VDone.back hG (fun _ _ => rfl) rfl (by rw [hn])
  have hlt : [46].isPrefixOf (s.drop (runN s digitsL)) = true → runN s digitsL + 1 ≤ s.length := fun h => by
    obtain ⟨t, ht⟩ := List.isPrefixOf_iff_prefix.1 h
    have := congrArg List.length ht
    simp at this; omega
  refine ⟨by omega, by omega, ?_⟩
  split
  · rename_i h1
    have := hlt h1
    refine ⟨by omega, by omega, ?_⟩
    split
    · rename_i h2
      refine ⟨by omega, by omega, e _ ?_⟩
      unfold numN; rw [if_pos ⟨h1, by simpa using h2⟩]
    · rename_i h2
      exact e _ (by unfold numN; rw [if_neg (fun h => h2 (by simpa using h.2))])
  · rename_i h1
    exact e _ (by unfold numN; rw [if_neg (fun h => h1 h.1)])
theorem drop_at {s : List UInt8} {i : Nat} (h : i < s.length) : s.drop i = s.getD i 0 :: s.drop (i + 1) := by
  rw [List.drop_eq_getElem_cons h]
  simp [List.getD, h]
def textGo : List UInt8 → Nat → Nat
  | [], _ => 0
  | b :: r, i => if 32 ≤ b.toNat ∧ b.toNat ≤ 126 then (if b.toNat = 34 then i + 1 else textGo r (i + 1)) else 0
def textN (s : List UInt8) : Nat := textGo (s.drop 1) 1
def g23 : List V → Option (Prop × V)
  | [.str s] => some (s.length < 4294967281, .int .i64 (textN s : Nat))
  | _ => none
theorem ok23 : fnOk Tryz.prog 68 T0 1 = true := by kernel_rfl
theorem text_walk (s : List UInt8) (hs : s.length < 4294967281) (G : Heap) : VPure Tryz.prog 68 [.str s] G (.int .i64 (textN s : Nat)) := by
  refine VCalls.of (SOk.none _) mixed T0 ok23 fun hG => ?_
  simp (maxSteps:=999999) -dsimp -implicitDefEqProofs only [↓eqD,eqU,eqV,eqW,vbuiltinQ,vlen,vslice,vindex,vstore,Array.toList,simprocAttr,fnWp_some Tryz.func68,Tryz.f68,T0,u9]
  refine vloop_by (fun i : Nat => 1 ≤ i ∧ textGo (s.drop i) i = textN s) (fun i => Env.of [(0, .str s), (3, .int .i64 (i : Nat))]) (fun i => G.over G.next []) (fun i => s.length - i) 1 ?_ ?_ ?_
  · refine .of ?_ (.over hG rfl trivial (fun _ _ => rfl))
    simp (maxSteps:=999999) -dsimp -implicitDefEqProofs only [↓eqD,eqU,eqV,eqW,vbuiltinQ,vlen,vslice,vindex,vstore,Array.toList,simprocAttr]
    exact ⟨.refl _, .refl _⟩
  · exact ⟨Nat.le_refl _, rfl⟩
  · rintro i ⟨h1, hi⟩
    have w1 : i < s.length → IntKind.wrap .i64 ((i : Int) + 1) = ((i + 1 : Nat) : Int) := fun h => by rw [w64 (by omega) (by omega)]; rfl
    have dn : ∀ n, textN s = n → ∀ (G1 : Heap), (∀ id, id < G.next → G1.get id = G.get id) → VDone G.next (.int .i64 (n : Nat)) G1 fun u G' => u = .int .i64 (textN s : Nat) ∧ G' = G := fun n hn G1 hg => VDone.back hG hg rfl (by rw [hn])
    simp (maxSteps:=999999) -dsimp -implicitDefEqProofs only [↓eqD,eqU,eqV,eqW,vbuiltinQ,vlen,vslice,vindex,vstore,Array.toList,simprocAttr,u9,T0]
    split
    · rename_i hlt
      have hlt : i < s.length := by omega
      rw [drop_at hlt] at hi
      simp only [textGo] at hi
      rw [w1 hlt]
      refine ⟨by omega, ?_⟩
      split
      · rename_i ha
        refine ⟨by omega, ?_⟩
        split
        · rename_i hb
          rw [if_pos ⟨by omega, by omega⟩] at hi
          refine ⟨by omega, ?_⟩
          split
          · rename_i hc
            rw [if_pos (by omega)] at hi
            exact dn _ hi.symm _ fun _ _ => rfl
          · rename_i hc
            rw [if_neg (by omega)] at hi
            refine ⟨i + 1, ⟨by omega, hi⟩, by omega, .of ?_ (.over hG rfl trivial (fun _ _ => rfl))⟩
            simp (maxSteps:=999999) -dsimp -implicitDefEqProofs only [↓eqD,eqU,eqV,eqW,vbuiltinQ,vlen,vslice,vindex,vstore,Array.toList,simprocAttr]
            exact ⟨.refl _, .refl _⟩
        · rename_i hb
          rw [if_neg (fun h => hb (by omega))] at hi
          exact dn 0 hi.symm _ fun _ _ => rfl
      · rename_i ha
        rw [if_neg (fun h => ha (by omega))] at hi
        exact dn 0 hi.symm _ fun _ _ => rfl
    · rename_i hlt
      have : s.drop i = [] := List.drop_eq_nil_of_le (by omega)
      rw [this] at hi
      exact dn 0 hi.symm _ fun _ _ => rfl
theorem velem_map {α : Type} {f : α → V} {l : List α} {i : Nat} (h : i < l.length) : velem 1 (l.map f) i = [f l[i]] := by
  unfold velem
  rw [Nat.mul_one, ← List.map_drop, List.drop_eq_getElem_cons h]
  rfl
def signsL : List UInt8 := [60, 61, 32, 62, 61, 32, 33, 61, 32, 46, 46, 32, 60, 32, 62, 32, 61, 32, 43, 32, 45, 32, 42, 32, 47, 32, 40, 32, 41, 32, 91, 32, 93, 32, 44]
def signsF : List (List UInt8) := [[60, 61], [62, 61], [33, 61], [46, 46], [60], [62], [61], [43], [45], [42], [47], [40], [41], [91], [93], [44]]
theorem signsF_eq : Lib.fields signsL = signsF := by decide +kernel
def signGo (s : List UInt8) : List (List UInt8) → List UInt8
  | [] => []
  | x :: r => if x.isPrefixOf s then x else signGo s r
def signL (s : List UInt8) : List UInt8 := signGo s signsF
def g24 : List V → Option (Prop × V)
  | [.str s] => some (True, .str (signL s))
  | _ => none
theorem signs_fold : ([60, 61, 32, 62, 61, 32, 33, 61, 32, 46, 46, 32, 60, 32, 62, 32, 61, 32, 43, 32, 45, 32, 42, 32, 47, 32, 40, 32, 41, 32, 91, 32, 93, 32, 44] : List UInt8) = signsL := rfl
theorem ok24 : fnOk Tryz.prog 69 T0 1 = true := by kernel_rfl
theorem sign_walk (s : List UInt8) (G : Heap) : VPure Tryz.prog 69 [.str s] G (.str (signL s)) := by
  refine VCalls.of okD mixed T0 ok24 fun hG => ?_
  have h1 : signsL.length < 4294967281 := by decide
  have h2 : ascii signsL = true := by decide
  simp (maxSteps:=999999) -dsimp -implicitDefEqProofs only [↓eqD,eqU,eqV,eqW,vbuiltinQ,vlen,vslice,vindex,vstore,Array.toList,simprocAttr,fnWp_some Tryz.func69,Tryz.f69,T0,u35,SD,SC,SB,SA,add_at,g29,signs_fold,h1,h2,signsF_eq]
  refine vloop_by (fun i : Nat => i ≤ 16 ∧ signGo s (signsF.drop i) = signL s) (fun i => Env.of [(0, .str s), (5, .slc 1 signsF.length (signsF.map .str)), (6, .int .i64 16), (7, .int .i64 (i : Nat))]) (fun i => G.over G.next []) (fun i => 16 - i) 0 ?_ ?_ ?_
  · refine .of ?_ (.over hG rfl trivial (fun _ _ => rfl))
    simp (maxSteps:=999999) -dsimp -implicitDefEqProofs only [↓eqD,eqU,eqV,eqW,vbuiltinQ,vlen,vslice,vindex,vstore,Array.toList,simprocAttr]
    exact ⟨.refl _, .refl _, .refl _, .refl _⟩
  · exact ⟨by omega, rfl⟩
  · rintro i ⟨h1, hi⟩
    have dn : ∀ x, signL s = x → VDone G.next (.str x) (G.over G.next []) fun u G' => u = .str (signL s) ∧ G' = G := fun x hx => VDone.back hG (fun _ _ => rfl) rfl (by rw [hx])
    by_cases hlt : i < 16
    · have hlt' : i < signsF.length := hlt
      have hx := velem_map (f := V.str) hlt'
      rw [List.drop_eq_getElem_cons hlt'] at hi
      have w1 : IntKind.wrap .i64 ((i : Int) + 1) = ((i + 1 : Nat) : Int) := by rw [w64 (by omega) (by omega)]; rfl
      generalize signsF[i] = x at hx hi
      simp (maxSteps:=999999) -dsimp -implicitDefEqProofs only [↓eqD,eqU,eqV,eqW,vbuiltinQ,vlen,vslice,vindex,vstore,Array.toList,simprocAttr,u9,u35,T0,te35,c9,i9,ag9,SD,SC,SB,SA,add_at,gPre,hx,w1]
      try rw [if_pos (by omega)]
      refine ⟨by simp [signsF]; omega, ?_⟩
      simp only [signGo] at hi
      split
      · rename_i hp
        rw [if_pos hp] at hi
        exact dn _ hi.symm
      · rename_i hp
        rw [if_neg hp] at hi
        refine ⟨i + 1, ⟨by omega, hi⟩, by omega, .of ?_ (.over hG rfl trivial (fun _ _ => rfl))⟩
        simp (maxSteps:=999999) -dsimp -implicitDefEqProofs only [↓eqD,eqU,eqV,eqW,vbuiltinQ,vlen,vslice,vindex,vstore,Array.toList,simprocAttr]
        exact ⟨.refl _, .refl _, .refl _, .refl _⟩
    · have : i = 16 := by omega
      subst this
      simp (maxSteps:=999999) -dsimp -implicitDefEqProofs only [↓eqD,eqU,eqV,eqW,vbuiltinQ,vlen,vslice,vindex,vstore,Array.toList,simprocAttr,u9,u35,T0,te35,c9,i9,ag9,SD,SC,SB,SA,add_at,gPre]
      try rw [if_neg (by omega)]
      exact dn _ hi.symm
end Go.Vf
