/- A part of the proof: La, Lb. -/
import Derived.Test.YtkcdhmplinjldaaGreatDoorBAVo
import Derived.Laws.RangeAny
import Derived.Test.YtkcdhmplinjldaaGreatDoorChecked
set_option linter.unusedVariables false
namespace Go.Vf
open Go.Proofs
theorem mixed : Tryz.prog.follows .mixedOrders = true := by kernel_rfl
def T0 : Tab := ⟨fun _ => ([], []), fun _ => false⟩
theorem u3 : Tryz.prog.underlying 3 = some (.int .i64) := by kernel_rfl
theorem u4 : Tryz.prog.underlying 4 = some .bool := by kernel_rfl
theorem u5 : Tryz.prog.underlying 5 = some (.int .u8) := by kernel_rfl
theorem u9 : Tryz.prog.underlying 9 = some .string := by kernel_rfl
theorem u21 : Tryz.prog.underlying 21 = some (.int .i32) := by kernel_rfl
theorem u22 : Tryz.prog.underlying 49 = some (.slice 67) := by kernel_rfl
theorem u23 : Tryz.prog.underlying 23 = some (.int .i64) := by kernel_rfl
theorem u35 : Tryz.prog.underlying 97 = some (.slice 9) := by kernel_rfl
theorem te22 : telem Tryz.prog 49 = some 67 := by kernel_rfl
theorem te35 : telem Tryz.prog 97 = some 9 := by kernel_rfl
theorem ag3 : tagg Tryz.prog 3 = some false := by kernel_rfl
theorem ag5 : tagg Tryz.prog 5 = some false := by kernel_rfl
theorem ag9 : tagg Tryz.prog 9 = some false := by kernel_rfl
theorem ag33 : tagg Tryz.prog 67 = some true := by kernel_rfl
theorem z33 : tzero Tryz.prog 67 = some [.int .i64 0, .str [], .int .i64 0] := by kernel_rfl
theorem z9 : tzero Tryz.prog 9 = some [.str []] := by kernel_rfl
theorem st33 : tstruct Tryz.prog 67 = some [.int .i64 0, .str [], .int .i64 0] := by kernel_rfl
theorem c33 : Tryz.prog.cellsOf 67 = 3 := by kernel_rfl
theorem c9 : Tryz.prog.cellsOf 9 = 1 := by kernel_rfl
theorem c3 : Tryz.prog.cellsOf 3 = 1 := by kernel_rfl
theorem i33 : (Tryz.prog.info? 67).isSome = true := by kernel_rfl
theorem i9 : (Tryz.prog.info? 9).isSome = true := by kernel_rfl
theorem i3 : (Tryz.prog.info? 3).isSome = true := by kernel_rfl
theorem b33 : Tryz.prog.bytesOf 67 = 32 := by kernel_rfl
theorem b9 : Tryz.prog.bytesOf 9 = 16 := by kernel_rfl
theorem f33_0 : tfield Tryz.prog 67 0 = some (0, 1, false) := by kernel_rfl
theorem f33_1 : tfield Tryz.prog 67 1 = some (1, 1, false) := by kernel_rfl
theorem f33_2 : tfield Tryz.prog 67 2 = some (2, 1, false) := by kernel_rfl
theorem p33_0 : tplaces Tryz.prog 67 0 = some (0, 1) := by kernel_rfl
theorem p33_1 : tplaces Tryz.prog 67 1 = some (1, 1) := by kernel_rfl
theorem p33_2 : tplaces Tryz.prog 67 2 = some (2, 1) := by kernel_rfl
theorem k33 : tkinds Tryz.prog 8 67 = some [1, 2, 1] := by kernel_rfl
theorem g33 : tgrow Tryz.prog 67 = true := by kernel_rfl
theorem g9 : tgrow Tryz.prog 9 = true := by kernel_rfl
theorem s22 : tsrc Tryz.prog 49 = true := by kernel_rfl
theorem FL : type_of% (And.intro (And.intro (And.intro (And.intro (And.intro (@u3) (@u4)) (And.intro (@u5) (@u9))) (And.intro (And.intro (@u21) (@u22)) (And.intro (@u23) (@u35)))) (And.intro (And.intro (And.intro (@te22) (@te35)) (And.intro (@ag3) (@ag5))) (And.intro (And.intro (@ag9) (@ag33)) (And.intro (@z33) (And.intro (@z9) (@st33)))))) (And.intro (And.intro (And.intro (And.intro (@c33) (@c9)) (And.intro (@c3) (@i33))) (And.intro (And.intro (@i9) (@i3)) (And.intro (@b33) (And.intro (@b9) (@f33_0))))) (And.intro (And.intro (And.intro (@f33_1) (@f33_2)) (And.intro (@p33_0) (@p33_1))) (And.intro (And.intro (@p33_2) (@k33)) (And.intro (@g33) (And.intro (@g9) (@s22))))))) := And.intro (And.intro (And.intro (And.intro (And.intro (@u3) (@u4)) (And.intro (@u5) (@u9))) (And.intro (And.intro (@u21) (@u22)) (And.intro (@u23) (@u35)))) (And.intro (And.intro (And.intro (@te22) (@te35)) (And.intro (@ag3) (@ag5))) (And.intro (And.intro (@ag9) (@ag33)) (And.intro (@z33) (And.intro (@z9) (@st33)))))) (And.intro (And.intro (And.intro (And.intro (@c33) (@c9)) (And.intro (@c3) (@i33))) (And.intro (And.intro (@i9) (@i3)) (And.intro (@b33) (And.intro (@b9) (@f33_0))))) (And.intro (And.intro (And.intro (@f33_1) (@f33_2)) (And.intro (@p33_0) (@p33_1))) (And.intro (And.intro (@p33_2) (@k33)) (And.intro (@g33) (And.intro (@g9) (@s22))))))
end Go.Vf
set_option linter.unusedVariables false
set_option linter.unusedSimpArgs false
namespace Go.Vf
open Go.Proofs
def cutL (s set : List UInt8) : List UInt8 := s.dropWhile fun b => set.contains b
theorem vdecode_ascii {s : List UInt8} {i : Nat} {b : UInt8} (h : s[i]? = some b) (ha : b.toNat < 128) : vdecode s i = (b.toNat, 1) := by
  obtain ⟨hi, e⟩ := List.getElem?_eq_some_iff.1 h
  have := decode_ascii ⟨s.toArray⟩ i (by simpa [ByteArray.size] using hi) (by subst e; simpa [ByteArray.getElem_eq_getElem_data] using ha)
  unfold vdecode
  rw [this]
  subst e
  simp [ByteArray.getElem_eq_getElem_data]
theorem vdecode_high {s : List UInt8} {i : Nat} {b : UInt8} (h : s[i]? = some b) (ha : 128 ≤ b.toNat) : 128 ≤ (vdecode s i).1 := by
  obtain ⟨hi, e⟩ := List.getElem?_eq_some_iff.1 h
  exact (decode_high ⟨s.toArray⟩ i (by simpa [ByteArray.size] using hi) (by subst e; simpa [ByteArray.getElem_eq_getElem_data] using ha)).1
theorem ok20 : fnOk Tryz.prog 64 T0 2 = true := by kernel_rfl
def inSet (set : List UInt8) (c : Nat) : Bool := set.any fun d => c == d.toNat
theorem inSet_succ {set : List UInt8} {k c : Nat} {b : UInt8} (h : set[k]? = some b) : inSet (set.take (k + 1)) c = (inSet (set.take k) c || c == b.toNat) := by
  unfold inSet
  rw [List.take_add_one, h]
  simp
theorem inSet_ascii {set : List UInt8} {b : UInt8} : inSet set b.toNat = set.contains b := by
  unfold inSet
  rw [Bool.eq_iff_iff]
  simp only [List.any_eq_true, beq_iff_eq, List.contains_iff_mem]
  constructor
  · rintro ⟨d, hd, e⟩; rwa [UInt8.toNat_inj.1 e]
  · intro h; exact ⟨b, h, rfl⟩
theorem inSet_high {set : List UInt8} (hset : ∀ b, b ∈ set → b.toNat < 128) {c : Nat} (h : 128 ≤ c) : inSet set c = false := by
  unfold inSet
  rw [List.any_eq_false]
  intro b hb e
  have := hset b hb
  simp at e; omega
theorem dropWhile_at {α : Type} {p : α → Bool} : ∀ {l : List α} {k : Nat}, (∀ b, b ∈ l.take k → p b = true) → (∀ b, l[k]? = some b → p b = false) → l.dropWhile p = l.drop k
  | [], k, _, _ => by simp
  | a :: l, 0, _, h => by simp [List.dropWhile, h a rfl]
  | a :: l, k + 1, h, h' => by
    rw [List.dropWhile_cons, if_pos (h a (by simp)), List.drop_succ_cons]
    exact dropWhile_at (fun b hb => h b (by simp [hb])) fun b hb => h' b (by simpa using hb)
theorem cutLeft_walk {S : Specs} (hS : SOk Tryz.prog S) (s set : List UInt8) (hset : ∀ b, b ∈ set → b.toNat < 128) (G : Heap) : VPure Tryz.prog 64 [.str s, .str set] G (.str (cutL s set)) := by
  refine VCalls.of hS mixed T0 ok20 fun hG => ?_
  simp (maxSteps:=999999) -dsimp -implicitDefEqProofs only [↓eqD,eqU,eqV,eqW,vbuiltinQ,vlen,vslice,vindex,vstore,Array.toList,simprocAttr,fnWp_some Tryz.func64,Tryz.f64,T0,u9]
  refine vloop_by (fun x : Nat × Nat => G.next < x.2 ∧ x.1 ≤ s.length ∧ ∀ b, b ∈ s.take x.1 → b ∈ set) (fun x => Env.of [(0, .str s), (1, .str set), (11, .ptr G.next 0 0)]) (fun x => G.over x.2 [(G.next, .iter s x.1)]) (fun x => s.length - x.1) (0, G.next + 1) ?_ ?_ ?_
  · refine Ghost.of ?_ ?_
    · simp (maxSteps:=999999) -dsimp -implicitDefEqProofs only [↓eqD,eqU,eqV,eqW,vbuiltinQ,vlen,vslice,vindex,vstore,Array.toList,simprocAttr]
      exact ⟨.refl _, .refl _, .refl _⟩
    · refine .over hG ?_ ?_ ?_
      · simp (maxSteps:=999999) -dsimp -implicitDefEqProofs only [↓eqD,eqU,eqV,eqW,vbuiltinQ,vlen,vslice,vindex,vstore,Array.toList,simprocAttr]
      · simp (maxSteps:=999999) -dsimp -implicitDefEqProofs only [↓eqD,eqU,eqV,eqW,vbuiltinQ,vlen,vslice,vindex,vstore,Array.toList,simprocAttr]
      · intro id hid; simp (maxSteps:=999999) -dsimp -implicitDefEqProofs only [↓eqD,eqU,eqV,eqW,vbuiltinQ,vlen,vslice,vindex,vstore,Array.toList,simprocAttr,Nat.ne_of_lt hid]
  · exact ⟨Nat.lt_succ_self _, Nat.zero_le _, by simp⟩
  · rintro ⟨pos, m⟩ ⟨hm, hp, hin⟩
    simp only at hm hp hin
    simp (maxSteps:=999999) -dsimp -implicitDefEqProofs only [↓eqD,eqU,eqV,eqW,vbuiltinQ,vlen,vslice,vindex,vstore,Array.toList,simprocAttr,u9,T0]
    split
    · rename_i hlt
      refine vloop_by (fun k : Nat => k ≤ set.length) (fun k => Env.of [(0, .str s), (1, .str set), (5, .int .i64 pos), (6, .int .i32 (vdecode s pos).1), (7, .bool (inSet (set.take k) (vdecode s pos).1)), (11, .ptr G.next 0 0), (17, .ptr m 0 0)])
        (fun k => G.over (m + 1) [(G.next, .iter s (pos + (vdecode s pos).2)), (m, .iter set k)]) (fun k => set.length - k) 0 ?_ (Nat.zero_le _) ?_
      · refine Ghost.of ?_ ?_
        · simp (maxSteps:=999999) -dsimp -implicitDefEqProofs only [↓eqD,eqU,eqV,eqW,vbuiltinQ,vlen,vslice,vindex,vstore,Array.toList,simprocAttr]
          exact ⟨.refl _, .refl _, .refl _, .refl _, .refl _, .refl _, .refl _⟩
        · refine .over hG ?_ ?_ ?_
          · simp (maxSteps:=999999) -dsimp -implicitDefEqProofs only [↓eqD,eqU,eqV,eqW,vbuiltinQ,vlen,vslice,vindex,vstore,Array.toList,simprocAttr]
          · simp (maxSteps:=999999) -dsimp -implicitDefEqProofs only [↓eqD,eqU,eqV,eqW,vbuiltinQ,vlen,vslice,vindex,vstore,Array.toList,simprocAttr,Nat.ne_of_lt hm,Nat.ne_of_gt hm]
          · intro id hid; simp (maxSteps:=999999) -dsimp -implicitDefEqProofs only [↓eqD,eqU,eqV,eqW,vbuiltinQ,vlen,vslice,vindex,vstore,Array.toList,simprocAttr,Nat.ne_of_lt hid,Nat.ne_of_lt (Nat.lt_trans hid hm)]
      · intro k hk
        have hs' : ∃ b, s[pos]? = some b := ⟨_, List.getElem?_eq_getElem hlt⟩
        obtain ⟨b, hb⟩ := hs'
        simp (maxSteps:=999999) -dsimp -implicitDefEqProofs only [↓eqD,eqU,eqV,eqW,vbuiltinQ,vlen,vslice,vindex,vstore,Array.toList,simprocAttr,u9,T0,Nat.ne_of_lt hm,Nat.ne_of_gt hm]
        split
        · rename_i hk'
          have hd' : ∃ d, set[k]? = some d := ⟨_, List.getElem?_eq_getElem hk'⟩
          obtain ⟨d, hd⟩ := hd'
          have hdec := vdecode_ascii hd (hset d (List.mem_of_getElem? hd))
          have round : ∀ (E : Env) (v : Bool), v = inSet (set.take (k + 1)) (vdecode s pos).1 → E 7 = .bool v → E 0 = .str s → E 1 = .str set → E 5 = .int .i64 pos → E 6 = .int .i32 (vdecode s pos).1 → E 11 = .ptr G.next 0 0 → E 17 = .ptr m 0 0 →
              ∃ y, y ≤ set.length ∧ set.length - y < set.length - k ∧ Ghost E ((G.over (m + 1) [(G.next, .iter s (pos + (vdecode s pos).2)), (m, .iter set k)]).put m (.iter set (k + (vdecode set k).2)))
                (Env.of [(0, .str s), (1, .str set), (5, .int .i64 pos), (6, .int .i32 (vdecode s pos).1), (7, .bool (inSet (set.take y) (vdecode s pos).1)), (11, .ptr G.next 0 0), (17, .ptr m 0 0)]) (G.over (m + 1) [(G.next, .iter s (pos + (vdecode s pos).2)), (m, .iter set y)]) := by
            intro E v hv e7 e0 e1 e5 e6 e11 e17
            refine ⟨k + 1, hk', by omega, .of ?_ (.over hG ?_ ?_ ?_)⟩
            · simp (maxSteps:=999999) -dsimp -implicitDefEqProofs only [↓eqD,eqU,eqV,eqW,vbuiltinQ,vlen,vslice,vindex,vstore,Array.toList,simprocAttr,e0,e1,e5,e6,e7,e11,e17,hv]
              exact ⟨.refl _, .refl _, .refl _, .refl _, .refl _, .refl _, .refl _⟩
            · simp (maxSteps:=999999) -dsimp -implicitDefEqProofs only [↓eqD,eqU,eqV,eqW,vbuiltinQ,vlen,vslice,vindex,vstore,Array.toList,simprocAttr]
            · simp (maxSteps:=999999) -dsimp -implicitDefEqProofs only [↓eqD,eqU,eqV,eqW,vbuiltinQ,vlen,vslice,vindex,vstore,Array.toList,simprocAttr,Nat.ne_of_lt hm,Nat.ne_of_gt hm,hdec]
            · intro id hid; simp (maxSteps:=999999) -dsimp -implicitDefEqProofs only [↓eqD,eqU,eqV,eqW,vbuiltinQ,vlen,vslice,vindex,vstore,Array.toList,simprocAttr,Nat.ne_of_lt hid,Nat.ne_of_lt (Nat.lt_trans hid hm)]
          split
          · rename_i hf
            refine round _ (decide (((vdecode s pos).1 : Int) = ((vdecode set k).1 : Int))) ?_ ?_ ?_ ?_ ?_ ?_ ?_ ?_
            · rw [inSet_succ hd, hf, hdec, Bool.eq_iff_iff]; simp [Int.ofNat_inj]
            all_goals (simp (maxSteps:=999999) -dsimp -implicitDefEqProofs only [↓eqD,eqU,eqV,eqW,vbuiltinQ,vlen,vslice,vindex,vstore,Array.toList,simprocAttr])
          · rename_i hf
            refine round _ true ?_ ?_ ?_ ?_ ?_ ?_ ?_ ?_
            · rw [inSet_succ hd, (by simpa using hf : inSet (set.take k) (vdecode s pos).1 = true)]; rfl
            all_goals (simp (maxSteps:=999999) -dsimp -implicitDefEqProofs only [↓eqD,eqU,eqV,eqW,vbuiltinQ,vlen,vslice,vindex,vstore,Array.toList,simprocAttr])
        · rename_i hk'
          have htake : set.take k = set := List.take_of_length_le (by omega)
          rw [htake]
          split
          · rename_i hf
            have hnot : set.contains b = false := by
              rcases Nat.lt_or_ge b.toNat 128 with ha | ha
              · rw [vdecode_ascii hb ha] at hf
                rw [← inSet_ascii]; simpa using hf
              · cases hc : set.contains b with
                | false => rfl
                | true => have := hset b (by simpa using hc); omega
            have e : cutL s set = s.drop pos := dropWhile_at (fun b hb => by simpa using hin b hb) fun b' hb' => by rw [hb] at hb'; cases hb'; exact hnot
            refine ⟨by omega, ?_⟩
            refine VDone.back hG ?_ rfl (by rw [e])
            intro id hid; simp (maxSteps:=999999) -dsimp -implicitDefEqProofs only [↓eqD,eqU,eqV,eqW,vbuiltinQ,vlen,vslice,vindex,vstore,Array.toList,simprocAttr,Nat.ne_of_lt hid,Nat.ne_of_lt (Nat.lt_trans hid hm)]
          · rename_i hf
            have ha : b.toNat < 128 := by
              rcases Nat.lt_or_ge b.toNat 128 with ha | ha
              · exact ha
              · have := inSet_high hset (vdecode_high hb ha); simp [this] at hf
            have hdec := vdecode_ascii hb ha
            rw [hdec, inSet_ascii] at hf
            refine ⟨(pos + 1, m + 1), ⟨by simp only; omega, hlt, ?_⟩, by simp only; omega, .of ?_ (.over hG ?_ ?_ ?_)⟩
            · intro c hc
              simp only [List.take_add_one, hb, Option.toList_some, List.mem_append, List.mem_singleton] at hc
              rcases hc with hc | rfl
              · exact hin c hc
              · simpa using hf
            · simp (maxSteps:=999999) -dsimp -implicitDefEqProofs only [↓eqD,eqU,eqV,eqW,vbuiltinQ,vlen,vslice,vindex,vstore,Array.toList,simprocAttr]
              exact ⟨.refl _, .refl _, .refl _⟩
            · simp (maxSteps:=999999) -dsimp -implicitDefEqProofs only [↓eqD,eqU,eqV,eqW,vbuiltinQ,vlen,vslice,vindex,vstore,Array.toList,simprocAttr]
            · simp (maxSteps:=999999) -dsimp -implicitDefEqProofs only [↓eqD,eqU,eqV,eqW,vbuiltinQ,vlen,vslice,vindex,vstore,Array.toList,simprocAttr,hdec]
            · intro id hid; simp (maxSteps:=999999) -dsimp -implicitDefEqProofs only [↓eqD,eqU,eqV,eqW,vbuiltinQ,vlen,vslice,vindex,vstore,Array.toList,simprocAttr,Nat.ne_of_lt hid,Nat.ne_of_lt (Nat.lt_trans hid hm)]
    · rename_i hlt
      refine VDone.back hG ?_ rfl ?_
      · intro id hid; simp (maxSteps:=999999) -dsimp -implicitDefEqProofs only [↓eqD,eqU,eqV,eqW,vbuiltinQ,vlen,vslice,vindex,vstore,Array.toList,simprocAttr,Nat.ne_of_lt hid]
      · have : s.take pos = s := List.take_of_length_le (by omega)
        rw [this] at hin
        have e : cutL s set = s.drop s.length := dropWhile_at (fun b hb => by simpa using hin b (List.mem_of_mem_take hb)) fun b hb => by simp at hb
        rw [e]; simp
end Go.Vf
