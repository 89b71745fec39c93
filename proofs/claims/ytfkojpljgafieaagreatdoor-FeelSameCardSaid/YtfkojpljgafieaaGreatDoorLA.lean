/- Facts of the program's tables that the Lex walks look up. -/
import Derived.Test.YtfkojpljgafieaaGreatDoorVO
import Derived.Laws.RangeAny
import Derived.Test.YtfkojpljgafieaaGreatDoorChecked
import Derived.Test.YtfkojpljgafieaaGreatDoorShelf
set_option linter.unusedVariables false
namespace Go.Vf
open Go.Proofs

theorem mixed : Tryz.prog.follows .mixedOrders = true := by kernel_rfl
def T0 : Tab := ⟨fun _ => ([], []), fun _ => false⟩
theorem u3 : Tryz.prog.underlying 3 = some (.int .i64) := by kernel_rfl
theorem u4 : Tryz.prog.underlying 4 = some .bool := by kernel_rfl
theorem u5 : Tryz.prog.underlying 5 = some (.int .u8) := by kernel_rfl
theorem u9 : Tryz.prog.underlying 9 = some .string := by kernel_rfl
theorem u21 : Tryz.prog.underlying 21 = some (.int .i32) := by kernel_rfl
theorem u22 : Tryz.prog.underlying 40 = some (.slice 59) := by kernel_rfl
theorem u23 : Tryz.prog.underlying 27 = some (.int .i64) := by kernel_rfl
theorem u35 : Tryz.prog.underlying 35 = some (.slice 9) := by kernel_rfl
theorem te22 : telem Tryz.prog 40 = some 59 := by kernel_rfl
theorem te35 : telem Tryz.prog 35 = some 9 := by kernel_rfl
theorem ag3 : tagg Tryz.prog 3 = some false := by kernel_rfl
theorem ag5 : tagg Tryz.prog 5 = some false := by kernel_rfl
theorem ag9 : tagg Tryz.prog 9 = some false := by kernel_rfl
theorem ag33 : tagg Tryz.prog 59 = some true := by kernel_rfl
theorem z33 : tzero Tryz.prog 59 = some [.int .i64 0, .str [], .int .i64 0] := by kernel_rfl
theorem z9 : tzero Tryz.prog 9 = some [.str []] := by kernel_rfl
theorem st33 : tstruct Tryz.prog 59 = some [.int .i64 0, .str [], .int .i64 0] := by kernel_rfl
theorem c33 : Tryz.prog.cellsOf 59 = 3 := by kernel_rfl
theorem c9 : Tryz.prog.cellsOf 9 = 1 := by kernel_rfl
theorem c3 : Tryz.prog.cellsOf 3 = 1 := by kernel_rfl
theorem i33 : (Tryz.prog.info? 59).isSome = true := by kernel_rfl
theorem i9 : (Tryz.prog.info? 9).isSome = true := by kernel_rfl
theorem i3 : (Tryz.prog.info? 3).isSome = true := by kernel_rfl
theorem b33 : Tryz.prog.bytesOf 59 = 32 := by kernel_rfl
theorem b9 : Tryz.prog.bytesOf 9 = 16 := by kernel_rfl
theorem f33_0 : tfield Tryz.prog 59 0 = some (0, 1, false) := by kernel_rfl
theorem f33_1 : tfield Tryz.prog 59 1 = some (1, 1, false) := by kernel_rfl
theorem f33_2 : tfield Tryz.prog 59 2 = some (2, 1, false) := by kernel_rfl
theorem p33_0 : tplaces Tryz.prog 59 0 = some (0, 1) := by kernel_rfl
theorem p33_1 : tplaces Tryz.prog 59 1 = some (1, 1) := by kernel_rfl
theorem p33_2 : tplaces Tryz.prog 59 2 = some (2, 1) := by kernel_rfl
theorem k33 : tkinds Tryz.prog 8 59 = some [1, 2, 1] := by kernel_rfl
theorem g33 : tgrow Tryz.prog 59 = true := by kernel_rfl
theorem g9 : tgrow Tryz.prog 9 = true := by kernel_rfl
theorem s22 : tsrc Tryz.prog 40 = true := by kernel_rfl
theorem FL : type_of% (And.intro (And.intro (And.intro (And.intro (And.intro (@u3) (@u4)) (And.intro (@u5) (@u9))) (And.intro (And.intro (@u21) (@u22)) (And.intro (@u23) (@u35)))) (And.intro (And.intro (And.intro (@te22) (@te35)) (And.intro (@ag3) (@ag5))) (And.intro (And.intro (@ag9) (@ag33)) (And.intro (@z33) (And.intro (@z9) (@st33)))))) (And.intro (And.intro (And.intro (And.intro (@c33) (@c9)) (And.intro (@c3) (@i33))) (And.intro (And.intro (@i9) (@i3)) (And.intro (@b33) (And.intro (@b9) (@f33_0))))) (And.intro (And.intro (And.intro (@f33_1) (@f33_2)) (And.intro (@p33_0) (@p33_1))) (And.intro (And.intro (@p33_2) (@k33)) (And.intro (@g33) (And.intro (@g9) (@s22))))))) := And.intro (And.intro (And.intro (And.intro (And.intro (@u3) (@u4)) (And.intro (@u5) (@u9))) (And.intro (And.intro (@u21) (@u22)) (And.intro (@u23) (@u35)))) (And.intro (And.intro (And.intro (@te22) (@te35)) (And.intro (@ag3) (@ag5))) (And.intro (And.intro (@ag9) (@ag33)) (And.intro (@z33) (And.intro (@z9) (@st33)))))) (And.intro (And.intro (And.intro (And.intro (@c33) (@c9)) (And.intro (@c3) (@i33))) (And.intro (And.intro (@i9) (@i3)) (And.intro (@b33) (And.intro (@b9) (@f33_0))))) (And.intro (And.intro (And.intro (@f33_1) (@f33_2)) (And.intro (@p33_0) (@p33_1))) (And.intro (And.intro (@p33_2) (@k33)) (And.intro (@g33) (And.intro (@g9) (@s22))))))
end Go.Vf
/- lex.cutLeft: what a text is without the bytes of a set at its begin. -/
set_option linter.unusedVariables false
set_option linter.unusedSimpArgs false
namespace Go.Vf
open Go.Proofs

def cutL (s set : List UInt8) : List UInt8 := s.dropWhile fun b => set.contains b

theorem vdecode_ascii {s : List UInt8} {i : Nat} {b : UInt8} (h : s[i]? = some b) (ha : b.toNat < 128) : vdecode s i = (b.toNat, 1) := by
  obtain ⟨hi, e⟩ := List.getElem?_eq_some_iff.1 h
  have := decode_ascii ⟨s.toArray⟩ i (by simpa [ByteArray.size] using hi) (by subst e; simpa [ByteArray.getElem_eq_getElem_data] using ha)
  unfold vdecode
  rw [this]
  subst e
  simp [ByteArray.getElem_eq_getElem_data]
theorem vdecode_high {s : List UInt8} {i : Nat} {b : UInt8} (h : s[i]? = some b) (ha : 128 ≤ b.toNat) : 128 ≤ (vdecode s i).1 := by
  obtain ⟨hi, e⟩ := List.getElem?_eq_some_iff.1 h
  exact (decode_high ⟨s.toArray⟩ i (by simpa [ByteArray.size] using hi) (by subst e; simpa [ByteArray.getElem_eq_getElem_data] using ha)).1

theorem ok20 : fnOk Tryz.prog 41 T0 2 = true := by kernel_rfl

/-- Is a rune one of a set's bytes? -/
def inSet (set : List UInt8) (c : Nat) : Bool := set.any fun d => c == d.toNat

theorem inSet_succ {set : List UInt8} {k c : Nat} {b : UInt8} (h : set[k]? = some b) : inSet (set.take (k + 1)) c = (inSet (set.take k) c || c == b.toNat) := by
  unfold inSet
  rw [List.take_add_one, h]
  simp
theorem inSet_ascii {set : List UInt8} {b : UInt8} : inSet set b.toNat = set.contains b := by
  unfold inSet
  rw [Bool.eq_iff_iff]
  simp only [List.any_eq_true, beq_iff_eq, List.contains_iff_mem]
  constructor
  · rintro ⟨d, hd, e⟩; rwa [UInt8.toNat_inj.1 e]
  · intro h; exact ⟨b, h, rfl⟩
theorem inSet_high {set : List UInt8} (hset : ∀ b, b ∈ set → b.toNat < 128) {c : Nat} (h : 128 ≤ c) : inSet set c = false := by
  unfold inSet
  rw [List.any_eq_false]
  intro b hb e
  have := hset b hb
  simp at e; omega
theorem dropWhile_at {α : Type} {p : α → Bool} : ∀ {l : List α} {k : Nat}, (∀ b, b ∈ l.take k → p b = true) → (∀ b, l[k]? = some b → p b = false) → l.dropWhile p = l.drop k
  | [], k, _, _ => by simp
  | a :: l, 0, _, h => by simp [List.dropWhile, h a rfl]
  | a :: l, k + 1, h, h' => by
    rw [List.dropWhile_cons, if_pos (h a (by simp)), List.drop_succ_cons]
    exact dropWhile_at (fun b hb => h b (by simp [hb])) fun b hb => h' b (by simpa using hb)

theorem VLe.of_eq {v u : V} (h : v = u) : VLe v u := h ▸ .refl v
theorem cutLeft_walk {S : Specs} (hS : SOk Tryz.prog S) (s set : List UInt8) (hset : ∀ b, b ∈ set → b.toNat < 128) (G : Heap) : VPure Tryz.prog 41 [.str s, .str set] G (.str (cutL s set)) := by
  refine VCalls.of hS mixed T0 ok20 fun hG => ?_
  simp (maxSteps := 1000000) -dsimp -implicitDefEqProofs only [↓eqD, eqU, eqV, eqW, vbuiltinQ, vlen, vslice, vindex, vstore, Int.reduceLE, Int.reduceLT, Nat.reduceBEq, ↓reduceIte, reduceCtorEq, Nat.reduceEqDiff, Nat.reduceAdd, Nat.reduceMul, Nat.reduceLT, Nat.reduceLeDiff, Nat.reduceAnd, Nat.reduceSub, Int.reduceToNat, Array.toList, fnWp_some Tryz.func41, Tryz.f41, T0, u9]
  refine vloop_by (fun x : Nat × Nat => G.next < x.2 ∧ x.1 ≤ s.length ∧ ∀ b, b ∈ s.take x.1 → b ∈ set) (fun x => Env.of [(0, .str s), (1, .str set), (11, .ptr G.next 0 0)]) (fun x => G.over x.2 [(G.next, .iter s x.1)]) (fun x => s.length - x.1) (0, G.next + 1) ?_ ?_ ?_
  · refine Ghost.of ?_ ?_
    · simp (maxSteps := 1000000) -dsimp -implicitDefEqProofs only [↓eqD, eqU, eqV, eqW, vbuiltinQ, vlen, vslice, vindex, vstore, Int.reduceLE, Int.reduceLT, Nat.reduceBEq, ↓reduceIte, reduceCtorEq, Nat.reduceEqDiff, Nat.reduceAdd, Nat.reduceMul, Nat.reduceLT, Nat.reduceLeDiff, Nat.reduceAnd, Nat.reduceSub, Int.reduceToNat, Array.toList]
      exact ⟨.refl _, .refl _, .refl _⟩
    · refine .over hG ?_ ?_ ?_
      · simp (maxSteps := 1000000) -dsimp -implicitDefEqProofs only [↓eqD, eqU, eqV, eqW, vbuiltinQ, vlen, vslice, vindex, vstore, Int.reduceLE, Int.reduceLT, Nat.reduceBEq, ↓reduceIte, reduceCtorEq, Nat.reduceEqDiff, Nat.reduceAdd, Nat.reduceMul, Nat.reduceLT, Nat.reduceLeDiff, Nat.reduceAnd, Nat.reduceSub, Int.reduceToNat, Array.toList]
      · simp (maxSteps := 1000000) -dsimp -implicitDefEqProofs only [↓eqD, eqU, eqV, eqW, vbuiltinQ, vlen, vslice, vindex, vstore, Int.reduceLE, Int.reduceLT, Nat.reduceBEq, ↓reduceIte, reduceCtorEq, Nat.reduceEqDiff, Nat.reduceAdd, Nat.reduceMul, Nat.reduceLT, Nat.reduceLeDiff, Nat.reduceAnd, Nat.reduceSub, Int.reduceToNat, Array.toList]
      · intro id hid; simp (maxSteps := 1000000) -dsimp -implicitDefEqProofs only [↓eqD, eqU, eqV, eqW, vbuiltinQ, vlen, vslice, vindex, vstore, Int.reduceLE, Int.reduceLT, Nat.reduceBEq, ↓reduceIte, reduceCtorEq, Nat.reduceEqDiff, Nat.reduceAdd, Nat.reduceMul, Nat.reduceLT, Nat.reduceLeDiff, Nat.reduceAnd, Nat.reduceSub, Int.reduceToNat, Array.toList, Nat.ne_of_lt hid]
  · exact ⟨Nat.lt_succ_self _, Nat.zero_le _, by simp⟩
  · rintro ⟨pos, m⟩ ⟨hm, hp, hin⟩
    simp only at hm hp hin
    simp (maxSteps := 1000000) -dsimp -implicitDefEqProofs only [↓eqD, eqU, eqV, eqW, vbuiltinQ, vlen, vslice, vindex, vstore, Int.reduceLE, Int.reduceLT, Nat.reduceBEq, ↓reduceIte, reduceCtorEq, Nat.reduceEqDiff, Nat.reduceAdd, Nat.reduceMul, Nat.reduceLT, Nat.reduceLeDiff, Nat.reduceAnd, Nat.reduceSub, Int.reduceToNat, Array.toList, u9, T0]
    split
    · rename_i hlt
      refine vloop_by (fun k : Nat => k ≤ set.length) (fun k => Env.of [(0, .str s), (1, .str set), (5, .int .i64 pos), (6, .int .i32 (vdecode s pos).1), (7, .bool (inSet (set.take k) (vdecode s pos).1)), (11, .ptr G.next 0 0), (17, .ptr m 0 0)])
        (fun k => G.over (m + 1) [(G.next, .iter s (pos + (vdecode s pos).2)), (m, .iter set k)]) (fun k => set.length - k) 0 ?_ (Nat.zero_le _) ?_
      · refine Ghost.of ?_ ?_
        · simp (maxSteps := 1000000) -dsimp -implicitDefEqProofs only [↓eqD, eqU, eqV, eqW, vbuiltinQ, vlen, vslice, vindex, vstore, Int.reduceLE, Int.reduceLT, Nat.reduceBEq, ↓reduceIte, reduceCtorEq, Nat.reduceEqDiff, Nat.reduceAdd, Nat.reduceMul, Nat.reduceLT, Nat.reduceLeDiff, Nat.reduceAnd, Nat.reduceSub, Int.reduceToNat, Array.toList]
          exact ⟨.refl _, .refl _, .refl _, .refl _, .refl _, .refl _, .refl _⟩
        · refine .over hG ?_ ?_ ?_
          · simp (maxSteps := 1000000) -dsimp -implicitDefEqProofs only [↓eqD, eqU, eqV, eqW, vbuiltinQ, vlen, vslice, vindex, vstore, Int.reduceLE, Int.reduceLT, Nat.reduceBEq, ↓reduceIte, reduceCtorEq, Nat.reduceEqDiff, Nat.reduceAdd, Nat.reduceMul, Nat.reduceLT, Nat.reduceLeDiff, Nat.reduceAnd, Nat.reduceSub, Int.reduceToNat, Array.toList]
          · simp (maxSteps := 1000000) -dsimp -implicitDefEqProofs only [↓eqD, eqU, eqV, eqW, vbuiltinQ, vlen, vslice, vindex, vstore, Int.reduceLE, Int.reduceLT, Nat.reduceBEq, ↓reduceIte, reduceCtorEq, Nat.reduceEqDiff, Nat.reduceAdd, Nat.reduceMul, Nat.reduceLT, Nat.reduceLeDiff, Nat.reduceAnd, Nat.reduceSub, Int.reduceToNat, Array.toList, Nat.ne_of_lt hm, Nat.ne_of_gt hm]
          · intro id hid; simp (maxSteps := 1000000) -dsimp -implicitDefEqProofs only [↓eqD, eqU, eqV, eqW, vbuiltinQ, vlen, vslice, vindex, vstore, Int.reduceLE, Int.reduceLT, Nat.reduceBEq, ↓reduceIte, reduceCtorEq, Nat.reduceEqDiff, Nat.reduceAdd, Nat.reduceMul, Nat.reduceLT, Nat.reduceLeDiff, Nat.reduceAnd, Nat.reduceSub, Int.reduceToNat, Array.toList, Nat.ne_of_lt hid, Nat.ne_of_lt (Nat.lt_trans hid hm)]
      · intro k hk
        have hs' : ∃ b, s[pos]? = some b := ⟨_, List.getElem?_eq_getElem hlt⟩
        obtain ⟨b, hb⟩ := hs'
        simp (maxSteps := 1000000) -dsimp -implicitDefEqProofs only [↓eqD, eqU, eqV, eqW, vbuiltinQ, vlen, vslice, vindex, vstore, Int.reduceLE, Int.reduceLT, Nat.reduceBEq, ↓reduceIte, reduceCtorEq, Nat.reduceEqDiff, Nat.reduceAdd, Nat.reduceMul, Nat.reduceLT, Nat.reduceLeDiff, Nat.reduceAnd, Nat.reduceSub, Int.reduceToNat, Array.toList, u9, T0, Nat.ne_of_lt hm, Nat.ne_of_gt hm]
        split
        · rename_i hk'
          have hd' : ∃ d, set[k]? = some d := ⟨_, List.getElem?_eq_getElem hk'⟩
          obtain ⟨d, hd⟩ := hd'
          have hdec := vdecode_ascii hd (hset d (List.mem_of_getElem? hd))
          have round : ∀ (E : Env) (v : Bool), v = inSet (set.take (k + 1)) (vdecode s pos).1 → E 7 = .bool v → E 0 = .str s → E 1 = .str set → E 5 = .int .i64 pos → E 6 = .int .i32 (vdecode s pos).1 → E 11 = .ptr G.next 0 0 → E 17 = .ptr m 0 0 →
              ∃ y, y ≤ set.length ∧ set.length - y < set.length - k ∧ Ghost E ((G.over (m + 1) [(G.next, .iter s (pos + (vdecode s pos).2)), (m, .iter set k)]).put m (.iter set (k + (vdecode set k).2)))
                (Env.of [(0, .str s), (1, .str set), (5, .int .i64 pos), (6, .int .i32 (vdecode s pos).1), (7, .bool (inSet (set.take y) (vdecode s pos).1)), (11, .ptr G.next 0 0), (17, .ptr m 0 0)]) (G.over (m + 1) [(G.next, .iter s (pos + (vdecode s pos).2)), (m, .iter set y)]) := by
            intro E v hv e7 e0 e1 e5 e6 e11 e17
            refine ⟨k + 1, hk', by omega, .of ?_ (.over hG ?_ ?_ ?_)⟩
            · simp (maxSteps := 1000000) -dsimp -implicitDefEqProofs only [↓eqD, eqU, eqV, eqW, vbuiltinQ, vlen, vslice, vindex, vstore, Int.reduceLE, Int.reduceLT, Nat.reduceBEq, ↓reduceIte, reduceCtorEq, Nat.reduceEqDiff, Nat.reduceAdd, Nat.reduceMul, Nat.reduceLT, Nat.reduceLeDiff, Nat.reduceAnd, Nat.reduceSub, Int.reduceToNat, Array.toList, e0, e1, e5, e6, e7, e11, e17, hv]
              exact ⟨.refl _, .refl _, .refl _, .refl _, .refl _, .refl _, .refl _⟩
            · simp (maxSteps := 1000000) -dsimp -implicitDefEqProofs only [↓eqD, eqU, eqV, eqW, vbuiltinQ, vlen, vslice, vindex, vstore, Int.reduceLE, Int.reduceLT, Nat.reduceBEq, ↓reduceIte, reduceCtorEq, Nat.reduceEqDiff, Nat.reduceAdd, Nat.reduceMul, Nat.reduceLT, Nat.reduceLeDiff, Nat.reduceAnd, Nat.reduceSub, Int.reduceToNat, Array.toList]
            · simp (maxSteps := 1000000) -dsimp -implicitDefEqProofs only [↓eqD, eqU, eqV, eqW, vbuiltinQ, vlen, vslice, vindex, vstore, Int.reduceLE, Int.reduceLT, Nat.reduceBEq, ↓reduceIte, reduceCtorEq, Nat.reduceEqDiff, Nat.reduceAdd, Nat.reduceMul, Nat.reduceLT, Nat.reduceLeDiff, Nat.reduceAnd, Nat.reduceSub, Int.reduceToNat, Array.toList, Nat.ne_of_lt hm, Nat.ne_of_gt hm, hdec]
            · intro id hid; simp (maxSteps := 1000000) -dsimp -implicitDefEqProofs only [↓eqD, eqU, eqV, eqW, vbuiltinQ, vlen, vslice, vindex, vstore, Int.reduceLE, Int.reduceLT, Nat.reduceBEq, ↓reduceIte, reduceCtorEq, Nat.reduceEqDiff, Nat.reduceAdd, Nat.reduceMul, Nat.reduceLT, Nat.reduceLeDiff, Nat.reduceAnd, Nat.reduceSub, Int.reduceToNat, Array.toList, Nat.ne_of_lt hid, Nat.ne_of_lt (Nat.lt_trans hid hm)]
          split
          · rename_i hf
            refine round _ (decide (((vdecode s pos).1 : Int) = ((vdecode set k).1 : Int))) ?_ ?_ ?_ ?_ ?_ ?_ ?_ ?_
            · rw [inSet_succ hd, hf, hdec, Bool.eq_iff_iff]; simp [Int.ofNat_inj]
            all_goals (simp (maxSteps := 1000000) -dsimp -implicitDefEqProofs only [↓eqD, eqU, eqV, eqW, vbuiltinQ, vlen, vslice, vindex, vstore, Int.reduceLE, Int.reduceLT, Nat.reduceBEq, ↓reduceIte, reduceCtorEq, Nat.reduceEqDiff, Nat.reduceAdd, Nat.reduceMul, Nat.reduceLT, Nat.reduceLeDiff, Nat.reduceAnd, Nat.reduceSub, Int.reduceToNat, Array.toList])
          · rename_i hf
            refine round _ true ?_ ?_ ?_ ?_ ?_ ?_ ?_ ?_
            · rw [inSet_succ hd, (by simpa using hf : inSet (set.take k) (vdecode s pos).1 = true)]; rfl
            all_goals (simp (maxSteps := 1000000) -dsimp -implicitDefEqProofs only [↓eqD, eqU, eqV, eqW, vbuiltinQ, vlen, vslice, vindex, vstore, Int.reduceLE, Int.reduceLT, Nat.reduceBEq, ↓reduceIte, reduceCtorEq, Nat.reduceEqDiff, Nat.reduceAdd, Nat.reduceMul, Nat.reduceLT, Nat.reduceLeDiff, Nat.reduceAnd, Nat.reduceSub, Int.reduceToNat, Array.toList])
        · rename_i hk'
          have htake : set.take k = set := List.take_of_length_le (by omega)
          rw [htake]
          split
          · rename_i hf
            have hnot : set.contains b = false := by
              rcases Nat.lt_or_ge b.toNat 128 with ha | ha
              · rw [vdecode_ascii hb ha] at hf
                rw [← inSet_ascii]; simpa using hf
              · cases hc : set.contains b with
                | false => rfl
                | true => have := hset b (by simpa using hc); omega
            have e : cutL s set = s.drop pos := dropWhile_at (fun b hb => by simpa using hin b hb) fun b' hb' => by rw [hb] at hb'; cases hb'; exact hnot
            refine ⟨by omega, ?_⟩
            refine VDone.back hG ?_ rfl (by rw [e])
            intro id hid; simp (maxSteps := 1000000) -dsimp -implicitDefEqProofs only [↓eqD, eqU, eqV, eqW, vbuiltinQ, vlen, vslice, vindex, vstore, Int.reduceLE, Int.reduceLT, Nat.reduceBEq, ↓reduceIte, reduceCtorEq, Nat.reduceEqDiff, Nat.reduceAdd, Nat.reduceMul, Nat.reduceLT, Nat.reduceLeDiff, Nat.reduceAnd, Nat.reduceSub, Int.reduceToNat, Array.toList, Nat.ne_of_lt hid, Nat.ne_of_lt (Nat.lt_trans hid hm)]
          · rename_i hf
            have ha : b.toNat < 128 := by
              rcases Nat.lt_or_ge b.toNat 128 with ha | ha
              · exact ha
              · have := inSet_high hset (vdecode_high hb ha); simp [this] at hf
            have hdec := vdecode_ascii hb ha
            rw [hdec, inSet_ascii] at hf
            refine ⟨(pos + 1, m + 1), ⟨by simp only; omega, hlt, ?_⟩, by simp only; omega, .of ?_ (.over hG ?_ ?_ ?_)⟩
            · intro c hc
              simp only [List.take_add_one, hb, Option.toList_some, List.mem_append, List.mem_singleton] at hc
              rcases hc with hc | rfl
              · exact hin c hc
              · simpa using hf
            · simp (maxSteps := 1000000) -dsimp -implicitDefEqProofs only [↓eqD, eqU, eqV, eqW, vbuiltinQ, vlen, vslice, vindex, vstore, Int.reduceLE, Int.reduceLT, Nat.reduceBEq, ↓reduceIte, reduceCtorEq, Nat.reduceEqDiff, Nat.reduceAdd, Nat.reduceMul, Nat.reduceLT, Nat.reduceLeDiff, Nat.reduceAnd, Nat.reduceSub, Int.reduceToNat, Array.toList]
              exact ⟨.refl _, .refl _, .refl _⟩
            · simp (maxSteps := 1000000) -dsimp -implicitDefEqProofs only [↓eqD, eqU, eqV, eqW, vbuiltinQ, vlen, vslice, vindex, vstore, Int.reduceLE, Int.reduceLT, Nat.reduceBEq, ↓reduceIte, reduceCtorEq, Nat.reduceEqDiff, Nat.reduceAdd, Nat.reduceMul, Nat.reduceLT, Nat.reduceLeDiff, Nat.reduceAnd, Nat.reduceSub, Int.reduceToNat, Array.toList]
            · simp (maxSteps := 1000000) -dsimp -implicitDefEqProofs only [↓eqD, eqU, eqV, eqW, vbuiltinQ, vlen, vslice, vindex, vstore, Int.reduceLE, Int.reduceLT, Nat.reduceBEq, ↓reduceIte, reduceCtorEq, Nat.reduceEqDiff, Nat.reduceAdd, Nat.reduceMul, Nat.reduceLT, Nat.reduceLeDiff, Nat.reduceAnd, Nat.reduceSub, Int.reduceToNat, Array.toList, hdec]
            · intro id hid; simp (maxSteps := 1000000) -dsimp -implicitDefEqProofs only [↓eqD, eqU, eqV, eqW, vbuiltinQ, vlen, vslice, vindex, vstore, Int.reduceLE, Int.reduceLT, Nat.reduceBEq, ↓reduceIte, reduceCtorEq, Nat.reduceEqDiff, Nat.reduceAdd, Nat.reduceMul, Nat.reduceLT, Nat.reduceLeDiff, Nat.reduceAnd, Nat.reduceSub, Int.reduceToNat, Array.toList, Nat.ne_of_lt hid, Nat.ne_of_lt (Nat.lt_trans hid hm)]
    · rename_i hlt
      refine VDone.back hG ?_ rfl ?_
      · intro id hid; simp (maxSteps := 1000000) -dsimp -implicitDefEqProofs only [↓eqD, eqU, eqV, eqW, vbuiltinQ, vlen, vslice, vindex, vstore, Int.reduceLE, Int.reduceLT, Nat.reduceBEq, ↓reduceIte, reduceCtorEq, Nat.reduceEqDiff, Nat.reduceAdd, Nat.reduceMul, Nat.reduceLT, Nat.reduceLeDiff, Nat.reduceAnd, Nat.reduceSub, Int.reduceToNat, Array.toList, Nat.ne_of_lt hid]
      · have : s.take pos = s := List.take_of_length_le (by omega)
        rw [this] at hin
        have e : cutL s set = s.drop s.length := dropWhile_at (fun b hb => by simpa using hin b (List.mem_of_mem_take hb)) fun b hb => by simp at hb
        rw [e]; simp
end Go.Vf
/- The library's functions that lex calls. -/
set_option linter.unusedVariables false
set_option linter.unusedSimpArgs false
namespace Go.Vf
open Go.Proofs Go.RowKit

theorem cell_of_base {ρ : Rho} {G : Heap} {w : World} (hW : WRel ρ G w) {b o : Nat} {x : Value} (h : ρ.base.cell? ⟨b, o, none⟩ = some x) : w.cell? ⟨b, o, none⟩ = some x := by
  rw [hW.below.cell (p := ⟨b, o, none⟩) (cell_block_lt h)]; exact h
theorem tab_of_base {ρ : Rho} {G : Heap} {w : World} (hW : WRel ρ G w) {name : String} {k : IntKind} {zs : List Int} (h : Lib.TabIs Tryz.prog ρ.base name k zs) : Lib.TabIs Tryz.prog w name k zs := by
  unfold Lib.TabIs World.var? at *
  cases hg : Tryz.prog.globalNamed name with
  | none => rw [hg] at h; cases h
  | some g =>
    rw [hg] at h
    simp only [Option.bind_some] at h ⊢
    cases hb : ρ.base.heap[g]? with
    | none => rw [hb] at h; cases h
    | some o =>
      rw [hW.below.block g (Array.getElem?_eq_some_iff.1 hb).1]
      exact h

theorem contains_walk (s sub : List UInt8) (hs : s.length < 4294967281) (G : Heap) : VPure Tryz.prog 54 [.str s, .str sub] G (.bool (Lib.contains s sub)) := by
  refine VPure.lift (by kernel_rfl) fun ρ w xs hW hx => ?_
  obtain ⟨x0, e0, h0⟩ := hx.get (i := 0) rfl
  obtain ⟨x1, e1, h1⟩ := hx.get (i := 1) rfl
  have hl : xs = [x0, x1] := by
    have := hx.1
    match xs, this with
    | [a, b], _ => simp at e0 e1; rw [e0, e1]
  subst hl
  rw [h0.str_inv, h1.str_inv]
  obtain ⟨m, hm⟩ := hW.met.2
  refine (Tryz.strings_Contains ⟨s.toArray⟩ ⟨sub.toArray⟩ m w (by simpa [ByteArray.size] using hs) (cell_of_base hW hm)).mono ?_
  rintro e w' ⟨rfl, rfl⟩
  exact ⟨_, rfl, rfl, .bool _⟩

theorem fields_walk (s : List UInt8) (hs : s.length < 4294967281) (hascii : ∀ b, b ∈ s → b.toNat < 128) (G : Heap) : VPure Tryz.prog 56 [.str s] G (.slc 1 (Lib.fields s).length ((Lib.fields s).map .str)) := by
  refine ⟨by kernel_rfl, fun ρ w xs hW hx => ?_⟩
  obtain ⟨x0, e0, h0⟩ := hx.get (i := 0) rfl
  have hl : xs = [x0] := by
    have := hx.1
    match xs, this with
    | [a], _ => simp at e0; rw [e0]
  subst hl
  rw [h0.str_inv]
  refine (Tryz.strings_Fields ⟨s.toArray⟩ w (by simpa [ByteArray.size] using hs) (fun j b hb => hascii b (by simpa using List.mem_of_getElem? hb)) (tab_of_base hW hW.met.1)).mono ?_
  rintro e w' ⟨rfl, rfl⟩
  have hb := below_alloc w (.cells ((Lib.fields s).map fun l => Value.string ⟨l.toArray⟩).toArray 9)
  have hW' := hW.newImm (w' := w.alloc (.cells ((Lib.fields s).map fun l => Value.string ⟨l.toArray⟩).toArray 9)) hb (b := w.heap.size) (Nat.le_refl _) (xs := (Lib.fields s).map fun l => Value.string ⟨l.toArray⟩) ?_
  · obtain ⟨g1, g2, g3⟩ := hW'
    refine ⟨_, _, _, G, rfl, g1, g2, Nat.le_refl _, ?_, rfl, rfl⟩
    refine .slc _ _ _ _ _ _ ?_ ?_ g3 ?_ ?_
    · exact closedL_of fun v hv => by obtain ⟨l, _, rfl⟩ := List.mem_map.1 hv; exact ⟨rfl, rfl⟩
    · simp
    · simp
    · intro i v x h1 h2
      simp only [List.getElem?_map, Option.map_eq_some_iff] at h1 h2
      obtain ⟨l, hl, rfl⟩ := h1
      obtain ⟨l', hl', rfl⟩ := h2
      rw [hl] at hl'; cases hl'
      exact .str _
  · intro i x hx
    show World.cell? _ _ = _
    have hbk : (w.alloc (.cells ((Lib.fields s).map fun l => Value.string ⟨l.toArray⟩).toArray 9)).heap[w.heap.size]? = some (.cells ((Lib.fields s).map fun l => Value.string ⟨l.toArray⟩).toArray 9) := by
      show (w.heap.push _)[w.heap.size]? = _; simp
    simp only [World.cell?, hbk]
    simpa using hx
end Go.Vf
/- lex: runs, words, numbers. -/
set_option linter.unusedVariables false
set_option linter.unusedSimpArgs false
namespace Go.Vf
open Go.Proofs Go.RowKit

theorem w64 {x : Int} (h0 : -9223372036854775808 ≤ x) (h1 : x ≤ 9223372036854775807) : IntKind.wrap .i64 x = x := by rw [IntKind.wrap_i64]; omega
def ascii (l : List UInt8) : Bool := l.all fun b => decide (b.toNat < 128)
theorem ascii_mem {l : List UInt8} (h : ascii l = true) : ∀ b, b ∈ l → b.toNat < 128 := fun b hb => by simpa using List.all_eq_true.1 h b hb

def g20 : List V → Option (Prop × V)
  | [.str s, .str set] => some (ascii set = true, .str (cutL s set))
  | _ => none
def runN (s set : List UInt8) : Nat := s.length - (cutL s set).length
def g16 : List V → Option (Prop × V)
  | [.str s, .str set] => some (ascii set = true ∧ s.length ≤ 4611686018427387904, .int .i64 (runN s set : Nat))
  | _ => none
def g21 : List V → Option (Prop × V)
  | [.str s, .str set] => some (ascii set = true ∧ s.length ≤ 4611686018427387904, .bool (decide (0 < runN s set)))
  | _ => none
def gPre : List V → Option (Prop × V)
  | [.str s, .str t] => some (True, .bool (t.isPrefixOf s))
  | _ => none
def g19 : List V → Option (Prop × V)
  | [.str s, .str t] => some (s.length < 4294967281, .bool (Lib.contains s t))
  | _ => none
def g29 : List V → Option (Prop × V)
  | [.str s] => some (s.length < 4294967281 ∧ ascii s = true, .slc 1 (Lib.fields s).length ((Lib.fields s).map .str))
  | _ => none
theorem cutL_le (s set : List UInt8) : (cutL s set).length ≤ s.length := by
  unfold cutL
  exact (List.dropWhile_sublist _).length_le
theorem runN_le (s set : List UInt8) : runN s set ≤ s.length := Nat.sub_le _ _

theorem ok16 : fnOk Tryz.prog 28 T0 2 = true := by kernel_rfl
theorem ok21 : fnOk Tryz.prog 42 T0 2 = true := by kernel_rfl
theorem ok31 : fnOk Tryz.prog 65 T0 2 = true := by kernel_rfl
theorem ok28 : fnOk Tryz.prog 55 T0 2 = true := by kernel_rfl

def SA : Specs := ((Specs.none.add 41 g20).add 54 g19).add 56 g29
theorem okA : SOk Tryz.prog SA := by
  refine ((SOk.add (SOk.none _) ?_).add ?_).add ?_
  · intro xs G p v e hp
    unfold g20 at e
    split at e
    · cases e; exact cutLeft_walk (SOk.none _) _ _ (ascii_mem hp) G
    · cases e
  · intro xs G p v e hp
    unfold g19 at e
    split at e
    · cases e; exact contains_walk _ _ hp G
    · cases e
  · intro xs G p v e hp
    unfold g29 at e
    split at e
    · cases e; exact fields_walk _ hp.1 (ascii_mem hp.2) G
    · cases e

theorem run_walk (s set : List UInt8) (h1 : ascii set = true) (h2 : s.length ≤ 4611686018427387904) (G : Heap) : VPure Tryz.prog 28 [.str s, .str set] G (.int .i64 (runN s set : Nat)) := by
  refine VCalls.of okA mixed T0 ok16 fun hG => ?_
  have hw : IntKind.wrap .i64 ((s.length : Int) - ((cutL s set).length : Int)) = (runN s set : Nat) := by
    have := cutL_le s set
    unfold runN
    rw [w64 (by omega) (by omega)]; omega
  simp (maxSteps := 1000000) -dsimp -implicitDefEqProofs only [↓eqD, eqU, eqV, eqW, vbuiltinQ, vlen, vslice, vindex, vstore, Int.reduceLE, Int.reduceLT, Nat.reduceBEq, ↓reduceIte, reduceCtorEq, Nat.reduceEqDiff, Nat.reduceAdd, Nat.reduceMul, Nat.reduceLT, Nat.reduceLeDiff, Nat.reduceAnd, Nat.reduceSub, Int.reduceToNat, Array.toList, fnWp_some Tryz.func28, Tryz.f28, T0, u9, SA, add_at, none_at, g20, g19, g29, hw, h1]
  exact VDone.back hG (fun _ _ => rfl) rfl rfl
def SB : Specs := SA.add 28 g16
theorem okB : SOk Tryz.prog SB := by
  refine okA.add ?_
  intro xs G p v e hp
  unfold g16 at e
  split at e
  · cases e; exact run_walk _ _ hp.1 hp.2 G
  · cases e
theorem isOf_walk (s set : List UInt8) (h1 : ascii set = true) (h2 : s.length ≤ 4611686018427387904) (G : Heap) : VPure Tryz.prog 42 [.str s, .str set] G (.bool (decide (0 < runN s set))) := by
  refine VCalls.of okB mixed T0 ok21 fun hG => ?_
  simp (maxSteps := 1000000) -dsimp -implicitDefEqProofs only [↓eqD, eqU, eqV, eqW, vbuiltinQ, vlen, vslice, vindex, vstore, Int.reduceLE, Int.reduceLT, Nat.reduceBEq, ↓reduceIte, reduceCtorEq, Nat.reduceEqDiff, Nat.reduceAdd, Nat.reduceMul, Nat.reduceLT, Nat.reduceLeDiff, Nat.reduceAnd, Nat.reduceSub, Int.reduceToNat, Array.toList, fnWp_some Tryz.func42, Tryz.f42, T0, u9, SB, add_at, g16, h1, h2]
  refine VDone.back hG (fun _ _ => rfl) rfl ?_
  congr 1
  rw [Bool.eq_iff_iff]; simp
theorem hasPre_walk (s t : List UInt8) (G : Heap) : VPure Tryz.prog 65 [.str s, .str t] G (.bool (t.isPrefixOf s)) := by
  refine VCalls.of okB mixed T0 ok31 fun hG => ?_
  simp (maxSteps := 1000000) -dsimp -implicitDefEqProofs only [↓eqD, eqU, eqV, eqW, vbuiltinQ, vlen, vslice, vindex, vstore, Int.reduceLE, Int.reduceLT, Nat.reduceBEq, ↓reduceIte, reduceCtorEq, Nat.reduceEqDiff, Nat.reduceAdd, Nat.reduceMul, Nat.reduceLT, Nat.reduceLeDiff, Nat.reduceAnd, Nat.reduceSub, Int.reduceToNat, Array.toList, fnWp_some Tryz.func65, Tryz.f65, T0, u9]
  have hpre : t.isPrefixOf s = decide (s.take t.length = t) := by
    rw [Bool.eq_iff_iff, decide_eq_true_eq, List.isPrefixOf_iff_prefix, List.prefix_iff_eq_take]
    exact eq_comm
  split
  · rename_i h
    refine ⟨by omega, ?_⟩
    refine VDone.back hG (fun _ _ => rfl) rfl ?_
    rw [hpre]
  · rename_i h
    refine VDone.back hG (fun _ _ => rfl) rfl ?_
    rw [hpre]
    congr 1
    symm
    rw [decide_eq_false_iff_not]
    intro e
    have := congrArg List.length e
    simp only [List.length_take] at this
    omega
def SC : Specs := (SB.add 42 g21).add 65 gPre
theorem okC : SOk Tryz.prog SC := by
  refine (okB.add ?_).add ?_
  · intro xs G p v e hp
    unfold g21 at e
    split at e
    · cases e; exact isOf_walk _ _ hp.1 hp.2 G
    · cases e
  · intro xs G p v e hp
    unfold gPre at e
    split at e
    · cases e; exact hasPre_walk _ _ G
    · cases e
theorem hasPrefix_walk (s t : List UInt8) (G : Heap) : VPure Tryz.prog 55 [.str s, .str t] G (.bool (t.isPrefixOf s)) := by
  refine VCalls.of okC mixed T0 ok28 fun hG => ?_
  simp (maxSteps := 1000000) -dsimp -implicitDefEqProofs only [↓eqD, eqU, eqV, eqW, vbuiltinQ, vlen, vslice, vindex, vstore, Int.reduceLE, Int.reduceLT, Nat.reduceBEq, ↓reduceIte, reduceCtorEq, Nat.reduceEqDiff, Nat.reduceAdd, Nat.reduceMul, Nat.reduceLT, Nat.reduceLeDiff, Nat.reduceAnd, Nat.reduceSub, Int.reduceToNat, Array.toList, fnWp_some Tryz.func55, Tryz.f55, T0, u9, SC, add_at, gPre]
  exact VDone.back hG (fun _ _ => rfl) rfl rfl

/-! ### Words -/
def wordsL : List UInt8 := [32, 116, 114, 117, 101, 32, 102, 97, 108, 115, 101, 32, 110, 117, 108, 108, 32, 105, 102, 32, 116, 104, 101, 110, 32, 101, 108, 115, 101, 32, 97, 110, 100, 32, 111, 114, 32, 105, 110, 32]
def wordB (s : List UInt8) : Bool := decide (s ≠ []) && (!Lib.contains s [32] && Lib.contains wordsL ([32] ++ s ++ [32]))
def g12 : List V → Option (Prop × V)
  | [.str s] => some (s.length < 4294967281, .bool (wordB s))
  | _ => none
theorem ok12 : fnOk Tryz.prog 43 T0 1 = true := by kernel_rfl
theorem word_walk (s : List UInt8) (hs : s.length < 4294967281) (G : Heap) : VPure Tryz.prog 43 [.str s] G (.bool (wordB s)) := by
  refine VCalls.of okC mixed T0 ok12 fun hG => ?_
  simp (maxSteps := 1000000) -dsimp -implicitDefEqProofs only [↓eqD, eqU, eqV, eqW, vbuiltinQ, vlen, vslice, vindex, vstore, Int.reduceLE, Int.reduceLT, Nat.reduceBEq, ↓reduceIte, reduceCtorEq, Nat.reduceEqDiff, Nat.reduceAdd, Nat.reduceMul, Nat.reduceLT, Nat.reduceLeDiff, Nat.reduceAnd, Nat.reduceSub, Int.reduceToNat, Array.toList, fnWp_some Tryz.func43, Tryz.f43, T0, u9, SC, SB, SA, add_at, g19, hs]
  have e : ∀ b, wordB s = b → ∀ v, v = b → VDone G.next (.bool v) G fun u G' => u = .bool (wordB s) ∧ G' = G := fun b hb v hv => VDone.back hG (fun _ _ => rfl) rfl (by rw [hv, hb])
  split
  · rename_i h1
    split
    · rename_i h2
      refine ⟨by omega, by omega, e _ rfl _ ?_⟩
      simp only [wordB, decide_eq_true h1, h2, Bool.true_and]
      rfl
    · rename_i h2
      exact e _ (by simp only [wordB, decide_eq_true h1, Bool.true_and]; simp only [Bool.not_eq_true] at h2; rw [h2]; rfl) _ rfl
  · rename_i h1
    exact e _ (by simp only [wordB, decide_eq_false h1, Bool.false_and]) _ rfl

/-! ### Numbers -/
def digitsL : List UInt8 := [48, 49, 50, 51, 52, 53, 54, 55, 56, 57]
def numN (s : List UInt8) : Nat :=
  if List.isPrefixOf [46] (s.drop (runN s digitsL)) = true ∧ 0 < runN (s.drop (runN s digitsL + 1)) digitsL then runN s digitsL + (1 + runN (s.drop (runN s digitsL + 1)) digitsL) else runN s digitsL
theorem digits_fold : ([48, 49, 50, 51, 52, 53, 54, 55, 56, 57] : List UInt8) = digitsL := rfl
def g22 : List V → Option (Prop × V)
  | [.str s] => some (s.length < 4294967281, .int .i64 (numN s : Nat))
  | _ => none
theorem ok22 : fnOk Tryz.prog 44 T0 1 = true := by kernel_rfl
def SD : Specs := (SC.add 55 gPre).add 43 g12
theorem okD : SOk Tryz.prog SD := by
  refine (okC.add ?_).add ?_
  · intro xs G p v e hp
    unfold gPre at e
    split at e
    · cases e; exact hasPrefix_walk _ _ G
    · cases e
  · intro xs G p v e hp
    unfold g12 at e
    split at e
    · cases e; exact word_walk _ hp G
    · cases e
theorem num_walk (s : List UInt8) (hs : s.length < 4294967281) (G : Heap) : VPure Tryz.prog 44 [.str s] G (.int .i64 (numN s : Nat)) := by
  refine VCalls.of okD mixed T0 ok22 fun hG => ?_
  have hn := runN_le s digitsL
  have hm := runN_le (s.drop (runN s digitsL + 1)) digitsL
  have hl : (s.drop (runN s digitsL + 1)).length ≤ s.length := by simp
  have w1 : IntKind.wrap .i64 ((runN s digitsL : Int) + 1) = ((runN s digitsL + 1 : Nat) : Int) := by rw [w64 (by omega) (by omega)]; rfl
  have w2 : IntKind.wrap .i64 (1 + ((runN (s.drop (runN s digitsL + 1)) digitsL : Nat) : Int)) = ((1 + runN (s.drop (runN s digitsL + 1)) digitsL : Nat) : Int) := by rw [w64 (by omega) (by omega)]; omega
  have w3 : IntKind.wrap .i64 ((runN s digitsL : Int) + ((1 + runN (s.drop (runN s digitsL + 1)) digitsL : Nat) : Int)) = ((runN s digitsL + (1 + runN (s.drop (runN s digitsL + 1)) digitsL) : Nat) : Int) := by rw [w64 (by omega) (by omega)]; omega
  have hd : ascii digitsL = true := by decide
  simp (maxSteps := 1000000) -dsimp -implicitDefEqProofs only [↓eqD, eqU, eqV, eqW, vbuiltinQ, vlen, vslice, vindex, vstore, Int.reduceLE, Int.reduceLT, Nat.reduceBEq, ↓reduceIte, reduceCtorEq, Nat.reduceEqDiff, Nat.reduceAdd, Nat.reduceMul, Nat.reduceLT, Nat.reduceLeDiff, Nat.reduceAnd, Nat.reduceSub, Int.reduceToNat, Array.toList, fnWp_some Tryz.func44, Tryz.f44, T0, u9, SD, SC, SB, SA, add_at, g16, g21, gPre, hs, digits_fold, w1, w2, w3, hd, Nat.mul_one]
  have e : ∀ n, numN s = n → VDone G.next (.int .i64 (n : Nat)) G fun u G' => u = .int .i64 (numN s : Nat) ∧ G' = G := fun n hn => VDone.back hG (fun _ _ => rfl) rfl (by rw [hn])
  have hlt : [46].isPrefixOf (s.drop (runN s digitsL)) = true → runN s digitsL + 1 ≤ s.length := fun h => by
    obtain ⟨t, ht⟩ := List.isPrefixOf_iff_prefix.1 h
    have := congrArg List.length ht
    simp at this; omega
  refine ⟨by omega, by omega, ?_⟩
  split
  · rename_i h1
    have := hlt h1
    refine ⟨by omega, by omega, ?_⟩
    split
    · rename_i h2
      refine ⟨by omega, by omega, e _ ?_⟩
      unfold numN; rw [if_pos ⟨h1, by simpa using h2⟩]
    · rename_i h2
      exact e _ (by unfold numN; rw [if_neg (fun h => h2 (by simpa using h.2))])
  · rename_i h1
    exact e _ (by unfold numN; rw [if_neg (fun h => h1 h.1)])

theorem drop_at {s : List UInt8} {i : Nat} (h : i < s.length) : s.drop i = s.getD i 0 :: s.drop (i + 1) := by
  rw [List.drop_eq_getElem_cons h]
  simp [List.getD, h]
/-! ### Texts -/
/-- How long the text is, with its quotes; 0: it does not end. 'i' bytes are behind us. -/
def textGo : List UInt8 → Nat → Nat
  | [], _ => 0
  | b :: r, i => if 32 ≤ b.toNat ∧ b.toNat ≤ 126 then (if b.toNat = 34 then i + 1 else textGo r (i + 1)) else 0
def textN (s : List UInt8) : Nat := textGo (s.drop 1) 1
def g23 : List V → Option (Prop × V)
  | [.str s] => some (s.length < 4294967281, .int .i64 (textN s : Nat))
  | _ => none
theorem ok23 : fnOk Tryz.prog 45 T0 1 = true := by kernel_rfl
theorem text_walk (s : List UInt8) (hs : s.length < 4294967281) (G : Heap) : VPure Tryz.prog 45 [.str s] G (.int .i64 (textN s : Nat)) := by
  refine VCalls.of (SOk.none _) mixed T0 ok23 fun hG => ?_
  simp (maxSteps := 1000000) -dsimp -implicitDefEqProofs only [↓eqD, eqU, eqV, eqW, vbuiltinQ, vlen, vslice, vindex, vstore, Int.reduceLE, Int.reduceLT, Nat.reduceBEq, ↓reduceIte, reduceCtorEq, Nat.reduceEqDiff, Nat.reduceAdd, Nat.reduceMul, Nat.reduceLT, Nat.reduceLeDiff, Nat.reduceAnd, Nat.reduceSub, Int.reduceToNat, Array.toList, fnWp_some Tryz.func45, Tryz.f45, T0, u9]
  refine vloop_by (fun i : Nat => 1 ≤ i ∧ textGo (s.drop i) i = textN s) (fun i => Env.of [(0, .str s), (3, .int .i64 (i : Nat))]) (fun i => G.over G.next []) (fun i => s.length - i) 1 ?_ ?_ ?_
  · refine .of ?_ (.over hG rfl trivial (fun _ _ => rfl))
    simp (maxSteps := 1000000) -dsimp -implicitDefEqProofs only [↓eqD, eqU, eqV, eqW, vbuiltinQ, vlen, vslice, vindex, vstore, Int.reduceLE, Int.reduceLT, Nat.reduceBEq, ↓reduceIte, reduceCtorEq, Nat.reduceEqDiff, Nat.reduceAdd, Nat.reduceMul, Nat.reduceLT, Nat.reduceLeDiff, Nat.reduceAnd, Nat.reduceSub, Int.reduceToNat, Array.toList]
    exact ⟨.refl _, .refl _⟩
  · exact ⟨Nat.le_refl _, rfl⟩
  · rintro i ⟨h1, hi⟩
    have w1 : i < s.length → IntKind.wrap .i64 ((i : Int) + 1) = ((i + 1 : Nat) : Int) := fun h => by rw [w64 (by omega) (by omega)]; rfl
    have dn : ∀ n, textN s = n → ∀ (G1 : Heap), (∀ id, id < G.next → G1.get id = G.get id) → VDone G.next (.int .i64 (n : Nat)) G1 fun u G' => u = .int .i64 (textN s : Nat) ∧ G' = G := fun n hn G1 hg => VDone.back hG hg rfl (by rw [hn])
    simp (maxSteps := 1000000) -dsimp -implicitDefEqProofs only [↓eqD, eqU, eqV, eqW, vbuiltinQ, vlen, vslice, vindex, vstore, Int.reduceLE, Int.reduceLT, Nat.reduceBEq, ↓reduceIte, reduceCtorEq, Nat.reduceEqDiff, Nat.reduceAdd, Nat.reduceMul, Nat.reduceLT, Nat.reduceLeDiff, Nat.reduceAnd, Nat.reduceSub, Int.reduceToNat, Array.toList, u9, T0]
    split
    · rename_i hlt
      have hlt : i < s.length := by omega
      rw [drop_at hlt] at hi
      simp only [textGo] at hi
      rw [w1 hlt]
      refine ⟨by omega, ?_⟩
      split
      · rename_i ha
        refine ⟨by omega, ?_⟩
        split
        · rename_i hb
          rw [if_pos ⟨by omega, by omega⟩] at hi
          refine ⟨by omega, ?_⟩
          split
          · rename_i hc
            rw [if_pos (by omega)] at hi
            exact dn _ hi.symm _ fun _ _ => rfl
          · rename_i hc
            rw [if_neg (by omega)] at hi
            refine ⟨i + 1, ⟨by omega, hi⟩, by omega, .of ?_ (.over hG rfl trivial (fun _ _ => rfl))⟩
            simp (maxSteps := 1000000) -dsimp -implicitDefEqProofs only [↓eqD, eqU, eqV, eqW, vbuiltinQ, vlen, vslice, vindex, vstore, Int.reduceLE, Int.reduceLT, Nat.reduceBEq, ↓reduceIte, reduceCtorEq, Nat.reduceEqDiff, Nat.reduceAdd, Nat.reduceMul, Nat.reduceLT, Nat.reduceLeDiff, Nat.reduceAnd, Nat.reduceSub, Int.reduceToNat, Array.toList]
            exact ⟨.refl _, .refl _⟩
        · rename_i hb
          rw [if_neg (fun h => hb (by omega))] at hi
          exact dn 0 hi.symm _ fun _ _ => rfl
      · rename_i ha
        rw [if_neg (fun h => ha (by omega))] at hi
        exact dn 0 hi.symm _ fun _ _ => rfl
    · rename_i hlt
      have : s.drop i = [] := List.drop_eq_nil_of_le (by omega)
      rw [this] at hi
      exact dn 0 hi.symm _ fun _ _ => rfl

theorem velem_map {α : Type} {f : α → V} {l : List α} {i : Nat} (h : i < l.length) : velem 1 (l.map f) i = [f l[i]] := by
  unfold velem
  rw [Nat.mul_one, ← List.map_drop, List.drop_eq_getElem_cons h]
  rfl
/-! ### Signs -/
def signsL : List UInt8 := [60, 61, 32, 62, 61, 32, 33, 61, 32, 46, 46, 32, 60, 32, 62, 32, 61, 32, 43, 32, 45, 32, 42, 32, 47, 32, 40, 32, 41, 32, 91, 32, 93, 32, 44]
def signsF : List (List UInt8) := [[60, 61], [62, 61], [33, 61], [46, 46], [60], [62], [61], [43], [45], [42], [47], [40], [41], [91], [93], [44]]
theorem signsF_eq : Lib.fields signsL = signsF := by decide +kernel
def signGo (s : List UInt8) : List (List UInt8) → List UInt8
  | [] => []
  | x :: r => if x.isPrefixOf s then x else signGo s r
def signL (s : List UInt8) : List UInt8 := signGo s signsF
def g24 : List V → Option (Prop × V)
  | [.str s] => some (True, .str (signL s))
  | _ => none
theorem signs_fold : ([60, 61, 32, 62, 61, 32, 33, 61, 32, 46, 46, 32, 60, 32, 62, 32, 61, 32, 43, 32, 45, 32, 42, 32, 47, 32, 40, 32, 41, 32, 91, 32, 93, 32, 44] : List UInt8) = signsL := rfl
theorem ok24 : fnOk Tryz.prog 46 T0 1 = true := by kernel_rfl
theorem sign_walk (s : List UInt8) (G : Heap) : VPure Tryz.prog 46 [.str s] G (.str (signL s)) := by
  refine VCalls.of okD mixed T0 ok24 fun hG => ?_
  have h1 : signsL.length < 4294967281 := by decide
  have h2 : ascii signsL = true := by decide
  simp (maxSteps := 1000000) -dsimp -implicitDefEqProofs only [↓eqD, eqU, eqV, eqW, vbuiltinQ, vlen, vslice, vindex, vstore, Int.reduceLE, Int.reduceLT, Nat.reduceBEq, ↓reduceIte, reduceCtorEq, Nat.reduceEqDiff, Nat.reduceAdd, Nat.reduceMul, Nat.reduceLT, Nat.reduceLeDiff, Nat.reduceAnd, Nat.reduceSub, Int.reduceToNat, Array.toList, fnWp_some Tryz.func46, Tryz.f46, T0, u35, SD, SC, SB, SA, add_at, g29, signs_fold, h1, h2, signsF_eq]
  refine vloop_by (fun i : Nat => i ≤ 16 ∧ signGo s (signsF.drop i) = signL s) (fun i => Env.of [(0, .str s), (5, .slc 1 signsF.length (signsF.map .str)), (6, .int .i64 16), (7, .int .i64 (i : Nat))]) (fun i => G.over G.next []) (fun i => 16 - i) 0 ?_ ?_ ?_
  · refine .of ?_ (.over hG rfl trivial (fun _ _ => rfl))
    simp (maxSteps := 1000000) -dsimp -implicitDefEqProofs only [↓eqD, eqU, eqV, eqW, vbuiltinQ, vlen, vslice, vindex, vstore, Int.reduceLE, Int.reduceLT, Nat.reduceBEq, ↓reduceIte, reduceCtorEq, Nat.reduceEqDiff, Nat.reduceAdd, Nat.reduceMul, Nat.reduceLT, Nat.reduceLeDiff, Nat.reduceAnd, Nat.reduceSub, Int.reduceToNat, Array.toList]
    exact ⟨.refl _, .refl _, .refl _, .refl _⟩
  · exact ⟨by omega, rfl⟩
  · rintro i ⟨h1, hi⟩
    have dn : ∀ x, signL s = x → VDone G.next (.str x) (G.over G.next []) fun u G' => u = .str (signL s) ∧ G' = G := fun x hx => VDone.back hG (fun _ _ => rfl) rfl (by rw [hx])
    by_cases hlt : i < 16
    · have hlt' : i < signsF.length := hlt
      have hx := velem_map (f := V.str) hlt'
      rw [List.drop_eq_getElem_cons hlt'] at hi
      have w1 : IntKind.wrap .i64 ((i : Int) + 1) = ((i + 1 : Nat) : Int) := by rw [w64 (by omega) (by omega)]; rfl
      generalize signsF[i] = x at hx hi
      simp (maxSteps := 1000000) -dsimp -implicitDefEqProofs only [↓eqD, eqU, eqV, eqW, vbuiltinQ, vlen, vslice, vindex, vstore, Int.reduceLE, Int.reduceLT, Nat.reduceBEq, ↓reduceIte, reduceCtorEq, Nat.reduceEqDiff, Nat.reduceAdd, Nat.reduceMul, Nat.reduceLT, Nat.reduceLeDiff, Nat.reduceAnd, Nat.reduceSub, Int.reduceToNat, Array.toList, u9, u35, T0, te35, c9, i9, ag9, SD, SC, SB, SA, add_at, gPre, hx, w1]
      rw [if_pos (by omega)]
      refine ⟨by simp [signsF]; omega, ?_⟩
      simp only [signGo] at hi
      split
      · rename_i hp
        rw [if_pos hp] at hi
        exact dn _ hi.symm
      · rename_i hp
        rw [if_neg hp] at hi
        refine ⟨i + 1, ⟨by omega, hi⟩, by omega, .of ?_ (.over hG rfl trivial (fun _ _ => rfl))⟩
        simp (maxSteps := 1000000) -dsimp -implicitDefEqProofs only [↓eqD, eqU, eqV, eqW, vbuiltinQ, vlen, vslice, vindex, vstore, Int.reduceLE, Int.reduceLT, Nat.reduceBEq, ↓reduceIte, reduceCtorEq, Nat.reduceEqDiff, Nat.reduceAdd, Nat.reduceMul, Nat.reduceLT, Nat.reduceLeDiff, Nat.reduceAnd, Nat.reduceSub, Int.reduceToNat, Array.toList]
        exact ⟨.refl _, .refl _, .refl _, .refl _⟩
    · have : i = 16 := by omega
      subst this
      simp (maxSteps := 1000000) -dsimp -implicitDefEqProofs only [↓eqD, eqU, eqV, eqW, vbuiltinQ, vlen, vslice, vindex, vstore, Int.reduceLE, Int.reduceLT, Nat.reduceBEq, ↓reduceIte, reduceCtorEq, Nat.reduceEqDiff, Nat.reduceAdd, Nat.reduceMul, Nat.reduceLT, Nat.reduceLeDiff, Nat.reduceAnd, Nat.reduceSub, Int.reduceToNat, Array.toList, u9, u35, T0, te35, c9, i9, ag9, SD, SC, SB, SA, add_at, gPre]
      rw [if_neg (by omega)]
      exact dn _ hi.symm
end Go.Vf
