/- FeelSame: the program's Same. -/
import Derived.Test.YtfkojpljgafieaaGreatDoorRa
set_option linter.unusedVariables false
set_option linter.unusedSimpArgs false
namespace Go.Vf
open Go.Proofs Go.RowKit

theorem sameL_len : ∀ {l l' : List Ex}, l.length ≠ l'.length → sameL l l' = false
  | [], [], h => (h rfl).elim
  | [], b :: r, _ => by rw [sameL]; all_goals (intros; simp_all)
  | a :: r, [], _ => by rw [sameL]; all_goals (intros; simp_all)
  | a :: r, b :: r', h => by rw [sameL, sameL_len (l := r) (l' := r') (fun e => h (by simp [e])), Bool.and_false]
theorem okn27 : fnOk Tryz.prog 27 T0 3 = true := by kernel_rfl
set_option maxRecDepth 100000 in
set_option maxHeartbeats 1000000 in
theorem eqf_walk (ks ks' : List Ex) (hl : ks.length ≤ 9223372036854775807)
    (hk : ∀ (i : Nat) (h : i < ks.length) (h' : i < ks'.length) (G : Heap), VPure Tryz.prog 21 [.agg ks[i].cells, .agg ks'[i].cells] G (.bool (sameE ks[i] ks'[i]))) (G : Heap) :
    VPure Tryz.prog 27 [.sl 8 ks.length (exsC ks), .sl 8 ks'.length (exsC ks'), .func (.func 21) [] []] G (.bool (sameL ks ks')) := by
  refine VCalls.of (SOk.none _) mixed T0 okn27 fun hG => ?_
  by_cases c2 : ks.length = ks'.length
  case neg =>
    rw [sameL_len c2]
    have c2' : ¬(ks.length : Int) = (ks'.length : Int) := by omega
    simp (maxSteps := 1000000) -dsimp -implicitDefEqProofs only [↓eqD, eqU, eqV, eqW, vbuiltinQ, vlen, vslice, vindex, vstore, Int.reduceLE, Int.reduceLT, Nat.reduceBEq, ↓reduceIte, reduceCtorEq, Nat.reduceEqDiff, Nat.reduceAdd, Nat.reduceMul, Nat.reduceLT, Nat.reduceLeDiff, Nat.reduceAnd, Nat.reduceSub, Int.reduceToNat, Array.toList, fnWp_some Tryz.func27, Tryz.f27, T0, FB, none_at, c2', ne_eq]
    exact VDone.back hG (fun _ _ => rfl) rfl rfl
  have c2' : (ks.length : Int) = (ks'.length : Int) := by omega
  simp (maxSteps := 1000000) -dsimp -implicitDefEqProofs only [↓eqD, eqU, eqV, eqW, vbuiltinQ, vlen, vslice, vindex, vstore, Int.reduceLE, Int.reduceLT, Nat.reduceBEq, ↓reduceIte, reduceCtorEq, Nat.reduceEqDiff, Nat.reduceAdd, Nat.reduceMul, Nat.reduceLT, Nat.reduceLeDiff, Nat.reduceAnd, Nat.reduceSub, Int.reduceToNat, Array.toList, fnWp_some Tryz.func27, Tryz.f27, T0, FB, none_at, c2', ne_eq]
  refine vloop_by (fun x : Nat × Nat => x.1 ≤ ks.length ∧ G.next ≤ x.2 ∧ sameL ks ks' = sameL (ks.drop x.1) (ks'.drop x.1)) (fun x => Env.of [(0, .sl 8 ks.length (exsC ks)), (1, .sl 8 ks'.length (exsC ks')), (2, .func (.func 21) [] []), (15, .sl 8 ks.length (exsC ks)), (16, .int .i64 ks'.length), (17, .int .i64 x.1)]) (fun x => G.over x.2 []) (fun x => ks.length - x.1) (0, G.next) ?_ ?_ ?_
  · refine .of ?_ (.over hG ?_ ?_ ?_)
    · simp (maxSteps := 1000000) -dsimp -implicitDefEqProofs only [↓eqD, eqU, eqV, eqW, vbuiltinQ, vlen, vslice, vindex, vstore, Int.reduceLE, Int.reduceLT, Nat.reduceBEq, ↓reduceIte, reduceCtorEq, Nat.reduceEqDiff, Nat.reduceAdd, Nat.reduceMul, Nat.reduceLT, Nat.reduceLeDiff, Nat.reduceAnd, Nat.reduceSub, Int.reduceToNat, Array.toList]
      (repeat' apply And.intro) <;> exact .refl _
    · simp (maxSteps := 1000000) -dsimp -implicitDefEqProofs only [↓eqD, eqU, eqV, eqW, vbuiltinQ, vlen, vslice, vindex, vstore, Int.reduceLE, Int.reduceLT, Nat.reduceBEq, ↓reduceIte, reduceCtorEq, Nat.reduceEqDiff, Nat.reduceAdd, Nat.reduceMul, Nat.reduceLT, Nat.reduceLeDiff, Nat.reduceAnd, Nat.reduceSub, Int.reduceToNat, Array.toList]
    · simp (maxSteps := 1000000) -dsimp -implicitDefEqProofs only [↓eqD, eqU, eqV, eqW, vbuiltinQ, vlen, vslice, vindex, vstore, Int.reduceLE, Int.reduceLT, Nat.reduceBEq, ↓reduceIte, reduceCtorEq, Nat.reduceEqDiff, Nat.reduceAdd, Nat.reduceMul, Nat.reduceLT, Nat.reduceLeDiff, Nat.reduceAnd, Nat.reduceSub, Int.reduceToNat, Array.toList, FB]
    · intro j hj
      have hj : j < G.next := hj
      simp (maxSteps := 1000000) -dsimp -implicitDefEqProofs only [↓eqD, eqU, eqV, eqW, vbuiltinQ, vlen, vslice, vindex, vstore, Int.reduceLE, Int.reduceLT, Nat.reduceBEq, ↓reduceIte, reduceCtorEq, Nat.reduceEqDiff, Nat.reduceAdd, Nat.reduceMul, Nat.reduceLT, Nat.reduceLeDiff, Nat.reduceAnd, Nat.reduceSub, Int.reduceToNat, Array.toList, ltx_0 hj, gtx_0 hj, ltx_1 hj, gtx_1 hj, ltx_2 hj, gtx_2 hj, ltx_3 hj, gtx_3 hj, ltx_4 hj, gtx_4 hj, ltx_5 hj, gtx_5 hj]
  · exact ⟨Nat.zero_le _, Nat.le_refl _, rfl⟩
  · rintro ⟨i, n⟩ ⟨hle, hn, hI⟩
    simp only at hle hn hI ⊢
    by_cases hlt : i < ks.length
    · have hlt' : i < ks'.length := by omega
      have hx := exs_at hlt
      have hx' := exs_at hlt'
      have hs := same_at i hlt hlt' c2
      have k1 : (i : Int) < (ks'.length : Int) := by omega
      have k2 : 0 ≤ (i : Int) := by omega
      have k3 : (i : Int) < (ks.length : Int) := by omega
      have kw : IntKind.wrap .i64 ((i : Int) + 1) = ((i + 1 : Nat) : Int) := by rw [w64 (by omega) (by omega)]; rfl
      have w := hk i hlt hlt'
      generalize ks[i] = e1 at *
      generalize ks'[i] = e2 at *
      obtain ⟨k, b, m, s, t, lo, hi, l⟩ := e1
      obtain ⟨k', b', m', s', t', lo', hi', l'⟩ := e2
      have d1 := exsC_closed l
      have d2 := exsC_closed l'
      simp only [Ex.cells] at hx hx'
      simp (maxSteps := 1000000) -dsimp -implicitDefEqProofs only [↓eqD, eqU, eqV, eqW, vbuiltinQ, vlen, vslice, vindex, vstore, Int.reduceLE, Int.reduceLT, Nat.reduceBEq, ↓reduceIte, reduceCtorEq, Nat.reduceEqDiff, Nat.reduceAdd, Nat.reduceMul, Nat.reduceLT, Nat.reduceLeDiff, Nat.reduceAnd, Nat.reduceSub, Int.reduceToNat, Array.toList, T0, FB, none_at, k1, k2, k3, kw, hx, hx', d1, d2]
      refine VPure.calls (w _) ?_
      rw [hI, hs]
      by_cases se : sameE (.mk k b m s t lo hi l) (.mk k' b' m' s' t' lo' hi' l') = true
      · rw [se]
        simp (maxSteps := 1000000) -dsimp -implicitDefEqProofs only [↓eqD, eqU, eqV, eqW, vbuiltinQ, vlen, vslice, vindex, vstore, Int.reduceLE, Int.reduceLT, Nat.reduceBEq, ↓reduceIte, reduceCtorEq, Nat.reduceEqDiff, Nat.reduceAdd, Nat.reduceMul, Nat.reduceLT, Nat.reduceLeDiff, Nat.reduceAnd, Nat.reduceSub, Int.reduceToNat, Array.toList, T0, FB, none_at, kw]
        refine ⟨(i + 1, n + 1 + 1), ⟨by simp only; omega, by simp only; omega, rfl⟩, by simp only; omega, .of ?_ (.over hG ?_ ?_ ?_)⟩
        · simp (maxSteps := 1000000) -dsimp -implicitDefEqProofs only [↓eqD, eqU, eqV, eqW, vbuiltinQ, vlen, vslice, vindex, vstore, Int.reduceLE, Int.reduceLT, Nat.reduceBEq, ↓reduceIte, reduceCtorEq, Nat.reduceEqDiff, Nat.reduceAdd, Nat.reduceMul, Nat.reduceLT, Nat.reduceLeDiff, Nat.reduceAnd, Nat.reduceSub, Int.reduceToNat, Array.toList]
          (repeat' apply And.intro) <;> exact .refl _
        · simp (maxSteps := 1000000) -dsimp -implicitDefEqProofs only [↓eqD, eqU, eqV, eqW, vbuiltinQ, vlen, vslice, vindex, vstore, Int.reduceLE, Int.reduceLT, Nat.reduceBEq, ↓reduceIte, reduceCtorEq, Nat.reduceEqDiff, Nat.reduceAdd, Nat.reduceMul, Nat.reduceLT, Nat.reduceLeDiff, Nat.reduceAnd, Nat.reduceSub, Int.reduceToNat, Array.toList]
        · simp (maxSteps := 1000000) -dsimp -implicitDefEqProofs only [↓eqD, eqU, eqV, eqW, vbuiltinQ, vlen, vslice, vindex, vstore, Int.reduceLE, Int.reduceLT, Nat.reduceBEq, ↓reduceIte, reduceCtorEq, Nat.reduceEqDiff, Nat.reduceAdd, Nat.reduceMul, Nat.reduceLT, Nat.reduceLeDiff, Nat.reduceAnd, Nat.reduceSub, Int.reduceToNat, Array.toList, FB]
        · intro j hj
          have hj : j < G.next := hj
          have hj2 : j < n := by omega
          simp (maxSteps := 1000000) -dsimp -implicitDefEqProofs only [↓eqD, eqU, eqV, eqW, vbuiltinQ, vlen, vslice, vindex, vstore, Int.reduceLE, Int.reduceLT, Nat.reduceBEq, ↓reduceIte, reduceCtorEq, Nat.reduceEqDiff, Nat.reduceAdd, Nat.reduceMul, Nat.reduceLT, Nat.reduceLeDiff, Nat.reduceAnd, Nat.reduceSub, Int.reduceToNat, Array.toList, ltx_0 hj2, gtx_0 hj2, ltx_1 hj2, gtx_1 hj2, ltx_2 hj2, gtx_2 hj2, ltx_3 hj2, gtx_3 hj2, ltx_4 hj2, gtx_4 hj2, ltx_5 hj2, gtx_5 hj2]
      · have se : sameE (.mk k b m s t lo hi l) (.mk k' b' m' s' t' lo' hi' l') = false := by simpa using se
        rw [se]
        simp (maxSteps := 1000000) -dsimp -implicitDefEqProofs only [↓eqD, eqU, eqV, eqW, vbuiltinQ, vlen, vslice, vindex, vstore, Int.reduceLE, Int.reduceLT, Nat.reduceBEq, ↓reduceIte, reduceCtorEq, Nat.reduceEqDiff, Nat.reduceAdd, Nat.reduceMul, Nat.reduceLT, Nat.reduceLeDiff, Nat.reduceAnd, Nat.reduceSub, Int.reduceToNat, Array.toList, T0, FB, none_at]
        refine VDone.back hG ?_ rfl rfl
        intro j hj
        have hj2 : j < n := by omega
        simp (maxSteps := 1000000) -dsimp -implicitDefEqProofs only [↓eqD, eqU, eqV, eqW, vbuiltinQ, vlen, vslice, vindex, vstore, Int.reduceLE, Int.reduceLT, Nat.reduceBEq, ↓reduceIte, reduceCtorEq, Nat.reduceEqDiff, Nat.reduceAdd, Nat.reduceMul, Nat.reduceLT, Nat.reduceLeDiff, Nat.reduceAnd, Nat.reduceSub, Int.reduceToNat, Array.toList, ltx_0 hj2, gtx_0 hj2, ltx_1 hj2, gtx_1 hj2, ltx_2 hj2, gtx_2 hj2, ltx_3 hj2, gtx_3 hj2, ltx_4 hj2, gtx_4 hj2, ltx_5 hj2, gtx_5 hj2]
    · have k1 : ¬(i : Int) < (ks'.length : Int) := by omega
      have hs := same_out (l := ks) (l' := ks') (i := i) (by omega) c2
      rw [hI, hs]
      simp (maxSteps := 1000000) -dsimp -implicitDefEqProofs only [↓eqD, eqU, eqV, eqW, vbuiltinQ, vlen, vslice, vindex, vstore, Int.reduceLE, Int.reduceLT, Nat.reduceBEq, ↓reduceIte, reduceCtorEq, Nat.reduceEqDiff, Nat.reduceAdd, Nat.reduceMul, Nat.reduceLT, Nat.reduceLeDiff, Nat.reduceAnd, Nat.reduceSub, Int.reduceToNat, Array.toList, T0, FB, none_at, k1]
      refine VDone.back hG ?_ rfl rfl
      intro j hj; simp (maxSteps := 1000000) -dsimp -implicitDefEqProofs only [↓eqD, eqU, eqV, eqW, vbuiltinQ, vlen, vslice, vindex, vstore, Int.reduceLE, Int.reduceLT, Nat.reduceBEq, ↓reduceIte, reduceCtorEq, Nat.reduceEqDiff, Nat.reduceAdd, Nat.reduceMul, Nat.reduceLT, Nat.reduceLeDiff, Nat.reduceAnd, Nat.reduceSub, Int.reduceToNat, Array.toList, ltx_0 hj, gtx_0 hj, ltx_1 hj, gtx_1 hj, ltx_2 hj, gtx_2 hj, ltx_3 hj, gtx_3 hj, ltx_4 hj, gtx_4 hj, ltx_5 hj, gtx_5 hj]
theorem okn21 : fnOk Tryz.prog 21 T0 2 = true := by kernel_rfl
set_option maxRecDepth 100000 in
set_option maxHeartbeats 4000000 in
theorem fsame_walk0 (k : Int) (b : Bool) (m s : Int) (t : List UInt8) (lo hi : Bool) (ks : List Ex) (k' : Int) (b' : Bool) (m' s' : Int) (t' : List UInt8) (lo' hi' : Bool) (ks' : List Ex) (hl : ks.length ≤ 9223372036854775807)
    (hk : ∀ (i : Nat) (h : i < ks.length) (h' : i < ks'.length) (G : Heap), VPure Tryz.prog 21 [.agg ks[i].cells, .agg ks'[i].cells] G (.bool (sameE ks[i] ks'[i]))) (G : Heap) :
    VPure Tryz.prog 21 [.agg (Ex.mk k b m s t lo hi ks).cells, .agg (Ex.mk k' b' m' s' t' lo' hi' ks').cells] G (.bool (sameE (.mk k b m s t lo hi ks) (.mk k' b' m' s' t' lo' hi' ks'))) := by
  refine VCalls.of (SOk.none _) mixed T0 okn21 fun hG => ?_
  have d1 := exsC_closed ks
  have d2 := exsC_closed ks'
  have he : sameE (.mk k b m s t lo hi ks) (.mk k' b' m' s' t' lo' hi' ks') = (decide (k = k') && (sameL ks ks' && headE k b b' m s m' s' t t' lo lo' hi hi')) := by
    rw [sameE]
    by_cases c1 : k = k'
    · by_cases c2 : ks.length = ks'.length
      · rw [if_pos ⟨c1, c2⟩, Bool.and_comm]; simp [c1]
      · rw [if_neg (fun h => c2 h.2), sameL_len c2]; simp
    · rw [if_neg (fun h => c1 h.1)]; simp [c1]
  rw [he]
  by_cases c1 : k = k'
  case neg =>
    simp (maxSteps := 1000000) -dsimp -implicitDefEqProofs only [↓eqD, eqU, eqV, eqW, vbuiltinQ, vlen, vslice, vindex, vstore, Int.reduceLE, Int.reduceLT, Nat.reduceBEq, ↓reduceIte, reduceCtorEq, Nat.reduceEqDiff, Nat.reduceAdd, Nat.reduceMul, Nat.reduceLT, Nat.reduceLeDiff, Nat.reduceAnd, Nat.reduceSub, Int.reduceToNat, Array.toList, fnWp_some Tryz.func21, Tryz.f21, T0, FB, none_at, Ex.cells, d1, d2, ne_eq, Int.reduceEq, k23, ag23, c23, i23, z23, veqK, veq1, vtag, Bool.and_eq_true, decide_eq_true_eq, c1]
    refine VDone.back hG ?_ rfl rfl
    intro j hj; simp (maxSteps := 1000000) -dsimp -implicitDefEqProofs only [↓eqD, eqU, eqV, eqW, vbuiltinQ, vlen, vslice, vindex, vstore, Int.reduceLE, Int.reduceLT, Nat.reduceBEq, ↓reduceIte, reduceCtorEq, Nat.reduceEqDiff, Nat.reduceAdd, Nat.reduceMul, Nat.reduceLT, Nat.reduceLeDiff, Nat.reduceAnd, Nat.reduceSub, Int.reduceToNat, Array.toList, ltx_0 hj, gtx_0 hj, ltx_1 hj, gtx_1 hj, ltx_2 hj, gtx_2 hj, ltx_3 hj, gtx_3 hj, ltx_4 hj, gtx_4 hj, ltx_5 hj, gtx_5 hj]
  subst c1
  simp (maxSteps := 1000000) -dsimp -implicitDefEqProofs only [↓eqD, eqU, eqV, eqW, vbuiltinQ, vlen, vslice, vindex, vstore, Int.reduceLE, Int.reduceLT, Nat.reduceBEq, ↓reduceIte, reduceCtorEq, Nat.reduceEqDiff, Nat.reduceAdd, Nat.reduceMul, Nat.reduceLT, Nat.reduceLeDiff, Nat.reduceAnd, Nat.reduceSub, Int.reduceToNat, Array.toList, fnWp_some Tryz.func21, Tryz.f21, T0, FB, none_at, Ex.cells, d1, d2, ne_eq, Int.reduceEq, k23, ag23, c23, i23, z23, veqK, veq1, vtag, Bool.and_eq_true, decide_eq_true_eq]
  refine VPure.calls (eqf_walk ks ks' hl hk _) ?_
  cases hs : sameL ks ks'
  · simp (maxSteps := 1000000) -dsimp -implicitDefEqProofs only [↓eqD, eqU, eqV, eqW, vbuiltinQ, vlen, vslice, vindex, vstore, Int.reduceLE, Int.reduceLT, Nat.reduceBEq, ↓reduceIte, reduceCtorEq, Nat.reduceEqDiff, Nat.reduceAdd, Nat.reduceMul, Nat.reduceLT, Nat.reduceLeDiff, Nat.reduceAnd, Nat.reduceSub, Int.reduceToNat, Array.toList, T0, FB, none_at, Ex.cells, d1, d2, ne_eq, Int.reduceEq, k23, ag23, c23, i23, z23, veqK, veq1, vtag, Bool.and_eq_true, decide_eq_true_eq]
    refine VDone.back hG ?_ rfl rfl
    intro j hj; simp (maxSteps := 1000000) -dsimp -implicitDefEqProofs only [↓eqD, eqU, eqV, eqW, vbuiltinQ, vlen, vslice, vindex, vstore, Int.reduceLE, Int.reduceLT, Nat.reduceBEq, ↓reduceIte, reduceCtorEq, Nat.reduceEqDiff, Nat.reduceAdd, Nat.reduceMul, Nat.reduceLT, Nat.reduceLeDiff, Nat.reduceAnd, Nat.reduceSub, Int.reduceToNat, Array.toList, ltx_0 hj, gtx_0 hj, ltx_1 hj, gtx_1 hj, ltx_2 hj, gtx_2 hj, ltx_3 hj, gtx_3 hj, ltx_4 hj, gtx_4 hj, ltx_5 hj, gtx_5 hj]
  · skip
    by_cases q2 : k = 2
    · subst q2
      have hh : headE 2 b b' m s m' s' t t' lo lo' hi hi' = decide (b = b') := by unfold headE; simp
      rw [hh]
      simp (maxSteps := 1000000) -dsimp -implicitDefEqProofs only [↓eqD, eqU, eqV, eqW, vbuiltinQ, vlen, vslice, vindex, vstore, Int.reduceLE, Int.reduceLT, Nat.reduceBEq, ↓reduceIte, reduceCtorEq, Nat.reduceEqDiff, Nat.reduceAdd, Nat.reduceMul, Nat.reduceLT, Nat.reduceLeDiff, Nat.reduceAnd, Nat.reduceSub, Int.reduceToNat, Array.toList, T0, FB, none_at, Ex.cells, d1, d2, ne_eq, Int.reduceEq, k23, ag23, c23, i23, z23, veqK, veq1, vtag, Bool.and_eq_true, decide_eq_true_eq]
      refine VDone.back hG ?_ rfl rfl
      intro j hj; simp (maxSteps := 1000000) -dsimp -implicitDefEqProofs only [↓eqD, eqU, eqV, eqW, vbuiltinQ, vlen, vslice, vindex, vstore, Int.reduceLE, Int.reduceLT, Nat.reduceBEq, ↓reduceIte, reduceCtorEq, Nat.reduceEqDiff, Nat.reduceAdd, Nat.reduceMul, Nat.reduceLT, Nat.reduceLeDiff, Nat.reduceAnd, Nat.reduceSub, Int.reduceToNat, Array.toList, ltx_0 hj, gtx_0 hj, ltx_1 hj, gtx_1 hj, ltx_2 hj, gtx_2 hj, ltx_3 hj, gtx_3 hj, ltx_4 hj, gtx_4 hj, ltx_5 hj, gtx_5 hj]
    by_cases q3 : k = 3
    · subst q3
      have hh : headE 3 b b' m s m' s' t t' lo lo' hi hi' = (decide (m = m') && decide (s = s')) := by unfold headE; simp
      rw [hh]
      simp (maxSteps := 1000000) -dsimp -implicitDefEqProofs only [↓eqD, eqU, eqV, eqW, vbuiltinQ, vlen, vslice, vindex, vstore, Int.reduceLE, Int.reduceLT, Nat.reduceBEq, ↓reduceIte, reduceCtorEq, Nat.reduceEqDiff, Nat.reduceAdd, Nat.reduceMul, Nat.reduceLT, Nat.reduceLeDiff, Nat.reduceAnd, Nat.reduceSub, Int.reduceToNat, Array.toList, T0, FB, none_at, Ex.cells, d1, d2, ne_eq, Int.reduceEq, k23, ag23, c23, i23, z23, veqK, veq1, vtag, Bool.and_eq_true, decide_eq_true_eq]
      refine VDone.back hG ?_ rfl rfl
      intro j hj; simp (maxSteps := 1000000) -dsimp -implicitDefEqProofs only [↓eqD, eqU, eqV, eqW, vbuiltinQ, vlen, vslice, vindex, vstore, Int.reduceLE, Int.reduceLT, Nat.reduceBEq, ↓reduceIte, reduceCtorEq, Nat.reduceEqDiff, Nat.reduceAdd, Nat.reduceMul, Nat.reduceLT, Nat.reduceLeDiff, Nat.reduceAnd, Nat.reduceSub, Int.reduceToNat, Array.toList, ltx_0 hj, gtx_0 hj, ltx_1 hj, gtx_1 hj, ltx_2 hj, gtx_2 hj, ltx_3 hj, gtx_3 hj, ltx_4 hj, gtx_4 hj, ltx_5 hj, gtx_5 hj]
    by_cases q4 : k = 4
    · subst q4
      have hh : headE 4 b b' m s m' s' t t' lo lo' hi hi' = decide (t = t') := by unfold headE; simp
      rw [hh]
      simp (maxSteps := 1000000) -dsimp -implicitDefEqProofs only [↓eqD, eqU, eqV, eqW, vbuiltinQ, vlen, vslice, vindex, vstore, Int.reduceLE, Int.reduceLT, Nat.reduceBEq, ↓reduceIte, reduceCtorEq, Nat.reduceEqDiff, Nat.reduceAdd, Nat.reduceMul, Nat.reduceLT, Nat.reduceLeDiff, Nat.reduceAnd, Nat.reduceSub, Int.reduceToNat, Array.toList, T0, FB, none_at, Ex.cells, d1, d2, ne_eq, Int.reduceEq, k23, ag23, c23, i23, z23, veqK, veq1, vtag, Bool.and_eq_true, decide_eq_true_eq]
      refine VDone.back hG ?_ rfl rfl
      intro j hj; simp (maxSteps := 1000000) -dsimp -implicitDefEqProofs only [↓eqD, eqU, eqV, eqW, vbuiltinQ, vlen, vslice, vindex, vstore, Int.reduceLE, Int.reduceLT, Nat.reduceBEq, ↓reduceIte, reduceCtorEq, Nat.reduceEqDiff, Nat.reduceAdd, Nat.reduceMul, Nat.reduceLT, Nat.reduceLeDiff, Nat.reduceAnd, Nat.reduceSub, Int.reduceToNat, Array.toList, ltx_0 hj, gtx_0 hj, ltx_1 hj, gtx_1 hj, ltx_2 hj, gtx_2 hj, ltx_3 hj, gtx_3 hj, ltx_4 hj, gtx_4 hj, ltx_5 hj, gtx_5 hj]
    by_cases q5 : k = 5
    · subst q5
      have hh : headE 5 b b' m s m' s' t t' lo lo' hi hi' = decide (t = t') := by unfold headE; simp
      rw [hh]
      simp (maxSteps := 1000000) -dsimp -implicitDefEqProofs only [↓eqD, eqU, eqV, eqW, vbuiltinQ, vlen, vslice, vindex, vstore, Int.reduceLE, Int.reduceLT, Nat.reduceBEq, ↓reduceIte, reduceCtorEq, Nat.reduceEqDiff, Nat.reduceAdd, Nat.reduceMul, Nat.reduceLT, Nat.reduceLeDiff, Nat.reduceAnd, Nat.reduceSub, Int.reduceToNat, Array.toList, T0, FB, none_at, Ex.cells, d1, d2, ne_eq, Int.reduceEq, k23, ag23, c23, i23, z23, veqK, veq1, vtag, Bool.and_eq_true, decide_eq_true_eq]
      refine VDone.back hG ?_ rfl rfl
      intro j hj; simp (maxSteps := 1000000) -dsimp -implicitDefEqProofs only [↓eqD, eqU, eqV, eqW, vbuiltinQ, vlen, vslice, vindex, vstore, Int.reduceLE, Int.reduceLT, Nat.reduceBEq, ↓reduceIte, reduceCtorEq, Nat.reduceEqDiff, Nat.reduceAdd, Nat.reduceMul, Nat.reduceLT, Nat.reduceLeDiff, Nat.reduceAnd, Nat.reduceSub, Int.reduceToNat, Array.toList, ltx_0 hj, gtx_0 hj, ltx_1 hj, gtx_1 hj, ltx_2 hj, gtx_2 hj, ltx_3 hj, gtx_3 hj, ltx_4 hj, gtx_4 hj, ltx_5 hj, gtx_5 hj]
    by_cases q6 : k = 6
    · subst q6
      have hh : headE 6 b b' m s m' s' t t' lo lo' hi hi' = decide (t = t') := by unfold headE; simp
      rw [hh]
      simp (maxSteps := 1000000) -dsimp -implicitDefEqProofs only [↓eqD, eqU, eqV, eqW, vbuiltinQ, vlen, vslice, vindex, vstore, Int.reduceLE, Int.reduceLT, Nat.reduceBEq, ↓reduceIte, reduceCtorEq, Nat.reduceEqDiff, Nat.reduceAdd, Nat.reduceMul, Nat.reduceLT, Nat.reduceLeDiff, Nat.reduceAnd, Nat.reduceSub, Int.reduceToNat, Array.toList, T0, FB, none_at, Ex.cells, d1, d2, ne_eq, Int.reduceEq, k23, ag23, c23, i23, z23, veqK, veq1, vtag, Bool.and_eq_true, decide_eq_true_eq]
      refine VDone.back hG ?_ rfl rfl
      intro j hj; simp (maxSteps := 1000000) -dsimp -implicitDefEqProofs only [↓eqD, eqU, eqV, eqW, vbuiltinQ, vlen, vslice, vindex, vstore, Int.reduceLE, Int.reduceLT, Nat.reduceBEq, ↓reduceIte, reduceCtorEq, Nat.reduceEqDiff, Nat.reduceAdd, Nat.reduceMul, Nat.reduceLT, Nat.reduceLeDiff, Nat.reduceAnd, Nat.reduceSub, Int.reduceToNat, Array.toList, ltx_0 hj, gtx_0 hj, ltx_1 hj, gtx_1 hj, ltx_2 hj, gtx_2 hj, ltx_3 hj, gtx_3 hj, ltx_4 hj, gtx_4 hj, ltx_5 hj, gtx_5 hj]
    by_cases q10 : k = 10
    · subst q10
      have hh : headE 10 b b' m s m' s' t t' lo lo' hi hi' = decide (t = t') := by unfold headE; simp
      rw [hh]
      simp (maxSteps := 1000000) -dsimp -implicitDefEqProofs only [↓eqD, eqU, eqV, eqW, vbuiltinQ, vlen, vslice, vindex, vstore, Int.reduceLE, Int.reduceLT, Nat.reduceBEq, ↓reduceIte, reduceCtorEq, Nat.reduceEqDiff, Nat.reduceAdd, Nat.reduceMul, Nat.reduceLT, Nat.reduceLeDiff, Nat.reduceAnd, Nat.reduceSub, Int.reduceToNat, Array.toList, T0, FB, none_at, Ex.cells, d1, d2, ne_eq, Int.reduceEq, k23, ag23, c23, i23, z23, veqK, veq1, vtag, Bool.and_eq_true, decide_eq_true_eq]
      refine VDone.back hG ?_ rfl rfl
      intro j hj; simp (maxSteps := 1000000) -dsimp -implicitDefEqProofs only [↓eqD, eqU, eqV, eqW, vbuiltinQ, vlen, vslice, vindex, vstore, Int.reduceLE, Int.reduceLT, Nat.reduceBEq, ↓reduceIte, reduceCtorEq, Nat.reduceEqDiff, Nat.reduceAdd, Nat.reduceMul, Nat.reduceLT, Nat.reduceLeDiff, Nat.reduceAnd, Nat.reduceSub, Int.reduceToNat, Array.toList, ltx_0 hj, gtx_0 hj, ltx_1 hj, gtx_1 hj, ltx_2 hj, gtx_2 hj, ltx_3 hj, gtx_3 hj, ltx_4 hj, gtx_4 hj, ltx_5 hj, gtx_5 hj]
    by_cases q11 : k = 11
    · subst q11
      have hh : headE 11 b b' m s m' s' t t' lo lo' hi hi' = (decide (lo = lo') && decide (hi = hi')) := by unfold headE; simp
      rw [hh]
      by_cases e : lo = lo'
      · simp (maxSteps := 1000000) -dsimp -implicitDefEqProofs only [↓eqD, eqU, eqV, eqW, vbuiltinQ, vlen, vslice, vindex, vstore, Int.reduceLE, Int.reduceLT, Nat.reduceBEq, ↓reduceIte, reduceCtorEq, Nat.reduceEqDiff, Nat.reduceAdd, Nat.reduceMul, Nat.reduceLT, Nat.reduceLeDiff, Nat.reduceAnd, Nat.reduceSub, Int.reduceToNat, Array.toList, T0, FB, none_at, Ex.cells, d1, d2, ne_eq, Int.reduceEq, k23, ag23, c23, i23, z23, veqK, veq1, vtag, Bool.and_eq_true, decide_eq_true_eq, e]
        refine VDone.back hG ?_ rfl rfl
        intro j hj; simp (maxSteps := 1000000) -dsimp -implicitDefEqProofs only [↓eqD, eqU, eqV, eqW, vbuiltinQ, vlen, vslice, vindex, vstore, Int.reduceLE, Int.reduceLT, Nat.reduceBEq, ↓reduceIte, reduceCtorEq, Nat.reduceEqDiff, Nat.reduceAdd, Nat.reduceMul, Nat.reduceLT, Nat.reduceLeDiff, Nat.reduceAnd, Nat.reduceSub, Int.reduceToNat, Array.toList, ltx_0 hj, gtx_0 hj, ltx_1 hj, gtx_1 hj, ltx_2 hj, gtx_2 hj, ltx_3 hj, gtx_3 hj, ltx_4 hj, gtx_4 hj, ltx_5 hj, gtx_5 hj]
      · simp (maxSteps := 1000000) -dsimp -implicitDefEqProofs only [↓eqD, eqU, eqV, eqW, vbuiltinQ, vlen, vslice, vindex, vstore, Int.reduceLE, Int.reduceLT, Nat.reduceBEq, ↓reduceIte, reduceCtorEq, Nat.reduceEqDiff, Nat.reduceAdd, Nat.reduceMul, Nat.reduceLT, Nat.reduceLeDiff, Nat.reduceAnd, Nat.reduceSub, Int.reduceToNat, Array.toList, T0, FB, none_at, Ex.cells, d1, d2, ne_eq, Int.reduceEq, k23, ag23, c23, i23, z23, veqK, veq1, vtag, Bool.and_eq_true, decide_eq_true_eq, e]
        refine VDone.back hG ?_ rfl rfl
        intro j hj; simp (maxSteps := 1000000) -dsimp -implicitDefEqProofs only [↓eqD, eqU, eqV, eqW, vbuiltinQ, vlen, vslice, vindex, vstore, Int.reduceLE, Int.reduceLT, Nat.reduceBEq, ↓reduceIte, reduceCtorEq, Nat.reduceEqDiff, Nat.reduceAdd, Nat.reduceMul, Nat.reduceLT, Nat.reduceLeDiff, Nat.reduceAnd, Nat.reduceSub, Int.reduceToNat, Array.toList, ltx_0 hj, gtx_0 hj, ltx_1 hj, gtx_1 hj, ltx_2 hj, gtx_2 hj, ltx_3 hj, gtx_3 hj, ltx_4 hj, gtx_4 hj, ltx_5 hj, gtx_5 hj]
    have hh : headE k b b' m s m' s' t t' lo lo' hi hi' = true := by unfold headE; simp [q2, q3, q4, q5, q6, q10, q11]
    rw [hh]
    simp (maxSteps := 1000000) -dsimp -implicitDefEqProofs only [↓eqD, eqU, eqV, eqW, vbuiltinQ, vlen, vslice, vindex, vstore, Int.reduceLE, Int.reduceLT, Nat.reduceBEq, ↓reduceIte, reduceCtorEq, Nat.reduceEqDiff, Nat.reduceAdd, Nat.reduceMul, Nat.reduceLT, Nat.reduceLeDiff, Nat.reduceAnd, Nat.reduceSub, Int.reduceToNat, Array.toList, T0, FB, none_at, Ex.cells, d1, d2, ne_eq, Int.reduceEq, k23, ag23, c23, i23, z23, veqK, veq1, vtag, Bool.and_eq_true, decide_eq_true_eq, q2, q3, q4, q5, q6, q10, q11]
    refine VDone.back hG ?_ rfl rfl
    intro j hj; simp (maxSteps := 1000000) -dsimp -implicitDefEqProofs only [↓eqD, eqU, eqV, eqW, vbuiltinQ, vlen, vslice, vindex, vstore, Int.reduceLE, Int.reduceLT, Nat.reduceBEq, ↓reduceIte, reduceCtorEq, Nat.reduceEqDiff, Nat.reduceAdd, Nat.reduceMul, Nat.reduceLT, Nat.reduceLeDiff, Nat.reduceAnd, Nat.reduceSub, Int.reduceToNat, Array.toList, ltx_0 hj, gtx_0 hj, ltx_1 hj, gtx_1 hj, ltx_2 hj, gtx_2 hj, ltx_3 hj, gtx_3 hj, ltx_4 hj, gtx_4 hj, ltx_5 hj, gtx_5 hj]
mutual
theorem fsame_walk : ∀ (a b : Ex), fitE a → ∀ G, VPure Tryz.prog 21 [.agg a.cells, .agg b.cells] G (.bool (sameE a b))
  | .mk k b m s t lo hi ks, .mk k' b' m' s' t' lo' hi' ks', h, G => by
    rw [fitE] at h
    exact fsame_walk0 k b m s t lo hi ks k' b' m' s' t' lo' hi' ks' h.1 (fun i h1 h2 G => fsames_walk ks h.2 i h1 _ G) G
theorem fsames_walk : ∀ (l : List Ex), fitL l → ∀ (i : Nat) (h : i < l.length) (b : Ex) (G : Heap), VPure Tryz.prog 21 [.agg l[i].cells, .agg b.cells] G (.bool (sameE l[i] b))
  | a :: r, hs, 0, _, b, G => by rw [fitL] at hs; exact fsame_walk a b hs.1 G
  | a :: r, hs, i + 1, h, b, G => by rw [fitL] at hs; exact fsames_walk r hs.2 i (by simpa using h) b G
end
end Go.Vf
