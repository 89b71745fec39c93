/- Whether two expressions are one: the document's Same, walked. -/
import Derived.Test.YtfkojpljgafieaaGreatDoorNG
import Derived.Test.YtfkojpljgafieaaGreatDoorPA
import Derived.Test.YtfkojpljgafieaaGreatDoorOH
set_option linter.unusedVariables false
set_option linter.unusedSimpArgs false
namespace Go.Vf
open Go.Proofs Go.RowKit

theorem take8 (e : Ex) : List.take 8 e.cells = e.cells := by rw [List.take_of_length_le]; have := e.cells_len; omega
def headE (k : Int) (b b' : Bool) (m s m' s' : Int) (t t' : List UInt8) (lo lo' hi hi' : Bool) : Bool :=
  if k = 2 then decide (b = b') else if k = 3 then decide (m = m') && decide (s = s')
  else if k = 4 ∨ k = 5 ∨ k = 6 ∨ k = 10 then decide (t = t') else if k = 11 then decide (lo = lo') && decide (hi = hi') else true
mutual
def sameE : Ex → Ex → Bool
  | .mk k b m s t lo hi ks, .mk k' b' m' s' t' lo' hi' ks' => if k = k' ∧ ks.length = ks'.length then headE k b b' m s m' s' t t' lo lo' hi hi' && sameL ks ks' else false
def sameL : List Ex → List Ex → Bool
  | [], [] => true
  | a :: r, b :: r' => sameE a b && sameL r r'
  | _, _ => false
end
theorem exs_at : ∀ {l : List Ex} {i : Nat} (h : i < l.length), velem 8 (exsC l) i = l[i].cells
  | e :: r, 0, _ => by
    unfold velem
    rw [exsC, Nat.zero_mul, List.drop_zero]
    have := e.cells_len
    rw [← this, List.take_left]; rfl
  | e :: r, i + 1, h => by
    have := exs_at (l := r) (i := i) (by simpa using h)
    unfold velem at this ⊢
    have hl := e.cells_len
    have hd : ((i + 1) * 8) = e.cells.length + i * 8 := by omega
    rw [exsC, hd, ← List.drop_drop, List.drop_left, this]; rfl
theorem same_at : ∀ {l l' : List Ex} (i : Nat) (h : i < l.length) (h' : i < l'.length), l.length = l'.length → sameL (l.drop i) (l'.drop i) = (sameE l[i] l'[i] && sameL (l.drop (i + 1)) (l'.drop (i + 1)))
  | a :: r, b :: r', 0, _, _, _ => by simp [sameL]
  | a :: r, b :: r', i + 1, h, h', hl => by
    have := same_at (l := r) (l' := r') i (by simpa using h) (by simpa using h') (by simpa using hl)
    simpa using this
theorem same_out {l l' : List Ex} {i : Nat} (h : l.length ≤ i) (hl : l.length = l'.length) : sameL (l.drop i) (l'.drop i) = true := by
  rw [List.drop_of_length_le h, List.drop_of_length_le (by omega)]; rfl
def T13 : Tab := ⟨fun id => if id = 22 then ([0, 1, 2, 3, 4, 5, 6, 7, 8, 9, 10, 11], []) else ([], []), fun _ => false⟩
theorem T13_ord (id : Nat) : T13.ord id = if id = 22 then ([0, 1, 2, 3, 4, 5, 6, 7, 8, 9, 10, 11], []) else ([], []) := rfl
theorem T13_ghost (id : Nat) : T13.ghost id = false := rfl
theorem k23 : tkinds Tryz.prog 8 23 = some [1, 1] := by kernel_rfl
theorem okn13 : fnOk Tryz.prog 13 T13 2 = true := by kernel_rfl
set_option maxRecDepth 100000 in
set_option maxHeartbeats 4000000 in
theorem same_walk0 (k : Int) (b : Bool) (m s : Int) (t : List UInt8) (lo hi : Bool) (ks : List Ex) (k' : Int) (b' : Bool) (m' s' : Int) (t' : List UInt8) (lo' hi' : Bool) (ks' : List Ex) (hl : ks.length ≤ 9223372036854775807)
    (hk : ∀ (i : Nat) (h : i < ks.length) (h' : i < ks'.length) (G : Heap), VPure Tryz.prog 13 [.agg ks[i].cells, .agg ks'[i].cells] G (.bool (sameE ks[i] ks'[i]))) (G : Heap) :
    VPure Tryz.prog 13 [.agg (Ex.mk k b m s t lo hi ks).cells, .agg (Ex.mk k' b' m' s' t' lo' hi' ks').cells] G (.bool (sameE (.mk k b m s t lo hi ks) (.mk k' b' m' s' t' lo' hi' ks'))) := by
  refine VCalls.of (SOk.none _) mixed T13 okn13 fun hG => ?_
  have d1 := exsC_closed ks
  have d2 := exsC_closed ks'
  rw [sameE]
  by_cases c1 : k = k'
  case neg =>
    rw [if_neg (fun h => c1 h.1)]
    simp (maxSteps := 1000000) -dsimp -implicitDefEqProofs only [↓eqD, eqU, eqV, eqW, vbuiltinQ, vlen, vslice, vindex, vstore, Int.reduceLE, Int.reduceLT, Nat.reduceBEq, ↓reduceIte, reduceCtorEq, Nat.reduceEqDiff, Nat.reduceAdd, Nat.reduceMul, Nat.reduceLT, Nat.reduceLeDiff, Nat.reduceAnd, Nat.reduceSub, Int.reduceToNat, Array.toList, fnWp_some Tryz.func13, Tryz.f13, T13_ord, T13_ghost, FB, none_at, Ex.cells, d1, d2, ne_eq, Int.reduceEq, k23, ag23, c23, i23, z23, veqK, veq1, vtag, Bool.and_eq_true, decide_eq_true_eq, c1]
    refine VDone.back hG ?_ rfl rfl
    intro j hj; simp (maxSteps := 1000000) -dsimp -implicitDefEqProofs only [↓eqD, eqU, eqV, eqW, vbuiltinQ, vlen, vslice, vindex, vstore, Int.reduceLE, Int.reduceLT, Nat.reduceBEq, ↓reduceIte, reduceCtorEq, Nat.reduceEqDiff, Nat.reduceAdd, Nat.reduceMul, Nat.reduceLT, Nat.reduceLeDiff, Nat.reduceAnd, Nat.reduceSub, Int.reduceToNat, Array.toList, ltx_0 hj, gtx_0 hj, ltx_1 hj, gtx_1 hj, ltx_2 hj, gtx_2 hj, ltx_3 hj, gtx_3 hj, ltx_4 hj, gtx_4 hj, ltx_5 hj, gtx_5 hj]
  subst c1
  by_cases c2 : ks.length = ks'.length
  case neg =>
    rw [if_neg (fun h => c2 h.2)]
    have c2' : ¬(ks.length : Int) = (ks'.length : Int) := by omega
    simp (maxSteps := 1000000) -dsimp -implicitDefEqProofs only [↓eqD, eqU, eqV, eqW, vbuiltinQ, vlen, vslice, vindex, vstore, Int.reduceLE, Int.reduceLT, Nat.reduceBEq, ↓reduceIte, reduceCtorEq, Nat.reduceEqDiff, Nat.reduceAdd, Nat.reduceMul, Nat.reduceLT, Nat.reduceLeDiff, Nat.reduceAnd, Nat.reduceSub, Int.reduceToNat, Array.toList, fnWp_some Tryz.func13, Tryz.f13, T13_ord, T13_ghost, FB, none_at, Ex.cells, d1, d2, ne_eq, Int.reduceEq, k23, ag23, c23, i23, z23, veqK, veq1, vtag, Bool.and_eq_true, decide_eq_true_eq, c2']
    refine VDone.back hG ?_ rfl rfl
    intro j hj; simp (maxSteps := 1000000) -dsimp -implicitDefEqProofs only [↓eqD, eqU, eqV, eqW, vbuiltinQ, vlen, vslice, vindex, vstore, Int.reduceLE, Int.reduceLT, Nat.reduceBEq, ↓reduceIte, reduceCtorEq, Nat.reduceEqDiff, Nat.reduceAdd, Nat.reduceMul, Nat.reduceLT, Nat.reduceLeDiff, Nat.reduceAnd, Nat.reduceSub, Int.reduceToNat, Array.toList, ltx_0 hj, gtx_0 hj, ltx_1 hj, gtx_1 hj, ltx_2 hj, gtx_2 hj, ltx_3 hj, gtx_3 hj, ltx_4 hj, gtx_4 hj, ltx_5 hj, gtx_5 hj]
  rw [if_pos ⟨rfl, c2⟩]
  have c2' : (ks.length : Int) = (ks'.length : Int) := by omega
  by_cases q2 : k = 2
  · subst q2
    by_cases e : b = b'
    · subst e
      have hh : headE 2 b b m s m' s' t t' lo lo' hi hi' = true := by unfold headE; simp
      rw [hh, Bool.true_and]
      simp (maxSteps := 1000000) -dsimp -implicitDefEqProofs only [↓eqD, eqU, eqV, eqW, vbuiltinQ, vlen, vslice, vindex, vstore, Int.reduceLE, Int.reduceLT, Nat.reduceBEq, ↓reduceIte, reduceCtorEq, Nat.reduceEqDiff, Nat.reduceAdd, Nat.reduceMul, Nat.reduceLT, Nat.reduceLeDiff, Nat.reduceAnd, Nat.reduceSub, Int.reduceToNat, Array.toList, fnWp_some Tryz.func13, Tryz.f13, T13_ord, T13_ghost, FB, none_at, Ex.cells, d1, d2, ne_eq, Int.reduceEq, k23, ag23, c23, i23, z23, veqK, veq1, vtag, Bool.and_eq_true, decide_eq_true_eq, c2']
      refine vloop_by (fun i : Nat => i ≤ ks.length ∧ sameL ks ks' = sameL (ks.drop i) (ks'.drop i)) (fun i => Env.of [(2, .ptr G.next 0 0), (3, .ptr (G.next + 1) 0 0), (5, .int .i64 i)]) (fun _ => G.over (G.next + 2) [(G.next, .cells 0 [.int .i64 2, .bool b, .int .i64 m, .int .i64 s, .str t, .bool lo, .bool hi, .sl 8 ks.length (exsC ks)]), (G.next + 1, .cells 0 [.int .i64 2, .bool b, .int .i64 m', .int .i64 s', .str t', .bool lo', .bool hi', .sl 8 ks'.length (exsC ks')])]) (fun i => ks.length - i) 0 ?_ ?_ ?_
      · refine .of ?_ (.over hG ?_ ?_ ?_)
        · simp (maxSteps := 1000000) -dsimp -implicitDefEqProofs only [↓eqD, eqU, eqV, eqW, vbuiltinQ, vlen, vslice, vindex, vstore, Int.reduceLE, Int.reduceLT, Nat.reduceBEq, ↓reduceIte, reduceCtorEq, Nat.reduceEqDiff, Nat.reduceAdd, Nat.reduceMul, Nat.reduceLT, Nat.reduceLeDiff, Nat.reduceAnd, Nat.reduceSub, Int.reduceToNat, Array.toList]
          (repeat' apply And.intro) <;> exact .refl _
        · simp (maxSteps := 1000000) -dsimp -implicitDefEqProofs only [↓eqD, eqU, eqV, eqW, vbuiltinQ, vlen, vslice, vindex, vstore, Int.reduceLE, Int.reduceLT, Nat.reduceBEq, ↓reduceIte, reduceCtorEq, Nat.reduceEqDiff, Nat.reduceAdd, Nat.reduceMul, Nat.reduceLT, Nat.reduceLeDiff, Nat.reduceAnd, Nat.reduceSub, Int.reduceToNat, Array.toList]
        · simp (maxSteps := 1000000) -dsimp -implicitDefEqProofs only [↓eqD, eqU, eqV, eqW, vbuiltinQ, vlen, vslice, vindex, vstore, Int.reduceLE, Int.reduceLT, Nat.reduceBEq, ↓reduceIte, reduceCtorEq, Nat.reduceEqDiff, Nat.reduceAdd, Nat.reduceMul, Nat.reduceLT, Nat.reduceLeDiff, Nat.reduceAnd, Nat.reduceSub, Int.reduceToNat, Array.toList, FB]
        · intro j hj
          have hj : j < G.next := hj
          simp (maxSteps := 1000000) -dsimp -implicitDefEqProofs only [↓eqD, eqU, eqV, eqW, vbuiltinQ, vlen, vslice, vindex, vstore, Int.reduceLE, Int.reduceLT, Nat.reduceBEq, ↓reduceIte, reduceCtorEq, Nat.reduceEqDiff, Nat.reduceAdd, Nat.reduceMul, Nat.reduceLT, Nat.reduceLeDiff, Nat.reduceAnd, Nat.reduceSub, Int.reduceToNat, Array.toList, ltx_0 hj, gtx_0 hj, ltx_1 hj, gtx_1 hj, ltx_2 hj, gtx_2 hj, ltx_3 hj, gtx_3 hj, ltx_4 hj, gtx_4 hj, ltx_5 hj, gtx_5 hj]
      · exact ⟨Nat.zero_le _, rfl⟩
      · intro i ⟨hle, hI⟩
        by_cases hlt : i < ks.length
        · have hlt' : i < ks'.length := by omega
          have hx := exs_at hlt
          have hx' := exs_at hlt'
          have hs := same_at i hlt hlt' c2
          have k1 : (i : Int) < (ks.length : Int) := by omega
          have k2 : 0 ≤ (i : Int) := by omega
          have k3 : (i : Int) < (ks'.length : Int) := by omega
          have kw : IntKind.wrap .i64 ((i : Int) + 1) = ((i + 1 : Nat) : Int) := by rw [w64 (by omega) (by omega)]; rfl
          simp (maxSteps := 1000000) -dsimp -implicitDefEqProofs only [↓eqD, eqU, eqV, eqW, vbuiltinQ, vlen, vslice, vindex, vstore, Int.reduceLE, Int.reduceLT, Nat.reduceBEq, ↓reduceIte, reduceCtorEq, Nat.reduceEqDiff, Nat.reduceAdd, Nat.reduceMul, Nat.reduceLT, Nat.reduceLeDiff, Nat.reduceAnd, Nat.reduceSub, Int.reduceToNat, Array.toList, T13_ord, T13_ghost, FB, none_at, k1, k2, k3, kw, hx, hx', take8, Ex.cells_len, Nat.le_refl]
          refine VPure.calls (hk i hlt hlt' _) ?_
          rw [hI, hs]
          by_cases se : sameE ks[i] ks'[i] = true
          · rw [se]
            simp (maxSteps := 1000000) -dsimp -implicitDefEqProofs only [↓eqD, eqU, eqV, eqW, vbuiltinQ, vlen, vslice, vindex, vstore, Int.reduceLE, Int.reduceLT, Nat.reduceBEq, ↓reduceIte, reduceCtorEq, Nat.reduceEqDiff, Nat.reduceAdd, Nat.reduceMul, Nat.reduceLT, Nat.reduceLeDiff, Nat.reduceAnd, Nat.reduceSub, Int.reduceToNat, Array.toList, T13_ord, T13_ghost, FB, none_at, kw]
            refine ⟨i + 1, ⟨by omega, ?_⟩, by omega, .of ?_ (.over hG ?_ ?_ ?_)⟩
            · rfl
            · simp (maxSteps := 1000000) -dsimp -implicitDefEqProofs only [↓eqD, eqU, eqV, eqW, vbuiltinQ, vlen, vslice, vindex, vstore, Int.reduceLE, Int.reduceLT, Nat.reduceBEq, ↓reduceIte, reduceCtorEq, Nat.reduceEqDiff, Nat.reduceAdd, Nat.reduceMul, Nat.reduceLT, Nat.reduceLeDiff, Nat.reduceAnd, Nat.reduceSub, Int.reduceToNat, Array.toList]
              (repeat' apply And.intro) <;> exact .refl _
            · simp (maxSteps := 1000000) -dsimp -implicitDefEqProofs only [↓eqD, eqU, eqV, eqW, vbuiltinQ, vlen, vslice, vindex, vstore, Int.reduceLE, Int.reduceLT, Nat.reduceBEq, ↓reduceIte, reduceCtorEq, Nat.reduceEqDiff, Nat.reduceAdd, Nat.reduceMul, Nat.reduceLT, Nat.reduceLeDiff, Nat.reduceAnd, Nat.reduceSub, Int.reduceToNat, Array.toList]
            · simp (maxSteps := 1000000) -dsimp -implicitDefEqProofs only [↓eqD, eqU, eqV, eqW, vbuiltinQ, vlen, vslice, vindex, vstore, Int.reduceLE, Int.reduceLT, Nat.reduceBEq, ↓reduceIte, reduceCtorEq, Nat.reduceEqDiff, Nat.reduceAdd, Nat.reduceMul, Nat.reduceLT, Nat.reduceLeDiff, Nat.reduceAnd, Nat.reduceSub, Int.reduceToNat, Array.toList, FB]
            · intro j hj
              have hj : j < G.next := hj
              simp (maxSteps := 1000000) -dsimp -implicitDefEqProofs only [↓eqD, eqU, eqV, eqW, vbuiltinQ, vlen, vslice, vindex, vstore, Int.reduceLE, Int.reduceLT, Nat.reduceBEq, ↓reduceIte, reduceCtorEq, Nat.reduceEqDiff, Nat.reduceAdd, Nat.reduceMul, Nat.reduceLT, Nat.reduceLeDiff, Nat.reduceAnd, Nat.reduceSub, Int.reduceToNat, Array.toList, ltx_0 hj, gtx_0 hj, ltx_1 hj, gtx_1 hj, ltx_2 hj, gtx_2 hj, ltx_3 hj, gtx_3 hj, ltx_4 hj, gtx_4 hj, ltx_5 hj, gtx_5 hj]
          · have se : sameE ks[i] ks'[i] = false := by simpa using se
            rw [se]
            simp (maxSteps := 1000000) -dsimp -implicitDefEqProofs only [↓eqD, eqU, eqV, eqW, vbuiltinQ, vlen, vslice, vindex, vstore, Int.reduceLE, Int.reduceLT, Nat.reduceBEq, ↓reduceIte, reduceCtorEq, Nat.reduceEqDiff, Nat.reduceAdd, Nat.reduceMul, Nat.reduceLT, Nat.reduceLeDiff, Nat.reduceAnd, Nat.reduceSub, Int.reduceToNat, Array.toList, T13_ord, T13_ghost, FB, none_at, kw]
            refine VDone.back hG ?_ rfl rfl
            intro j hj; simp (maxSteps := 1000000) -dsimp -implicitDefEqProofs only [↓eqD, eqU, eqV, eqW, vbuiltinQ, vlen, vslice, vindex, vstore, Int.reduceLE, Int.reduceLT, Nat.reduceBEq, ↓reduceIte, reduceCtorEq, Nat.reduceEqDiff, Nat.reduceAdd, Nat.reduceMul, Nat.reduceLT, Nat.reduceLeDiff, Nat.reduceAnd, Nat.reduceSub, Int.reduceToNat, Array.toList, ltx_0 hj, gtx_0 hj, ltx_1 hj, gtx_1 hj, ltx_2 hj, gtx_2 hj, ltx_3 hj, gtx_3 hj, ltx_4 hj, gtx_4 hj, ltx_5 hj, gtx_5 hj]
        · have k1 : ¬(i : Int) < (ks.length : Int) := by omega
          have hs := same_out (l := ks) (l' := ks') (i := i) (by omega) c2
          rw [hI, hs]
          simp (maxSteps := 1000000) -dsimp -implicitDefEqProofs only [↓eqD, eqU, eqV, eqW, vbuiltinQ, vlen, vslice, vindex, vstore, Int.reduceLE, Int.reduceLT, Nat.reduceBEq, ↓reduceIte, reduceCtorEq, Nat.reduceEqDiff, Nat.reduceAdd, Nat.reduceMul, Nat.reduceLT, Nat.reduceLeDiff, Nat.reduceAnd, Nat.reduceSub, Int.reduceToNat, Array.toList, T13_ord, T13_ghost, FB, none_at, k1]
          refine VDone.back hG ?_ rfl rfl
          intro j hj; simp (maxSteps := 1000000) -dsimp -implicitDefEqProofs only [↓eqD, eqU, eqV, eqW, vbuiltinQ, vlen, vslice, vindex, vstore, Int.reduceLE, Int.reduceLT, Nat.reduceBEq, ↓reduceIte, reduceCtorEq, Nat.reduceEqDiff, Nat.reduceAdd, Nat.reduceMul, Nat.reduceLT, Nat.reduceLeDiff, Nat.reduceAnd, Nat.reduceSub, Int.reduceToNat, Array.toList, ltx_0 hj, gtx_0 hj, ltx_1 hj, gtx_1 hj, ltx_2 hj, gtx_2 hj, ltx_3 hj, gtx_3 hj, ltx_4 hj, gtx_4 hj, ltx_5 hj, gtx_5 hj]
    · have hh : headE 2 b b' m s m' s' t t' lo lo' hi hi' = false := by unfold headE; simp [e]
      rw [hh, Bool.false_and]
      simp (maxSteps := 1000000) -dsimp -implicitDefEqProofs only [↓eqD, eqU, eqV, eqW, vbuiltinQ, vlen, vslice, vindex, vstore, Int.reduceLE, Int.reduceLT, Nat.reduceBEq, ↓reduceIte, reduceCtorEq, Nat.reduceEqDiff, Nat.reduceAdd, Nat.reduceMul, Nat.reduceLT, Nat.reduceLeDiff, Nat.reduceAnd, Nat.reduceSub, Int.reduceToNat, Array.toList, fnWp_some Tryz.func13, Tryz.f13, T13_ord, T13_ghost, FB, none_at, Ex.cells, d1, d2, ne_eq, Int.reduceEq, k23, ag23, c23, i23, z23, veqK, veq1, vtag, Bool.and_eq_true, decide_eq_true_eq, c2', e]
      refine VDone.back hG ?_ rfl rfl
      intro j hj; simp (maxSteps := 1000000) -dsimp -implicitDefEqProofs only [↓eqD, eqU, eqV, eqW, vbuiltinQ, vlen, vslice, vindex, vstore, Int.reduceLE, Int.reduceLT, Nat.reduceBEq, ↓reduceIte, reduceCtorEq, Nat.reduceEqDiff, Nat.reduceAdd, Nat.reduceMul, Nat.reduceLT, Nat.reduceLeDiff, Nat.reduceAnd, Nat.reduceSub, Int.reduceToNat, Array.toList, ltx_0 hj, gtx_0 hj, ltx_1 hj, gtx_1 hj, ltx_2 hj, gtx_2 hj, ltx_3 hj, gtx_3 hj, ltx_4 hj, gtx_4 hj, ltx_5 hj, gtx_5 hj]
  by_cases q3 : k = 3
  · subst q3
    by_cases e : m = m'
    · subst e
      by_cases f : s = s'
      · subst f
        have hh : headE 3 b b' m s m s t t' lo lo' hi hi' = true := by unfold headE; simp
        rw [hh, Bool.true_and]
        simp (maxSteps := 1000000) -dsimp -implicitDefEqProofs only [↓eqD, eqU, eqV, eqW, vbuiltinQ, vlen, vslice, vindex, vstore, Int.reduceLE, Int.reduceLT, Nat.reduceBEq, ↓reduceIte, reduceCtorEq, Nat.reduceEqDiff, Nat.reduceAdd, Nat.reduceMul, Nat.reduceLT, Nat.reduceLeDiff, Nat.reduceAnd, Nat.reduceSub, Int.reduceToNat, Array.toList, fnWp_some Tryz.func13, Tryz.f13, T13_ord, T13_ghost, FB, none_at, Ex.cells, d1, d2, ne_eq, Int.reduceEq, k23, ag23, c23, i23, z23, veqK, veq1, vtag, Bool.and_eq_true, decide_eq_true_eq, c2']
        refine vloop_by (fun i : Nat => i ≤ ks.length ∧ sameL ks ks' = sameL (ks.drop i) (ks'.drop i)) (fun i => Env.of [(2, .ptr G.next 0 0), (3, .ptr (G.next + 1) 0 0), (5, .int .i64 i)]) (fun _ => G.over (G.next + 2) [(G.next, .cells 0 [.int .i64 3, .bool b, .int .i64 m, .int .i64 s, .str t, .bool lo, .bool hi, .sl 8 ks.length (exsC ks)]), (G.next + 1, .cells 0 [.int .i64 3, .bool b', .int .i64 m, .int .i64 s, .str t', .bool lo', .bool hi', .sl 8 ks'.length (exsC ks')])]) (fun i => ks.length - i) 0 ?_ ?_ ?_
        · refine .of ?_ (.over hG ?_ ?_ ?_)
          · simp (maxSteps := 1000000) -dsimp -implicitDefEqProofs only [↓eqD, eqU, eqV, eqW, vbuiltinQ, vlen, vslice, vindex, vstore, Int.reduceLE, Int.reduceLT, Nat.reduceBEq, ↓reduceIte, reduceCtorEq, Nat.reduceEqDiff, Nat.reduceAdd, Nat.reduceMul, Nat.reduceLT, Nat.reduceLeDiff, Nat.reduceAnd, Nat.reduceSub, Int.reduceToNat, Array.toList]
            (repeat' apply And.intro) <;> exact .refl _
          · simp (maxSteps := 1000000) -dsimp -implicitDefEqProofs only [↓eqD, eqU, eqV, eqW, vbuiltinQ, vlen, vslice, vindex, vstore, Int.reduceLE, Int.reduceLT, Nat.reduceBEq, ↓reduceIte, reduceCtorEq, Nat.reduceEqDiff, Nat.reduceAdd, Nat.reduceMul, Nat.reduceLT, Nat.reduceLeDiff, Nat.reduceAnd, Nat.reduceSub, Int.reduceToNat, Array.toList]
          · simp (maxSteps := 1000000) -dsimp -implicitDefEqProofs only [↓eqD, eqU, eqV, eqW, vbuiltinQ, vlen, vslice, vindex, vstore, Int.reduceLE, Int.reduceLT, Nat.reduceBEq, ↓reduceIte, reduceCtorEq, Nat.reduceEqDiff, Nat.reduceAdd, Nat.reduceMul, Nat.reduceLT, Nat.reduceLeDiff, Nat.reduceAnd, Nat.reduceSub, Int.reduceToNat, Array.toList, FB]
          · intro j hj
            have hj : j < G.next := hj
            simp (maxSteps := 1000000) -dsimp -implicitDefEqProofs only [↓eqD, eqU, eqV, eqW, vbuiltinQ, vlen, vslice, vindex, vstore, Int.reduceLE, Int.reduceLT, Nat.reduceBEq, ↓reduceIte, reduceCtorEq, Nat.reduceEqDiff, Nat.reduceAdd, Nat.reduceMul, Nat.reduceLT, Nat.reduceLeDiff, Nat.reduceAnd, Nat.reduceSub, Int.reduceToNat, Array.toList, ltx_0 hj, gtx_0 hj, ltx_1 hj, gtx_1 hj, ltx_2 hj, gtx_2 hj, ltx_3 hj, gtx_3 hj, ltx_4 hj, gtx_4 hj, ltx_5 hj, gtx_5 hj]
        · exact ⟨Nat.zero_le _, rfl⟩
        · intro i ⟨hle, hI⟩
          by_cases hlt : i < ks.length
          · have hlt' : i < ks'.length := by omega
            have hx := exs_at hlt
            have hx' := exs_at hlt'
            have hs := same_at i hlt hlt' c2
            have k1 : (i : Int) < (ks.length : Int) := by omega
            have k2 : 0 ≤ (i : Int) := by omega
            have k3 : (i : Int) < (ks'.length : Int) := by omega
            have kw : IntKind.wrap .i64 ((i : Int) + 1) = ((i + 1 : Nat) : Int) := by rw [w64 (by omega) (by omega)]; rfl
            simp (maxSteps := 1000000) -dsimp -implicitDefEqProofs only [↓eqD, eqU, eqV, eqW, vbuiltinQ, vlen, vslice, vindex, vstore, Int.reduceLE, Int.reduceLT, Nat.reduceBEq, ↓reduceIte, reduceCtorEq, Nat.reduceEqDiff, Nat.reduceAdd, Nat.reduceMul, Nat.reduceLT, Nat.reduceLeDiff, Nat.reduceAnd, Nat.reduceSub, Int.reduceToNat, Array.toList, T13_ord, T13_ghost, FB, none_at, k1, k2, k3, kw, hx, hx', take8, Ex.cells_len, Nat.le_refl]
            refine VPure.calls (hk i hlt hlt' _) ?_
            rw [hI, hs]
            by_cases se : sameE ks[i] ks'[i] = true
            · rw [se]
              simp (maxSteps := 1000000) -dsimp -implicitDefEqProofs only [↓eqD, eqU, eqV, eqW, vbuiltinQ, vlen, vslice, vindex, vstore, Int.reduceLE, Int.reduceLT, Nat.reduceBEq, ↓reduceIte, reduceCtorEq, Nat.reduceEqDiff, Nat.reduceAdd, Nat.reduceMul, Nat.reduceLT, Nat.reduceLeDiff, Nat.reduceAnd, Nat.reduceSub, Int.reduceToNat, Array.toList, T13_ord, T13_ghost, FB, none_at, kw]
              refine ⟨i + 1, ⟨by omega, ?_⟩, by omega, .of ?_ (.over hG ?_ ?_ ?_)⟩
              · rfl
              · simp (maxSteps := 1000000) -dsimp -implicitDefEqProofs only [↓eqD, eqU, eqV, eqW, vbuiltinQ, vlen, vslice, vindex, vstore, Int.reduceLE, Int.reduceLT, Nat.reduceBEq, ↓reduceIte, reduceCtorEq, Nat.reduceEqDiff, Nat.reduceAdd, Nat.reduceMul, Nat.reduceLT, Nat.reduceLeDiff, Nat.reduceAnd, Nat.reduceSub, Int.reduceToNat, Array.toList]
                (repeat' apply And.intro) <;> exact .refl _
              · simp (maxSteps := 1000000) -dsimp -implicitDefEqProofs only [↓eqD, eqU, eqV, eqW, vbuiltinQ, vlen, vslice, vindex, vstore, Int.reduceLE, Int.reduceLT, Nat.reduceBEq, ↓reduceIte, reduceCtorEq, Nat.reduceEqDiff, Nat.reduceAdd, Nat.reduceMul, Nat.reduceLT, Nat.reduceLeDiff, Nat.reduceAnd, Nat.reduceSub, Int.reduceToNat, Array.toList]
              · simp (maxSteps := 1000000) -dsimp -implicitDefEqProofs only [↓eqD, eqU, eqV, eqW, vbuiltinQ, vlen, vslice, vindex, vstore, Int.reduceLE, Int.reduceLT, Nat.reduceBEq, ↓reduceIte, reduceCtorEq, Nat.reduceEqDiff, Nat.reduceAdd, Nat.reduceMul, Nat.reduceLT, Nat.reduceLeDiff, Nat.reduceAnd, Nat.reduceSub, Int.reduceToNat, Array.toList, FB]
              · intro j hj
                have hj : j < G.next := hj
                simp (maxSteps := 1000000) -dsimp -implicitDefEqProofs only [↓eqD, eqU, eqV, eqW, vbuiltinQ, vlen, vslice, vindex, vstore, Int.reduceLE, Int.reduceLT, Nat.reduceBEq, ↓reduceIte, reduceCtorEq, Nat.reduceEqDiff, Nat.reduceAdd, Nat.reduceMul, Nat.reduceLT, Nat.reduceLeDiff, Nat.reduceAnd, Nat.reduceSub, Int.reduceToNat, Array.toList, ltx_0 hj, gtx_0 hj, ltx_1 hj, gtx_1 hj, ltx_2 hj, gtx_2 hj, ltx_3 hj, gtx_3 hj, ltx_4 hj, gtx_4 hj, ltx_5 hj, gtx_5 hj]
            · have se : sameE ks[i] ks'[i] = false := by simpa using se
              rw [se]
              simp (maxSteps := 1000000) -dsimp -implicitDefEqProofs only [↓eqD, eqU, eqV, eqW, vbuiltinQ, vlen, vslice, vindex, vstore, Int.reduceLE, Int.reduceLT, Nat.reduceBEq, ↓reduceIte, reduceCtorEq, Nat.reduceEqDiff, Nat.reduceAdd, Nat.reduceMul, Nat.reduceLT, Nat.reduceLeDiff, Nat.reduceAnd, Nat.reduceSub, Int.reduceToNat, Array.toList, T13_ord, T13_ghost, FB, none_at, kw]
              refine VDone.back hG ?_ rfl rfl
              intro j hj; simp (maxSteps := 1000000) -dsimp -implicitDefEqProofs only [↓eqD, eqU, eqV, eqW, vbuiltinQ, vlen, vslice, vindex, vstore, Int.reduceLE, Int.reduceLT, Nat.reduceBEq, ↓reduceIte, reduceCtorEq, Nat.reduceEqDiff, Nat.reduceAdd, Nat.reduceMul, Nat.reduceLT, Nat.reduceLeDiff, Nat.reduceAnd, Nat.reduceSub, Int.reduceToNat, Array.toList, ltx_0 hj, gtx_0 hj, ltx_1 hj, gtx_1 hj, ltx_2 hj, gtx_2 hj, ltx_3 hj, gtx_3 hj, ltx_4 hj, gtx_4 hj, ltx_5 hj, gtx_5 hj]
          · have k1 : ¬(i : Int) < (ks.length : Int) := by omega
            have hs := same_out (l := ks) (l' := ks') (i := i) (by omega) c2
            rw [hI, hs]
            simp (maxSteps := 1000000) -dsimp -implicitDefEqProofs only [↓eqD, eqU, eqV, eqW, vbuiltinQ, vlen, vslice, vindex, vstore, Int.reduceLE, Int.reduceLT, Nat.reduceBEq, ↓reduceIte, reduceCtorEq, Nat.reduceEqDiff, Nat.reduceAdd, Nat.reduceMul, Nat.reduceLT, Nat.reduceLeDiff, Nat.reduceAnd, Nat.reduceSub, Int.reduceToNat, Array.toList, T13_ord, T13_ghost, FB, none_at, k1]
            refine VDone.back hG ?_ rfl rfl
            intro j hj; simp (maxSteps := 1000000) -dsimp -implicitDefEqProofs only [↓eqD, eqU, eqV, eqW, vbuiltinQ, vlen, vslice, vindex, vstore, Int.reduceLE, Int.reduceLT, Nat.reduceBEq, ↓reduceIte, reduceCtorEq, Nat.reduceEqDiff, Nat.reduceAdd, Nat.reduceMul, Nat.reduceLT, Nat.reduceLeDiff, Nat.reduceAnd, Nat.reduceSub, Int.reduceToNat, Array.toList, ltx_0 hj, gtx_0 hj, ltx_1 hj, gtx_1 hj, ltx_2 hj, gtx_2 hj, ltx_3 hj, gtx_3 hj, ltx_4 hj, gtx_4 hj, ltx_5 hj, gtx_5 hj]
      · have hh : headE 3 b b' m s m s' t t' lo lo' hi hi' = false := by unfold headE; simp [f]
        rw [hh, Bool.false_and]
        simp (maxSteps := 1000000) -dsimp -implicitDefEqProofs only [↓eqD, eqU, eqV, eqW, vbuiltinQ, vlen, vslice, vindex, vstore, Int.reduceLE, Int.reduceLT, Nat.reduceBEq, ↓reduceIte, reduceCtorEq, Nat.reduceEqDiff, Nat.reduceAdd, Nat.reduceMul, Nat.reduceLT, Nat.reduceLeDiff, Nat.reduceAnd, Nat.reduceSub, Int.reduceToNat, Array.toList, fnWp_some Tryz.func13, Tryz.f13, T13_ord, T13_ghost, FB, none_at, Ex.cells, d1, d2, ne_eq, Int.reduceEq, k23, ag23, c23, i23, z23, veqK, veq1, vtag, Bool.and_eq_true, decide_eq_true_eq, c2', f]
        refine VDone.back hG ?_ rfl rfl
        intro j hj; simp (maxSteps := 1000000) -dsimp -implicitDefEqProofs only [↓eqD, eqU, eqV, eqW, vbuiltinQ, vlen, vslice, vindex, vstore, Int.reduceLE, Int.reduceLT, Nat.reduceBEq, ↓reduceIte, reduceCtorEq, Nat.reduceEqDiff, Nat.reduceAdd, Nat.reduceMul, Nat.reduceLT, Nat.reduceLeDiff, Nat.reduceAnd, Nat.reduceSub, Int.reduceToNat, Array.toList, ltx_0 hj, gtx_0 hj, ltx_1 hj, gtx_1 hj, ltx_2 hj, gtx_2 hj, ltx_3 hj, gtx_3 hj, ltx_4 hj, gtx_4 hj, ltx_5 hj, gtx_5 hj]
    · have hh : headE 3 b b' m s m' s' t t' lo lo' hi hi' = false := by unfold headE; simp [e]
      rw [hh, Bool.false_and]
      simp (maxSteps := 1000000) -dsimp -implicitDefEqProofs only [↓eqD, eqU, eqV, eqW, vbuiltinQ, vlen, vslice, vindex, vstore, Int.reduceLE, Int.reduceLT, Nat.reduceBEq, ↓reduceIte, reduceCtorEq, Nat.reduceEqDiff, Nat.reduceAdd, Nat.reduceMul, Nat.reduceLT, Nat.reduceLeDiff, Nat.reduceAnd, Nat.reduceSub, Int.reduceToNat, Array.toList, fnWp_some Tryz.func13, Tryz.f13, T13_ord, T13_ghost, FB, none_at, Ex.cells, d1, d2, ne_eq, Int.reduceEq, k23, ag23, c23, i23, z23, veqK, veq1, vtag, Bool.and_eq_true, decide_eq_true_eq, c2', e]
      refine VDone.back hG ?_ rfl rfl
      intro j hj; simp (maxSteps := 1000000) -dsimp -implicitDefEqProofs only [↓eqD, eqU, eqV, eqW, vbuiltinQ, vlen, vslice, vindex, vstore, Int.reduceLE, Int.reduceLT, Nat.reduceBEq, ↓reduceIte, reduceCtorEq, Nat.reduceEqDiff, Nat.reduceAdd, Nat.reduceMul, Nat.reduceLT, Nat.reduceLeDiff, Nat.reduceAnd, Nat.reduceSub, Int.reduceToNat, Array.toList, ltx_0 hj, gtx_0 hj, ltx_1 hj, gtx_1 hj, ltx_2 hj, gtx_2 hj, ltx_3 hj, gtx_3 hj, ltx_4 hj, gtx_4 hj, ltx_5 hj, gtx_5 hj]
  by_cases q4 : k = 4
  · subst q4
    by_cases e : t = t'
    · subst e
      have hh : headE 4 b b' m s m' s' t t lo lo' hi hi' = true := by unfold headE; simp
      rw [hh, Bool.true_and]
      simp (maxSteps := 1000000) -dsimp -implicitDefEqProofs only [↓eqD, eqU, eqV, eqW, vbuiltinQ, vlen, vslice, vindex, vstore, Int.reduceLE, Int.reduceLT, Nat.reduceBEq, ↓reduceIte, reduceCtorEq, Nat.reduceEqDiff, Nat.reduceAdd, Nat.reduceMul, Nat.reduceLT, Nat.reduceLeDiff, Nat.reduceAnd, Nat.reduceSub, Int.reduceToNat, Array.toList, fnWp_some Tryz.func13, Tryz.f13, T13_ord, T13_ghost, FB, none_at, Ex.cells, d1, d2, ne_eq, Int.reduceEq, k23, ag23, c23, i23, z23, veqK, veq1, vtag, Bool.and_eq_true, decide_eq_true_eq, c2']
      refine vloop_by (fun i : Nat => i ≤ ks.length ∧ sameL ks ks' = sameL (ks.drop i) (ks'.drop i)) (fun i => Env.of [(2, .ptr G.next 0 0), (3, .ptr (G.next + 1) 0 0), (5, .int .i64 i)]) (fun _ => G.over (G.next + 2) [(G.next, .cells 0 [.int .i64 4, .bool b, .int .i64 m, .int .i64 s, .str t, .bool lo, .bool hi, .sl 8 ks.length (exsC ks)]), (G.next + 1, .cells 0 [.int .i64 4, .bool b', .int .i64 m', .int .i64 s', .str t, .bool lo', .bool hi', .sl 8 ks'.length (exsC ks')])]) (fun i => ks.length - i) 0 ?_ ?_ ?_
      · refine .of ?_ (.over hG ?_ ?_ ?_)
        · simp (maxSteps := 1000000) -dsimp -implicitDefEqProofs only [↓eqD, eqU, eqV, eqW, vbuiltinQ, vlen, vslice, vindex, vstore, Int.reduceLE, Int.reduceLT, Nat.reduceBEq, ↓reduceIte, reduceCtorEq, Nat.reduceEqDiff, Nat.reduceAdd, Nat.reduceMul, Nat.reduceLT, Nat.reduceLeDiff, Nat.reduceAnd, Nat.reduceSub, Int.reduceToNat, Array.toList]
          (repeat' apply And.intro) <;> exact .refl _
        · simp (maxSteps := 1000000) -dsimp -implicitDefEqProofs only [↓eqD, eqU, eqV, eqW, vbuiltinQ, vlen, vslice, vindex, vstore, Int.reduceLE, Int.reduceLT, Nat.reduceBEq, ↓reduceIte, reduceCtorEq, Nat.reduceEqDiff, Nat.reduceAdd, Nat.reduceMul, Nat.reduceLT, Nat.reduceLeDiff, Nat.reduceAnd, Nat.reduceSub, Int.reduceToNat, Array.toList]
        · simp (maxSteps := 1000000) -dsimp -implicitDefEqProofs only [↓eqD, eqU, eqV, eqW, vbuiltinQ, vlen, vslice, vindex, vstore, Int.reduceLE, Int.reduceLT, Nat.reduceBEq, ↓reduceIte, reduceCtorEq, Nat.reduceEqDiff, Nat.reduceAdd, Nat.reduceMul, Nat.reduceLT, Nat.reduceLeDiff, Nat.reduceAnd, Nat.reduceSub, Int.reduceToNat, Array.toList, FB]
        · intro j hj
          have hj : j < G.next := hj
          simp (maxSteps := 1000000) -dsimp -implicitDefEqProofs only [↓eqD, eqU, eqV, eqW, vbuiltinQ, vlen, vslice, vindex, vstore, Int.reduceLE, Int.reduceLT, Nat.reduceBEq, ↓reduceIte, reduceCtorEq, Nat.reduceEqDiff, Nat.reduceAdd, Nat.reduceMul, Nat.reduceLT, Nat.reduceLeDiff, Nat.reduceAnd, Nat.reduceSub, Int.reduceToNat, Array.toList, ltx_0 hj, gtx_0 hj, ltx_1 hj, gtx_1 hj, ltx_2 hj, gtx_2 hj, ltx_3 hj, gtx_3 hj, ltx_4 hj, gtx_4 hj, ltx_5 hj, gtx_5 hj]
      · exact ⟨Nat.zero_le _, rfl⟩
      · intro i ⟨hle, hI⟩
        by_cases hlt : i < ks.length
        · have hlt' : i < ks'.length := by omega
          have hx := exs_at hlt
          have hx' := exs_at hlt'
          have hs := same_at i hlt hlt' c2
          have k1 : (i : Int) < (ks.length : Int) := by omega
          have k2 : 0 ≤ (i : Int) := by omega
          have k3 : (i : Int) < (ks'.length : Int) := by omega
          have kw : IntKind.wrap .i64 ((i : Int) + 1) = ((i + 1 : Nat) : Int) := by rw [w64 (by omega) (by omega)]; rfl
          simp (maxSteps := 1000000) -dsimp -implicitDefEqProofs only [↓eqD, eqU, eqV, eqW, vbuiltinQ, vlen, vslice, vindex, vstore, Int.reduceLE, Int.reduceLT, Nat.reduceBEq, ↓reduceIte, reduceCtorEq, Nat.reduceEqDiff, Nat.reduceAdd, Nat.reduceMul, Nat.reduceLT, Nat.reduceLeDiff, Nat.reduceAnd, Nat.reduceSub, Int.reduceToNat, Array.toList, T13_ord, T13_ghost, FB, none_at, k1, k2, k3, kw, hx, hx', take8, Ex.cells_len, Nat.le_refl]
          refine VPure.calls (hk i hlt hlt' _) ?_
          rw [hI, hs]
          by_cases se : sameE ks[i] ks'[i] = true
          · rw [se]
            simp (maxSteps := 1000000) -dsimp -implicitDefEqProofs only [↓eqD, eqU, eqV, eqW, vbuiltinQ, vlen, vslice, vindex, vstore, Int.reduceLE, Int.reduceLT, Nat.reduceBEq, ↓reduceIte, reduceCtorEq, Nat.reduceEqDiff, Nat.reduceAdd, Nat.reduceMul, Nat.reduceLT, Nat.reduceLeDiff, Nat.reduceAnd, Nat.reduceSub, Int.reduceToNat, Array.toList, T13_ord, T13_ghost, FB, none_at, kw]
            refine ⟨i + 1, ⟨by omega, ?_⟩, by omega, .of ?_ (.over hG ?_ ?_ ?_)⟩
            · rfl
            · simp (maxSteps := 1000000) -dsimp -implicitDefEqProofs only [↓eqD, eqU, eqV, eqW, vbuiltinQ, vlen, vslice, vindex, vstore, Int.reduceLE, Int.reduceLT, Nat.reduceBEq, ↓reduceIte, reduceCtorEq, Nat.reduceEqDiff, Nat.reduceAdd, Nat.reduceMul, Nat.reduceLT, Nat.reduceLeDiff, Nat.reduceAnd, Nat.reduceSub, Int.reduceToNat, Array.toList]
              (repeat' apply And.intro) <;> exact .refl _
            · simp (maxSteps := 1000000) -dsimp -implicitDefEqProofs only [↓eqD, eqU, eqV, eqW, vbuiltinQ, vlen, vslice, vindex, vstore, Int.reduceLE, Int.reduceLT, Nat.reduceBEq, ↓reduceIte, reduceCtorEq, Nat.reduceEqDiff, Nat.reduceAdd, Nat.reduceMul, Nat.reduceLT, Nat.reduceLeDiff, Nat.reduceAnd, Nat.reduceSub, Int.reduceToNat, Array.toList]
            · simp (maxSteps := 1000000) -dsimp -implicitDefEqProofs only [↓eqD, eqU, eqV, eqW, vbuiltinQ, vlen, vslice, vindex, vstore, Int.reduceLE, Int.reduceLT, Nat.reduceBEq, ↓reduceIte, reduceCtorEq, Nat.reduceEqDiff, Nat.reduceAdd, Nat.reduceMul, Nat.reduceLT, Nat.reduceLeDiff, Nat.reduceAnd, Nat.reduceSub, Int.reduceToNat, Array.toList, FB]
            · intro j hj
              have hj : j < G.next := hj
              simp (maxSteps := 1000000) -dsimp -implicitDefEqProofs only [↓eqD, eqU, eqV, eqW, vbuiltinQ, vlen, vslice, vindex, vstore, Int.reduceLE, Int.reduceLT, Nat.reduceBEq, ↓reduceIte, reduceCtorEq, Nat.reduceEqDiff, Nat.reduceAdd, Nat.reduceMul, Nat.reduceLT, Nat.reduceLeDiff, Nat.reduceAnd, Nat.reduceSub, Int.reduceToNat, Array.toList, ltx_0 hj, gtx_0 hj, ltx_1 hj, gtx_1 hj, ltx_2 hj, gtx_2 hj, ltx_3 hj, gtx_3 hj, ltx_4 hj, gtx_4 hj, ltx_5 hj, gtx_5 hj]
          · have se : sameE ks[i] ks'[i] = false := by simpa using se
            rw [se]
            simp (maxSteps := 1000000) -dsimp -implicitDefEqProofs only [↓eqD, eqU, eqV, eqW, vbuiltinQ, vlen, vslice, vindex, vstore, Int.reduceLE, Int.reduceLT, Nat.reduceBEq, ↓reduceIte, reduceCtorEq, Nat.reduceEqDiff, Nat.reduceAdd, Nat.reduceMul, Nat.reduceLT, Nat.reduceLeDiff, Nat.reduceAnd, Nat.reduceSub, Int.reduceToNat, Array.toList, T13_ord, T13_ghost, FB, none_at, kw]
            refine VDone.back hG ?_ rfl rfl
            intro j hj; simp (maxSteps := 1000000) -dsimp -implicitDefEqProofs only [↓eqD, eqU, eqV, eqW, vbuiltinQ, vlen, vslice, vindex, vstore, Int.reduceLE, Int.reduceLT, Nat.reduceBEq, ↓reduceIte, reduceCtorEq, Nat.reduceEqDiff, Nat.reduceAdd, Nat.reduceMul, Nat.reduceLT, Nat.reduceLeDiff, Nat.reduceAnd, Nat.reduceSub, Int.reduceToNat, Array.toList, ltx_0 hj, gtx_0 hj, ltx_1 hj, gtx_1 hj, ltx_2 hj, gtx_2 hj, ltx_3 hj, gtx_3 hj, ltx_4 hj, gtx_4 hj, ltx_5 hj, gtx_5 hj]
        · have k1 : ¬(i : Int) < (ks.length : Int) := by omega
          have hs := same_out (l := ks) (l' := ks') (i := i) (by omega) c2
          rw [hI, hs]
          simp (maxSteps := 1000000) -dsimp -implicitDefEqProofs only [↓eqD, eqU, eqV, eqW, vbuiltinQ, vlen, vslice, vindex, vstore, Int.reduceLE, Int.reduceLT, Nat.reduceBEq, ↓reduceIte, reduceCtorEq, Nat.reduceEqDiff, Nat.reduceAdd, Nat.reduceMul, Nat.reduceLT, Nat.reduceLeDiff, Nat.reduceAnd, Nat.reduceSub, Int.reduceToNat, Array.toList, T13_ord, T13_ghost, FB, none_at, k1]
          refine VDone.back hG ?_ rfl rfl
          intro j hj; simp (maxSteps := 1000000) -dsimp -implicitDefEqProofs only [↓eqD, eqU, eqV, eqW, vbuiltinQ, vlen, vslice, vindex, vstore, Int.reduceLE, Int.reduceLT, Nat.reduceBEq, ↓reduceIte, reduceCtorEq, Nat.reduceEqDiff, Nat.reduceAdd, Nat.reduceMul, Nat.reduceLT, Nat.reduceLeDiff, Nat.reduceAnd, Nat.reduceSub, Int.reduceToNat, Array.toList, ltx_0 hj, gtx_0 hj, ltx_1 hj, gtx_1 hj, ltx_2 hj, gtx_2 hj, ltx_3 hj, gtx_3 hj, ltx_4 hj, gtx_4 hj, ltx_5 hj, gtx_5 hj]
    · have hh : headE 4 b b' m s m' s' t t' lo lo' hi hi' = false := by unfold headE; simp [e]
      rw [hh, Bool.false_and]
      simp (maxSteps := 1000000) -dsimp -implicitDefEqProofs only [↓eqD, eqU, eqV, eqW, vbuiltinQ, vlen, vslice, vindex, vstore, Int.reduceLE, Int.reduceLT, Nat.reduceBEq, ↓reduceIte, reduceCtorEq, Nat.reduceEqDiff, Nat.reduceAdd, Nat.reduceMul, Nat.reduceLT, Nat.reduceLeDiff, Nat.reduceAnd, Nat.reduceSub, Int.reduceToNat, Array.toList, fnWp_some Tryz.func13, Tryz.f13, T13_ord, T13_ghost, FB, none_at, Ex.cells, d1, d2, ne_eq, Int.reduceEq, k23, ag23, c23, i23, z23, veqK, veq1, vtag, Bool.and_eq_true, decide_eq_true_eq, c2', e]
      refine VDone.back hG ?_ rfl rfl
      intro j hj; simp (maxSteps := 1000000) -dsimp -implicitDefEqProofs only [↓eqD, eqU, eqV, eqW, vbuiltinQ, vlen, vslice, vindex, vstore, Int.reduceLE, Int.reduceLT, Nat.reduceBEq, ↓reduceIte, reduceCtorEq, Nat.reduceEqDiff, Nat.reduceAdd, Nat.reduceMul, Nat.reduceLT, Nat.reduceLeDiff, Nat.reduceAnd, Nat.reduceSub, Int.reduceToNat, Array.toList, ltx_0 hj, gtx_0 hj, ltx_1 hj, gtx_1 hj, ltx_2 hj, gtx_2 hj, ltx_3 hj, gtx_3 hj, ltx_4 hj, gtx_4 hj, ltx_5 hj, gtx_5 hj]
  by_cases q5 : k = 5
  · subst q5
    by_cases e : t = t'
    · subst e
      have hh : headE 5 b b' m s m' s' t t lo lo' hi hi' = true := by unfold headE; simp
      rw [hh, Bool.true_and]
      simp (maxSteps := 1000000) -dsimp -implicitDefEqProofs only [↓eqD, eqU, eqV, eqW, vbuiltinQ, vlen, vslice, vindex, vstore, Int.reduceLE, Int.reduceLT, Nat.reduceBEq, ↓reduceIte, reduceCtorEq, Nat.reduceEqDiff, Nat.reduceAdd, Nat.reduceMul, Nat.reduceLT, Nat.reduceLeDiff, Nat.reduceAnd, Nat.reduceSub, Int.reduceToNat, Array.toList, fnWp_some Tryz.func13, Tryz.f13, T13_ord, T13_ghost, FB, none_at, Ex.cells, d1, d2, ne_eq, Int.reduceEq, k23, ag23, c23, i23, z23, veqK, veq1, vtag, Bool.and_eq_true, decide_eq_true_eq, c2']
      refine vloop_by (fun i : Nat => i ≤ ks.length ∧ sameL ks ks' = sameL (ks.drop i) (ks'.drop i)) (fun i => Env.of [(2, .ptr G.next 0 0), (3, .ptr (G.next + 1) 0 0), (5, .int .i64 i)]) (fun _ => G.over (G.next + 2) [(G.next, .cells 0 [.int .i64 5, .bool b, .int .i64 m, .int .i64 s, .str t, .bool lo, .bool hi, .sl 8 ks.length (exsC ks)]), (G.next + 1, .cells 0 [.int .i64 5, .bool b', .int .i64 m', .int .i64 s', .str t, .bool lo', .bool hi', .sl 8 ks'.length (exsC ks')])]) (fun i => ks.length - i) 0 ?_ ?_ ?_
      · refine .of ?_ (.over hG ?_ ?_ ?_)
        · simp (maxSteps := 1000000) -dsimp -implicitDefEqProofs only [↓eqD, eqU, eqV, eqW, vbuiltinQ, vlen, vslice, vindex, vstore, Int.reduceLE, Int.reduceLT, Nat.reduceBEq, ↓reduceIte, reduceCtorEq, Nat.reduceEqDiff, Nat.reduceAdd, Nat.reduceMul, Nat.reduceLT, Nat.reduceLeDiff, Nat.reduceAnd, Nat.reduceSub, Int.reduceToNat, Array.toList]
          (repeat' apply And.intro) <;> exact .refl _
        · simp (maxSteps := 1000000) -dsimp -implicitDefEqProofs only [↓eqD, eqU, eqV, eqW, vbuiltinQ, vlen, vslice, vindex, vstore, Int.reduceLE, Int.reduceLT, Nat.reduceBEq, ↓reduceIte, reduceCtorEq, Nat.reduceEqDiff, Nat.reduceAdd, Nat.reduceMul, Nat.reduceLT, Nat.reduceLeDiff, Nat.reduceAnd, Nat.reduceSub, Int.reduceToNat, Array.toList]
        · simp (maxSteps := 1000000) -dsimp -implicitDefEqProofs only [↓eqD, eqU, eqV, eqW, vbuiltinQ, vlen, vslice, vindex, vstore, Int.reduceLE, Int.reduceLT, Nat.reduceBEq, ↓reduceIte, reduceCtorEq, Nat.reduceEqDiff, Nat.reduceAdd, Nat.reduceMul, Nat.reduceLT, Nat.reduceLeDiff, Nat.reduceAnd, Nat.reduceSub, Int.reduceToNat, Array.toList, FB]
        · intro j hj
          have hj : j < G.next := hj
          simp (maxSteps := 1000000) -dsimp -implicitDefEqProofs only [↓eqD, eqU, eqV, eqW, vbuiltinQ, vlen, vslice, vindex, vstore, Int.reduceLE, Int.reduceLT, Nat.reduceBEq, ↓reduceIte, reduceCtorEq, Nat.reduceEqDiff, Nat.reduceAdd, Nat.reduceMul, Nat.reduceLT, Nat.reduceLeDiff, Nat.reduceAnd, Nat.reduceSub, Int.reduceToNat, Array.toList, ltx_0 hj, gtx_0 hj, ltx_1 hj, gtx_1 hj, ltx_2 hj, gtx_2 hj, ltx_3 hj, gtx_3 hj, ltx_4 hj, gtx_4 hj, ltx_5 hj, gtx_5 hj]
      · exact ⟨Nat.zero_le _, rfl⟩
      · intro i ⟨hle, hI⟩
        by_cases hlt : i < ks.length
        · have hlt' : i < ks'.length := by omega
          have hx := exs_at hlt
          have hx' := exs_at hlt'
          have hs := same_at i hlt hlt' c2
          have k1 : (i : Int) < (ks.length : Int) := by omega
          have k2 : 0 ≤ (i : Int) := by omega
          have k3 : (i : Int) < (ks'.length : Int) := by omega
          have kw : IntKind.wrap .i64 ((i : Int) + 1) = ((i + 1 : Nat) : Int) := by rw [w64 (by omega) (by omega)]; rfl
          simp (maxSteps := 1000000) -dsimp -implicitDefEqProofs only [↓eqD, eqU, eqV, eqW, vbuiltinQ, vlen, vslice, vindex, vstore, Int.reduceLE, Int.reduceLT, Nat.reduceBEq, ↓reduceIte, reduceCtorEq, Nat.reduceEqDiff, Nat.reduceAdd, Nat.reduceMul, Nat.reduceLT, Nat.reduceLeDiff, Nat.reduceAnd, Nat.reduceSub, Int.reduceToNat, Array.toList, T13_ord, T13_ghost, FB, none_at, k1, k2, k3, kw, hx, hx', take8, Ex.cells_len, Nat.le_refl]
          refine VPure.calls (hk i hlt hlt' _) ?_
          rw [hI, hs]
          by_cases se : sameE ks[i] ks'[i] = true
          · rw [se]
            simp (maxSteps := 1000000) -dsimp -implicitDefEqProofs only [↓eqD, eqU, eqV, eqW, vbuiltinQ, vlen, vslice, vindex, vstore, Int.reduceLE, Int.reduceLT, Nat.reduceBEq, ↓reduceIte, reduceCtorEq, Nat.reduceEqDiff, Nat.reduceAdd, Nat.reduceMul, Nat.reduceLT, Nat.reduceLeDiff, Nat.reduceAnd, Nat.reduceSub, Int.reduceToNat, Array.toList, T13_ord, T13_ghost, FB, none_at, kw]
            refine ⟨i + 1, ⟨by omega, ?_⟩, by omega, .of ?_ (.over hG ?_ ?_ ?_)⟩
            · rfl
            · simp (maxSteps := 1000000) -dsimp -implicitDefEqProofs only [↓eqD, eqU, eqV, eqW, vbuiltinQ, vlen, vslice, vindex, vstore, Int.reduceLE, Int.reduceLT, Nat.reduceBEq, ↓reduceIte, reduceCtorEq, Nat.reduceEqDiff, Nat.reduceAdd, Nat.reduceMul, Nat.reduceLT, Nat.reduceLeDiff, Nat.reduceAnd, Nat.reduceSub, Int.reduceToNat, Array.toList]
              (repeat' apply And.intro) <;> exact .refl _
            · simp (maxSteps := 1000000) -dsimp -implicitDefEqProofs only [↓eqD, eqU, eqV, eqW, vbuiltinQ, vlen, vslice, vindex, vstore, Int.reduceLE, Int.reduceLT, Nat.reduceBEq, ↓reduceIte, reduceCtorEq, Nat.reduceEqDiff, Nat.reduceAdd, Nat.reduceMul, Nat.reduceLT, Nat.reduceLeDiff, Nat.reduceAnd, Nat.reduceSub, Int.reduceToNat, Array.toList]
            · simp (maxSteps := 1000000) -dsimp -implicitDefEqProofs only [↓eqD, eqU, eqV, eqW, vbuiltinQ, vlen, vslice, vindex, vstore, Int.reduceLE, Int.reduceLT, Nat.reduceBEq, ↓reduceIte, reduceCtorEq, Nat.reduceEqDiff, Nat.reduceAdd, Nat.reduceMul, Nat.reduceLT, Nat.reduceLeDiff, Nat.reduceAnd, Nat.reduceSub, Int.reduceToNat, Array.toList, FB]
            · intro j hj
              have hj : j < G.next := hj
              simp (maxSteps := 1000000) -dsimp -implicitDefEqProofs only [↓eqD, eqU, eqV, eqW, vbuiltinQ, vlen, vslice, vindex, vstore, Int.reduceLE, Int.reduceLT, Nat.reduceBEq, ↓reduceIte, reduceCtorEq, Nat.reduceEqDiff, Nat.reduceAdd, Nat.reduceMul, Nat.reduceLT, Nat.reduceLeDiff, Nat.reduceAnd, Nat.reduceSub, Int.reduceToNat, Array.toList, ltx_0 hj, gtx_0 hj, ltx_1 hj, gtx_1 hj, ltx_2 hj, gtx_2 hj, ltx_3 hj, gtx_3 hj, ltx_4 hj, gtx_4 hj, ltx_5 hj, gtx_5 hj]
          · have se : sameE ks[i] ks'[i] = false := by simpa using se
            rw [se]
            simp (maxSteps := 1000000) -dsimp -implicitDefEqProofs only [↓eqD, eqU, eqV, eqW, vbuiltinQ, vlen, vslice, vindex, vstore, Int.reduceLE, Int.reduceLT, Nat.reduceBEq, ↓reduceIte, reduceCtorEq, Nat.reduceEqDiff, Nat.reduceAdd, Nat.reduceMul, Nat.reduceLT, Nat.reduceLeDiff, Nat.reduceAnd, Nat.reduceSub, Int.reduceToNat, Array.toList, T13_ord, T13_ghost, FB, none_at, kw]
            refine VDone.back hG ?_ rfl rfl
            intro j hj; simp (maxSteps := 1000000) -dsimp -implicitDefEqProofs only [↓eqD, eqU, eqV, eqW, vbuiltinQ, vlen, vslice, vindex, vstore, Int.reduceLE, Int.reduceLT, Nat.reduceBEq, ↓reduceIte, reduceCtorEq, Nat.reduceEqDiff, Nat.reduceAdd, Nat.reduceMul, Nat.reduceLT, Nat.reduceLeDiff, Nat.reduceAnd, Nat.reduceSub, Int.reduceToNat, Array.toList, ltx_0 hj, gtx_0 hj, ltx_1 hj, gtx_1 hj, ltx_2 hj, gtx_2 hj, ltx_3 hj, gtx_3 hj, ltx_4 hj, gtx_4 hj, ltx_5 hj, gtx_5 hj]
        · have k1 : ¬(i : Int) < (ks.length : Int) := by omega
          have hs := same_out (l := ks) (l' := ks') (i := i) (by omega) c2
          rw [hI, hs]
          simp (maxSteps := 1000000) -dsimp -implicitDefEqProofs only [↓eqD, eqU, eqV, eqW, vbuiltinQ, vlen, vslice, vindex, vstore, Int.reduceLE, Int.reduceLT, Nat.reduceBEq, ↓reduceIte, reduceCtorEq, Nat.reduceEqDiff, Nat.reduceAdd, Nat.reduceMul, Nat.reduceLT, Nat.reduceLeDiff, Nat.reduceAnd, Nat.reduceSub, Int.reduceToNat, Array.toList, T13_ord, T13_ghost, FB, none_at, k1]
          refine VDone.back hG ?_ rfl rfl
          intro j hj; simp (maxSteps := 1000000) -dsimp -implicitDefEqProofs only [↓eqD, eqU, eqV, eqW, vbuiltinQ, vlen, vslice, vindex, vstore, Int.reduceLE, Int.reduceLT, Nat.reduceBEq, ↓reduceIte, reduceCtorEq, Nat.reduceEqDiff, Nat.reduceAdd, Nat.reduceMul, Nat.reduceLT, Nat.reduceLeDiff, Nat.reduceAnd, Nat.reduceSub, Int.reduceToNat, Array.toList, ltx_0 hj, gtx_0 hj, ltx_1 hj, gtx_1 hj, ltx_2 hj, gtx_2 hj, ltx_3 hj, gtx_3 hj, ltx_4 hj, gtx_4 hj, ltx_5 hj, gtx_5 hj]
    · have hh : headE 5 b b' m s m' s' t t' lo lo' hi hi' = false := by unfold headE; simp [e]
      rw [hh, Bool.false_and]
      simp (maxSteps := 1000000) -dsimp -implicitDefEqProofs only [↓eqD, eqU, eqV, eqW, vbuiltinQ, vlen, vslice, vindex, vstore, Int.reduceLE, Int.reduceLT, Nat.reduceBEq, ↓reduceIte, reduceCtorEq, Nat.reduceEqDiff, Nat.reduceAdd, Nat.reduceMul, Nat.reduceLT, Nat.reduceLeDiff, Nat.reduceAnd, Nat.reduceSub, Int.reduceToNat, Array.toList, fnWp_some Tryz.func13, Tryz.f13, T13_ord, T13_ghost, FB, none_at, Ex.cells, d1, d2, ne_eq, Int.reduceEq, k23, ag23, c23, i23, z23, veqK, veq1, vtag, Bool.and_eq_true, decide_eq_true_eq, c2', e]
      refine VDone.back hG ?_ rfl rfl
      intro j hj; simp (maxSteps := 1000000) -dsimp -implicitDefEqProofs only [↓eqD, eqU, eqV, eqW, vbuiltinQ, vlen, vslice, vindex, vstore, Int.reduceLE, Int.reduceLT, Nat.reduceBEq, ↓reduceIte, reduceCtorEq, Nat.reduceEqDiff, Nat.reduceAdd, Nat.reduceMul, Nat.reduceLT, Nat.reduceLeDiff, Nat.reduceAnd, Nat.reduceSub, Int.reduceToNat, Array.toList, ltx_0 hj, gtx_0 hj, ltx_1 hj, gtx_1 hj, ltx_2 hj, gtx_2 hj, ltx_3 hj, gtx_3 hj, ltx_4 hj, gtx_4 hj, ltx_5 hj, gtx_5 hj]
  by_cases q6 : k = 6
  · subst q6
    by_cases e : t = t'
    · subst e
      have hh : headE 6 b b' m s m' s' t t lo lo' hi hi' = true := by unfold headE; simp
      rw [hh, Bool.true_and]
      simp (maxSteps := 1000000) -dsimp -implicitDefEqProofs only [↓eqD, eqU, eqV, eqW, vbuiltinQ, vlen, vslice, vindex, vstore, Int.reduceLE, Int.reduceLT, Nat.reduceBEq, ↓reduceIte, reduceCtorEq, Nat.reduceEqDiff, Nat.reduceAdd, Nat.reduceMul, Nat.reduceLT, Nat.reduceLeDiff, Nat.reduceAnd, Nat.reduceSub, Int.reduceToNat, Array.toList, fnWp_some Tryz.func13, Tryz.f13, T13_ord, T13_ghost, FB, none_at, Ex.cells, d1, d2, ne_eq, Int.reduceEq, k23, ag23, c23, i23, z23, veqK, veq1, vtag, Bool.and_eq_true, decide_eq_true_eq, c2']
      refine vloop_by (fun i : Nat => i ≤ ks.length ∧ sameL ks ks' = sameL (ks.drop i) (ks'.drop i)) (fun i => Env.of [(2, .ptr G.next 0 0), (3, .ptr (G.next + 1) 0 0), (5, .int .i64 i)]) (fun _ => G.over (G.next + 2) [(G.next, .cells 0 [.int .i64 6, .bool b, .int .i64 m, .int .i64 s, .str t, .bool lo, .bool hi, .sl 8 ks.length (exsC ks)]), (G.next + 1, .cells 0 [.int .i64 6, .bool b', .int .i64 m', .int .i64 s', .str t, .bool lo', .bool hi', .sl 8 ks'.length (exsC ks')])]) (fun i => ks.length - i) 0 ?_ ?_ ?_
      · refine .of ?_ (.over hG ?_ ?_ ?_)
        · simp (maxSteps := 1000000) -dsimp -implicitDefEqProofs only [↓eqD, eqU, eqV, eqW, vbuiltinQ, vlen, vslice, vindex, vstore, Int.reduceLE, Int.reduceLT, Nat.reduceBEq, ↓reduceIte, reduceCtorEq, Nat.reduceEqDiff, Nat.reduceAdd, Nat.reduceMul, Nat.reduceLT, Nat.reduceLeDiff, Nat.reduceAnd, Nat.reduceSub, Int.reduceToNat, Array.toList]
          (repeat' apply And.intro) <;> exact .refl _
        · simp (maxSteps := 1000000) -dsimp -implicitDefEqProofs only [↓eqD, eqU, eqV, eqW, vbuiltinQ, vlen, vslice, vindex, vstore, Int.reduceLE, Int.reduceLT, Nat.reduceBEq, ↓reduceIte, reduceCtorEq, Nat.reduceEqDiff, Nat.reduceAdd, Nat.reduceMul, Nat.reduceLT, Nat.reduceLeDiff, Nat.reduceAnd, Nat.reduceSub, Int.reduceToNat, Array.toList]
        · simp (maxSteps := 1000000) -dsimp -implicitDefEqProofs only [↓eqD, eqU, eqV, eqW, vbuiltinQ, vlen, vslice, vindex, vstore, Int.reduceLE, Int.reduceLT, Nat.reduceBEq, ↓reduceIte, reduceCtorEq, Nat.reduceEqDiff, Nat.reduceAdd, Nat.reduceMul, Nat.reduceLT, Nat.reduceLeDiff, Nat.reduceAnd, Nat.reduceSub, Int.reduceToNat, Array.toList, FB]
        · intro j hj
          have hj : j < G.next := hj
          simp (maxSteps := 1000000) -dsimp -implicitDefEqProofs only [↓eqD, eqU, eqV, eqW, vbuiltinQ, vlen, vslice, vindex, vstore, Int.reduceLE, Int.reduceLT, Nat.reduceBEq, ↓reduceIte, reduceCtorEq, Nat.reduceEqDiff, Nat.reduceAdd, Nat.reduceMul, Nat.reduceLT, Nat.reduceLeDiff, Nat.reduceAnd, Nat.reduceSub, Int.reduceToNat, Array.toList, ltx_0 hj, gtx_0 hj, ltx_1 hj, gtx_1 hj, ltx_2 hj, gtx_2 hj, ltx_3 hj, gtx_3 hj, ltx_4 hj, gtx_4 hj, ltx_5 hj, gtx_5 hj]
      · exact ⟨Nat.zero_le _, rfl⟩
      · intro i ⟨hle, hI⟩
        by_cases hlt : i < ks.length
        · have hlt' : i < ks'.length := by omega
          have hx := exs_at hlt
          have hx' := exs_at hlt'
          have hs := same_at i hlt hlt' c2
          have k1 : (i : Int) < (ks.length : Int) := by omega
          have k2 : 0 ≤ (i : Int) := by omega
          have k3 : (i : Int) < (ks'.length : Int) := by omega
          have kw : IntKind.wrap .i64 ((i : Int) + 1) = ((i + 1 : Nat) : Int) := by rw [w64 (by omega) (by omega)]; rfl
          simp (maxSteps := 1000000) -dsimp -implicitDefEqProofs only [↓eqD, eqU, eqV, eqW, vbuiltinQ, vlen, vslice, vindex, vstore, Int.reduceLE, Int.reduceLT, Nat.reduceBEq, ↓reduceIte, reduceCtorEq, Nat.reduceEqDiff, Nat.reduceAdd, Nat.reduceMul, Nat.reduceLT, Nat.reduceLeDiff, Nat.reduceAnd, Nat.reduceSub, Int.reduceToNat, Array.toList, T13_ord, T13_ghost, FB, none_at, k1, k2, k3, kw, hx, hx', take8, Ex.cells_len, Nat.le_refl]
          refine VPure.calls (hk i hlt hlt' _) ?_
          rw [hI, hs]
          by_cases se : sameE ks[i] ks'[i] = true
          · rw [se]
            simp (maxSteps := 1000000) -dsimp -implicitDefEqProofs only [↓eqD, eqU, eqV, eqW, vbuiltinQ, vlen, vslice, vindex, vstore, Int.reduceLE, Int.reduceLT, Nat.reduceBEq, ↓reduceIte, reduceCtorEq, Nat.reduceEqDiff, Nat.reduceAdd, Nat.reduceMul, Nat.reduceLT, Nat.reduceLeDiff, Nat.reduceAnd, Nat.reduceSub, Int.reduceToNat, Array.toList, T13_ord, T13_ghost, FB, none_at, kw]
            refine ⟨i + 1, ⟨by omega, ?_⟩, by omega, .of ?_ (.over hG ?_ ?_ ?_)⟩
            · rfl
            · simp (maxSteps := 1000000) -dsimp -implicitDefEqProofs only [↓eqD, eqU, eqV, eqW, vbuiltinQ, vlen, vslice, vindex, vstore, Int.reduceLE, Int.reduceLT, Nat.reduceBEq, ↓reduceIte, reduceCtorEq, Nat.reduceEqDiff, Nat.reduceAdd, Nat.reduceMul, Nat.reduceLT, Nat.reduceLeDiff, Nat.reduceAnd, Nat.reduceSub, Int.reduceToNat, Array.toList]
              (repeat' apply And.intro) <;> exact .refl _
            · simp (maxSteps := 1000000) -dsimp -implicitDefEqProofs only [↓eqD, eqU, eqV, eqW, vbuiltinQ, vlen, vslice, vindex, vstore, Int.reduceLE, Int.reduceLT, Nat.reduceBEq, ↓reduceIte, reduceCtorEq, Nat.reduceEqDiff, Nat.reduceAdd, Nat.reduceMul, Nat.reduceLT, Nat.reduceLeDiff, Nat.reduceAnd, Nat.reduceSub, Int.reduceToNat, Array.toList]
            · simp (maxSteps := 1000000) -dsimp -implicitDefEqProofs only [↓eqD, eqU, eqV, eqW, vbuiltinQ, vlen, vslice, vindex, vstore, Int.reduceLE, Int.reduceLT, Nat.reduceBEq, ↓reduceIte, reduceCtorEq, Nat.reduceEqDiff, Nat.reduceAdd, Nat.reduceMul, Nat.reduceLT, Nat.reduceLeDiff, Nat.reduceAnd, Nat.reduceSub, Int.reduceToNat, Array.toList, FB]
            · intro j hj
              have hj : j < G.next := hj
              simp (maxSteps := 1000000) -dsimp -implicitDefEqProofs only [↓eqD, eqU, eqV, eqW, vbuiltinQ, vlen, vslice, vindex, vstore, Int.reduceLE, Int.reduceLT, Nat.reduceBEq, ↓reduceIte, reduceCtorEq, Nat.reduceEqDiff, Nat.reduceAdd, Nat.reduceMul, Nat.reduceLT, Nat.reduceLeDiff, Nat.reduceAnd, Nat.reduceSub, Int.reduceToNat, Array.toList, ltx_0 hj, gtx_0 hj, ltx_1 hj, gtx_1 hj, ltx_2 hj, gtx_2 hj, ltx_3 hj, gtx_3 hj, ltx_4 hj, gtx_4 hj, ltx_5 hj, gtx_5 hj]
          · have se : sameE ks[i] ks'[i] = false := by simpa using se
            rw [se]
            simp (maxSteps := 1000000) -dsimp -implicitDefEqProofs only [↓eqD, eqU, eqV, eqW, vbuiltinQ, vlen, vslice, vindex, vstore, Int.reduceLE, Int.reduceLT, Nat.reduceBEq, ↓reduceIte, reduceCtorEq, Nat.reduceEqDiff, Nat.reduceAdd, Nat.reduceMul, Nat.reduceLT, Nat.reduceLeDiff, Nat.reduceAnd, Nat.reduceSub, Int.reduceToNat, Array.toList, T13_ord, T13_ghost, FB, none_at, kw]
            refine VDone.back hG ?_ rfl rfl
            intro j hj; simp (maxSteps := 1000000) -dsimp -implicitDefEqProofs only [↓eqD, eqU, eqV, eqW, vbuiltinQ, vlen, vslice, vindex, vstore, Int.reduceLE, Int.reduceLT, Nat.reduceBEq, ↓reduceIte, reduceCtorEq, Nat.reduceEqDiff, Nat.reduceAdd, Nat.reduceMul, Nat.reduceLT, Nat.reduceLeDiff, Nat.reduceAnd, Nat.reduceSub, Int.reduceToNat, Array.toList, ltx_0 hj, gtx_0 hj, ltx_1 hj, gtx_1 hj, ltx_2 hj, gtx_2 hj, ltx_3 hj, gtx_3 hj, ltx_4 hj, gtx_4 hj, ltx_5 hj, gtx_5 hj]
        · have k1 : ¬(i : Int) < (ks.length : Int) := by omega
          have hs := same_out (l := ks) (l' := ks') (i := i) (by omega) c2
          rw [hI, hs]
          simp (maxSteps := 1000000) -dsimp -implicitDefEqProofs only [↓eqD, eqU, eqV, eqW, vbuiltinQ, vlen, vslice, vindex, vstore, Int.reduceLE, Int.reduceLT, Nat.reduceBEq, ↓reduceIte, reduceCtorEq, Nat.reduceEqDiff, Nat.reduceAdd, Nat.reduceMul, Nat.reduceLT, Nat.reduceLeDiff, Nat.reduceAnd, Nat.reduceSub, Int.reduceToNat, Array.toList, T13_ord, T13_ghost, FB, none_at, k1]
          refine VDone.back hG ?_ rfl rfl
          intro j hj; simp (maxSteps := 1000000) -dsimp -implicitDefEqProofs only [↓eqD, eqU, eqV, eqW, vbuiltinQ, vlen, vslice, vindex, vstore, Int.reduceLE, Int.reduceLT, Nat.reduceBEq, ↓reduceIte, reduceCtorEq, Nat.reduceEqDiff, Nat.reduceAdd, Nat.reduceMul, Nat.reduceLT, Nat.reduceLeDiff, Nat.reduceAnd, Nat.reduceSub, Int.reduceToNat, Array.toList, ltx_0 hj, gtx_0 hj, ltx_1 hj, gtx_1 hj, ltx_2 hj, gtx_2 hj, ltx_3 hj, gtx_3 hj, ltx_4 hj, gtx_4 hj, ltx_5 hj, gtx_5 hj]
    · have hh : headE 6 b b' m s m' s' t t' lo lo' hi hi' = false := by unfold headE; simp [e]
      rw [hh, Bool.false_and]
      simp (maxSteps := 1000000) -dsimp -implicitDefEqProofs only [↓eqD, eqU, eqV, eqW, vbuiltinQ, vlen, vslice, vindex, vstore, Int.reduceLE, Int.reduceLT, Nat.reduceBEq, ↓reduceIte, reduceCtorEq, Nat.reduceEqDiff, Nat.reduceAdd, Nat.reduceMul, Nat.reduceLT, Nat.reduceLeDiff, Nat.reduceAnd, Nat.reduceSub, Int.reduceToNat, Array.toList, fnWp_some Tryz.func13, Tryz.f13, T13_ord, T13_ghost, FB, none_at, Ex.cells, d1, d2, ne_eq, Int.reduceEq, k23, ag23, c23, i23, z23, veqK, veq1, vtag, Bool.and_eq_true, decide_eq_true_eq, c2', e]
      refine VDone.back hG ?_ rfl rfl
      intro j hj; simp (maxSteps := 1000000) -dsimp -implicitDefEqProofs only [↓eqD, eqU, eqV, eqW, vbuiltinQ, vlen, vslice, vindex, vstore, Int.reduceLE, Int.reduceLT, Nat.reduceBEq, ↓reduceIte, reduceCtorEq, Nat.reduceEqDiff, Nat.reduceAdd, Nat.reduceMul, Nat.reduceLT, Nat.reduceLeDiff, Nat.reduceAnd, Nat.reduceSub, Int.reduceToNat, Array.toList, ltx_0 hj, gtx_0 hj, ltx_1 hj, gtx_1 hj, ltx_2 hj, gtx_2 hj, ltx_3 hj, gtx_3 hj, ltx_4 hj, gtx_4 hj, ltx_5 hj, gtx_5 hj]
  by_cases q10 : k = 10
  · subst q10
    by_cases e : t = t'
    · subst e
      have hh : headE 10 b b' m s m' s' t t lo lo' hi hi' = true := by unfold headE; simp
      rw [hh, Bool.true_and]
      simp (maxSteps := 1000000) -dsimp -implicitDefEqProofs only [↓eqD, eqU, eqV, eqW, vbuiltinQ, vlen, vslice, vindex, vstore, Int.reduceLE, Int.reduceLT, Nat.reduceBEq, ↓reduceIte, reduceCtorEq, Nat.reduceEqDiff, Nat.reduceAdd, Nat.reduceMul, Nat.reduceLT, Nat.reduceLeDiff, Nat.reduceAnd, Nat.reduceSub, Int.reduceToNat, Array.toList, fnWp_some Tryz.func13, Tryz.f13, T13_ord, T13_ghost, FB, none_at, Ex.cells, d1, d2, ne_eq, Int.reduceEq, k23, ag23, c23, i23, z23, veqK, veq1, vtag, Bool.and_eq_true, decide_eq_true_eq, c2']
      refine vloop_by (fun i : Nat => i ≤ ks.length ∧ sameL ks ks' = sameL (ks.drop i) (ks'.drop i)) (fun i => Env.of [(2, .ptr G.next 0 0), (3, .ptr (G.next + 1) 0 0), (5, .int .i64 i)]) (fun _ => G.over (G.next + 2) [(G.next, .cells 0 [.int .i64 10, .bool b, .int .i64 m, .int .i64 s, .str t, .bool lo, .bool hi, .sl 8 ks.length (exsC ks)]), (G.next + 1, .cells 0 [.int .i64 10, .bool b', .int .i64 m', .int .i64 s', .str t, .bool lo', .bool hi', .sl 8 ks'.length (exsC ks')])]) (fun i => ks.length - i) 0 ?_ ?_ ?_
      · refine .of ?_ (.over hG ?_ ?_ ?_)
        · simp (maxSteps := 1000000) -dsimp -implicitDefEqProofs only [↓eqD, eqU, eqV, eqW, vbuiltinQ, vlen, vslice, vindex, vstore, Int.reduceLE, Int.reduceLT, Nat.reduceBEq, ↓reduceIte, reduceCtorEq, Nat.reduceEqDiff, Nat.reduceAdd, Nat.reduceMul, Nat.reduceLT, Nat.reduceLeDiff, Nat.reduceAnd, Nat.reduceSub, Int.reduceToNat, Array.toList]
          (repeat' apply And.intro) <;> exact .refl _
        · simp (maxSteps := 1000000) -dsimp -implicitDefEqProofs only [↓eqD, eqU, eqV, eqW, vbuiltinQ, vlen, vslice, vindex, vstore, Int.reduceLE, Int.reduceLT, Nat.reduceBEq, ↓reduceIte, reduceCtorEq, Nat.reduceEqDiff, Nat.reduceAdd, Nat.reduceMul, Nat.reduceLT, Nat.reduceLeDiff, Nat.reduceAnd, Nat.reduceSub, Int.reduceToNat, Array.toList]
        · simp (maxSteps := 1000000) -dsimp -implicitDefEqProofs only [↓eqD, eqU, eqV, eqW, vbuiltinQ, vlen, vslice, vindex, vstore, Int.reduceLE, Int.reduceLT, Nat.reduceBEq, ↓reduceIte, reduceCtorEq, Nat.reduceEqDiff, Nat.reduceAdd, Nat.reduceMul, Nat.reduceLT, Nat.reduceLeDiff, Nat.reduceAnd, Nat.reduceSub, Int.reduceToNat, Array.toList, FB]
        · intro j hj
          have hj : j < G.next := hj
          simp (maxSteps := 1000000) -dsimp -implicitDefEqProofs only [↓eqD, eqU, eqV, eqW, vbuiltinQ, vlen, vslice, vindex, vstore, Int.reduceLE, Int.reduceLT, Nat.reduceBEq, ↓reduceIte, reduceCtorEq, Nat.reduceEqDiff, Nat.reduceAdd, Nat.reduceMul, Nat.reduceLT, Nat.reduceLeDiff, Nat.reduceAnd, Nat.reduceSub, Int.reduceToNat, Array.toList, ltx_0 hj, gtx_0 hj, ltx_1 hj, gtx_1 hj, ltx_2 hj, gtx_2 hj, ltx_3 hj, gtx_3 hj, ltx_4 hj, gtx_4 hj, ltx_5 hj, gtx_5 hj]
      · exact ⟨Nat.zero_le _, rfl⟩
      · intro i ⟨hle, hI⟩
        by_cases hlt : i < ks.length
        · have hlt' : i < ks'.length := by omega
          have hx := exs_at hlt
          have hx' := exs_at hlt'
          have hs := same_at i hlt hlt' c2
          have k1 : (i : Int) < (ks.length : Int) := by omega
          have k2 : 0 ≤ (i : Int) := by omega
          have k3 : (i : Int) < (ks'.length : Int) := by omega
          have kw : IntKind.wrap .i64 ((i : Int) + 1) = ((i + 1 : Nat) : Int) := by rw [w64 (by omega) (by omega)]; rfl
          simp (maxSteps := 1000000) -dsimp -implicitDefEqProofs only [↓eqD, eqU, eqV, eqW, vbuiltinQ, vlen, vslice, vindex, vstore, Int.reduceLE, Int.reduceLT, Nat.reduceBEq, ↓reduceIte, reduceCtorEq, Nat.reduceEqDiff, Nat.reduceAdd, Nat.reduceMul, Nat.reduceLT, Nat.reduceLeDiff, Nat.reduceAnd, Nat.reduceSub, Int.reduceToNat, Array.toList, T13_ord, T13_ghost, FB, none_at, k1, k2, k3, kw, hx, hx', take8, Ex.cells_len, Nat.le_refl]
          refine VPure.calls (hk i hlt hlt' _) ?_
          rw [hI, hs]
          by_cases se : sameE ks[i] ks'[i] = true
          · rw [se]
            simp (maxSteps := 1000000) -dsimp -implicitDefEqProofs only [↓eqD, eqU, eqV, eqW, vbuiltinQ, vlen, vslice, vindex, vstore, Int.reduceLE, Int.reduceLT, Nat.reduceBEq, ↓reduceIte, reduceCtorEq, Nat.reduceEqDiff, Nat.reduceAdd, Nat.reduceMul, Nat.reduceLT, Nat.reduceLeDiff, Nat.reduceAnd, Nat.reduceSub, Int.reduceToNat, Array.toList, T13_ord, T13_ghost, FB, none_at, kw]
            refine ⟨i + 1, ⟨by omega, ?_⟩, by omega, .of ?_ (.over hG ?_ ?_ ?_)⟩
            · rfl
            · simp (maxSteps := 1000000) -dsimp -implicitDefEqProofs only [↓eqD, eqU, eqV, eqW, vbuiltinQ, vlen, vslice, vindex, vstore, Int.reduceLE, Int.reduceLT, Nat.reduceBEq, ↓reduceIte, reduceCtorEq, Nat.reduceEqDiff, Nat.reduceAdd, Nat.reduceMul, Nat.reduceLT, Nat.reduceLeDiff, Nat.reduceAnd, Nat.reduceSub, Int.reduceToNat, Array.toList]
              (repeat' apply And.intro) <;> exact .refl _
            · simp (maxSteps := 1000000) -dsimp -implicitDefEqProofs only [↓eqD, eqU, eqV, eqW, vbuiltinQ, vlen, vslice, vindex, vstore, Int.reduceLE, Int.reduceLT, Nat.reduceBEq, ↓reduceIte, reduceCtorEq, Nat.reduceEqDiff, Nat.reduceAdd, Nat.reduceMul, Nat.reduceLT, Nat.reduceLeDiff, Nat.reduceAnd, Nat.reduceSub, Int.reduceToNat, Array.toList]
            · simp (maxSteps := 1000000) -dsimp -implicitDefEqProofs only [↓eqD, eqU, eqV, eqW, vbuiltinQ, vlen, vslice, vindex, vstore, Int.reduceLE, Int.reduceLT, Nat.reduceBEq, ↓reduceIte, reduceCtorEq, Nat.reduceEqDiff, Nat.reduceAdd, Nat.reduceMul, Nat.reduceLT, Nat.reduceLeDiff, Nat.reduceAnd, Nat.reduceSub, Int.reduceToNat, Array.toList, FB]
            · intro j hj
              have hj : j < G.next := hj
              simp (maxSteps := 1000000) -dsimp -implicitDefEqProofs only [↓eqD, eqU, eqV, eqW, vbuiltinQ, vlen, vslice, vindex, vstore, Int.reduceLE, Int.reduceLT, Nat.reduceBEq, ↓reduceIte, reduceCtorEq, Nat.reduceEqDiff, Nat.reduceAdd, Nat.reduceMul, Nat.reduceLT, Nat.reduceLeDiff, Nat.reduceAnd, Nat.reduceSub, Int.reduceToNat, Array.toList, ltx_0 hj, gtx_0 hj, ltx_1 hj, gtx_1 hj, ltx_2 hj, gtx_2 hj, ltx_3 hj, gtx_3 hj, ltx_4 hj, gtx_4 hj, ltx_5 hj, gtx_5 hj]
          · have se : sameE ks[i] ks'[i] = false := by simpa using se
            rw [se]
            simp (maxSteps := 1000000) -dsimp -implicitDefEqProofs only [↓eqD, eqU, eqV, eqW, vbuiltinQ, vlen, vslice, vindex, vstore, Int.reduceLE, Int.reduceLT, Nat.reduceBEq, ↓reduceIte, reduceCtorEq, Nat.reduceEqDiff, Nat.reduceAdd, Nat.reduceMul, Nat.reduceLT, Nat.reduceLeDiff, Nat.reduceAnd, Nat.reduceSub, Int.reduceToNat, Array.toList, T13_ord, T13_ghost, FB, none_at, kw]
            refine VDone.back hG ?_ rfl rfl
            intro j hj; simp (maxSteps := 1000000) -dsimp -implicitDefEqProofs only [↓eqD, eqU, eqV, eqW, vbuiltinQ, vlen, vslice, vindex, vstore, Int.reduceLE, Int.reduceLT, Nat.reduceBEq, ↓reduceIte, reduceCtorEq, Nat.reduceEqDiff, Nat.reduceAdd, Nat.reduceMul, Nat.reduceLT, Nat.reduceLeDiff, Nat.reduceAnd, Nat.reduceSub, Int.reduceToNat, Array.toList, ltx_0 hj, gtx_0 hj, ltx_1 hj, gtx_1 hj, ltx_2 hj, gtx_2 hj, ltx_3 hj, gtx_3 hj, ltx_4 hj, gtx_4 hj, ltx_5 hj, gtx_5 hj]
        · have k1 : ¬(i : Int) < (ks.length : Int) := by omega
          have hs := same_out (l := ks) (l' := ks') (i := i) (by omega) c2
          rw [hI, hs]
          simp (maxSteps := 1000000) -dsimp -implicitDefEqProofs only [↓eqD, eqU, eqV, eqW, vbuiltinQ, vlen, vslice, vindex, vstore, Int.reduceLE, Int.reduceLT, Nat.reduceBEq, ↓reduceIte, reduceCtorEq, Nat.reduceEqDiff, Nat.reduceAdd, Nat.reduceMul, Nat.reduceLT, Nat.reduceLeDiff, Nat.reduceAnd, Nat.reduceSub, Int.reduceToNat, Array.toList, T13_ord, T13_ghost, FB, none_at, k1]
          refine VDone.back hG ?_ rfl rfl
          intro j hj; simp (maxSteps := 1000000) -dsimp -implicitDefEqProofs only [↓eqD, eqU, eqV, eqW, vbuiltinQ, vlen, vslice, vindex, vstore, Int.reduceLE, Int.reduceLT, Nat.reduceBEq, ↓reduceIte, reduceCtorEq, Nat.reduceEqDiff, Nat.reduceAdd, Nat.reduceMul, Nat.reduceLT, Nat.reduceLeDiff, Nat.reduceAnd, Nat.reduceSub, Int.reduceToNat, Array.toList, ltx_0 hj, gtx_0 hj, ltx_1 hj, gtx_1 hj, ltx_2 hj, gtx_2 hj, ltx_3 hj, gtx_3 hj, ltx_4 hj, gtx_4 hj, ltx_5 hj, gtx_5 hj]
    · have hh : headE 10 b b' m s m' s' t t' lo lo' hi hi' = false := by unfold headE; simp [e]
      rw [hh, Bool.false_and]
      simp (maxSteps := 1000000) -dsimp -implicitDefEqProofs only [↓eqD, eqU, eqV, eqW, vbuiltinQ, vlen, vslice, vindex, vstore, Int.reduceLE, Int.reduceLT, Nat.reduceBEq, ↓reduceIte, reduceCtorEq, Nat.reduceEqDiff, Nat.reduceAdd, Nat.reduceMul, Nat.reduceLT, Nat.reduceLeDiff, Nat.reduceAnd, Nat.reduceSub, Int.reduceToNat, Array.toList, fnWp_some Tryz.func13, Tryz.f13, T13_ord, T13_ghost, FB, none_at, Ex.cells, d1, d2, ne_eq, Int.reduceEq, k23, ag23, c23, i23, z23, veqK, veq1, vtag, Bool.and_eq_true, decide_eq_true_eq, c2', e]
      refine VDone.back hG ?_ rfl rfl
      intro j hj; simp (maxSteps := 1000000) -dsimp -implicitDefEqProofs only [↓eqD, eqU, eqV, eqW, vbuiltinQ, vlen, vslice, vindex, vstore, Int.reduceLE, Int.reduceLT, Nat.reduceBEq, ↓reduceIte, reduceCtorEq, Nat.reduceEqDiff, Nat.reduceAdd, Nat.reduceMul, Nat.reduceLT, Nat.reduceLeDiff, Nat.reduceAnd, Nat.reduceSub, Int.reduceToNat, Array.toList, ltx_0 hj, gtx_0 hj, ltx_1 hj, gtx_1 hj, ltx_2 hj, gtx_2 hj, ltx_3 hj, gtx_3 hj, ltx_4 hj, gtx_4 hj, ltx_5 hj, gtx_5 hj]
  by_cases q11 : k = 11
  · subst q11
    by_cases e : lo = lo'
    · subst e
      by_cases f : hi = hi'
      · subst f
        have hh : headE 11 b b' m s m' s' t t' lo lo hi hi = true := by unfold headE; simp
        rw [hh, Bool.true_and]
        simp (maxSteps := 1000000) -dsimp -implicitDefEqProofs only [↓eqD, eqU, eqV, eqW, vbuiltinQ, vlen, vslice, vindex, vstore, Int.reduceLE, Int.reduceLT, Nat.reduceBEq, ↓reduceIte, reduceCtorEq, Nat.reduceEqDiff, Nat.reduceAdd, Nat.reduceMul, Nat.reduceLT, Nat.reduceLeDiff, Nat.reduceAnd, Nat.reduceSub, Int.reduceToNat, Array.toList, fnWp_some Tryz.func13, Tryz.f13, T13_ord, T13_ghost, FB, none_at, Ex.cells, d1, d2, ne_eq, Int.reduceEq, k23, ag23, c23, i23, z23, veqK, veq1, vtag, Bool.and_eq_true, decide_eq_true_eq, c2']
        refine vloop_by (fun i : Nat => i ≤ ks.length ∧ sameL ks ks' = sameL (ks.drop i) (ks'.drop i)) (fun i => Env.of [(2, .ptr G.next 0 0), (3, .ptr (G.next + 1) 0 0), (5, .int .i64 i)]) (fun _ => G.over (G.next + 2) [(G.next, .cells 0 [.int .i64 11, .bool b, .int .i64 m, .int .i64 s, .str t, .bool lo, .bool hi, .sl 8 ks.length (exsC ks)]), (G.next + 1, .cells 0 [.int .i64 11, .bool b', .int .i64 m', .int .i64 s', .str t', .bool lo, .bool hi, .sl 8 ks'.length (exsC ks')])]) (fun i => ks.length - i) 0 ?_ ?_ ?_
        · refine .of ?_ (.over hG ?_ ?_ ?_)
          · simp (maxSteps := 1000000) -dsimp -implicitDefEqProofs only [↓eqD, eqU, eqV, eqW, vbuiltinQ, vlen, vslice, vindex, vstore, Int.reduceLE, Int.reduceLT, Nat.reduceBEq, ↓reduceIte, reduceCtorEq, Nat.reduceEqDiff, Nat.reduceAdd, Nat.reduceMul, Nat.reduceLT, Nat.reduceLeDiff, Nat.reduceAnd, Nat.reduceSub, Int.reduceToNat, Array.toList]
            (repeat' apply And.intro) <;> exact .refl _
          · simp (maxSteps := 1000000) -dsimp -implicitDefEqProofs only [↓eqD, eqU, eqV, eqW, vbuiltinQ, vlen, vslice, vindex, vstore, Int.reduceLE, Int.reduceLT, Nat.reduceBEq, ↓reduceIte, reduceCtorEq, Nat.reduceEqDiff, Nat.reduceAdd, Nat.reduceMul, Nat.reduceLT, Nat.reduceLeDiff, Nat.reduceAnd, Nat.reduceSub, Int.reduceToNat, Array.toList]
          · simp (maxSteps := 1000000) -dsimp -implicitDefEqProofs only [↓eqD, eqU, eqV, eqW, vbuiltinQ, vlen, vslice, vindex, vstore, Int.reduceLE, Int.reduceLT, Nat.reduceBEq, ↓reduceIte, reduceCtorEq, Nat.reduceEqDiff, Nat.reduceAdd, Nat.reduceMul, Nat.reduceLT, Nat.reduceLeDiff, Nat.reduceAnd, Nat.reduceSub, Int.reduceToNat, Array.toList, FB]
          · intro j hj
            have hj : j < G.next := hj
            simp (maxSteps := 1000000) -dsimp -implicitDefEqProofs only [↓eqD, eqU, eqV, eqW, vbuiltinQ, vlen, vslice, vindex, vstore, Int.reduceLE, Int.reduceLT, Nat.reduceBEq, ↓reduceIte, reduceCtorEq, Nat.reduceEqDiff, Nat.reduceAdd, Nat.reduceMul, Nat.reduceLT, Nat.reduceLeDiff, Nat.reduceAnd, Nat.reduceSub, Int.reduceToNat, Array.toList, ltx_0 hj, gtx_0 hj, ltx_1 hj, gtx_1 hj, ltx_2 hj, gtx_2 hj, ltx_3 hj, gtx_3 hj, ltx_4 hj, gtx_4 hj, ltx_5 hj, gtx_5 hj]
        · exact ⟨Nat.zero_le _, rfl⟩
        · intro i ⟨hle, hI⟩
          by_cases hlt : i < ks.length
          · have hlt' : i < ks'.length := by omega
            have hx := exs_at hlt
            have hx' := exs_at hlt'
            have hs := same_at i hlt hlt' c2
            have k1 : (i : Int) < (ks.length : Int) := by omega
            have k2 : 0 ≤ (i : Int) := by omega
            have k3 : (i : Int) < (ks'.length : Int) := by omega
            have kw : IntKind.wrap .i64 ((i : Int) + 1) = ((i + 1 : Nat) : Int) := by rw [w64 (by omega) (by omega)]; rfl
            simp (maxSteps := 1000000) -dsimp -implicitDefEqProofs only [↓eqD, eqU, eqV, eqW, vbuiltinQ, vlen, vslice, vindex, vstore, Int.reduceLE, Int.reduceLT, Nat.reduceBEq, ↓reduceIte, reduceCtorEq, Nat.reduceEqDiff, Nat.reduceAdd, Nat.reduceMul, Nat.reduceLT, Nat.reduceLeDiff, Nat.reduceAnd, Nat.reduceSub, Int.reduceToNat, Array.toList, T13_ord, T13_ghost, FB, none_at, k1, k2, k3, kw, hx, hx', take8, Ex.cells_len, Nat.le_refl]
            refine VPure.calls (hk i hlt hlt' _) ?_
            rw [hI, hs]
            by_cases se : sameE ks[i] ks'[i] = true
            · rw [se]
              simp (maxSteps := 1000000) -dsimp -implicitDefEqProofs only [↓eqD, eqU, eqV, eqW, vbuiltinQ, vlen, vslice, vindex, vstore, Int.reduceLE, Int.reduceLT, Nat.reduceBEq, ↓reduceIte, reduceCtorEq, Nat.reduceEqDiff, Nat.reduceAdd, Nat.reduceMul, Nat.reduceLT, Nat.reduceLeDiff, Nat.reduceAnd, Nat.reduceSub, Int.reduceToNat, Array.toList, T13_ord, T13_ghost, FB, none_at, kw]
              refine ⟨i + 1, ⟨by omega, ?_⟩, by omega, .of ?_ (.over hG ?_ ?_ ?_)⟩
              · rfl
              · simp (maxSteps := 1000000) -dsimp -implicitDefEqProofs only [↓eqD, eqU, eqV, eqW, vbuiltinQ, vlen, vslice, vindex, vstore, Int.reduceLE, Int.reduceLT, Nat.reduceBEq, ↓reduceIte, reduceCtorEq, Nat.reduceEqDiff, Nat.reduceAdd, Nat.reduceMul, Nat.reduceLT, Nat.reduceLeDiff, Nat.reduceAnd, Nat.reduceSub, Int.reduceToNat, Array.toList]
                (repeat' apply And.intro) <;> exact .refl _
              · simp (maxSteps := 1000000) -dsimp -implicitDefEqProofs only [↓eqD, eqU, eqV, eqW, vbuiltinQ, vlen, vslice, vindex, vstore, Int.reduceLE, Int.reduceLT, Nat.reduceBEq, ↓reduceIte, reduceCtorEq, Nat.reduceEqDiff, Nat.reduceAdd, Nat.reduceMul, Nat.reduceLT, Nat.reduceLeDiff, Nat.reduceAnd, Nat.reduceSub, Int.reduceToNat, Array.toList]
              · simp (maxSteps := 1000000) -dsimp -implicitDefEqProofs only [↓eqD, eqU, eqV, eqW, vbuiltinQ, vlen, vslice, vindex, vstore, Int.reduceLE, Int.reduceLT, Nat.reduceBEq, ↓reduceIte, reduceCtorEq, Nat.reduceEqDiff, Nat.reduceAdd, Nat.reduceMul, Nat.reduceLT, Nat.reduceLeDiff, Nat.reduceAnd, Nat.reduceSub, Int.reduceToNat, Array.toList, FB]
              · intro j hj
                have hj : j < G.next := hj
                simp (maxSteps := 1000000) -dsimp -implicitDefEqProofs only [↓eqD, eqU, eqV, eqW, vbuiltinQ, vlen, vslice, vindex, vstore, Int.reduceLE, Int.reduceLT, Nat.reduceBEq, ↓reduceIte, reduceCtorEq, Nat.reduceEqDiff, Nat.reduceAdd, Nat.reduceMul, Nat.reduceLT, Nat.reduceLeDiff, Nat.reduceAnd, Nat.reduceSub, Int.reduceToNat, Array.toList, ltx_0 hj, gtx_0 hj, ltx_1 hj, gtx_1 hj, ltx_2 hj, gtx_2 hj, ltx_3 hj, gtx_3 hj, ltx_4 hj, gtx_4 hj, ltx_5 hj, gtx_5 hj]
            · have se : sameE ks[i] ks'[i] = false := by simpa using se
              rw [se]
              simp (maxSteps := 1000000) -dsimp -implicitDefEqProofs only [↓eqD, eqU, eqV, eqW, vbuiltinQ, vlen, vslice, vindex, vstore, Int.reduceLE, Int.reduceLT, Nat.reduceBEq, ↓reduceIte, reduceCtorEq, Nat.reduceEqDiff, Nat.reduceAdd, Nat.reduceMul, Nat.reduceLT, Nat.reduceLeDiff, Nat.reduceAnd, Nat.reduceSub, Int.reduceToNat, Array.toList, T13_ord, T13_ghost, FB, none_at, kw]
              refine VDone.back hG ?_ rfl rfl
              intro j hj; simp (maxSteps := 1000000) -dsimp -implicitDefEqProofs only [↓eqD, eqU, eqV, eqW, vbuiltinQ, vlen, vslice, vindex, vstore, Int.reduceLE, Int.reduceLT, Nat.reduceBEq, ↓reduceIte, reduceCtorEq, Nat.reduceEqDiff, Nat.reduceAdd, Nat.reduceMul, Nat.reduceLT, Nat.reduceLeDiff, Nat.reduceAnd, Nat.reduceSub, Int.reduceToNat, Array.toList, ltx_0 hj, gtx_0 hj, ltx_1 hj, gtx_1 hj, ltx_2 hj, gtx_2 hj, ltx_3 hj, gtx_3 hj, ltx_4 hj, gtx_4 hj, ltx_5 hj, gtx_5 hj]
          · have k1 : ¬(i : Int) < (ks.length : Int) := by omega
            have hs := same_out (l := ks) (l' := ks') (i := i) (by omega) c2
            rw [hI, hs]
            simp (maxSteps := 1000000) -dsimp -implicitDefEqProofs only [↓eqD, eqU, eqV, eqW, vbuiltinQ, vlen, vslice, vindex, vstore, Int.reduceLE, Int.reduceLT, Nat.reduceBEq, ↓reduceIte, reduceCtorEq, Nat.reduceEqDiff, Nat.reduceAdd, Nat.reduceMul, Nat.reduceLT, Nat.reduceLeDiff, Nat.reduceAnd, Nat.reduceSub, Int.reduceToNat, Array.toList, T13_ord, T13_ghost, FB, none_at, k1]
            refine VDone.back hG ?_ rfl rfl
            intro j hj; simp (maxSteps := 1000000) -dsimp -implicitDefEqProofs only [↓eqD, eqU, eqV, eqW, vbuiltinQ, vlen, vslice, vindex, vstore, Int.reduceLE, Int.reduceLT, Nat.reduceBEq, ↓reduceIte, reduceCtorEq, Nat.reduceEqDiff, Nat.reduceAdd, Nat.reduceMul, Nat.reduceLT, Nat.reduceLeDiff, Nat.reduceAnd, Nat.reduceSub, Int.reduceToNat, Array.toList, ltx_0 hj, gtx_0 hj, ltx_1 hj, gtx_1 hj, ltx_2 hj, gtx_2 hj, ltx_3 hj, gtx_3 hj, ltx_4 hj, gtx_4 hj, ltx_5 hj, gtx_5 hj]
      · have hh : headE 11 b b' m s m' s' t t' lo lo hi hi' = false := by unfold headE; simp [f]
        rw [hh, Bool.false_and]
        simp (maxSteps := 1000000) -dsimp -implicitDefEqProofs only [↓eqD, eqU, eqV, eqW, vbuiltinQ, vlen, vslice, vindex, vstore, Int.reduceLE, Int.reduceLT, Nat.reduceBEq, ↓reduceIte, reduceCtorEq, Nat.reduceEqDiff, Nat.reduceAdd, Nat.reduceMul, Nat.reduceLT, Nat.reduceLeDiff, Nat.reduceAnd, Nat.reduceSub, Int.reduceToNat, Array.toList, fnWp_some Tryz.func13, Tryz.f13, T13_ord, T13_ghost, FB, none_at, Ex.cells, d1, d2, ne_eq, Int.reduceEq, k23, ag23, c23, i23, z23, veqK, veq1, vtag, Bool.and_eq_true, decide_eq_true_eq, c2', f]
        refine VDone.back hG ?_ rfl rfl
        intro j hj; simp (maxSteps := 1000000) -dsimp -implicitDefEqProofs only [↓eqD, eqU, eqV, eqW, vbuiltinQ, vlen, vslice, vindex, vstore, Int.reduceLE, Int.reduceLT, Nat.reduceBEq, ↓reduceIte, reduceCtorEq, Nat.reduceEqDiff, Nat.reduceAdd, Nat.reduceMul, Nat.reduceLT, Nat.reduceLeDiff, Nat.reduceAnd, Nat.reduceSub, Int.reduceToNat, Array.toList, ltx_0 hj, gtx_0 hj, ltx_1 hj, gtx_1 hj, ltx_2 hj, gtx_2 hj, ltx_3 hj, gtx_3 hj, ltx_4 hj, gtx_4 hj, ltx_5 hj, gtx_5 hj]
    · have hh : headE 11 b b' m s m' s' t t' lo lo' hi hi' = false := by unfold headE; simp [e]
      rw [hh, Bool.false_and]
      simp (maxSteps := 1000000) -dsimp -implicitDefEqProofs only [↓eqD, eqU, eqV, eqW, vbuiltinQ, vlen, vslice, vindex, vstore, Int.reduceLE, Int.reduceLT, Nat.reduceBEq, ↓reduceIte, reduceCtorEq, Nat.reduceEqDiff, Nat.reduceAdd, Nat.reduceMul, Nat.reduceLT, Nat.reduceLeDiff, Nat.reduceAnd, Nat.reduceSub, Int.reduceToNat, Array.toList, fnWp_some Tryz.func13, Tryz.f13, T13_ord, T13_ghost, FB, none_at, Ex.cells, d1, d2, ne_eq, Int.reduceEq, k23, ag23, c23, i23, z23, veqK, veq1, vtag, Bool.and_eq_true, decide_eq_true_eq, c2', e]
      refine VDone.back hG ?_ rfl rfl
      intro j hj; simp (maxSteps := 1000000) -dsimp -implicitDefEqProofs only [↓eqD, eqU, eqV, eqW, vbuiltinQ, vlen, vslice, vindex, vstore, Int.reduceLE, Int.reduceLT, Nat.reduceBEq, ↓reduceIte, reduceCtorEq, Nat.reduceEqDiff, Nat.reduceAdd, Nat.reduceMul, Nat.reduceLT, Nat.reduceLeDiff, Nat.reduceAnd, Nat.reduceSub, Int.reduceToNat, Array.toList, ltx_0 hj, gtx_0 hj, ltx_1 hj, gtx_1 hj, ltx_2 hj, gtx_2 hj, ltx_3 hj, gtx_3 hj, ltx_4 hj, gtx_4 hj, ltx_5 hj, gtx_5 hj]
  have hh : headE k b b' m s m' s' t t' lo lo' hi hi' = true := by unfold headE; simp [q2, q3, q4, q5, q6, q10, q11]
  rw [hh, Bool.true_and]
  simp (maxSteps := 1000000) -dsimp -implicitDefEqProofs only [↓eqD, eqU, eqV, eqW, vbuiltinQ, vlen, vslice, vindex, vstore, Int.reduceLE, Int.reduceLT, Nat.reduceBEq, ↓reduceIte, reduceCtorEq, Nat.reduceEqDiff, Nat.reduceAdd, Nat.reduceMul, Nat.reduceLT, Nat.reduceLeDiff, Nat.reduceAnd, Nat.reduceSub, Int.reduceToNat, Array.toList, fnWp_some Tryz.func13, Tryz.f13, T13_ord, T13_ghost, FB, none_at, Ex.cells, d1, d2, ne_eq, Int.reduceEq, k23, ag23, c23, i23, z23, veqK, veq1, vtag, Bool.and_eq_true, decide_eq_true_eq, c2', q2, q3, q4, q5, q6, q10, q11]
  refine vloop_by (fun i : Nat => i ≤ ks.length ∧ sameL ks ks' = sameL (ks.drop i) (ks'.drop i)) (fun i => Env.of [(2, .ptr G.next 0 0), (3, .ptr (G.next + 1) 0 0), (5, .int .i64 i)]) (fun _ => G.over (G.next + 2) [(G.next, .cells 0 [.int .i64 k, .bool b, .int .i64 m, .int .i64 s, .str t, .bool lo, .bool hi, .sl 8 ks.length (exsC ks)]), (G.next + 1, .cells 0 [.int .i64 k, .bool b', .int .i64 m', .int .i64 s', .str t', .bool lo', .bool hi', .sl 8 ks'.length (exsC ks')])]) (fun i => ks.length - i) 0 ?_ ?_ ?_
  · refine .of ?_ (.over hG ?_ ?_ ?_)
    · simp (maxSteps := 1000000) -dsimp -implicitDefEqProofs only [↓eqD, eqU, eqV, eqW, vbuiltinQ, vlen, vslice, vindex, vstore, Int.reduceLE, Int.reduceLT, Nat.reduceBEq, ↓reduceIte, reduceCtorEq, Nat.reduceEqDiff, Nat.reduceAdd, Nat.reduceMul, Nat.reduceLT, Nat.reduceLeDiff, Nat.reduceAnd, Nat.reduceSub, Int.reduceToNat, Array.toList]
      (repeat' apply And.intro) <;> exact .refl _
    · simp (maxSteps := 1000000) -dsimp -implicitDefEqProofs only [↓eqD, eqU, eqV, eqW, vbuiltinQ, vlen, vslice, vindex, vstore, Int.reduceLE, Int.reduceLT, Nat.reduceBEq, ↓reduceIte, reduceCtorEq, Nat.reduceEqDiff, Nat.reduceAdd, Nat.reduceMul, Nat.reduceLT, Nat.reduceLeDiff, Nat.reduceAnd, Nat.reduceSub, Int.reduceToNat, Array.toList]
    · simp (maxSteps := 1000000) -dsimp -implicitDefEqProofs only [↓eqD, eqU, eqV, eqW, vbuiltinQ, vlen, vslice, vindex, vstore, Int.reduceLE, Int.reduceLT, Nat.reduceBEq, ↓reduceIte, reduceCtorEq, Nat.reduceEqDiff, Nat.reduceAdd, Nat.reduceMul, Nat.reduceLT, Nat.reduceLeDiff, Nat.reduceAnd, Nat.reduceSub, Int.reduceToNat, Array.toList, FB]
    · intro j hj
      have hj : j < G.next := hj
      simp (maxSteps := 1000000) -dsimp -implicitDefEqProofs only [↓eqD, eqU, eqV, eqW, vbuiltinQ, vlen, vslice, vindex, vstore, Int.reduceLE, Int.reduceLT, Nat.reduceBEq, ↓reduceIte, reduceCtorEq, Nat.reduceEqDiff, Nat.reduceAdd, Nat.reduceMul, Nat.reduceLT, Nat.reduceLeDiff, Nat.reduceAnd, Nat.reduceSub, Int.reduceToNat, Array.toList, ltx_0 hj, gtx_0 hj, ltx_1 hj, gtx_1 hj, ltx_2 hj, gtx_2 hj, ltx_3 hj, gtx_3 hj, ltx_4 hj, gtx_4 hj, ltx_5 hj, gtx_5 hj]
  · exact ⟨Nat.zero_le _, rfl⟩
  · intro i ⟨hle, hI⟩
    by_cases hlt : i < ks.length
    · have hlt' : i < ks'.length := by omega
      have hx := exs_at hlt
      have hx' := exs_at hlt'
      have hs := same_at i hlt hlt' c2
      have k1 : (i : Int) < (ks.length : Int) := by omega
      have k2 : 0 ≤ (i : Int) := by omega
      have k3 : (i : Int) < (ks'.length : Int) := by omega
      have kw : IntKind.wrap .i64 ((i : Int) + 1) = ((i + 1 : Nat) : Int) := by rw [w64 (by omega) (by omega)]; rfl
      simp (maxSteps := 1000000) -dsimp -implicitDefEqProofs only [↓eqD, eqU, eqV, eqW, vbuiltinQ, vlen, vslice, vindex, vstore, Int.reduceLE, Int.reduceLT, Nat.reduceBEq, ↓reduceIte, reduceCtorEq, Nat.reduceEqDiff, Nat.reduceAdd, Nat.reduceMul, Nat.reduceLT, Nat.reduceLeDiff, Nat.reduceAnd, Nat.reduceSub, Int.reduceToNat, Array.toList, T13_ord, T13_ghost, FB, none_at, k1, k2, k3, kw, hx, hx', take8, Ex.cells_len, Nat.le_refl]
      refine VPure.calls (hk i hlt hlt' _) ?_
      rw [hI, hs]
      by_cases se : sameE ks[i] ks'[i] = true
      · rw [se]
        simp (maxSteps := 1000000) -dsimp -implicitDefEqProofs only [↓eqD, eqU, eqV, eqW, vbuiltinQ, vlen, vslice, vindex, vstore, Int.reduceLE, Int.reduceLT, Nat.reduceBEq, ↓reduceIte, reduceCtorEq, Nat.reduceEqDiff, Nat.reduceAdd, Nat.reduceMul, Nat.reduceLT, Nat.reduceLeDiff, Nat.reduceAnd, Nat.reduceSub, Int.reduceToNat, Array.toList, T13_ord, T13_ghost, FB, none_at, kw]
        refine ⟨i + 1, ⟨by omega, ?_⟩, by omega, .of ?_ (.over hG ?_ ?_ ?_)⟩
        · rfl
        · simp (maxSteps := 1000000) -dsimp -implicitDefEqProofs only [↓eqD, eqU, eqV, eqW, vbuiltinQ, vlen, vslice, vindex, vstore, Int.reduceLE, Int.reduceLT, Nat.reduceBEq, ↓reduceIte, reduceCtorEq, Nat.reduceEqDiff, Nat.reduceAdd, Nat.reduceMul, Nat.reduceLT, Nat.reduceLeDiff, Nat.reduceAnd, Nat.reduceSub, Int.reduceToNat, Array.toList]
          (repeat' apply And.intro) <;> exact .refl _
        · simp (maxSteps := 1000000) -dsimp -implicitDefEqProofs only [↓eqD, eqU, eqV, eqW, vbuiltinQ, vlen, vslice, vindex, vstore, Int.reduceLE, Int.reduceLT, Nat.reduceBEq, ↓reduceIte, reduceCtorEq, Nat.reduceEqDiff, Nat.reduceAdd, Nat.reduceMul, Nat.reduceLT, Nat.reduceLeDiff, Nat.reduceAnd, Nat.reduceSub, Int.reduceToNat, Array.toList]
        · simp (maxSteps := 1000000) -dsimp -implicitDefEqProofs only [↓eqD, eqU, eqV, eqW, vbuiltinQ, vlen, vslice, vindex, vstore, Int.reduceLE, Int.reduceLT, Nat.reduceBEq, ↓reduceIte, reduceCtorEq, Nat.reduceEqDiff, Nat.reduceAdd, Nat.reduceMul, Nat.reduceLT, Nat.reduceLeDiff, Nat.reduceAnd, Nat.reduceSub, Int.reduceToNat, Array.toList, FB]
        · intro j hj
          have hj : j < G.next := hj
          simp (maxSteps := 1000000) -dsimp -implicitDefEqProofs only [↓eqD, eqU, eqV, eqW, vbuiltinQ, vlen, vslice, vindex, vstore, Int.reduceLE, Int.reduceLT, Nat.reduceBEq, ↓reduceIte, reduceCtorEq, Nat.reduceEqDiff, Nat.reduceAdd, Nat.reduceMul, Nat.reduceLT, Nat.reduceLeDiff, Nat.reduceAnd, Nat.reduceSub, Int.reduceToNat, Array.toList, ltx_0 hj, gtx_0 hj, ltx_1 hj, gtx_1 hj, ltx_2 hj, gtx_2 hj, ltx_3 hj, gtx_3 hj, ltx_4 hj, gtx_4 hj, ltx_5 hj, gtx_5 hj]
      · have se : sameE ks[i] ks'[i] = false := by simpa using se
        rw [se]
        simp (maxSteps := 1000000) -dsimp -implicitDefEqProofs only [↓eqD, eqU, eqV, eqW, vbuiltinQ, vlen, vslice, vindex, vstore, Int.reduceLE, Int.reduceLT, Nat.reduceBEq, ↓reduceIte, reduceCtorEq, Nat.reduceEqDiff, Nat.reduceAdd, Nat.reduceMul, Nat.reduceLT, Nat.reduceLeDiff, Nat.reduceAnd, Nat.reduceSub, Int.reduceToNat, Array.toList, T13_ord, T13_ghost, FB, none_at, kw]
        refine VDone.back hG ?_ rfl rfl
        intro j hj; simp (maxSteps := 1000000) -dsimp -implicitDefEqProofs only [↓eqD, eqU, eqV, eqW, vbuiltinQ, vlen, vslice, vindex, vstore, Int.reduceLE, Int.reduceLT, Nat.reduceBEq, ↓reduceIte, reduceCtorEq, Nat.reduceEqDiff, Nat.reduceAdd, Nat.reduceMul, Nat.reduceLT, Nat.reduceLeDiff, Nat.reduceAnd, Nat.reduceSub, Int.reduceToNat, Array.toList, ltx_0 hj, gtx_0 hj, ltx_1 hj, gtx_1 hj, ltx_2 hj, gtx_2 hj, ltx_3 hj, gtx_3 hj, ltx_4 hj, gtx_4 hj, ltx_5 hj, gtx_5 hj]
    · have k1 : ¬(i : Int) < (ks.length : Int) := by omega
      have hs := same_out (l := ks) (l' := ks') (i := i) (by omega) c2
      rw [hI, hs]
      simp (maxSteps := 1000000) -dsimp -implicitDefEqProofs only [↓eqD, eqU, eqV, eqW, vbuiltinQ, vlen, vslice, vindex, vstore, Int.reduceLE, Int.reduceLT, Nat.reduceBEq, ↓reduceIte, reduceCtorEq, Nat.reduceEqDiff, Nat.reduceAdd, Nat.reduceMul, Nat.reduceLT, Nat.reduceLeDiff, Nat.reduceAnd, Nat.reduceSub, Int.reduceToNat, Array.toList, T13_ord, T13_ghost, FB, none_at, k1]
      refine VDone.back hG ?_ rfl rfl
      intro j hj; simp (maxSteps := 1000000) -dsimp -implicitDefEqProofs only [↓eqD, eqU, eqV, eqW, vbuiltinQ, vlen, vslice, vindex, vstore, Int.reduceLE, Int.reduceLT, Nat.reduceBEq, ↓reduceIte, reduceCtorEq, Nat.reduceEqDiff, Nat.reduceAdd, Nat.reduceMul, Nat.reduceLT, Nat.reduceLeDiff, Nat.reduceAnd, Nat.reduceSub, Int.reduceToNat, Array.toList, ltx_0 hj, gtx_0 hj, ltx_1 hj, gtx_1 hj, ltx_2 hj, gtx_2 hj, ltx_3 hj, gtx_3 hj, ltx_4 hj, gtx_4 hj, ltx_5 hj, gtx_5 hj]
end Go.Vf
/- Same at all depths; both Parses closed; known; FeelParses. -/
set_option linter.unusedVariables false
set_option linter.unusedSimpArgs false
namespace Go.Vf
open Go.Proofs Go.RowKit

mutual
def smallE : Ex → Prop
  | .mk k b m s t lo hi ks => ks.length ≤ 2000 ∧ smallL ks
def smallL : List Ex → Prop
  | [] => True
  | a :: r => smallE a ∧ smallL r
end
theorem small_mk {k : Int} {b : Bool} {m s : Int} {t : List UInt8} {lo hi : Bool} {ks : List Ex} : smallE (.mk k b m s t lo hi ks) ↔ ks.length ≤ 2000 ∧ smallL ks := by rw [smallE]
theorem small_at : ∀ {l : List Ex} (i : Nat) (h : i < l.length), smallL l → smallE l[i]
  | a :: r, 0, _, hs => by rw [smallL] at hs; exact hs.1
  | a :: r, i + 1, h, hs => by rw [smallL] at hs; exact small_at i (by simpa using h) hs.2
mutual
theorem same_walk : ∀ (a b : Ex), smallE a → ∀ G, VPure Tryz.prog 13 [.agg a.cells, .agg b.cells] G (.bool (sameE a b))
  | .mk k b m s t lo hi ks, .mk k' b' m' s' t' lo' hi' ks', h, G => by
    rw [smallE] at h
    exact same_walk0 k b m s t lo hi ks k' b' m' s' t' lo' hi' ks' (by omega) (fun i h1 h2 G => sames_walk ks h.2 i h1 _ G) G
theorem sames_walk : ∀ (l : List Ex), smallL l → ∀ (i : Nat) (h : i < l.length) (b : Ex) (G : Heap), VPure Tryz.prog 13 [.agg l[i].cells, .agg b.cells] G (.bool (sameE l[i] b))
  | a :: r, hs, 0, _, b, G => by rw [smallL] at hs; exact same_walk a b hs.1 G
  | a :: r, hs, i + 1, h, b, G => by rw [smallL] at hs; exact sames_walk r hs.2 i (by simpa using h) b G
end
mutual
theorem same_refl : ∀ a : Ex, sameE a a = true
  | .mk k b m s t lo hi ks => by
    rw [sameE, if_pos ⟨rfl, rfl⟩, sames_refl ks, Bool.and_true]
    unfold headE
    simp
theorem sames_refl : ∀ l : List Ex, sameL l l = true
  | [] => by rw [sameL]
  | a :: r => by rw [sameL, same_refl a, sames_refl r]; rfl
end

/-! ### what is read is small -/
def Smalls (k : Kid) : Prop := ∀ s, smallE (k s).1
theorem small_zero : smallE Ex.zero := by unfold Ex.zero; rw [smallE, smallL]; exact ⟨by decide, trivial⟩
theorem small_leaf (k : Int) (b : Bool) (m s : Int) (t : List UInt8) : smallE (.mk k b m s t false false []) := by rw [smallE, smallL]; exact ⟨by decide, trivial⟩
theorem small_bin {op : List UInt8} {a b : Ex} (h1 : smallE a) (h2 : smallE b) : smallE (Ex.bin op a b) := by
  unfold Ex.bin; rw [smallE, smallL, smallL, smallL]; exact ⟨by simp, h1, h2, trivial⟩
theorem smallL_snoc : ∀ {l : List Ex} {x : Ex}, smallL l → smallE x → smallL (l ++ [x])
  | [], x, _, h => by rw [List.nil_append, smallL, smallL]; exact ⟨h, trivial⟩
  | a :: r, x, hl, h => by rw [smallL] at hl; rw [List.cons_append, smallL]; exact ⟨hl.1, smallL_snoc hl.2 h⟩
theorem rowGo_small {kid : Kid} {op : St → List UInt8 × St} (hk : Smalls kid) : ∀ (f : Nat) (x : Ex) (s : St), smallE x → smallE (rowGo kid op f x s).1
  | 0, x, s, h => h
  | f + 1, x, s, h => by
    unfold rowGo
    split
    · exact h
    · exact rowGo_small hk f _ _ (small_bin h (hk _))
theorem rowP_small {T : List Tok} {kid : Kid} {op : St → List UInt8 × St} (hk : Smalls kid) : Smalls (rowP T kid op) := fun s => rowGo_small hk _ _ _ (hk s)
theorem inR_small {T : List Tok} {en : Int} {ex : Kid} {x : Ex} (hk : Smalls ex) (hx : smallE x) : Smalls (inR T en ex x) := fun s => by
  unfold inR
  rw [smallE, smallL, smallL, smallL, smallL]
  exact ⟨by simp, hx, hk _, hk _, trivial⟩
theorem cmpR_small {T : List Tok} {en : Int} {add ex : Kid} (ha : Smalls add) (hk : Smalls ex) : Smalls (cmpR T en add ex) := fun s => by
  unfold cmpR
  split
  · split
    · exact inR_small hk (ha _) _
    · exact ha _
  · exact small_bin (ha _) (ha _)
theorem ifR_small {T : List Tok} {en : Int} {ex : Kid} (hk : Smalls ex) : Smalls (ifR T en ex) := fun s => by
  unfold ifR
  rw [smallE, smallL, smallL, smallL, smallL]
  exact ⟨by simp, hk _, hk _, hk _, trivial⟩
theorem rowGoR_small {T : List Tok} {en : Int} {ex : Kid} {cl : List UInt8} (hk : Smalls ex) : ∀ (f : Nat) (acc : List Ex) (s : St), smallL acc → smallL (rowGoR T en ex cl f acc s).1 ∧ (rowGoR T en ex cl f acc s).1.length ≤ acc.length + f
  | 0, acc, s, h => ⟨h, Nat.le_refl _⟩
  | f + 1, acc, s, h => by
    unfold rowGoR
    have h1 := smallL_snoc h (hk s)
    split
    · have := rowGoR_small (T := T) (en := en) (cl := cl) hk f (acc ++ [(ex s).1]) (mustR T en (ex s).2 [[44], cl]).2 h1
      rw [List.length_append] at this
      exact ⟨this.1, by simp at this; omega⟩
    · exact ⟨h1, by simp⟩
theorem rowR_small {T : List Tok} {en : Int} {ex : Kid} {cl : List UInt8} (hT : T.length ≤ 1000) (hk : Smalls ex) (s : St) (k : Int) (t : List UInt8) : smallE (.mk k false 0 0 t false false (rowR T en ex cl s).1) := by
  rw [smallE]
  unfold rowR
  split
  · exact ⟨by simp, trivial⟩
  · have := rowGoR_small (T := T) (en := en) (cl := cl) hk (T.length + 1) [] s trivial
    exact ⟨by have h := this.2; simp at h; omega, this.1⟩
theorem atomR_small {T : List Tok} {en : Int} {dec : List UInt8 → DecR} {ex : Kid} (hT : T.length ≤ 1000) (hk : Smalls ex) : Smalls (atomR T en dec ex) := fun s => by
  unfold atomR
  split
  · split
    · unfold atom1R
      split
      · unfold numR; split <;> exact small_leaf ..
      split
      · exact small_leaf ..
      split
      · unfold nameR
        split
        · exact rowR_small hT hk _ _ _
        · exact small_leaf ..
      · unfold atom2R
        split
        · exact small_leaf ..
        split
        · exact small_leaf ..
        split
        · exact small_leaf ..
        split
        · exact hk _
        split
        · exact rowR_small hT hk _ _ _
        split
        · exact ifR_small hk _
        · exact small_zero
    · exact small_zero
  · exact small_zero
theorem kidsR_small {T : List Tok} {en : Int} {dec : List UInt8 → DecR} (hT : T.length ≤ 1000) : ∀ n, Smalls (exR T en dec n) ∧ Smalls (unR T en dec n)
  | 0 => by rw [exR_zero, unR_zero]; exact ⟨fun s => small_zero, fun s => small_zero⟩
  | n + 1 => by
    have ih := kidsR_small (en := en) (dec := dec) hT n
    have hu : Smalls (unR T en dec (n + 1)) := by
      rw [unR_succ]
      intro s
      unfold unSR
      split
      · split
        · unfold Ex.neg; rw [smallE, smallL, smallL]; exact ⟨by simp, ih.2 _, trivial⟩
        · exact atomR_small hT ih.1 _
      · exact small_zero
    refine ⟨?_, hu⟩
    rw [exR_succ]
    intro s
    unfold exSR
    split
    · exact rowP_small (rowP_small (cmpR_small (rowP_small (rowP_small hu)) ih.1)) _
    · exact small_zero
theorem takeF_small {a : Nat} {r : Ex × St} (h : smallE r.1) : smallE (takeF a r).e := by
  unfold takeF; split
  · exact h
  · exact small_zero
theorem refP_small (dec : List UInt8 → DecR) (s : List UInt8) : smallE (refP dec s).e := by
  unfold refP
  have hl := lexL_len s
  split
  · unfold endR
    split
    · split
      · exact small_zero
      · exact takeF_small ((kidsR_small (by omega) 9).1 _)
    · exact small_zero
  · exact small_zero

/-! ### both Parses -/
theorem decB_at : RDecAt decA := fun t G ht => by
  have h := refdec_walk t ht G
  rw [← decA_eq] at h
  exact h
theorem decA_at : DecAt decA := fun t G ht => dec_walk t ht G
theorem feelParse_walk (s : List UInt8) (G : Heap) : VPure Tryz.prog 11 [.str s] G (refP decA s).v := by
  have h := parse_walk decA_at s G
  rw [parse_eq] at h
  exact h
def g11 : List V → Option (Prop × V)
  | [.str s] => some (True, (refP decA s).v)
  | _ => none
def S11 : Specs := (Specs.none.add 11 g11).add 12 g11
theorem S11_at (f : FuncId) (xs : List V) (G : Heap) : S11 f xs G = ((Specs.none.add 11 g11).add 12 g11) f xs G := rfl
theorem okS11 : SOk Tryz.prog S11 := by
  refine ((SOk.none _).add ?_).add ?_
  · intro xs G p v e hp
    unfold g11 at e
    split at e
    · cases e; exact feelParse_walk _ G
    · cases e
  · intro xs G p v e hp
    unfold g11 at e
    split at e
    · cases e; exact refParse_walk decB_at _ G
    · cases e
theorem known_eq : refP decA [49, 32, 43, 32, 50, 32, 42, 32, 120] = ⟨.mk 6 false 0 0 [43] false false [.mk 3 false 1 0 [] false false [], .mk 6 false 0 0 [42] false false [.mk 3 false 2 0 [] false false [], .mk 5 false 0 0 [120] false false []]], 9, 0⟩ := by kernel_rfl
end Go.Vf
/- known; FeelParses. -/
set_option linter.unusedVariables false
set_option linter.unusedSimpArgs false
namespace Go.Vf
open Go.Proofs Go.RowKit

theorem okn14 : fnOk Tryz.prog 14 T0 1 = true := by kernel_rfl
set_option maxRecDepth 100000 in
theorem known_walk (G : Heap) : VPure Tryz.prog 14 [] G (.bool true) := by
  refine VCalls.of okS11 mixed T0 okn14 fun hG => ?_
  have hk := known_eq
  simp (maxSteps := 1000000) -dsimp -implicitDefEqProofs only [↓eqD, eqU, eqV, eqW, vbuiltinQ, vlen, vslice, vindex, vstore, Int.reduceLE, Int.reduceLT, Nat.reduceBEq, ↓reduceIte, reduceCtorEq, Nat.reduceEqDiff, Nat.reduceAdd, Nat.reduceMul, Nat.reduceLT, Nat.reduceLeDiff, Nat.reduceAnd, Nat.reduceSub, Int.reduceToNat, Array.toList, fnWp_some Tryz.func14, Tryz.f14, T0, FB, S11_at, add_at, none_at, g11, hk, Parsed.v, Ex.cells, exsC, velem, Int.reduceEq, k23, ag23, c23, i23]
  rw [if_pos (by decide)]
  refine ⟨by decide, VDone.back hG ?_ rfl rfl⟩
  intro j hj; simp (maxSteps := 1000000) -dsimp -implicitDefEqProofs only [↓eqD, eqU, eqV, eqW, vbuiltinQ, vlen, vslice, vindex, vstore, Int.reduceLE, Int.reduceLT, Nat.reduceBEq, ↓reduceIte, reduceCtorEq, Nat.reduceEqDiff, Nat.reduceAdd, Nat.reduceMul, Nat.reduceLT, Nat.reduceLeDiff, Nat.reduceAnd, Nat.reduceSub, Int.reduceToNat, Array.toList, ltx_0 hj, gtx_0 hj, ltx_1 hj, gtx_1 hj, ltx_2 hj, gtx_2 hj, ltx_3 hj, gtx_3 hj, ltx_4 hj, gtx_4 hj, ltx_5 hj, gtx_5 hj]
def g14k : List V → Option (Prop × V)
  | [] => some (True, .bool true)
  | _ => none
def S14 : Specs := ((Specs.none.add 11 g11).add 12 g11).add 14 g14k
theorem S14_at (f : FuncId) (xs : List V) (G : Heap) : S14 f xs G = (((Specs.none.add 11 g11).add 12 g11).add 14 g14k) f xs G := rfl
theorem okS14 : SOk Tryz.prog S14 := by
  refine okS11.add ?_
  intro xs G p v e hp
  unfold g14k at e
  split at e
  · cases e; exact known_walk G
  · cases e
theorem okn3 : fnOk Tryz.prog 3 T0 1 = true := by kernel_rfl
set_option maxRecDepth 100000 in
theorem feelParses_walk (s : List UInt8) (G : Heap) : VPure Tryz.prog 3 [.str s] G (.bool true) := by
  refine VCalls.of okS14 mixed T0 okn3 fun hG => ?_
  by_cases h4 : 400 < (s.length : Int)
  · simp (maxSteps := 1000000) -dsimp -implicitDefEqProofs only [↓eqD, eqU, eqV, eqW, vbuiltinQ, vlen, vslice, vindex, vstore, Int.reduceLE, Int.reduceLT, Nat.reduceBEq, ↓reduceIte, reduceCtorEq, Nat.reduceEqDiff, Nat.reduceAdd, Nat.reduceMul, Nat.reduceLT, Nat.reduceLeDiff, Nat.reduceAnd, Nat.reduceSub, Int.reduceToNat, Array.toList, fnWp_some Tryz.func3, Tryz.f3, T0, FB, S14_at, add_at, none_at, g11, g14k, h4]
    refine VDone.back hG ?_ rfl rfl
    intro j hj; simp (maxSteps := 1000000) -dsimp -implicitDefEqProofs only [↓eqD, eqU, eqV, eqW, vbuiltinQ, vlen, vslice, vindex, vstore, Int.reduceLE, Int.reduceLT, Nat.reduceBEq, ↓reduceIte, reduceCtorEq, Nat.reduceEqDiff, Nat.reduceAdd, Nat.reduceMul, Nat.reduceLT, Nat.reduceLeDiff, Nat.reduceAnd, Nat.reduceSub, Int.reduceToNat, Array.toList, ltx_0 hj, gtx_0 hj, ltx_1 hj, gtx_1 hj, ltx_2 hj, gtx_2 hj, ltx_3 hj, gtx_3 hj, ltx_4 hj, gtx_4 hj, ltx_5 hj, gtx_5 hj]
  have hsm := refP_small decA s
  generalize hr : refP decA s = r at *
  obtain ⟨⟨k, b, m, c, t, lo, hi, ks⟩, n, er⟩ := r
  have d1 := exsC_closed ks
  have hsame := same_walk (.mk k b m c t lo hi ks) (.mk k b m c t lo hi ks) hsm
  rw [same_refl] at hsame
  simp (maxSteps := 1000000) -dsimp -implicitDefEqProofs only [↓eqD, eqU, eqV, eqW, vbuiltinQ, vlen, vslice, vindex, vstore, Int.reduceLE, Int.reduceLT, Nat.reduceBEq, ↓reduceIte, reduceCtorEq, Nat.reduceEqDiff, Nat.reduceAdd, Nat.reduceMul, Nat.reduceLT, Nat.reduceLeDiff, Nat.reduceAnd, Nat.reduceSub, Int.reduceToNat, Array.toList, fnWp_some Tryz.func3, Tryz.f3, T0, FB, S14_at, add_at, none_at, g11, g14k, h4, hr, Parsed.v, Ex.cells, d1]
  refine VPure.calls (hsame _) ?_
  simp (maxSteps := 1000000) -dsimp -implicitDefEqProofs only [↓eqD, eqU, eqV, eqW, vbuiltinQ, vlen, vslice, vindex, vstore, Int.reduceLE, Int.reduceLT, Nat.reduceBEq, ↓reduceIte, reduceCtorEq, Nat.reduceEqDiff, Nat.reduceAdd, Nat.reduceMul, Nat.reduceLT, Nat.reduceLeDiff, Nat.reduceAnd, Nat.reduceSub, Int.reduceToNat, Array.toList, T0, FB, S14_at, add_at, none_at, g11, g14k]
  refine VDone.back hG ?_ rfl rfl
  intro j hj; simp (maxSteps := 1000000) -dsimp -implicitDefEqProofs only [↓eqD, eqU, eqV, eqW, vbuiltinQ, vlen, vslice, vindex, vstore, Int.reduceLE, Int.reduceLT, Nat.reduceBEq, ↓reduceIte, reduceCtorEq, Nat.reduceEqDiff, Nat.reduceAdd, Nat.reduceMul, Nat.reduceLT, Nat.reduceLeDiff, Nat.reduceAnd, Nat.reduceSub, Int.reduceToNat, Array.toList, ltx_0 hj, gtx_0 hj, ltx_1 hj, gtx_1 hj, ltx_2 hj, gtx_2 hj, ltx_3 hj, gtx_3 hj, ltx_4 hj, gtx_4 hj, ltx_5 hj, gtx_5 hj]
end Go.Vf
