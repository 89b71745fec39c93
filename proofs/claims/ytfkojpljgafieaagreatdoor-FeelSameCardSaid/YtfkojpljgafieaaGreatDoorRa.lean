/- FeelSame: how large an expression is. -/
import Derived.Test.YtfkojpljgafieaaGreatDoorQA
set_option linter.unusedVariables false
set_option linter.unusedSimpArgs false
namespace Go.Vf
open Go.Proofs Go.RowKit

mutual
def fitE : Ex → Prop
  | .mk k b m s t lo hi ks => ks.length ≤ 9223372036854775807 ∧ fitL ks
def fitL : List Ex → Prop
  | [] => True
  | a :: r => fitE a ∧ fitL r
end
theorem fit_mk {k : Int} {b : Bool} {m s : Int} {t : List UInt8} {lo hi : Bool} {ks : List Ex} : fitE (.mk k b m s t lo hi ks) ↔ ks.length ≤ 9223372036854775807 ∧ fitL ks := by rw [fitE]
theorem fit_at : ∀ {l : List Ex} (i : Nat) (h : i < l.length), fitL l → fitE l[i]
  | a :: r, 0, _, hs => by rw [fitL] at hs; exact hs.1
  | a :: r, i + 1, h, hs => by rw [fitL] at hs; exact fit_at i (by simpa using h) hs.2
mutual
theorem dsame_walk : ∀ (a b : Ex), fitE a → ∀ G, VPure Tryz.prog 13 [.agg a.cells, .agg b.cells] G (.bool (sameE a b))
  | .mk k b m s t lo hi ks, .mk k' b' m' s' t' lo' hi' ks', h, G => by
    rw [fitE] at h
    exact same_walk0 k b m s t lo hi ks k' b' m' s' t' lo' hi' ks' h.1 (fun i h1 h2 G => dsames_walk ks h.2 i h1 _ G) G
theorem dsames_walk : ∀ (l : List Ex), fitL l → ∀ (i : Nat) (h : i < l.length) (b : Ex) (G : Heap), VPure Tryz.prog 13 [.agg l[i].cells, .agg b.cells] G (.bool (sameE l[i] b))
  | a :: r, hs, 0, _, b, G => by rw [fitL] at hs; exact dsame_walk a b hs.1 G
  | a :: r, hs, i + 1, h, b, G => by rw [fitL] at hs; exact dsames_walk r hs.2 i (by simpa using h) b G
end

/-! ### size -/
mutual
def sizeW : Ex → Int
  | .mk k b m s t lo hi ks => sizeL ks (IntKind.wrap .i64 (IntKind.wrap .i64 (1 + (t.length : Int)) + (ks.length : Int)))
def sizeL : List Ex → Int → Int
  | [], n => n
  | a :: r, n => if n < 500 then sizeL r (IntKind.wrap .i64 (n + sizeW a)) else n
end
theorem sizeL_at : ∀ {l : List Ex} (i : Nat) (h : i < l.length) (n : Int), n < 500 → sizeL (l.drop i) n = sizeL (l.drop (i + 1)) (IntKind.wrap .i64 (n + sizeW l[i]))
  | a :: r, 0, _, n, hn => by rw [List.drop_zero, sizeL, if_pos hn]; rfl
  | a :: r, i + 1, h, n, hn => by simpa using sizeL_at (l := r) i (by simpa using h) n hn
theorem sizeL_big {n : Int} (hn : ¬n < 500) : ∀ l : List Ex, sizeL l n = n
  | [] => by rw [sizeL]
  | a :: r => by rw [sizeL, if_neg hn]
theorem okn20 : fnOk Tryz.prog 20 T0 1 = true := by kernel_rfl
set_option maxRecDepth 100000 in
set_option maxHeartbeats 1000000 in
theorem size_walk0 (k : Int) (b : Bool) (m s : Int) (t : List UInt8) (lo hi : Bool) (ks : List Ex) (hl : ks.length ≤ 9223372036854775807)
    (hk : ∀ (i : Nat) (h : i < ks.length) (G : Heap), VPure Tryz.prog 20 [.agg ks[i].cells] G (.int .i64 (sizeW ks[i]))) (G : Heap) :
    VPure Tryz.prog 20 [.agg (Ex.mk k b m s t lo hi ks).cells] G (.int .i64 (sizeW (.mk k b m s t lo hi ks))) := by
  refine VCalls.of (SOk.none _) mixed T0 okn20 fun hG => ?_
  have d1 := exsC_closed ks
  rw [sizeW]
  simp (maxSteps := 1000000) -dsimp -implicitDefEqProofs only [↓eqD, eqU, eqV, eqW, vbuiltinQ, vlen, vslice, vindex, vstore, Int.reduceLE, Int.reduceLT, Nat.reduceBEq, ↓reduceIte, reduceCtorEq, Nat.reduceEqDiff, Nat.reduceAdd, Nat.reduceMul, Nat.reduceLT, Nat.reduceLeDiff, Nat.reduceAnd, Nat.reduceSub, Int.reduceToNat, Array.toList, fnWp_some Tryz.func20, Tryz.f20, T0, FB, none_at, Ex.cells, d1]
  generalize hN : sizeL ks (IntKind.wrap .i64 (IntKind.wrap .i64 (1 + (t.length : Int)) + (ks.length : Int))) = N
  refine vloop_by (fun x : Nat × Int => x.1 ≤ ks.length ∧ sizeL (ks.drop x.1) x.2 = N) (fun x => Env.of [(1, .ptr G.next 0 0), (3, .int .i64 x.2), (4, .int .i64 x.1)]) (fun _ => G.over (G.next + 1) [(G.next, .cells 0 [.int .i64 k, .bool b, .int .i64 m, .int .i64 s, .str t, .bool lo, .bool hi, .sl 8 ks.length (exsC ks)])]) (fun x => ks.length - x.1) (0, IntKind.wrap .i64 (IntKind.wrap .i64 (1 + (t.length : Int)) + (ks.length : Int))) ?_ ?_ ?_
  · refine .of ?_ (.over hG ?_ ?_ ?_)
    · simp (maxSteps := 1000000) -dsimp -implicitDefEqProofs only [↓eqD, eqU, eqV, eqW, vbuiltinQ, vlen, vslice, vindex, vstore, Int.reduceLE, Int.reduceLT, Nat.reduceBEq, ↓reduceIte, reduceCtorEq, Nat.reduceEqDiff, Nat.reduceAdd, Nat.reduceMul, Nat.reduceLT, Nat.reduceLeDiff, Nat.reduceAnd, Nat.reduceSub, Int.reduceToNat, Array.toList]
      (repeat' apply And.intro) <;> exact .refl _
    · simp (maxSteps := 1000000) -dsimp -implicitDefEqProofs only [↓eqD, eqU, eqV, eqW, vbuiltinQ, vlen, vslice, vindex, vstore, Int.reduceLE, Int.reduceLT, Nat.reduceBEq, ↓reduceIte, reduceCtorEq, Nat.reduceEqDiff, Nat.reduceAdd, Nat.reduceMul, Nat.reduceLT, Nat.reduceLeDiff, Nat.reduceAnd, Nat.reduceSub, Int.reduceToNat, Array.toList]
    · simp (maxSteps := 1000000) -dsimp -implicitDefEqProofs only [↓eqD, eqU, eqV, eqW, vbuiltinQ, vlen, vslice, vindex, vstore, Int.reduceLE, Int.reduceLT, Nat.reduceBEq, ↓reduceIte, reduceCtorEq, Nat.reduceEqDiff, Nat.reduceAdd, Nat.reduceMul, Nat.reduceLT, Nat.reduceLeDiff, Nat.reduceAnd, Nat.reduceSub, Int.reduceToNat, Array.toList, FB]
    · intro j hj
      have hj : j < G.next := hj
      simp (maxSteps := 1000000) -dsimp -implicitDefEqProofs only [↓eqD, eqU, eqV, eqW, vbuiltinQ, vlen, vslice, vindex, vstore, Int.reduceLE, Int.reduceLT, Nat.reduceBEq, ↓reduceIte, reduceCtorEq, Nat.reduceEqDiff, Nat.reduceAdd, Nat.reduceMul, Nat.reduceLT, Nat.reduceLeDiff, Nat.reduceAnd, Nat.reduceSub, Int.reduceToNat, Array.toList, ltx_0 hj, gtx_0 hj, ltx_1 hj, gtx_1 hj, ltx_2 hj, gtx_2 hj, ltx_3 hj, gtx_3 hj, ltx_4 hj, gtx_4 hj, ltx_5 hj, gtx_5 hj]
  · exact ⟨Nat.zero_le _, hN⟩
  · rintro ⟨i, n⟩ ⟨hle, hI⟩
    simp only at hle hI ⊢
    by_cases hlt : i < ks.length
    · have k1 : (i : Int) < (ks.length : Int) := by omega
      by_cases hn : n < 500
      · have hx := exs_at hlt
        have k2 : 0 ≤ (i : Int) := by omega
        have kw : IntKind.wrap .i64 ((i : Int) + 1) = ((i + 1 : Nat) : Int) := by rw [w64 (by omega) (by omega)]; rfl
        have hs := sizeL_at i hlt n hn
        simp (maxSteps := 1000000) -dsimp -implicitDefEqProofs only [↓eqD, eqU, eqV, eqW, vbuiltinQ, vlen, vslice, vindex, vstore, Int.reduceLE, Int.reduceLT, Nat.reduceBEq, ↓reduceIte, reduceCtorEq, Nat.reduceEqDiff, Nat.reduceAdd, Nat.reduceMul, Nat.reduceLT, Nat.reduceLeDiff, Nat.reduceAnd, Nat.reduceSub, Int.reduceToNat, Array.toList, T0, FB, none_at, k1, k2, hn, hx, take8, Ex.cells_len, Nat.le_refl]
        refine VPure.calls (hk i hlt _) ?_
        simp (maxSteps := 1000000) -dsimp -implicitDefEqProofs only [↓eqD, eqU, eqV, eqW, vbuiltinQ, vlen, vslice, vindex, vstore, Int.reduceLE, Int.reduceLT, Nat.reduceBEq, ↓reduceIte, reduceCtorEq, Nat.reduceEqDiff, Nat.reduceAdd, Nat.reduceMul, Nat.reduceLT, Nat.reduceLeDiff, Nat.reduceAnd, Nat.reduceSub, Int.reduceToNat, Array.toList, T0, FB, none_at, kw]
        refine ⟨(i + 1, _), ⟨by simp only; omega, by rw [← hI, hs]⟩, by simp only; omega, .of ?_ (.over hG ?_ ?_ ?_)⟩
        · simp (maxSteps := 1000000) -dsimp -implicitDefEqProofs only [↓eqD, eqU, eqV, eqW, vbuiltinQ, vlen, vslice, vindex, vstore, Int.reduceLE, Int.reduceLT, Nat.reduceBEq, ↓reduceIte, reduceCtorEq, Nat.reduceEqDiff, Nat.reduceAdd, Nat.reduceMul, Nat.reduceLT, Nat.reduceLeDiff, Nat.reduceAnd, Nat.reduceSub, Int.reduceToNat, Array.toList]
          (repeat' apply And.intro) <;> exact .refl _
        · simp (maxSteps := 1000000) -dsimp -implicitDefEqProofs only [↓eqD, eqU, eqV, eqW, vbuiltinQ, vlen, vslice, vindex, vstore, Int.reduceLE, Int.reduceLT, Nat.reduceBEq, ↓reduceIte, reduceCtorEq, Nat.reduceEqDiff, Nat.reduceAdd, Nat.reduceMul, Nat.reduceLT, Nat.reduceLeDiff, Nat.reduceAnd, Nat.reduceSub, Int.reduceToNat, Array.toList]
        · simp (maxSteps := 1000000) -dsimp -implicitDefEqProofs only [↓eqD, eqU, eqV, eqW, vbuiltinQ, vlen, vslice, vindex, vstore, Int.reduceLE, Int.reduceLT, Nat.reduceBEq, ↓reduceIte, reduceCtorEq, Nat.reduceEqDiff, Nat.reduceAdd, Nat.reduceMul, Nat.reduceLT, Nat.reduceLeDiff, Nat.reduceAnd, Nat.reduceSub, Int.reduceToNat, Array.toList, FB]
        · intro j hj
          have hj : j < G.next := hj
          simp (maxSteps := 1000000) -dsimp -implicitDefEqProofs only [↓eqD, eqU, eqV, eqW, vbuiltinQ, vlen, vslice, vindex, vstore, Int.reduceLE, Int.reduceLT, Nat.reduceBEq, ↓reduceIte, reduceCtorEq, Nat.reduceEqDiff, Nat.reduceAdd, Nat.reduceMul, Nat.reduceLT, Nat.reduceLeDiff, Nat.reduceAnd, Nat.reduceSub, Int.reduceToNat, Array.toList, ltx_0 hj, gtx_0 hj, ltx_1 hj, gtx_1 hj, ltx_2 hj, gtx_2 hj, ltx_3 hj, gtx_3 hj, ltx_4 hj, gtx_4 hj, ltx_5 hj, gtx_5 hj]
      · rw [sizeL_big hn] at hI
        subst hI
        simp (maxSteps := 1000000) -dsimp -implicitDefEqProofs only [↓eqD, eqU, eqV, eqW, vbuiltinQ, vlen, vslice, vindex, vstore, Int.reduceLE, Int.reduceLT, Nat.reduceBEq, ↓reduceIte, reduceCtorEq, Nat.reduceEqDiff, Nat.reduceAdd, Nat.reduceMul, Nat.reduceLT, Nat.reduceLeDiff, Nat.reduceAnd, Nat.reduceSub, Int.reduceToNat, Array.toList, T0, FB, none_at, k1, hn]
        refine VDone.back hG ?_ rfl rfl
        intro j hj; simp (maxSteps := 1000000) -dsimp -implicitDefEqProofs only [↓eqD, eqU, eqV, eqW, vbuiltinQ, vlen, vslice, vindex, vstore, Int.reduceLE, Int.reduceLT, Nat.reduceBEq, ↓reduceIte, reduceCtorEq, Nat.reduceEqDiff, Nat.reduceAdd, Nat.reduceMul, Nat.reduceLT, Nat.reduceLeDiff, Nat.reduceAnd, Nat.reduceSub, Int.reduceToNat, Array.toList, ltx_0 hj, gtx_0 hj, ltx_1 hj, gtx_1 hj, ltx_2 hj, gtx_2 hj, ltx_3 hj, gtx_3 hj, ltx_4 hj, gtx_4 hj, ltx_5 hj, gtx_5 hj]
    · have k1 : ¬(i : Int) < (ks.length : Int) := by omega
      rw [List.drop_of_length_le (by omega), sizeL] at hI
      subst hI
      simp (maxSteps := 1000000) -dsimp -implicitDefEqProofs only [↓eqD, eqU, eqV, eqW, vbuiltinQ, vlen, vslice, vindex, vstore, Int.reduceLE, Int.reduceLT, Nat.reduceBEq, ↓reduceIte, reduceCtorEq, Nat.reduceEqDiff, Nat.reduceAdd, Nat.reduceMul, Nat.reduceLT, Nat.reduceLeDiff, Nat.reduceAnd, Nat.reduceSub, Int.reduceToNat, Array.toList, T0, FB, none_at, k1]
      refine VDone.back hG ?_ rfl rfl
      intro j hj; simp (maxSteps := 1000000) -dsimp -implicitDefEqProofs only [↓eqD, eqU, eqV, eqW, vbuiltinQ, vlen, vslice, vindex, vstore, Int.reduceLE, Int.reduceLT, Nat.reduceBEq, ↓reduceIte, reduceCtorEq, Nat.reduceEqDiff, Nat.reduceAdd, Nat.reduceMul, Nat.reduceLT, Nat.reduceLeDiff, Nat.reduceAnd, Nat.reduceSub, Int.reduceToNat, Array.toList, ltx_0 hj, gtx_0 hj, ltx_1 hj, gtx_1 hj, ltx_2 hj, gtx_2 hj, ltx_3 hj, gtx_3 hj, ltx_4 hj, gtx_4 hj, ltx_5 hj, gtx_5 hj]
mutual
theorem size_walk : ∀ (a : Ex), fitE a → ∀ G, VPure Tryz.prog 20 [.agg a.cells] G (.int .i64 (sizeW a))
  | .mk k b m s t lo hi ks, h, G => by
    rw [fitE] at h
    exact size_walk0 k b m s t lo hi ks h.1 (fun i h1 G => sizes_walk ks h.2 i h1 G) G
theorem sizes_walk : ∀ (l : List Ex), fitL l → ∀ (i : Nat) (h : i < l.length) (G : Heap), VPure Tryz.prog 20 [.agg l[i].cells] G (.int .i64 (sizeW l[i]))
  | a :: r, hs, 0, _, G => by rw [fitL] at hs; exact size_walk a hs.1 G
  | a :: r, hs, i + 1, h, G => by rw [fitL] at hs; exact sizes_walk r hs.2 i (by simpa using h) G
end
end Go.Vf
