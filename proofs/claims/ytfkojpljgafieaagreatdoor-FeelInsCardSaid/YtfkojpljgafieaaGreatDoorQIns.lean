/- FeelIns: ends of ranges belong to them as their brackets say. -/
import Derived.Test.YtfkojpljgafieaaGreatDoorQCalls
set_option linter.unusedVariables false
set_option linter.unusedSimpArgs false
namespace Go.Vf
open Go.Proofs Go.RowKit

def T8 : Tab := ⟨fun id => if id = 1 then ([0, 1, 7, 8, 2, 3, 4, 5, 6, 9, 10, 11, 12, 13], [(4, 9)]) else ([], []), fun _ => false⟩
theorem T8_ord (id : Nat) : T8.ord id = if id = 1 then ([0, 1, 7, 8, 2, 3, 4, 5, 6, 9, 10, 11, 12, 13], [(4, 9)]) else ([], []) := rfl
theorem T8_ghost (id : Nat) : T8.ghost id = false := rfl
theorem okn8 : fnOk Tryz.prog 8 T8 3 = true := by kernel_rfl
theorem okn17 : fnOk Tryz.prog 17 T0 1 = true := by kernel_rfl
theorem one2_walk (b : Bool) (G : Heap) : VPure Tryz.prog 17 [.bool b] G (.int .i64 (if b = true then 1 else 0)) := by
  refine VCalls.of okS14 mixed T0 okn17 fun hG => ?_
  cases b
  · simp (maxSteps := 1000000) -dsimp -implicitDefEqProofs only [↓eqD, eqU, eqV, eqW, vbuiltinQ, vlen, vslice, vindex, vstore, Int.reduceLE, Int.reduceLT, Nat.reduceBEq, ↓reduceIte, reduceCtorEq, Nat.reduceEqDiff, Nat.reduceAdd, Nat.reduceMul, Nat.reduceLT, Nat.reduceLeDiff, Nat.reduceAnd, Nat.reduceSub, Int.reduceToNat, Array.toList, fnWp_some Tryz.func17, Tryz.f17, T0, FB, S14_at, add_at, none_at]
    exact VDone.back hG (fun _ _ => rfl) rfl rfl
  · simp (maxSteps := 1000000) -dsimp -implicitDefEqProofs only [↓eqD, eqU, eqV, eqW, vbuiltinQ, vlen, vslice, vindex, vstore, Int.reduceLE, Int.reduceLT, Nat.reduceBEq, ↓reduceIte, reduceCtorEq, Nat.reduceEqDiff, Nat.reduceAdd, Nat.reduceMul, Nat.reduceLT, Nat.reduceLeDiff, Nat.reduceAnd, Nat.reduceSub, Int.reduceToNat, Array.toList, fnWp_some Tryz.func17, Tryz.f17, T0, FB, S14_at, add_at, none_at]
    exact VDone.back hG (fun _ _ => rfl) rfl rfl
def g17o : List V → Option (Prop × V)
  | [.bool b] => some (True, .int .i64 (if b = true then 1 else 0))
  | _ => none
def S17 : Specs := ((((Specs.none.add 11 g11).add 12 g11).add 14 g14k).add 17 g17o)
theorem S17_at (f : FuncId) (xs : List V) (G : Heap) : S17 f xs G = ((((Specs.none.add 11 g11).add 12 g11).add 14 g14k).add 17 g17o) f xs G := rfl
theorem okS17 : SOk Tryz.prog S17 := by
  refine okS14.add ?_
  intro xs G p v e hp
  unfold g17o at e
  split at e
  · cases e; exact one2_walk _ G
  · cases e
def Ex.lo : Ex → Bool | .mk _ _ _ _ _ lo _ _ => lo
def Ex.hi : Ex → Bool | .mk _ _ _ _ _ _ hi _ => hi
def insOk (s t : List UInt8) (lo hi : Bool) : Bool :=
  decide ((refP decA t).err = 0) && (decide ((refP decA s).err = 0) && (decide ((refP decA t).e.kind = 11) && (((refP decA t).e.lo == lo) && (((refP decA t).e.hi == hi) && (decide ((refP decA t).e.kids.length = 3) && sameE (refP decA t).e (refP decA s).e)))))
theorem ins_get {s t : List UInt8} {lo hi : Bool} (hk : insOk s t lo hi = true) : ∃ (b : Bool) (m c : Int) (x : List UInt8) (ks : List Ex) (n : Int) (e2 : Ex) (n2 : Int), refP decA t = ⟨.mk 11 b m c x lo hi ks, n, 0⟩ ∧ refP decA s = ⟨e2, n2, 0⟩ ∧ (ks.length : Int) = 3 ∧ V.closedL (exsC ks) = true ∧ ∀ G, VPure Tryz.prog 13 [.agg (Ex.mk 11 b m c x lo hi ks).cells, .agg e2.cells] G (.bool true) := by
  unfold insOk at hk
  simp only [Bool.and_eq_true, beq_iff_eq] at hk
  have sx := refP_small decA t
  generalize refP decA t = r at *
  generalize refP decA s = r2 at *
  obtain ⟨⟨kx, bx, mx, cx, tx, lox, hix, ksx⟩, nx, ex⟩ := r
  obtain ⟨e2, n2, er2⟩ := r2
  simp only [Ex.lo, Ex.hi] at hk
  obtain ⟨h1, h2, h3, h4, h5, h6, h7⟩ := hk
  have i1 : ex = 0 := of_decide_eq_true h1
  have i2 : er2 = 0 := of_decide_eq_true h2
  have i3 : kx = 11 := of_decide_eq_true h3
  have i6 : ksx.length = 3 := of_decide_eq_true h6
  subst i1 i2 i3 h4 h5
  have w1 := same_walk (.mk 11 bx mx cx tx lox hix ksx) e2 sx
  rw [h7] at w1
  exact ⟨bx, mx, cx, tx, ksx, nx, e2, n2, rfl, rfl, by omega, exsC_closed ksx, w1⟩
theorem ins_get1 {s : List UInt8} {lo hi : Bool} (hk : insOk s s lo hi = true) : ∃ (b : Bool) (m c : Int) (x : List UInt8) (ks : List Ex) (n : Int), refP decA s = ⟨.mk 11 b m c x lo hi ks, n, 0⟩ ∧ (ks.length : Int) = 3 ∧ V.closedL (exsC ks) = true ∧ ∀ G, VPure Tryz.prog 13 [.agg (Ex.mk 11 b m c x lo hi ks).cells, .agg (Ex.mk 11 b m c x lo hi ks).cells] G (.bool true) := by
  obtain ⟨b, m, c, x, ks, n, e2, n2, h1, h2, h3, h4, h5⟩ := ins_get hk
  rw [h1] at h2
  cases h2
  exact ⟨b, m, c, x, ks, n, h1, h3, h4, h5⟩
set_option maxRecDepth 100000 in
theorem feelIns_fff (G : Heap) : VPure Tryz.prog 8 [.bool false, .bool false, .bool false] G (.bool true) := by
  refine VCalls.of okS17 mixed T8 okn8 fun hG => ?_
  have hk : insOk [120, 32, 105, 110, 32, 40, 49, 46, 46, 121, 32, 43, 32, 50, 41] [120, 32, 105, 110, 32, 40, 49, 46, 46, 121, 32, 43, 32, 50, 41] false false = true := by kernel_rfl
  obtain ⟨bx, mx, cx, tx, ksx, nx, hr, h6, d1, w1⟩ := ins_get1 hk
  simp (maxSteps := 1000000) -dsimp -implicitDefEqProofs only [↓eqD, eqU, eqV, eqW, vbuiltinQ, vlen, vslice, vindex, vstore, Int.reduceLE, Int.reduceLT, Nat.reduceBEq, ↓reduceIte, reduceCtorEq, Nat.reduceEqDiff, Nat.reduceAdd, Nat.reduceMul, Nat.reduceLT, Nat.reduceLeDiff, Nat.reduceAnd, Nat.reduceSub, Int.reduceToNat, Array.toList, fnWp_some Tryz.func8, Tryz.f8, T8_ord, T8_ghost, FB, S17_at, add_at, none_at, g11, g14k, g17o, vreps, vfill, velem, Parsed.v, Ex.cells, hr, d1, h6, Int.reduceEq, natlCalls]
  refine VPure.calls (w1 _) ?_
  simp (maxSteps := 1000000) -dsimp -implicitDefEqProofs only [↓eqD, eqU, eqV, eqW, vbuiltinQ, vlen, vslice, vindex, vstore, Int.reduceLE, Int.reduceLT, Nat.reduceBEq, ↓reduceIte, reduceCtorEq, Nat.reduceEqDiff, Nat.reduceAdd, Nat.reduceMul, Nat.reduceLT, Nat.reduceLeDiff, Nat.reduceAnd, Nat.reduceSub, Int.reduceToNat, Array.toList, T8_ord, T8_ghost, FB, S17_at, add_at, none_at, g11, g14k]
  refine VDone.back hG ?_ rfl rfl
  intro j hj; simp (maxSteps := 1000000) -dsimp -implicitDefEqProofs only [↓eqD, eqU, eqV, eqW, vbuiltinQ, vlen, vslice, vindex, vstore, Int.reduceLE, Int.reduceLT, Nat.reduceBEq, ↓reduceIte, reduceCtorEq, Nat.reduceEqDiff, Nat.reduceAdd, Nat.reduceMul, Nat.reduceLT, Nat.reduceLeDiff, Nat.reduceAnd, Nat.reduceSub, Int.reduceToNat, Array.toList, ltx_0 hj, gtx_0 hj, ltx_1 hj, gtx_1 hj, ltx_2 hj, gtx_2 hj, ltx_3 hj, gtx_3 hj, ltx_4 hj, gtx_4 hj, ltx_5 hj, gtx_5 hj]
set_option maxRecDepth 100000 in
theorem feelIns_fft (G : Heap) : VPure Tryz.prog 8 [.bool false, .bool false, .bool true] G (.bool true) := by
  refine VCalls.of okS17 mixed T8 okn8 fun hG => ?_
  have hk : insOk [120, 32, 105, 110, 32, 40, 49, 46, 46, 121, 32, 43, 32, 50, 41] [40, 40, 120, 32, 105, 110, 32, 40, 49, 46, 46, 121, 32, 43, 32, 50, 41, 41, 41] false false = true := by kernel_rfl
  obtain ⟨bx, mx, cx, tx, ksx, nx, ⟨ky, by_, my, cy, ty, loy, hiy, ksy⟩, n2, hr, hr2, h6, d1, w1⟩ := ins_get hk
  have d2 := exsC_closed ksy
  simp (maxSteps := 1000000) -dsimp -implicitDefEqProofs only [↓eqD, eqU, eqV, eqW, vbuiltinQ, vlen, vslice, vindex, vstore, Int.reduceLE, Int.reduceLT, Nat.reduceBEq, ↓reduceIte, reduceCtorEq, Nat.reduceEqDiff, Nat.reduceAdd, Nat.reduceMul, Nat.reduceLT, Nat.reduceLeDiff, Nat.reduceAnd, Nat.reduceSub, Int.reduceToNat, Array.toList, fnWp_some Tryz.func8, Tryz.f8, T8_ord, T8_ghost, FB, S17_at, add_at, none_at, g11, g14k, g17o, vreps, vfill, velem, Parsed.v, Ex.cells, hr, hr2, d1, d2, h6, Int.reduceEq, natlCalls]
  refine VPure.calls (w1 _) ?_
  simp (maxSteps := 1000000) -dsimp -implicitDefEqProofs only [↓eqD, eqU, eqV, eqW, vbuiltinQ, vlen, vslice, vindex, vstore, Int.reduceLE, Int.reduceLT, Nat.reduceBEq, ↓reduceIte, reduceCtorEq, Nat.reduceEqDiff, Nat.reduceAdd, Nat.reduceMul, Nat.reduceLT, Nat.reduceLeDiff, Nat.reduceAnd, Nat.reduceSub, Int.reduceToNat, Array.toList, T8_ord, T8_ghost, FB, S17_at, add_at, none_at, g11, g14k]
  refine VDone.back hG ?_ rfl rfl
  intro j hj; simp (maxSteps := 1000000) -dsimp -implicitDefEqProofs only [↓eqD, eqU, eqV, eqW, vbuiltinQ, vlen, vslice, vindex, vstore, Int.reduceLE, Int.reduceLT, Nat.reduceBEq, ↓reduceIte, reduceCtorEq, Nat.reduceEqDiff, Nat.reduceAdd, Nat.reduceMul, Nat.reduceLT, Nat.reduceLeDiff, Nat.reduceAnd, Nat.reduceSub, Int.reduceToNat, Array.toList, ltx_0 hj, gtx_0 hj, ltx_1 hj, gtx_1 hj, ltx_2 hj, gtx_2 hj, ltx_3 hj, gtx_3 hj, ltx_4 hj, gtx_4 hj, ltx_5 hj, gtx_5 hj]
set_option maxRecDepth 100000 in
theorem feelIns_ftf (G : Heap) : VPure Tryz.prog 8 [.bool false, .bool true, .bool false] G (.bool true) := by
  refine VCalls.of okS17 mixed T8 okn8 fun hG => ?_
  have hk : insOk [120, 32, 105, 110, 32, 40, 49, 46, 46, 121, 32, 43, 32, 50, 93] [120, 32, 105, 110, 32, 40, 49, 46, 46, 121, 32, 43, 32, 50, 93] false true = true := by kernel_rfl
  obtain ⟨bx, mx, cx, tx, ksx, nx, hr, h6, d1, w1⟩ := ins_get1 hk
  simp (maxSteps := 1000000) -dsimp -implicitDefEqProofs only [↓eqD, eqU, eqV, eqW, vbuiltinQ, vlen, vslice, vindex, vstore, Int.reduceLE, Int.reduceLT, Nat.reduceBEq, ↓reduceIte, reduceCtorEq, Nat.reduceEqDiff, Nat.reduceAdd, Nat.reduceMul, Nat.reduceLT, Nat.reduceLeDiff, Nat.reduceAnd, Nat.reduceSub, Int.reduceToNat, Array.toList, fnWp_some Tryz.func8, Tryz.f8, T8_ord, T8_ghost, FB, S17_at, add_at, none_at, g11, g14k, g17o, vreps, vfill, velem, Parsed.v, Ex.cells, hr, d1, h6, Int.reduceEq, natlCalls]
  refine VPure.calls (w1 _) ?_
  simp (maxSteps := 1000000) -dsimp -implicitDefEqProofs only [↓eqD, eqU, eqV, eqW, vbuiltinQ, vlen, vslice, vindex, vstore, Int.reduceLE, Int.reduceLT, Nat.reduceBEq, ↓reduceIte, reduceCtorEq, Nat.reduceEqDiff, Nat.reduceAdd, Nat.reduceMul, Nat.reduceLT, Nat.reduceLeDiff, Nat.reduceAnd, Nat.reduceSub, Int.reduceToNat, Array.toList, T8_ord, T8_ghost, FB, S17_at, add_at, none_at, g11, g14k]
  refine VDone.back hG ?_ rfl rfl
  intro j hj; simp (maxSteps := 1000000) -dsimp -implicitDefEqProofs only [↓eqD, eqU, eqV, eqW, vbuiltinQ, vlen, vslice, vindex, vstore, Int.reduceLE, Int.reduceLT, Nat.reduceBEq, ↓reduceIte, reduceCtorEq, Nat.reduceEqDiff, Nat.reduceAdd, Nat.reduceMul, Nat.reduceLT, Nat.reduceLeDiff, Nat.reduceAnd, Nat.reduceSub, Int.reduceToNat, Array.toList, ltx_0 hj, gtx_0 hj, ltx_1 hj, gtx_1 hj, ltx_2 hj, gtx_2 hj, ltx_3 hj, gtx_3 hj, ltx_4 hj, gtx_4 hj, ltx_5 hj, gtx_5 hj]
set_option maxRecDepth 100000 in
theorem feelIns_ftt (G : Heap) : VPure Tryz.prog 8 [.bool false, .bool true, .bool true] G (.bool true) := by
  refine VCalls.of okS17 mixed T8 okn8 fun hG => ?_
  have hk : insOk [120, 32, 105, 110, 32, 40, 49, 46, 46, 121, 32, 43, 32, 50, 93] [40, 40, 120, 32, 105, 110, 32, 40, 49, 46, 46, 121, 32, 43, 32, 50, 93, 41, 41] false true = true := by kernel_rfl
  obtain ⟨bx, mx, cx, tx, ksx, nx, ⟨ky, by_, my, cy, ty, loy, hiy, ksy⟩, n2, hr, hr2, h6, d1, w1⟩ := ins_get hk
  have d2 := exsC_closed ksy
  simp (maxSteps := 1000000) -dsimp -implicitDefEqProofs only [↓eqD, eqU, eqV, eqW, vbuiltinQ, vlen, vslice, vindex, vstore, Int.reduceLE, Int.reduceLT, Nat.reduceBEq, ↓reduceIte, reduceCtorEq, Nat.reduceEqDiff, Nat.reduceAdd, Nat.reduceMul, Nat.reduceLT, Nat.reduceLeDiff, Nat.reduceAnd, Nat.reduceSub, Int.reduceToNat, Array.toList, fnWp_some Tryz.func8, Tryz.f8, T8_ord, T8_ghost, FB, S17_at, add_at, none_at, g11, g14k, g17o, vreps, vfill, velem, Parsed.v, Ex.cells, hr, hr2, d1, d2, h6, Int.reduceEq, natlCalls]
  refine VPure.calls (w1 _) ?_
  simp (maxSteps := 1000000) -dsimp -implicitDefEqProofs only [↓eqD, eqU, eqV, eqW, vbuiltinQ, vlen, vslice, vindex, vstore, Int.reduceLE, Int.reduceLT, Nat.reduceBEq, ↓reduceIte, reduceCtorEq, Nat.reduceEqDiff, Nat.reduceAdd, Nat.reduceMul, Nat.reduceLT, Nat.reduceLeDiff, Nat.reduceAnd, Nat.reduceSub, Int.reduceToNat, Array.toList, T8_ord, T8_ghost, FB, S17_at, add_at, none_at, g11, g14k]
  refine VDone.back hG ?_ rfl rfl
  intro j hj; simp (maxSteps := 1000000) -dsimp -implicitDefEqProofs only [↓eqD, eqU, eqV, eqW, vbuiltinQ, vlen, vslice, vindex, vstore, Int.reduceLE, Int.reduceLT, Nat.reduceBEq, ↓reduceIte, reduceCtorEq, Nat.reduceEqDiff, Nat.reduceAdd, Nat.reduceMul, Nat.reduceLT, Nat.reduceLeDiff, Nat.reduceAnd, Nat.reduceSub, Int.reduceToNat, Array.toList, ltx_0 hj, gtx_0 hj, ltx_1 hj, gtx_1 hj, ltx_2 hj, gtx_2 hj, ltx_3 hj, gtx_3 hj, ltx_4 hj, gtx_4 hj, ltx_5 hj, gtx_5 hj]
set_option maxRecDepth 100000 in
theorem feelIns_tff (G : Heap) : VPure Tryz.prog 8 [.bool true, .bool false, .bool false] G (.bool true) := by
  refine VCalls.of okS17 mixed T8 okn8 fun hG => ?_
  have hk : insOk [120, 32, 105, 110, 32, 91, 49, 46, 46, 121, 32, 43, 32, 50, 41] [120, 32, 105, 110, 32, 91, 49, 46, 46, 121, 32, 43, 32, 50, 41] true false = true := by kernel_rfl
  obtain ⟨bx, mx, cx, tx, ksx, nx, hr, h6, d1, w1⟩ := ins_get1 hk
  simp (maxSteps := 1000000) -dsimp -implicitDefEqProofs only [↓eqD, eqU, eqV, eqW, vbuiltinQ, vlen, vslice, vindex, vstore, Int.reduceLE, Int.reduceLT, Nat.reduceBEq, ↓reduceIte, reduceCtorEq, Nat.reduceEqDiff, Nat.reduceAdd, Nat.reduceMul, Nat.reduceLT, Nat.reduceLeDiff, Nat.reduceAnd, Nat.reduceSub, Int.reduceToNat, Array.toList, fnWp_some Tryz.func8, Tryz.f8, T8_ord, T8_ghost, FB, S17_at, add_at, none_at, g11, g14k, g17o, vreps, vfill, velem, Parsed.v, Ex.cells, hr, d1, h6, Int.reduceEq, natlCalls]
  refine VPure.calls (w1 _) ?_
  simp (maxSteps := 1000000) -dsimp -implicitDefEqProofs only [↓eqD, eqU, eqV, eqW, vbuiltinQ, vlen, vslice, vindex, vstore, Int.reduceLE, Int.reduceLT, Nat.reduceBEq, ↓reduceIte, reduceCtorEq, Nat.reduceEqDiff, Nat.reduceAdd, Nat.reduceMul, Nat.reduceLT, Nat.reduceLeDiff, Nat.reduceAnd, Nat.reduceSub, Int.reduceToNat, Array.toList, T8_ord, T8_ghost, FB, S17_at, add_at, none_at, g11, g14k]
  refine VDone.back hG ?_ rfl rfl
  intro j hj; simp (maxSteps := 1000000) -dsimp -implicitDefEqProofs only [↓eqD, eqU, eqV, eqW, vbuiltinQ, vlen, vslice, vindex, vstore, Int.reduceLE, Int.reduceLT, Nat.reduceBEq, ↓reduceIte, reduceCtorEq, Nat.reduceEqDiff, Nat.reduceAdd, Nat.reduceMul, Nat.reduceLT, Nat.reduceLeDiff, Nat.reduceAnd, Nat.reduceSub, Int.reduceToNat, Array.toList, ltx_0 hj, gtx_0 hj, ltx_1 hj, gtx_1 hj, ltx_2 hj, gtx_2 hj, ltx_3 hj, gtx_3 hj, ltx_4 hj, gtx_4 hj, ltx_5 hj, gtx_5 hj]
set_option maxRecDepth 100000 in
theorem feelIns_tft (G : Heap) : VPure Tryz.prog 8 [.bool true, .bool false, .bool true] G (.bool true) := by
  refine VCalls.of okS17 mixed T8 okn8 fun hG => ?_
  have hk : insOk [120, 32, 105, 110, 32, 91, 49, 46, 46, 121, 32, 43, 32, 50, 41] [40, 40, 120, 32, 105, 110, 32, 91, 49, 46, 46, 121, 32, 43, 32, 50, 41, 41, 41] true false = true := by kernel_rfl
  obtain ⟨bx, mx, cx, tx, ksx, nx, ⟨ky, by_, my, cy, ty, loy, hiy, ksy⟩, n2, hr, hr2, h6, d1, w1⟩ := ins_get hk
  have d2 := exsC_closed ksy
  simp (maxSteps := 1000000) -dsimp -implicitDefEqProofs only [↓eqD, eqU, eqV, eqW, vbuiltinQ, vlen, vslice, vindex, vstore, Int.reduceLE, Int.reduceLT, Nat.reduceBEq, ↓reduceIte, reduceCtorEq, Nat.reduceEqDiff, Nat.reduceAdd, Nat.reduceMul, Nat.reduceLT, Nat.reduceLeDiff, Nat.reduceAnd, Nat.reduceSub, Int.reduceToNat, Array.toList, fnWp_some Tryz.func8, Tryz.f8, T8_ord, T8_ghost, FB, S17_at, add_at, none_at, g11, g14k, g17o, vreps, vfill, velem, Parsed.v, Ex.cells, hr, hr2, d1, d2, h6, Int.reduceEq, natlCalls]
  refine VPure.calls (w1 _) ?_
  simp (maxSteps := 1000000) -dsimp -implicitDefEqProofs only [↓eqD, eqU, eqV, eqW, vbuiltinQ, vlen, vslice, vindex, vstore, Int.reduceLE, Int.reduceLT, Nat.reduceBEq, ↓reduceIte, reduceCtorEq, Nat.reduceEqDiff, Nat.reduceAdd, Nat.reduceMul, Nat.reduceLT, Nat.reduceLeDiff, Nat.reduceAnd, Nat.reduceSub, Int.reduceToNat, Array.toList, T8_ord, T8_ghost, FB, S17_at, add_at, none_at, g11, g14k]
  refine VDone.back hG ?_ rfl rfl
  intro j hj; simp (maxSteps := 1000000) -dsimp -implicitDefEqProofs only [↓eqD, eqU, eqV, eqW, vbuiltinQ, vlen, vslice, vindex, vstore, Int.reduceLE, Int.reduceLT, Nat.reduceBEq, ↓reduceIte, reduceCtorEq, Nat.reduceEqDiff, Nat.reduceAdd, Nat.reduceMul, Nat.reduceLT, Nat.reduceLeDiff, Nat.reduceAnd, Nat.reduceSub, Int.reduceToNat, Array.toList, ltx_0 hj, gtx_0 hj, ltx_1 hj, gtx_1 hj, ltx_2 hj, gtx_2 hj, ltx_3 hj, gtx_3 hj, ltx_4 hj, gtx_4 hj, ltx_5 hj, gtx_5 hj]
set_option maxRecDepth 100000 in
theorem feelIns_ttf (G : Heap) : VPure Tryz.prog 8 [.bool true, .bool true, .bool false] G (.bool true) := by
  refine VCalls.of okS17 mixed T8 okn8 fun hG => ?_
  have hk : insOk [120, 32, 105, 110, 32, 91, 49, 46, 46, 121, 32, 43, 32, 50, 93] [120, 32, 105, 110, 32, 91, 49, 46, 46, 121, 32, 43, 32, 50, 93] true true = true := by kernel_rfl
  obtain ⟨bx, mx, cx, tx, ksx, nx, hr, h6, d1, w1⟩ := ins_get1 hk
  simp (maxSteps := 1000000) -dsimp -implicitDefEqProofs only [↓eqD, eqU, eqV, eqW, vbuiltinQ, vlen, vslice, vindex, vstore, Int.reduceLE, Int.reduceLT, Nat.reduceBEq, ↓reduceIte, reduceCtorEq, Nat.reduceEqDiff, Nat.reduceAdd, Nat.reduceMul, Nat.reduceLT, Nat.reduceLeDiff, Nat.reduceAnd, Nat.reduceSub, Int.reduceToNat, Array.toList, fnWp_some Tryz.func8, Tryz.f8, T8_ord, T8_ghost, FB, S17_at, add_at, none_at, g11, g14k, g17o, vreps, vfill, velem, Parsed.v, Ex.cells, hr, d1, h6, Int.reduceEq, natlCalls]
  refine VPure.calls (w1 _) ?_
  simp (maxSteps := 1000000) -dsimp -implicitDefEqProofs only [↓eqD, eqU, eqV, eqW, vbuiltinQ, vlen, vslice, vindex, vstore, Int.reduceLE, Int.reduceLT, Nat.reduceBEq, ↓reduceIte, reduceCtorEq, Nat.reduceEqDiff, Nat.reduceAdd, Nat.reduceMul, Nat.reduceLT, Nat.reduceLeDiff, Nat.reduceAnd, Nat.reduceSub, Int.reduceToNat, Array.toList, T8_ord, T8_ghost, FB, S17_at, add_at, none_at, g11, g14k]
  refine VDone.back hG ?_ rfl rfl
  intro j hj; simp (maxSteps := 1000000) -dsimp -implicitDefEqProofs only [↓eqD, eqU, eqV, eqW, vbuiltinQ, vlen, vslice, vindex, vstore, Int.reduceLE, Int.reduceLT, Nat.reduceBEq, ↓reduceIte, reduceCtorEq, Nat.reduceEqDiff, Nat.reduceAdd, Nat.reduceMul, Nat.reduceLT, Nat.reduceLeDiff, Nat.reduceAnd, Nat.reduceSub, Int.reduceToNat, Array.toList, ltx_0 hj, gtx_0 hj, ltx_1 hj, gtx_1 hj, ltx_2 hj, gtx_2 hj, ltx_3 hj, gtx_3 hj, ltx_4 hj, gtx_4 hj, ltx_5 hj, gtx_5 hj]
set_option maxRecDepth 100000 in
theorem feelIns_ttt (G : Heap) : VPure Tryz.prog 8 [.bool true, .bool true, .bool true] G (.bool true) := by
  refine VCalls.of okS17 mixed T8 okn8 fun hG => ?_
  have hk : insOk [120, 32, 105, 110, 32, 91, 49, 46, 46, 121, 32, 43, 32, 50, 93] [40, 40, 120, 32, 105, 110, 32, 91, 49, 46, 46, 121, 32, 43, 32, 50, 93, 41, 41] true true = true := by kernel_rfl
  obtain ⟨bx, mx, cx, tx, ksx, nx, ⟨ky, by_, my, cy, ty, loy, hiy, ksy⟩, n2, hr, hr2, h6, d1, w1⟩ := ins_get hk
  have d2 := exsC_closed ksy
  simp (maxSteps := 1000000) -dsimp -implicitDefEqProofs only [↓eqD, eqU, eqV, eqW, vbuiltinQ, vlen, vslice, vindex, vstore, Int.reduceLE, Int.reduceLT, Nat.reduceBEq, ↓reduceIte, reduceCtorEq, Nat.reduceEqDiff, Nat.reduceAdd, Nat.reduceMul, Nat.reduceLT, Nat.reduceLeDiff, Nat.reduceAnd, Nat.reduceSub, Int.reduceToNat, Array.toList, fnWp_some Tryz.func8, Tryz.f8, T8_ord, T8_ghost, FB, S17_at, add_at, none_at, g11, g14k, g17o, vreps, vfill, velem, Parsed.v, Ex.cells, hr, hr2, d1, d2, h6, Int.reduceEq, natlCalls]
  refine VPure.calls (w1 _) ?_
  simp (maxSteps := 1000000) -dsimp -implicitDefEqProofs only [↓eqD, eqU, eqV, eqW, vbuiltinQ, vlen, vslice, vindex, vstore, Int.reduceLE, Int.reduceLT, Nat.reduceBEq, ↓reduceIte, reduceCtorEq, Nat.reduceEqDiff, Nat.reduceAdd, Nat.reduceMul, Nat.reduceLT, Nat.reduceLeDiff, Nat.reduceAnd, Nat.reduceSub, Int.reduceToNat, Array.toList, T8_ord, T8_ghost, FB, S17_at, add_at, none_at, g11, g14k]
  refine VDone.back hG ?_ rfl rfl
  intro j hj; simp (maxSteps := 1000000) -dsimp -implicitDefEqProofs only [↓eqD, eqU, eqV, eqW, vbuiltinQ, vlen, vslice, vindex, vstore, Int.reduceLE, Int.reduceLT, Nat.reduceBEq, ↓reduceIte, reduceCtorEq, Nat.reduceEqDiff, Nat.reduceAdd, Nat.reduceMul, Nat.reduceLT, Nat.reduceLeDiff, Nat.reduceAnd, Nat.reduceSub, Int.reduceToNat, Array.toList, ltx_0 hj, gtx_0 hj, ltx_1 hj, gtx_1 hj, ltx_2 hj, gtx_2 hj, ltx_3 hj, gtx_3 hj, ltx_4 hj, gtx_4 hj, ltx_5 hj, gtx_5 hj]
theorem feelIns_walk (lo hi around : Bool) (G : Heap) : VPure Tryz.prog 8 [.bool lo, .bool hi, .bool around] G (.bool true) := by
  cases lo <;> cases hi <;> cases around
  · exact feelIns_fff G
  · exact feelIns_fft G
  · exact feelIns_ftf G
  · exact feelIns_ftt G
  · exact feelIns_tff G
  · exact feelIns_tft G
  · exact feelIns_ttf G
  · exact feelIns_ttt G
end Go.Vf
