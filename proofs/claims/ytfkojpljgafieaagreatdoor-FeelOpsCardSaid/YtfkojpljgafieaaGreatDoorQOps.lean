/- FeelOps: of alike operators the left one binds first, of others the closer one. -/
import Derived.Test.YtfkojpljgafieaaGreatDoorQA
set_option linter.unusedVariables false
set_option linter.unusedSimpArgs false
namespace Go.Vf
open Go.Proofs Go.RowKit

theorem natlOps : ((2 : Nat) : Int) = 2 ∧ ((3 : Nat) : Int) = 3 ∧ ((5 : Nat) : Int) = 5 ∧ ((6 : Nat) : Int) = 6 := ⟨rfl, rfl, rfl, rfl⟩

theorem te36 : telem Tryz.prog 36 = some 3 := by kernel_rfl
theorem u36 : Tryz.prog.underlying 36 = some (.slice 3) := by kernel_rfl
theorem z3q : tzero Tryz.prog 3 = some [.int .i64 0] := by kernel_rfl
def oneV (s : List UInt8) : V := .tup [.agg (refP decA s).e.cells, .bool (decide ((refP decA s).err = 0))]
theorem okn15 : fnOk Tryz.prog 15 T0 1 = true := by kernel_rfl
set_option maxRecDepth 100000 in
theorem one_walk (s : List UInt8) (G : Heap) : VPure Tryz.prog 15 [.str s] G (oneV s) := by
  refine VCalls.of okS14 mixed T0 okn15 fun hG => ?_
  unfold oneV
  generalize hr : refP decA s = r at *
  obtain ⟨⟨k, b, m, c, t, lo, hi, ks⟩, n, er⟩ := r
  have d1 := exsC_closed ks
  simp (maxSteps := 1000000) -dsimp -implicitDefEqProofs only [↓eqD, eqU, eqV, eqW, vbuiltinQ, vlen, vslice, vindex, vstore, Int.reduceLE, Int.reduceLT, Nat.reduceBEq, ↓reduceIte, reduceCtorEq, Nat.reduceEqDiff, Nat.reduceAdd, Nat.reduceMul, Nat.reduceLT, Nat.reduceLeDiff, Nat.reduceAnd, Nat.reduceSub, Int.reduceToNat, Array.toList, fnWp_some Tryz.func15, Tryz.f15, T0, FB, S14_at, add_at, none_at, g11, g14k, hr, Parsed.v, Ex.cells, d1]
  refine VDone.back hG ?_ rfl rfl
  intro j hj; simp (maxSteps := 1000000) -dsimp -implicitDefEqProofs only [↓eqD, eqU, eqV, eqW, vbuiltinQ, vlen, vslice, vindex, vstore, Int.reduceLE, Int.reduceLT, Nat.reduceBEq, ↓reduceIte, reduceCtorEq, Nat.reduceEqDiff, Nat.reduceAdd, Nat.reduceMul, Nat.reduceLT, Nat.reduceLeDiff, Nat.reduceAnd, Nat.reduceSub, Int.reduceToNat, Array.toList, ltx_0 hj, gtx_0 hj, ltx_1 hj, gtx_1 hj, ltx_2 hj, gtx_2 hj, ltx_3 hj, gtx_3 hj, ltx_4 hj, gtx_4 hj, ltx_5 hj, gtx_5 hj]
def g15 : List V → Option (Prop × V)
  | [.str s] => some (True, oneV s)
  | _ => none
def S15 : Specs := ((((Specs.none.add 11 g11).add 12 g11).add 14 g14k).add 15 g15)
theorem S15_at (f : FuncId) (xs : List V) (G : Heap) : S15 f xs G = ((((Specs.none.add 11 g11).add 12 g11).add 14 g14k).add 15 g15) f xs G := rfl
theorem okS15 : SOk Tryz.prog S15 := by
  refine okS14.add ?_
  intro xs G p v e hp
  unfold g15 at e
  split at e
  · cases e; exact one_walk _ G
  · cases e
/-! ### the operators -/
def opsT : List (List UInt8 × Int) := [([111, 114], 0), ([97, 110, 100], 1), ([43], 3), ([45], 3), ([42], 4), ([47], 4)]
def opsX (a b : List UInt8) : List UInt8 := 117 :: 32 :: (((a ++ [32, 118, 32]) ++ b) ++ [32, 119])
def opsY (a b : List UInt8) : List UInt8 := 40 :: 117 :: 32 :: (((a ++ [32, 118, 41, 32]) ++ b) ++ [32, 119])
def opsZ (a b : List UInt8) : List UInt8 := 117 :: 32 :: (((a ++ [32, 40, 118, 32]) ++ b) ++ [32, 119, 41])
def opsOk (p q : List UInt8 × Int) : Bool :=
  decide ((refP decA (opsX p.1 q.1)).err = 0) && (decide ((refP decA (opsY p.1 q.1)).err = 0) && (decide ((refP decA (opsZ p.1 q.1)).err = 0) &&
    (decide (p.1.length ≤ 3) && ((sameE (refP decA (opsX p.1 q.1)).e (refP decA (opsY p.1 q.1)).e == decide (q.2 ≤ p.2)) && (sameE (refP decA (opsX p.1 q.1)).e (refP decA (opsZ p.1 q.1)).e == !decide (q.2 ≤ p.2))))))
theorem ops_all : (opsT.all fun p => opsT.all fun q => opsOk p q) = true := by kernel_rfl
abbrev opsS : List V := [.str [111, 114], .str [97, 110, 100], .str [43], .str [45], .str [42], .str [47]]
abbrev opsR : List V := [.int .i64 0, .int .i64 1, .int .i64 3, .int .i64 3, .int .i64 4, .int .i64 4]
theorem ops_at {a : Int} (h1 : 0 ≤ a) (h2 : ¬5 < a) : ∃ w r, (w, r) ∈ opsT ∧ velem 1 opsS a.toNat = [.str w] ∧ velem 1 opsR a.toNat = [.int .i64 r] := by
  obtain ⟨n, rfl⟩ : ∃ n : Nat, a = (n : Int) := ⟨a.toNat, by omega⟩
  rw [Int.toNat_natCast]
  rcases n with _ | _ | _ | _ | _ | _ | n
  · exact ⟨_, _, .head _, rfl, rfl⟩
  · exact ⟨_, _, .tail _ (.head _), rfl, rfl⟩
  · exact ⟨_, _, .tail _ (.tail _ (.head _)), rfl, rfl⟩
  · exact ⟨_, _, .tail _ (.tail _ (.tail _ (.head _))), rfl, rfl⟩
  · exact ⟨_, _, .tail _ (.tail _ (.tail _ (.tail _ (.head _)))), rfl, rfl⟩
  · exact ⟨_, _, .tail _ (.tail _ (.tail _ (.tail _ (.tail _ (.head _))))), rfl, rfl⟩
  · omega
theorem ops_ok {w : List UInt8} {r : Int} {w' : List UInt8} {r' : Int} (h : (w, r) ∈ opsT) (h' : (w', r') ∈ opsT) : opsOk (w, r) (w', r') = true :=
  List.all_eq_true.1 (List.all_eq_true.1 ops_all _ h) _ h'
def T4 : Tab := ⟨fun id => if id = 5 then ([0, 1, 2, 3, 4, 5, 6, 7, 8, 9, 10, 11, 12, 13, 14, 15, 16, 17, 18], [(1000012, 16), (3, 16), (9, 16)]) else if id = 6 then ([0, 1, 2, 3, 4, 5, 6, 7, 8, 9, 10, 11, 12, 13, 14, 15, 16, 17, 18], [(1000012, 16), (3, 16), (9, 16)]) else if id = 7 then ([0, 1, 2, 3, 4, 5, 6, 7, 8, 9, 10, 11, 12, 13, 14, 15, 16, 17, 18], [(1000012, 16), (3, 16), (9, 16)]) else if id = 8 then ([0, 1, 2, 3, 4, 5, 6, 7, 8, 9], []) else ([], []), fun _ => false⟩
theorem T4_ord (id : Nat) : T4.ord id = if id = 5 then ([0, 1, 2, 3, 4, 5, 6, 7, 8, 9, 10, 11, 12, 13, 14, 15, 16, 17, 18], [(1000012, 16), (3, 16), (9, 16)]) else if id = 6 then ([0, 1, 2, 3, 4, 5, 6, 7, 8, 9, 10, 11, 12, 13, 14, 15, 16, 17, 18], [(1000012, 16), (3, 16), (9, 16)]) else if id = 7 then ([0, 1, 2, 3, 4, 5, 6, 7, 8, 9, 10, 11, 12, 13, 14, 15, 16, 17, 18], [(1000012, 16), (3, 16), (9, 16)]) else if id = 8 then ([0, 1, 2, 3, 4, 5, 6, 7, 8, 9], []) else ([], []) := rfl
theorem T4_ghost (id : Nat) : T4.ghost id = false := rfl
theorem okn4 : fnOk Tryz.prog 4 T4 2 = true := by kernel_rfl
set_option maxRecDepth 100000 in
set_option maxHeartbeats 4000000 in
theorem feelOps_walk (a b : Int) (G : Heap) : VPure Tryz.prog 4 [.int .i64 a, .int .i64 b] G (.bool true) := by
  refine VCalls.of okS15 mixed T4 okn4 fun hG => ?_
  by_cases a0 : a < 0
  · simp (maxSteps := 1000000) -dsimp -implicitDefEqProofs only [↓eqD, eqU, eqV, eqW, vbuiltinQ, vlen, vslice, vindex, vstore, Int.reduceLE, Int.reduceLT, Nat.reduceBEq, ↓reduceIte, reduceCtorEq, Nat.reduceEqDiff, Nat.reduceAdd, Nat.reduceMul, Nat.reduceLT, Nat.reduceLeDiff, Nat.reduceAnd, Nat.reduceSub, Int.reduceToNat, Array.toList, fnWp_some Tryz.func4, Tryz.f4, T4_ord, T4_ghost, FB, S15_at, add_at, none_at, g11, g14k, g15, vreps, vfill, natlOps, te36, u36, z3q, a0]
    refine VDone.back hG ?_ rfl rfl
    intro j hj; simp (maxSteps := 1000000) -dsimp -implicitDefEqProofs only [↓eqD, eqU, eqV, eqW, vbuiltinQ, vlen, vslice, vindex, vstore, Int.reduceLE, Int.reduceLT, Nat.reduceBEq, ↓reduceIte, reduceCtorEq, Nat.reduceEqDiff, Nat.reduceAdd, Nat.reduceMul, Nat.reduceLT, Nat.reduceLeDiff, Nat.reduceAnd, Nat.reduceSub, Int.reduceToNat, Array.toList, ltx_0 hj, gtx_0 hj, ltx_1 hj, gtx_1 hj, ltx_2 hj, gtx_2 hj, ltx_3 hj, gtx_3 hj, ltx_4 hj, gtx_4 hj, ltx_5 hj, gtx_5 hj]
  by_cases a5 : 5 < a
  · simp (maxSteps := 1000000) -dsimp -implicitDefEqProofs only [↓eqD, eqU, eqV, eqW, vbuiltinQ, vlen, vslice, vindex, vstore, Int.reduceLE, Int.reduceLT, Nat.reduceBEq, ↓reduceIte, reduceCtorEq, Nat.reduceEqDiff, Nat.reduceAdd, Nat.reduceMul, Nat.reduceLT, Nat.reduceLeDiff, Nat.reduceAnd, Nat.reduceSub, Int.reduceToNat, Array.toList, fnWp_some Tryz.func4, Tryz.f4, T4_ord, T4_ghost, FB, S15_at, add_at, none_at, g11, g14k, g15, vreps, vfill, natlOps, te36, u36, z3q, a0, a5]
    refine VDone.back hG ?_ rfl rfl
    intro j hj; simp (maxSteps := 1000000) -dsimp -implicitDefEqProofs only [↓eqD, eqU, eqV, eqW, vbuiltinQ, vlen, vslice, vindex, vstore, Int.reduceLE, Int.reduceLT, Nat.reduceBEq, ↓reduceIte, reduceCtorEq, Nat.reduceEqDiff, Nat.reduceAdd, Nat.reduceMul, Nat.reduceLT, Nat.reduceLeDiff, Nat.reduceAnd, Nat.reduceSub, Int.reduceToNat, Array.toList, ltx_0 hj, gtx_0 hj, ltx_1 hj, gtx_1 hj, ltx_2 hj, gtx_2 hj, ltx_3 hj, gtx_3 hj, ltx_4 hj, gtx_4 hj, ltx_5 hj, gtx_5 hj]
  by_cases b0 : b < 0
  · simp (maxSteps := 1000000) -dsimp -implicitDefEqProofs only [↓eqD, eqU, eqV, eqW, vbuiltinQ, vlen, vslice, vindex, vstore, Int.reduceLE, Int.reduceLT, Nat.reduceBEq, ↓reduceIte, reduceCtorEq, Nat.reduceEqDiff, Nat.reduceAdd, Nat.reduceMul, Nat.reduceLT, Nat.reduceLeDiff, Nat.reduceAnd, Nat.reduceSub, Int.reduceToNat, Array.toList, fnWp_some Tryz.func4, Tryz.f4, T4_ord, T4_ghost, FB, S15_at, add_at, none_at, g11, g14k, g15, vreps, vfill, natlOps, te36, u36, z3q, a0, a5, b0]
    refine VDone.back hG ?_ rfl rfl
    intro j hj; simp (maxSteps := 1000000) -dsimp -implicitDefEqProofs only [↓eqD, eqU, eqV, eqW, vbuiltinQ, vlen, vslice, vindex, vstore, Int.reduceLE, Int.reduceLT, Nat.reduceBEq, ↓reduceIte, reduceCtorEq, Nat.reduceEqDiff, Nat.reduceAdd, Nat.reduceMul, Nat.reduceLT, Nat.reduceLeDiff, Nat.reduceAnd, Nat.reduceSub, Int.reduceToNat, Array.toList, ltx_0 hj, gtx_0 hj, ltx_1 hj, gtx_1 hj, ltx_2 hj, gtx_2 hj, ltx_3 hj, gtx_3 hj, ltx_4 hj, gtx_4 hj, ltx_5 hj, gtx_5 hj]
  by_cases b5 : 5 < b
  · simp (maxSteps := 1000000) -dsimp -implicitDefEqProofs only [↓eqD, eqU, eqV, eqW, vbuiltinQ, vlen, vslice, vindex, vstore, Int.reduceLE, Int.reduceLT, Nat.reduceBEq, ↓reduceIte, reduceCtorEq, Nat.reduceEqDiff, Nat.reduceAdd, Nat.reduceMul, Nat.reduceLT, Nat.reduceLeDiff, Nat.reduceAnd, Nat.reduceSub, Int.reduceToNat, Array.toList, fnWp_some Tryz.func4, Tryz.f4, T4_ord, T4_ghost, FB, S15_at, add_at, none_at, g11, g14k, g15, vreps, vfill, natlOps, te36, u36, z3q, a0, a5, b0, b5]
    refine VDone.back hG ?_ rfl rfl
    intro j hj; simp (maxSteps := 1000000) -dsimp -implicitDefEqProofs only [↓eqD, eqU, eqV, eqW, vbuiltinQ, vlen, vslice, vindex, vstore, Int.reduceLE, Int.reduceLT, Nat.reduceBEq, ↓reduceIte, reduceCtorEq, Nat.reduceEqDiff, Nat.reduceAdd, Nat.reduceMul, Nat.reduceLT, Nat.reduceLeDiff, Nat.reduceAnd, Nat.reduceSub, Int.reduceToNat, Array.toList, ltx_0 hj, gtx_0 hj, ltx_1 hj, gtx_1 hj, ltx_2 hj, gtx_2 hj, ltx_3 hj, gtx_3 hj, ltx_4 hj, gtx_4 hj, ltx_5 hj, gtx_5 hj]
  have a1 : 0 ≤ a ∧ a < 6 := by omega
  have b1 : 0 ≤ b ∧ b < 6 := by omega
  obtain ⟨w, r, hm, h1, h2⟩ := ops_at a1.1 a5
  obtain ⟨w', r', hm', h1', h2'⟩ := ops_at b1.1 b5
  have hk := ops_ok hm hm'
  unfold opsOk at hk
  simp only [Bool.and_eq_true, decide_eq_true_eq, beq_iff_eq] at hk
  have hk' := ops_ok hm' hm
  unfold opsOk at hk'
  simp only [Bool.and_eq_true, decide_eq_true_eq, beq_iff_eq] at hk'
  obtain ⟨hx, hy, hz, hl, hxy, hxz⟩ := hk
  have hl' := hk'.2.2.2.1
  clear hk'
  unfold opsX opsY opsZ at *
  have sx := refP_small decA (117 :: 32 :: (((w ++ [32, 118, 32]) ++ w') ++ [32, 119]))
  generalize hrx : refP decA (117 :: 32 :: (((w ++ [32, 118, 32]) ++ w') ++ [32, 119])) = x at *
  generalize hry : refP decA (40 :: 117 :: 32 :: (((w ++ [32, 118, 41, 32]) ++ w') ++ [32, 119])) = y at *
  generalize hrz : refP decA (117 :: 32 :: (((w ++ [32, 40, 118, 32]) ++ w') ++ [32, 119, 41])) = z at *
  obtain ⟨⟨kx, bx, mx, cx, tx, lox, hix, ksx⟩, nx, ex⟩ := x
  obtain ⟨⟨ky, by_, my, cy, ty, loy, hiy, ksy⟩, ny, ey⟩ := y
  obtain ⟨⟨kz, bz, mz, cz, tz, loz, hiz, ksz⟩, nz, ez⟩ := z
  have d1 := exsC_closed ksx
  have d2 := exsC_closed ksy
  have d3 := exsC_closed ksz
  simp only at hx hy hz
  subst hx hy hz
  have w1 := same_walk (.mk kx bx mx cx tx lox hix ksx) (.mk ky by_ my cy ty loy hiy ksy) sx
  have w2 := same_walk (.mk kx bx mx cx tx lox hix ksx) (.mk kz bz mz cz tz loz hiz ksz) sx
  rw [hxy] at w1
  rw [hxz] at w2
  have k1 : 2 + w.length ≤ 9223372036854775807 := by omega
  have k2 : w.length ≤ 9223372036854775802 := by omega
  have k3 : w.length + 3 + 1 + 1 + w'.length ≤ 9223372036854775807 := by omega
  have k4 : w.length + 3 + w'.length ≤ 9223372036854775803 := by omega
  have k5 : 3 + w.length ≤ 9223372036854775807 := by omega
  have k6 : w.length ≤ 9223372036854775800 := by omega
  have k7 : w.length + 4 + 1 + 1 + 1 + w'.length ≤ 9223372036854775807 := by omega
  have k8 : w.length + 4 + w'.length ≤ 9223372036854775802 := by omega
  have k9 : w.length ≤ 9223372036854775801 := by omega
  have k10 : w.length + 4 + 1 + 1 + w'.length ≤ 9223372036854775807 := by omega
  simp (maxSteps := 1000000) -dsimp -implicitDefEqProofs only [↓eqD, eqU, eqV, eqW, vbuiltinQ, vlen, vslice, vindex, vstore, Int.reduceLE, Int.reduceLT, Nat.reduceBEq, ↓reduceIte, reduceCtorEq, Nat.reduceEqDiff, Nat.reduceAdd, Nat.reduceMul, Nat.reduceLT, Nat.reduceLeDiff, Nat.reduceAnd, Nat.reduceSub, Int.reduceToNat, Array.toList, fnWp_some Tryz.func4, Tryz.f4, T4_ord, T4_ghost, FB, S15_at, add_at, none_at, g11, g14k, g15, vreps, vfill, natlOps, te36, u36, z3q, a0, a5, b0, b5, a1, b1, h1, h2, h1', h2', List.length_append, oneV, hrx, hry, hrz, Ex.cells, d1, d2, d3, k1, k2, k3, k4, k5, k6, k7, k8, k9, k10]
  refine ⟨⟨⟨?_, ?_⟩, ⟨?_, ?_⟩⟩, ⟨⟨?_, ?_⟩, ⟨?_, ?_⟩⟩⟩
  all_goals
    refine VPure.calls (w1 _) ?_
    simp (maxSteps := 1000000) -dsimp -implicitDefEqProofs only [↓eqD, eqU, eqV, eqW, vbuiltinQ, vlen, vslice, vindex, vstore, Int.reduceLE, Int.reduceLT, Nat.reduceBEq, ↓reduceIte, reduceCtorEq, Nat.reduceEqDiff, Nat.reduceAdd, Nat.reduceMul, Nat.reduceLT, Nat.reduceLeDiff, Nat.reduceAnd, Nat.reduceSub, Int.reduceToNat, Array.toList, T4_ord, T4_ghost, FB, S15_at, add_at, none_at, g11, g14k, g15, natlOps, ne_eq]
    refine VPure.calls (w2 _) ?_
    simp (maxSteps := 1000000) -dsimp -implicitDefEqProofs only [↓eqD, eqU, eqV, eqW, vbuiltinQ, vlen, vslice, vindex, vstore, Int.reduceLE, Int.reduceLT, Nat.reduceBEq, ↓reduceIte, reduceCtorEq, Nat.reduceEqDiff, Nat.reduceAdd, Nat.reduceMul, Nat.reduceLT, Nat.reduceLeDiff, Nat.reduceAnd, Nat.reduceSub, Int.reduceToNat, Array.toList, T4_ord, T4_ghost, FB, S15_at, add_at, none_at, g11, g14k, g15, natlOps, ne_eq]
    refine VDone.back hG ?_ rfl rfl
    intro j hj; simp (maxSteps := 1000000) -dsimp -implicitDefEqProofs only [↓eqD, eqU, eqV, eqW, vbuiltinQ, vlen, vslice, vindex, vstore, Int.reduceLE, Int.reduceLT, Nat.reduceBEq, ↓reduceIte, reduceCtorEq, Nat.reduceEqDiff, Nat.reduceAdd, Nat.reduceMul, Nat.reduceLT, Nat.reduceLeDiff, Nat.reduceAnd, Nat.reduceSub, Int.reduceToNat, Array.toList, ltx_0 hj, gtx_0 hj, ltx_1 hj, gtx_1 hj, ltx_2 hj, gtx_2 hj, ltx_3 hj, gtx_3 hj, ltx_4 hj, gtx_4 hj, ltx_5 hj, gtx_5 hj]
end Go.Vf
