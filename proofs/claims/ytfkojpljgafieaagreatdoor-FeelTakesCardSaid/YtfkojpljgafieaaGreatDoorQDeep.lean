/- FeelDeep: within one another as deep as may be, and no deeper. -/
import Derived.Test.YtfkojpljgafieaaGreatDoorQA
set_option linter.unusedVariables false
set_option linter.unusedSimpArgs false
namespace Go.Vf
open Go.Proofs Go.RowKit

theorem natlDeep : ((2 : Nat) : Int) = 2 ∧ ((3 : Nat) : Int) = 3 ∧ ((5 : Nat) : Int) = 5 ∧ ((6 : Nat) : Int) = 6 := ⟨rfl, rfl, rfl, rfl⟩

def repL : Nat → List UInt8 → List UInt8 | 0, _ => [] | n + 1, c => repL n c ++ c
def repR : Nat → List UInt8 → List UInt8 | 0, _ => [] | n + 1, c => c ++ repR n c
theorem repL_len (c : List UInt8) : ∀ n, (repL n c).length = n * c.length
  | 0 => by simp [repL]
  | n + 1 => by rw [repL, List.length_append, repL_len c n, Nat.add_mul, Nat.one_mul]
theorem repR_len (c : List UInt8) : ∀ n, (repR n c).length = n * c.length
  | 0 => by simp [repR]
  | n + 1 => by rw [repR, List.length_append, repR_len c n, Nat.add_mul, Nat.one_mul]; omega
def deepT : List (List UInt8 × List UInt8) := [([40], [41]), ([45], []), ([91], [93]), ([102, 40], [41]), ([105, 102, 32, 116, 114, 117, 101, 32, 116, 104, 101, 110, 32, 49, 32, 101, 108, 115, 101, 32], []), ([49, 32, 105, 110, 32, 91, 50, 46, 46], [93])]
def deepX (n : Nat) (p : List UInt8 × List UInt8) : List UInt8 := (repL n p.1 ++ [55]) ++ repR n p.2
def deepOk (p : List UInt8 × List UInt8) (n : Nat) : Bool :=
  decide (p.1.length ≤ 20) && (decide (p.2.length ≤ 20) && (decide (200 < (deepX n p).length) || (decide ((lexL (deepX n p)).err ≠ 0) || (decide ((refP decA (deepX n p)).err = 0) == decide (n ≤ 8) && (decide ((refP decA (deepX n p)).err = 0) || decide ((refP decA (deepX n p)).err = 12))))))
theorem deep_all : (deepT.all fun p => (List.range 13).all fun n => deepOk p n) = true := by kernel_rfl
abbrev dpS : List V := [.str [40], .str [45], .str [91], .str [102, 40], .str [105, 102, 32, 116, 114, 117, 101, 32, 116, 104, 101, 110, 32, 49, 32, 101, 108, 115, 101, 32], .str [49, 32, 105, 110, 32, 91, 50, 46, 46]]
abbrev dpZ : List V := [.str [41], .str [], .str [93], .str [41], .str [], .str [93]]
theorem deep_at {a : Int} (h1 : 0 ≤ a) (h2 : ¬5 < a) : ∃ w z, (w, z) ∈ deepT ∧ velem 1 dpS a.toNat = [.str w] ∧ velem 1 dpZ a.toNat = [.str z] := by
  obtain ⟨n, rfl⟩ : ∃ n : Nat, a = (n : Int) := ⟨a.toNat, by omega⟩
  rw [Int.toNat_natCast]
  rcases n with _ | _ | _ | _ | _ | _ | n
  · exact ⟨_, _, .head _, rfl, rfl⟩
  · exact ⟨_, _, .tail _ (.head _), rfl, rfl⟩
  · exact ⟨_, _, .tail _ (.tail _ (.head _)), rfl, rfl⟩
  · exact ⟨_, _, .tail _ (.tail _ (.tail _ (.head _))), rfl, rfl⟩
  · exact ⟨_, _, .tail _ (.tail _ (.tail _ (.tail _ (.head _)))), rfl, rfl⟩
  · exact ⟨_, _, .tail _ (.tail _ (.tail _ (.tail _ (.tail _ (.head _))))), rfl, rfl⟩
  · omega
def g16d : List V → Option (Prop × V)
  | [.str s] => some (True, (lexL s).v)
  | _ => none
def S16 : Specs := ((((Specs.none.add 11 g11).add 12 g11).add 14 g14k).add 16 g16d)
theorem S16_at (f : FuncId) (xs : List V) (G : Heap) : S16 f xs G = ((((Specs.none.add 11 g11).add 12 g11).add 14 g14k).add 16 g16d) f xs G := rfl
theorem okS16 : SOk Tryz.prog S16 := by
  refine okS14.add ?_
  intro xs G p v e hp
  unfold g16d at e
  split at e
  · cases e; exact refLex_walk _ G
  · cases e
theorem okn5 : fnOk Tryz.prog 5 T0 2 = true := by kernel_rfl
set_option maxRecDepth 100000 in
set_option maxHeartbeats 4000000 in
theorem feelDeep_walk (n way : Int) (G : Heap) : VPure Tryz.prog 5 [.int .i64 n, .int .i64 way] G (.bool true) := by
  refine VCalls.of okS16 mixed T0 okn5 fun hG => ?_
  by_cases a0 : n < 0
  · simp (maxSteps := 1000000) -dsimp -implicitDefEqProofs only [↓eqD, eqU, eqV, eqW, vbuiltinQ, vlen, vslice, vindex, vstore, Int.reduceLE, Int.reduceLT, Nat.reduceBEq, ↓reduceIte, reduceCtorEq, Nat.reduceEqDiff, Nat.reduceAdd, Nat.reduceMul, Nat.reduceLT, Nat.reduceLeDiff, Nat.reduceAnd, Nat.reduceSub, Int.reduceToNat, Array.toList, fnWp_some Tryz.func5, Tryz.f5, T0, FB, S16_at, add_at, none_at, g11, g14k, g16d, vreps, vfill, natlDeep, a0]
    exact VDone.back hG (fun _ _ => rfl) rfl rfl
  by_cases a5 : 12 < n
  · simp (maxSteps := 1000000) -dsimp -implicitDefEqProofs only [↓eqD, eqU, eqV, eqW, vbuiltinQ, vlen, vslice, vindex, vstore, Int.reduceLE, Int.reduceLT, Nat.reduceBEq, ↓reduceIte, reduceCtorEq, Nat.reduceEqDiff, Nat.reduceAdd, Nat.reduceMul, Nat.reduceLT, Nat.reduceLeDiff, Nat.reduceAnd, Nat.reduceSub, Int.reduceToNat, Array.toList, fnWp_some Tryz.func5, Tryz.f5, T0, FB, S16_at, add_at, none_at, g11, g14k, g16d, vreps, vfill, natlDeep, a0, a5]
    exact VDone.back hG (fun _ _ => rfl) rfl rfl
  by_cases b0 : way < 0
  · simp (maxSteps := 1000000) -dsimp -implicitDefEqProofs only [↓eqD, eqU, eqV, eqW, vbuiltinQ, vlen, vslice, vindex, vstore, Int.reduceLE, Int.reduceLT, Nat.reduceBEq, ↓reduceIte, reduceCtorEq, Nat.reduceEqDiff, Nat.reduceAdd, Nat.reduceMul, Nat.reduceLT, Nat.reduceLeDiff, Nat.reduceAnd, Nat.reduceSub, Int.reduceToNat, Array.toList, fnWp_some Tryz.func5, Tryz.f5, T0, FB, S16_at, add_at, none_at, g11, g14k, g16d, vreps, vfill, natlDeep, a0, a5, b0]
    exact VDone.back hG (fun _ _ => rfl) rfl rfl
  by_cases b5 : 5 < way
  · simp (maxSteps := 1000000) -dsimp -implicitDefEqProofs only [↓eqD, eqU, eqV, eqW, vbuiltinQ, vlen, vslice, vindex, vstore, Int.reduceLE, Int.reduceLT, Nat.reduceBEq, ↓reduceIte, reduceCtorEq, Nat.reduceEqDiff, Nat.reduceAdd, Nat.reduceMul, Nat.reduceLT, Nat.reduceLeDiff, Nat.reduceAnd, Nat.reduceSub, Int.reduceToNat, Array.toList, fnWp_some Tryz.func5, Tryz.f5, T0, FB, S16_at, add_at, none_at, g11, g14k, g16d, vreps, vfill, natlDeep, a0, a5, b0, b5]
    exact VDone.back hG (fun _ _ => rfl) rfl rfl
  have b1 : 0 ≤ way ∧ way < 6 := by omega
  obtain ⟨w, z, hm, h1, h2⟩ := deep_at b1.1 b5
  obtain ⟨m, rfl⟩ : ∃ m : Nat, n = (m : Int) := ⟨n.toNat, by omega⟩
  have hall := List.all_eq_true.1 deep_all _ hm
  have hk := List.all_eq_true.1 hall m (List.mem_range.2 (by omega))
  unfold deepOk at hk
  simp only [Bool.and_eq_true, Bool.or_eq_true, decide_eq_true_eq, beq_iff_eq, decide_eq_decide, ne_eq] at hk
  obtain ⟨hw, hz, hk⟩ := hk
  simp (maxSteps := 1000000) -dsimp -implicitDefEqProofs only [↓eqD, eqU, eqV, eqW, vbuiltinQ, vlen, vslice, vindex, vstore, Int.reduceLE, Int.reduceLT, Nat.reduceBEq, ↓reduceIte, reduceCtorEq, Nat.reduceEqDiff, Nat.reduceAdd, Nat.reduceMul, Nat.reduceLT, Nat.reduceLeDiff, Nat.reduceAnd, Nat.reduceSub, Int.reduceToNat, Array.toList, fnWp_some Tryz.func5, Tryz.f5, T0, FB, S16_at, add_at, none_at, g11, g14k, g16d, vreps, vfill, natlDeep, a0, a5, b0, b5, b1, h1, h2]
  refine vloop_by (fun i : Nat => i ≤ m) (fun i => Env.of [(0, .int .i64 m), (5, .str w), (6, .str z), (7, .str (repL i w)), (8, .str (repR i z)), (9, .int .i64 i)]) (fun _ => G) (fun i => m - i) 0 ?_ ?_ ?_
  · refine .of ?_ (.refl _)
    simp (maxSteps := 1000000) -dsimp -implicitDefEqProofs only [↓eqD, eqU, eqV, eqW, vbuiltinQ, vlen, vslice, vindex, vstore, Int.reduceLE, Int.reduceLT, Nat.reduceBEq, ↓reduceIte, reduceCtorEq, Nat.reduceEqDiff, Nat.reduceAdd, Nat.reduceMul, Nat.reduceLT, Nat.reduceLeDiff, Nat.reduceAnd, Nat.reduceSub, Int.reduceToNat, Array.toList, repL, repR]
    (repeat' apply And.intro) <;> exact .refl _
  · exact Nat.zero_le _
  · intro i hle
    have e1 := repL_len w i
    have e2 := repR_len z i
    have e3 : i * w.length ≤ 12 * 20 := Nat.mul_le_mul (by omega) hw
    have e4 : i * z.length ≤ 12 * 20 := Nat.mul_le_mul (by omega) hz
    by_cases hlt : (i : Int) < (m : Int)
    · have kw : IntKind.wrap .i64 ((i : Int) + 1) = ((i + 1 : Nat) : Int) := by rw [w64 (by omega) (by omega)]; rfl
      have q1 : (repL i w).length + w.length ≤ 9223372036854775807 := by omega
      have q2 : z.length + (repR i z).length ≤ 9223372036854775807 := by omega
      simp (maxSteps := 1000000) -dsimp -implicitDefEqProofs only [↓eqD, eqU, eqV, eqW, vbuiltinQ, vlen, vslice, vindex, vstore, Int.reduceLE, Int.reduceLT, Nat.reduceBEq, ↓reduceIte, reduceCtorEq, Nat.reduceEqDiff, Nat.reduceAdd, Nat.reduceMul, Nat.reduceLT, Nat.reduceLeDiff, Nat.reduceAnd, Nat.reduceSub, Int.reduceToNat, Array.toList, T0, FB, S16_at, add_at, none_at, hlt, kw, q1, q2]
      refine ⟨i + 1, by omega, by omega, .of ?_ (.refl _)⟩
      simp (maxSteps := 1000000) -dsimp -implicitDefEqProofs only [↓eqD, eqU, eqV, eqW, vbuiltinQ, vlen, vslice, vindex, vstore, Int.reduceLE, Int.reduceLT, Nat.reduceBEq, ↓reduceIte, reduceCtorEq, Nat.reduceEqDiff, Nat.reduceAdd, Nat.reduceMul, Nat.reduceLT, Nat.reduceLeDiff, Nat.reduceAnd, Nat.reduceSub, Int.reduceToNat, Array.toList, repL, repR]
      (repeat' apply And.intro) <;> exact .refl _
    · have hi : i = m := by omega
      subst hi
      have q1 : (repL i w).length + 1 ≤ 9223372036854775807 := by omega
      have q2 : (repL i w ++ [55]).length + (repR i z).length ≤ 9223372036854775807 := by rw [List.length_append]; simp; omega
      have q3 : (((repL i w ++ [55]) ++ repR i z).length : Int) = (deepX i (w, z)).length := rfl
      have q4 : (repL i w ++ [55]) ++ repR i z = deepX i (w, z) := rfl
      by_cases hbig : 200 < ((deepX i (w, z)).length : Int)
      · simp (maxSteps := 1000000) -dsimp -implicitDefEqProofs only [↓eqD, eqU, eqV, eqW, vbuiltinQ, vlen, vslice, vindex, vstore, Int.reduceLE, Int.reduceLT, Nat.reduceBEq, ↓reduceIte, reduceCtorEq, Nat.reduceEqDiff, Nat.reduceAdd, Nat.reduceMul, Nat.reduceLT, Nat.reduceLeDiff, Nat.reduceAnd, Nat.reduceSub, Int.reduceToNat, Array.toList, T0, FB, S16_at, add_at, none_at, g11, g14k, g16d, hlt, q1, q2, q4, hbig]
        exact VDone.back hG (fun _ _ => rfl) rfl rfl
      have hk := hk.resolve_left (by omega)
      by_cases he : (lexL (deepX i (w, z))).err = 0
      case neg =>
        simp (maxSteps := 1000000) -dsimp -implicitDefEqProofs only [↓eqD, eqU, eqV, eqW, vbuiltinQ, vlen, vslice, vindex, vstore, Int.reduceLE, Int.reduceLT, Nat.reduceBEq, ↓reduceIte, reduceCtorEq, Nat.reduceEqDiff, Nat.reduceAdd, Nat.reduceMul, Nat.reduceLT, Nat.reduceLeDiff, Nat.reduceAnd, Nat.reduceSub, Int.reduceToNat, Array.toList, T0, FB, S16_at, add_at, none_at, g11, g14k, g16d, hlt, q1, q2, q4, hbig, Lexed.v, he, ne_eq]
        exact VDone.back hG (fun _ _ => rfl) rfl rfl
      by_cases ht : ((lexL (deepX i (w, z))).toks.length : Int) = 0
      · simp (maxSteps := 1000000) -dsimp -implicitDefEqProofs only [↓eqD, eqU, eqV, eqW, vbuiltinQ, vlen, vslice, vindex, vstore, Int.reduceLE, Int.reduceLT, Nat.reduceBEq, ↓reduceIte, reduceCtorEq, Nat.reduceEqDiff, Nat.reduceAdd, Nat.reduceMul, Nat.reduceLT, Nat.reduceLeDiff, Nat.reduceAnd, Nat.reduceSub, Int.reduceToNat, Array.toList, T0, FB, S16_at, add_at, none_at, g11, g14k, g16d, hlt, q1, q2, q4, hbig, Lexed.v, he, ht, ne_eq]
        exact VDone.back hG (fun _ _ => rfl) rfl rfl
      have hk := hk.resolve_left (fun h => h he)
      generalize deepX i (w, z) = x at *
      generalize hr : refP decA x = r at *
      obtain ⟨⟨kx, bx, mx, cx, tx, lox, hix, ksx⟩, nx, ex⟩ := r
      simp only at hk
      have d1 := exsC_closed ksx
      by_cases e0 : ex = 0
      · subst e0
        have i8 : (i : Int) ≤ 8 := by have := hk.1.1 rfl; omega
        simp (maxSteps := 1000000) -dsimp -implicitDefEqProofs only [↓eqD, eqU, eqV, eqW, vbuiltinQ, vlen, vslice, vindex, vstore, Int.reduceLE, Int.reduceLT, Nat.reduceBEq, ↓reduceIte, reduceCtorEq, Nat.reduceEqDiff, Nat.reduceAdd, Nat.reduceMul, Nat.reduceLT, Nat.reduceLeDiff, Nat.reduceAnd, Nat.reduceSub, Int.reduceToNat, Array.toList, T0, FB, S16_at, add_at, none_at, g11, g14k, g16d, hlt, q1, q2, q4, hbig, Lexed.v, he, ht, ne_eq, hr, Parsed.v, Ex.cells, d1, i8]
        refine VDone.back hG ?_ rfl rfl
        intro j hj; simp (maxSteps := 1000000) -dsimp -implicitDefEqProofs only [↓eqD, eqU, eqV, eqW, vbuiltinQ, vlen, vslice, vindex, vstore, Int.reduceLE, Int.reduceLT, Nat.reduceBEq, ↓reduceIte, reduceCtorEq, Nat.reduceEqDiff, Nat.reduceAdd, Nat.reduceMul, Nat.reduceLT, Nat.reduceLeDiff, Nat.reduceAnd, Nat.reduceSub, Int.reduceToNat, Array.toList, ltx_0 hj, gtx_0 hj, ltx_1 hj, gtx_1 hj, ltx_2 hj, gtx_2 hj, ltx_3 hj, gtx_3 hj, ltx_4 hj, gtx_4 hj, ltx_5 hj, gtx_5 hj]
      · have e12 : ex = 12 := hk.2.resolve_left e0
        subst e12
        have i8 : ¬(i : Int) ≤ 8 := fun h => absurd (hk.1.2 (by omega)) (by decide)
        simp (maxSteps := 1000000) -dsimp -implicitDefEqProofs only [↓eqD, eqU, eqV, eqW, vbuiltinQ, vlen, vslice, vindex, vstore, Int.reduceLE, Int.reduceLT, Nat.reduceBEq, ↓reduceIte, reduceCtorEq, Nat.reduceEqDiff, Nat.reduceAdd, Nat.reduceMul, Nat.reduceLT, Nat.reduceLeDiff, Nat.reduceAnd, Nat.reduceSub, Int.reduceToNat, Array.toList, T0, FB, S16_at, add_at, none_at, g11, g14k, g16d, hlt, q1, q2, q4, hbig, Lexed.v, he, ht, ne_eq, hr, Parsed.v, Ex.cells, d1, i8, Int.reduceEq]
        refine VDone.back hG ?_ rfl rfl
        intro j hj; simp (maxSteps := 1000000) -dsimp -implicitDefEqProofs only [↓eqD, eqU, eqV, eqW, vbuiltinQ, vlen, vslice, vindex, vstore, Int.reduceLE, Int.reduceLT, Nat.reduceBEq, ↓reduceIte, reduceCtorEq, Nat.reduceEqDiff, Nat.reduceAdd, Nat.reduceMul, Nat.reduceLT, Nat.reduceLeDiff, Nat.reduceAnd, Nat.reduceSub, Int.reduceToNat, Array.toList, ltx_0 hj, gtx_0 hj, ltx_1 hj, gtx_1 hj, ltx_2 hj, gtx_2 hj, ltx_3 hj, gtx_3 hj, ltx_4 hj, gtx_4 hj, ltx_5 hj, gtx_5 hj]
end Go.Vf
