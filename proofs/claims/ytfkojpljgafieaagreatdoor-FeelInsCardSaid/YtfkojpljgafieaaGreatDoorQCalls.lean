/- FeelCalls: a name with brackets is a call, without it is a name; a word is neither. -/
import Derived.Test.YtfkojpljgafieaaGreatDoorQA
set_option linter.unusedVariables false
set_option linter.unusedSimpArgs false
namespace Go.Vf
open Go.Proofs Go.RowKit

theorem natlCalls : ((2 : Nat) : Int) = 2 ∧ ((3 : Nat) : Int) = 3 ∧ ((5 : Nat) : Int) = 5 ∧ ((6 : Nat) : Int) = 6 := ⟨rfl, rfl, rfl, rfl⟩

def ones (f : List UInt8) : Nat → List UInt8 | 0 => f ++ [40] | n + 1 => (if 0 < n then ones f n ++ [44, 32] else ones f n) ++ [49]
theorem ones_len (f : List UInt8) : ∀ n, (ones f n).length ≤ f.length + 1 + 3 * n
  | 0 => by simp [ones]
  | n + 1 => by
    have := ones_len f n
    rw [ones]
    split
    · simp; omega
    · simp; omega
def callsT : List (List UInt8) := [[102, 111, 111], [116, 114, 117, 101], [116, 104, 101, 110]]
def Ex.kind : Ex → Int | .mk k _ _ _ _ _ _ _ => k
def Ex.text : Ex → List UInt8 | .mk _ _ _ _ t _ _ _ => t
def Ex.kids : Ex → List Ex | .mk _ _ _ _ _ _ _ ks => ks
def callsOk (word : Nat) (f : List UInt8) (n : Nat) : Bool :=
  decide (f.length ≤ 10) &&
  (if 0 < word then decide ((refP decA (ones f n ++ [41])).err = 2) && (decide ((refP decA f).err = 0) == decide (word = 1))
  else decide ((refP decA (ones f n ++ [41])).err = 0) && (decide ((refP decA (ones f n ++ [41])).e.kind = 10) && (decide ((refP decA (ones f n ++ [41])).e.text = [102, 111, 111]) && (decide ((refP decA (ones f n ++ [41])).e.kids.length = n) && (decide ((refP decA f).err = 0) && decide ((refP decA f).e.kind = 5))))))
theorem calls_all0 : ((List.range 10).all fun n => callsOk 0 [102, 111, 111] n) = true := by kernel_rfl
theorem calls_all1 : ((List.range 10).all fun n => callsOk 1 [116, 114, 117, 101] n) = true := by kernel_rfl
theorem calls_all2 : ((List.range 10).all fun n => callsOk 2 [116, 104, 101, 110] n) = true := by kernel_rfl
abbrev callsS : List V := [.str [102, 111, 111], .str [116, 114, 117, 101], .str [116, 104, 101, 110]]
theorem calls_at {a : Int} {n : Nat} (h1 : 0 ≤ a) (h2 : ¬2 < a) (hn : n < 10) : ∃ f k, a = ((k : Nat) : Int) ∧ velem 1 callsS a.toNat = [.str f] ∧ callsOk k f n = true := by
  obtain ⟨m, rfl⟩ : ∃ n : Nat, a = (n : Int) := ⟨a.toNat, by omega⟩
  rw [Int.toNat_natCast]
  rcases m with _ | _ | _ | m
  · exact ⟨_, 0, rfl, rfl, List.all_eq_true.1 calls_all0 n (List.mem_range.2 hn)⟩
  · exact ⟨_, 1, rfl, rfl, List.all_eq_true.1 calls_all1 n (List.mem_range.2 hn)⟩
  · exact ⟨_, 2, rfl, rfl, List.all_eq_true.1 calls_all2 n (List.mem_range.2 hn)⟩
  · omega
theorem okn7 : fnOk Tryz.prog 7 T0 2 = true := by kernel_rfl
set_option maxRecDepth 100000 in
set_option maxHeartbeats 4000000 in
theorem feelCalls_walk (n word : Int) (G : Heap) : VPure Tryz.prog 7 [.int .i64 n, .int .i64 word] G (.bool true) := by
  refine VCalls.of okS14 mixed T0 okn7 fun hG => ?_
  by_cases a0 : n < 0
  · simp (maxSteps := 1000000) -dsimp -implicitDefEqProofs only [↓eqD, eqU, eqV, eqW, vbuiltinQ, vlen, vslice, vindex, vstore, Int.reduceLE, Int.reduceLT, Nat.reduceBEq, ↓reduceIte, reduceCtorEq, Nat.reduceEqDiff, Nat.reduceAdd, Nat.reduceMul, Nat.reduceLT, Nat.reduceLeDiff, Nat.reduceAnd, Nat.reduceSub, Int.reduceToNat, Array.toList, fnWp_some Tryz.func7, Tryz.f7, T0, FB, S14_at, add_at, none_at, g11, g14k, vreps, vfill, natlCalls, a0]
    exact VDone.back hG (fun _ _ => rfl) rfl rfl
  by_cases a5 : 9 < n
  · simp (maxSteps := 1000000) -dsimp -implicitDefEqProofs only [↓eqD, eqU, eqV, eqW, vbuiltinQ, vlen, vslice, vindex, vstore, Int.reduceLE, Int.reduceLT, Nat.reduceBEq, ↓reduceIte, reduceCtorEq, Nat.reduceEqDiff, Nat.reduceAdd, Nat.reduceMul, Nat.reduceLT, Nat.reduceLeDiff, Nat.reduceAnd, Nat.reduceSub, Int.reduceToNat, Array.toList, fnWp_some Tryz.func7, Tryz.f7, T0, FB, S14_at, add_at, none_at, g11, g14k, vreps, vfill, natlCalls, a0, a5]
    exact VDone.back hG (fun _ _ => rfl) rfl rfl
  by_cases b0 : word < 0
  · simp (maxSteps := 1000000) -dsimp -implicitDefEqProofs only [↓eqD, eqU, eqV, eqW, vbuiltinQ, vlen, vslice, vindex, vstore, Int.reduceLE, Int.reduceLT, Nat.reduceBEq, ↓reduceIte, reduceCtorEq, Nat.reduceEqDiff, Nat.reduceAdd, Nat.reduceMul, Nat.reduceLT, Nat.reduceLeDiff, Nat.reduceAnd, Nat.reduceSub, Int.reduceToNat, Array.toList, fnWp_some Tryz.func7, Tryz.f7, T0, FB, S14_at, add_at, none_at, g11, g14k, vreps, vfill, natlCalls, a0, a5, b0]
    exact VDone.back hG (fun _ _ => rfl) rfl rfl
  by_cases b5 : 2 < word
  · simp (maxSteps := 1000000) -dsimp -implicitDefEqProofs only [↓eqD, eqU, eqV, eqW, vbuiltinQ, vlen, vslice, vindex, vstore, Int.reduceLE, Int.reduceLT, Nat.reduceBEq, ↓reduceIte, reduceCtorEq, Nat.reduceEqDiff, Nat.reduceAdd, Nat.reduceMul, Nat.reduceLT, Nat.reduceLeDiff, Nat.reduceAnd, Nat.reduceSub, Int.reduceToNat, Array.toList, fnWp_some Tryz.func7, Tryz.f7, T0, FB, S14_at, add_at, none_at, g11, g14k, vreps, vfill, natlCalls, a0, a5, b0, b5]
    exact VDone.back hG (fun _ _ => rfl) rfl rfl
  have b1 : 0 ≤ word ∧ word < 3 := by omega
  obtain ⟨m, rfl⟩ : ∃ m : Nat, n = (m : Int) := ⟨n.toNat, by omega⟩
  obtain ⟨f, k, hkw, h1, hk⟩ := calls_at (n := m) b1.1 b5 (by omega)
  unfold callsOk at hk
  rw [Bool.and_eq_true, decide_eq_true_eq] at hk
  obtain ⟨hf, hk⟩ := hk
  have q0 : f.length + 1 ≤ 9223372036854775807 := by omega
  simp (maxSteps := 1000000) -dsimp -implicitDefEqProofs only [↓eqD, eqU, eqV, eqW, vbuiltinQ, vlen, vslice, vindex, vstore, Int.reduceLE, Int.reduceLT, Nat.reduceBEq, ↓reduceIte, reduceCtorEq, Nat.reduceEqDiff, Nat.reduceAdd, Nat.reduceMul, Nat.reduceLT, Nat.reduceLeDiff, Nat.reduceAnd, Nat.reduceSub, Int.reduceToNat, Array.toList, fnWp_some Tryz.func7, Tryz.f7, T0, FB, S14_at, add_at, none_at, g11, g14k, vreps, vfill, natlCalls, a0, a5, b0, b5, b1, h1, q0]
  refine vloop_by (fun i : Nat => i ≤ m) (fun i => Env.of [(0, .int .i64 m), (1, .int .i64 word), (5, .str f), (6, .str (ones f i)), (7, .int .i64 i)]) (fun _ => G) (fun i => m - i) 0 ?_ ?_ ?_
  · refine .of ?_ (.refl _)
    simp (maxSteps := 1000000) -dsimp -implicitDefEqProofs only [↓eqD, eqU, eqV, eqW, vbuiltinQ, vlen, vslice, vindex, vstore, Int.reduceLE, Int.reduceLT, Nat.reduceBEq, ↓reduceIte, reduceCtorEq, Nat.reduceEqDiff, Nat.reduceAdd, Nat.reduceMul, Nat.reduceLT, Nat.reduceLeDiff, Nat.reduceAnd, Nat.reduceSub, Int.reduceToNat, Array.toList, ones]
    (repeat' apply And.intro) <;> exact .refl _
  · exact Nat.zero_le _
  · intro i hle
    have e1 := ones_len f i
    by_cases hlt : (i : Int) < (m : Int)
    · have kw : IntKind.wrap .i64 ((i : Int) + 1) = ((i + 1 : Nat) : Int) := by rw [w64 (by omega) (by omega)]; rfl
      have q1 : (ones f i).length + 2 ≤ 9223372036854775807 := by omega
      have q2 : (ones f i ++ [44, 32]).length + 1 ≤ 9223372036854775807 := by rw [List.length_append]; simp; omega
      have q3 : (ones f i).length + 1 ≤ 9223372036854775807 := by omega
      by_cases hz : 0 < i
      · have hz' : 0 < (i : Int) := by omega
        simp (maxSteps := 1000000) -dsimp -implicitDefEqProofs only [↓eqD, eqU, eqV, eqW, vbuiltinQ, vlen, vslice, vindex, vstore, Int.reduceLE, Int.reduceLT, Nat.reduceBEq, ↓reduceIte, reduceCtorEq, Nat.reduceEqDiff, Nat.reduceAdd, Nat.reduceMul, Nat.reduceLT, Nat.reduceLeDiff, Nat.reduceAnd, Nat.reduceSub, Int.reduceToNat, Array.toList, T0, FB, S14_at, add_at, none_at, hlt, kw, q1, q2, q3, hz']
        refine ⟨i + 1, by omega, by omega, .of ?_ (.refl _)⟩
        simp (maxSteps := 1000000) -dsimp -implicitDefEqProofs only [↓eqD, eqU, eqV, eqW, vbuiltinQ, vlen, vslice, vindex, vstore, Int.reduceLE, Int.reduceLT, Nat.reduceBEq, ↓reduceIte, reduceCtorEq, Nat.reduceEqDiff, Nat.reduceAdd, Nat.reduceMul, Nat.reduceLT, Nat.reduceLeDiff, Nat.reduceAnd, Nat.reduceSub, Int.reduceToNat, Array.toList, ones, hz]
        (repeat' apply And.intro) <;> exact .refl _
      · have hz' : ¬0 < (i : Int) := by omega
        simp (maxSteps := 1000000) -dsimp -implicitDefEqProofs only [↓eqD, eqU, eqV, eqW, vbuiltinQ, vlen, vslice, vindex, vstore, Int.reduceLE, Int.reduceLT, Nat.reduceBEq, ↓reduceIte, reduceCtorEq, Nat.reduceEqDiff, Nat.reduceAdd, Nat.reduceMul, Nat.reduceLT, Nat.reduceLeDiff, Nat.reduceAnd, Nat.reduceSub, Int.reduceToNat, Array.toList, T0, FB, S14_at, add_at, none_at, hlt, kw, q1, q2, q3, hz']
        refine ⟨i + 1, by omega, by omega, .of ?_ (.refl _)⟩
        simp (maxSteps := 1000000) -dsimp -implicitDefEqProofs only [↓eqD, eqU, eqV, eqW, vbuiltinQ, vlen, vslice, vindex, vstore, Int.reduceLE, Int.reduceLT, Nat.reduceBEq, ↓reduceIte, reduceCtorEq, Nat.reduceEqDiff, Nat.reduceAdd, Nat.reduceMul, Nat.reduceLT, Nat.reduceLeDiff, Nat.reduceAnd, Nat.reduceSub, Int.reduceToNat, Array.toList, ones, hz]
        (repeat' apply And.intro) <;> exact .refl _
    · have hi : i = m := by omega
      subst hi
      have q1 : (ones f i).length + 1 ≤ 9223372036854775807 := by omega
      generalize hr : refP decA (ones f i ++ [41]) = r at *
      obtain ⟨⟨kx, bx, mx, cx, tx, lox, hix, ksx⟩, nx, ex⟩ := r
      have d1 := exsC_closed ksx
      generalize hr2 : refP decA f = r2 at *
      obtain ⟨⟨ky, by_, my, cy, ty, loy, hiy, ksy⟩, ny, ey⟩ := r2
      have d2 := exsC_closed ksy
      by_cases hw : 0 < k
      · rw [if_pos hw] at hk
        simp only [Bool.and_eq_true, decide_eq_true_eq, beq_iff_eq, decide_eq_decide] at hk
        obtain ⟨hk1, hk2⟩ := hk
        subst hk1
        have hw' : 0 < word := by omega
        by_cases e1 : ey = 0
        · subst e1
          have : word = 1 := by have := hk2.1 rfl; omega
          subst this
          simp (maxSteps := 1000000) -dsimp -implicitDefEqProofs only [↓eqD, eqU, eqV, eqW, vbuiltinQ, vlen, vslice, vindex, vstore, Int.reduceLE, Int.reduceLT, Nat.reduceBEq, ↓reduceIte, reduceCtorEq, Nat.reduceEqDiff, Nat.reduceAdd, Nat.reduceMul, Nat.reduceLT, Nat.reduceLeDiff, Nat.reduceAnd, Nat.reduceSub, Int.reduceToNat, Array.toList, T0, FB, S14_at, add_at, none_at, g11, g14k, hlt, q1, hr, hr2, Parsed.v, Ex.cells, d1, d2, hw', Int.reduceEq]
          refine VDone.back hG ?_ rfl rfl
          intro j hj; simp (maxSteps := 1000000) -dsimp -implicitDefEqProofs only [↓eqD, eqU, eqV, eqW, vbuiltinQ, vlen, vslice, vindex, vstore, Int.reduceLE, Int.reduceLT, Nat.reduceBEq, ↓reduceIte, reduceCtorEq, Nat.reduceEqDiff, Nat.reduceAdd, Nat.reduceMul, Nat.reduceLT, Nat.reduceLeDiff, Nat.reduceAnd, Nat.reduceSub, Int.reduceToNat, Array.toList, ltx_0 hj, gtx_0 hj, ltx_1 hj, gtx_1 hj, ltx_2 hj, gtx_2 hj, ltx_3 hj, gtx_3 hj, ltx_4 hj, gtx_4 hj, ltx_5 hj, gtx_5 hj]
        · have hw1 : ¬word = 1 := fun h => e1 (hk2.2 (by omega))
          simp (maxSteps := 1000000) -dsimp -implicitDefEqProofs only [↓eqD, eqU, eqV, eqW, vbuiltinQ, vlen, vslice, vindex, vstore, Int.reduceLE, Int.reduceLT, Nat.reduceBEq, ↓reduceIte, reduceCtorEq, Nat.reduceEqDiff, Nat.reduceAdd, Nat.reduceMul, Nat.reduceLT, Nat.reduceLeDiff, Nat.reduceAnd, Nat.reduceSub, Int.reduceToNat, Array.toList, T0, FB, S14_at, add_at, none_at, g11, g14k, hlt, q1, hr, hr2, Parsed.v, Ex.cells, d1, d2, hw', e1, hw1, Int.reduceEq]
          refine VDone.back hG ?_ rfl rfl
          intro j hj; simp (maxSteps := 1000000) -dsimp -implicitDefEqProofs only [↓eqD, eqU, eqV, eqW, vbuiltinQ, vlen, vslice, vindex, vstore, Int.reduceLE, Int.reduceLT, Nat.reduceBEq, ↓reduceIte, reduceCtorEq, Nat.reduceEqDiff, Nat.reduceAdd, Nat.reduceMul, Nat.reduceLT, Nat.reduceLeDiff, Nat.reduceAnd, Nat.reduceSub, Int.reduceToNat, Array.toList, ltx_0 hj, gtx_0 hj, ltx_1 hj, gtx_1 hj, ltx_2 hj, gtx_2 hj, ltx_3 hj, gtx_3 hj, ltx_4 hj, gtx_4 hj, ltx_5 hj, gtx_5 hj]
      · rw [if_neg hw] at hk
        simp only [Bool.and_eq_true, Ex.kind, Ex.text, Ex.kids] at hk
        simp only [decide_eq_true_eq] at hk
        obtain ⟨hk1, hk2, hk3, hk4, hk5, hk6⟩ := hk
        have j2 := of_decide_eq_true hk2
        clear hk2
        have j3 := of_decide_eq_true hk3
        clear hk3
        have j4 := of_decide_eq_true hk4
        clear hk4
        have j6 := of_decide_eq_true hk6
        clear hk6
        subst hk1 j2 j3 hk5 j6
        have hk4' : (ksx.length : Int) = (i : Int) := by omega
        have hw' : ¬0 < word := by omega
        simp (maxSteps := 1000000) -dsimp -implicitDefEqProofs only [↓eqD, eqU, eqV, eqW, vbuiltinQ, vlen, vslice, vindex, vstore, Int.reduceLE, Int.reduceLT, Nat.reduceBEq, ↓reduceIte, reduceCtorEq, Nat.reduceEqDiff, Nat.reduceAdd, Nat.reduceMul, Nat.reduceLT, Nat.reduceLeDiff, Nat.reduceAnd, Nat.reduceSub, Int.reduceToNat, Array.toList, T0, FB, S14_at, add_at, none_at, g11, g14k, hlt, q1, hr, hr2, Parsed.v, Ex.cells, d1, d2, hw', hk4', Int.reduceEq]
        refine VDone.back hG ?_ rfl rfl
        intro j hj; simp (maxSteps := 1000000) -dsimp -implicitDefEqProofs only [↓eqD, eqU, eqV, eqW, vbuiltinQ, vlen, vslice, vindex, vstore, Int.reduceLE, Int.reduceLT, Nat.reduceBEq, ↓reduceIte, reduceCtorEq, Nat.reduceEqDiff, Nat.reduceAdd, Nat.reduceMul, Nat.reduceLT, Nat.reduceLeDiff, Nat.reduceAnd, Nat.reduceSub, Int.reduceToNat, Array.toList, ltx_0 hj, gtx_0 hj, ltx_1 hj, gtx_1 hj, ltx_2 hj, gtx_2 hj, ltx_3 hj, gtx_3 hj, ltx_4 hj, gtx_4 hj, ltx_5 hj, gtx_5 hj]
end Go.Vf
