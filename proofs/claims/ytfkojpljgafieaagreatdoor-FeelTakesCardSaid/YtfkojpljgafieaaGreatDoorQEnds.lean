/- FeelEnds: an expression that is cut within is none, and says where. -/
import Derived.Test.YtfkojpljgafieaaGreatDoorQA
set_option linter.unusedVariables false
set_option linter.unusedSimpArgs false
namespace Go.Vf
open Go.Proofs Go.RowKit

theorem natlEnds : ((2 : Nat) : Int) = 2 ∧ ((3 : Nat) : Int) = 3 ∧ ((5 : Nat) : Int) = 5 ∧ ((6 : Nat) : Int) = 6 := ⟨rfl, rfl, rfl, rfl⟩

theorem bits_and (q : Int) (m : Nat) (hm : m ≤ 4611686018427387904) : 0 ≤ vbits .and .i64 q m ∧ vbits .and .i64 q m ≤ m := by
  have e : vbits .and .i64 q m = IntKind.wrap .i64 ((BitVec.ofInt 64 q &&& BitVec.ofInt 64 m).toNat : Nat) := rfl
  have h1 : (BitVec.ofInt 64 q &&& BitVec.ofInt 64 m).toNat ≤ m := by
    rw [BitVec.toNat_and]
    have : (BitVec.ofInt 64 (m : Int)).toNat = m := by
      rw [BitVec.toNat_ofInt]; have : ((m : Int) % (2 ^ 64 : Nat)).toNat = m := by omega
      exact this
    rw [this]
    exact Nat.and_le_right
  rw [e, w64 (by omega) (by omega)]
  omega
def endsT : List (List UInt8) := [[105, 102, 32, 97, 32, 116, 104, 101, 110, 32, 98, 32, 101, 108, 115, 101, 32, 99], [102, 40, 97, 44, 32, 91, 49, 44, 32, 50, 93, 41], [97, 32, 105, 110, 32, 40, 49, 46, 46, 50, 93], [97, 32, 43, 32, 98, 32, 42, 32, 45, 99], [110, 111, 116, 40, 97, 32, 97, 110, 100, 32, 98, 41]]
def endsOk (s : List UInt8) (i : Nat) : Bool := decide (s.length ≤ 100) && (decide ((refP decA (s.take (i + 1))).n ≤ ((i + 1 : Nat) : Int)) && (decide (i + 1 < s.length) || decide ((refP decA (s.take (i + 1))).err = 0)))
theorem ends_all : (endsT.all fun s => (List.range s.length).all fun i => endsOk s i) = true := by kernel_rfl
abbrev endsS : List V := [.str [105, 102, 32, 97, 32, 116, 104, 101, 110, 32, 98, 32, 101, 108, 115, 101, 32, 99], .str [102, 40, 97, 44, 32, 91, 49, 44, 32, 50, 93, 41], .str [97, 32, 105, 110, 32, 40, 49, 46, 46, 50, 93], .str [97, 32, 43, 32, 98, 32, 42, 32, 45, 99], .str [110, 111, 116, 40, 97, 32, 97, 110, 100, 32, 98, 41]]
theorem ends_at {a : Int} (h1 : 0 ≤ a) (h2 : a < 5) : ∃ s, s ∈ endsT ∧ velem 1 endsS a.toNat = [.str s] ∧ 0 < s.length := by
  obtain ⟨n, rfl⟩ : ∃ n : Nat, a = (n : Int) := ⟨a.toNat, by omega⟩
  rw [Int.toNat_natCast]
  rcases n with _ | _ | _ | _ | _ | n
  · exact ⟨_, .head _, rfl, by decide⟩
  · exact ⟨_, .tail _ (.head _), rfl, by decide⟩
  · exact ⟨_, .tail _ (.tail _ (.head _)), rfl, by decide⟩
  · exact ⟨_, .tail _ (.tail _ (.tail _ (.head _))), rfl, by decide⟩
  · exact ⟨_, .tail _ (.tail _ (.tail _ (.tail _ (.head _)))), rfl, by decide⟩
  · omega
theorem okn6 : fnOk Tryz.prog 6 T0 2 = true := by kernel_rfl
set_option maxRecDepth 100000 in
theorem feelEnds_walk (k at_ : Int) (G : Heap) : VPure Tryz.prog 6 [.int .i64 k, .int .i64 at_] G (.bool true) := by
  refine VCalls.of okS14 mixed T0 okn6 fun hG => ?_
  by_cases a0 : k < 0
  · simp (maxSteps := 1000000) -dsimp -implicitDefEqProofs only [↓eqD, eqU, eqV, eqW, vbuiltinQ, vlen, vslice, vindex, vstore, Int.reduceLE, Int.reduceLT, Nat.reduceBEq, ↓reduceIte, reduceCtorEq, Nat.reduceEqDiff, Nat.reduceAdd, Nat.reduceMul, Nat.reduceLT, Nat.reduceLeDiff, Nat.reduceAnd, Nat.reduceSub, Int.reduceToNat, Array.toList, fnWp_some Tryz.func6, Tryz.f6, T0, FB, S14_at, add_at, none_at, g11, g14k, vreps, vfill, natlEnds, a0]
    exact VDone.back hG (fun _ _ => rfl) rfl rfl
  by_cases a5 : 5 ≤ k
  · simp (maxSteps := 1000000) -dsimp -implicitDefEqProofs only [↓eqD, eqU, eqV, eqW, vbuiltinQ, vlen, vslice, vindex, vstore, Int.reduceLE, Int.reduceLT, Nat.reduceBEq, ↓reduceIte, reduceCtorEq, Nat.reduceEqDiff, Nat.reduceAdd, Nat.reduceMul, Nat.reduceLT, Nat.reduceLeDiff, Nat.reduceAnd, Nat.reduceSub, Int.reduceToNat, Array.toList, fnWp_some Tryz.func6, Tryz.f6, T0, FB, S14_at, add_at, none_at, g11, g14k, vreps, vfill, natlEnds, a0, a5]
    exact VDone.back hG (fun _ _ => rfl) rfl rfl
  have a1 : 0 ≤ k ∧ k < 5 := by omega
  obtain ⟨s, hs, h1, hp⟩ := ends_at a1.1 a1.2
  obtain ⟨hq1, hq2⟩ : 0 ≤ vbits .and .i64 at_ 65535 ∧ vbits .and .i64 at_ 65535 ≤ 65535 := bits_and at_ 65535 (by decide)
  have hm1 := Int.tmod_nonneg (s.length : Int) hq1
  have hm2 := Int.tmod_lt_of_pos (vbits .and .i64 at_ 65535) (b := (s.length : Int)) (by omega)
  have hall := List.all_eq_true.1 ends_all s hs
  obtain ⟨i, hi⟩ : ∃ i : Nat, (vbits .and .i64 at_ 65535).tmod (s.length : Int) = (i : Int) := ⟨((vbits .and .i64 at_ 65535).tmod (s.length : Int)).toNat, by have := hm1; omega⟩
  have hm2 : (vbits .and .i64 at_ 65535).tmod (s.length : Int) < (s.length : Int) := hm2
  rw [hi] at hm2
  have hk := List.all_eq_true.1 hall i (List.mem_range.2 (by omega))
  unfold endsOk at hk
  simp only [Bool.and_eq_true, Bool.or_eq_true, decide_eq_true_eq] at hk
  obtain ⟨hl, hk1, hk2⟩ := hk
  have hw : IntKind.wrap .i64 (1 + (i : Int)) = ((i + 1 : Nat) : Int) := by rw [w64 (by omega) (by omega)]; omega
  have hne : ¬(s.length : Int) = 0 := by omega
  have hb : 0 ≤ ((i + 1 : Nat) : Int) ∧ ((i + 1 : Nat) : Int) ≤ (s.length : Int) := by omega
  generalize hr : refP decA (s.take (i + 1)) = r at *
  obtain ⟨⟨kx, bx, mx, cx, tx, lox, hix, ksx⟩, nx, ex⟩ := r
  simp only at hk1 hk2
  have d1 := exsC_closed ksx
  by_cases hlt : ((i + 1 : Nat) : Int) < (s.length : Int)
  · simp (maxSteps := 1000000) -dsimp -implicitDefEqProofs only [↓eqD, eqU, eqV, eqW, vbuiltinQ, vlen, vslice, vindex, vstore, Int.reduceLE, Int.reduceLT, Nat.reduceBEq, ↓reduceIte, reduceCtorEq, Nat.reduceEqDiff, Nat.reduceAdd, Nat.reduceMul, Nat.reduceLT, Nat.reduceLeDiff, Nat.reduceAnd, Nat.reduceSub, Int.reduceToNat, Array.toList, fnWp_some Tryz.func6, Tryz.f6, T0, FB, S14_at, add_at, none_at, g11, g14k, vreps, vfill, natlEnds, a0, a5, a1, h1, hi, hne, hw, hb, hr, Parsed.v, Ex.cells, d1, hk1, hlt, ne_eq]
    refine VDone.back hG ?_ rfl rfl
    intro j hj; simp (maxSteps := 1000000) -dsimp -implicitDefEqProofs only [↓eqD, eqU, eqV, eqW, vbuiltinQ, vlen, vslice, vindex, vstore, Int.reduceLE, Int.reduceLT, Nat.reduceBEq, ↓reduceIte, reduceCtorEq, Nat.reduceEqDiff, Nat.reduceAdd, Nat.reduceMul, Nat.reduceLT, Nat.reduceLeDiff, Nat.reduceAnd, Nat.reduceSub, Int.reduceToNat, Array.toList, ltx_0 hj, gtx_0 hj, ltx_1 hj, gtx_1 hj, ltx_2 hj, gtx_2 hj, ltx_3 hj, gtx_3 hj, ltx_4 hj, gtx_4 hj, ltx_5 hj, gtx_5 hj]
  · have he : ex = 0 := hk2.resolve_left (by omega)
    subst he
    simp (maxSteps := 1000000) -dsimp -implicitDefEqProofs only [↓eqD, eqU, eqV, eqW, vbuiltinQ, vlen, vslice, vindex, vstore, Int.reduceLE, Int.reduceLT, Nat.reduceBEq, ↓reduceIte, reduceCtorEq, Nat.reduceEqDiff, Nat.reduceAdd, Nat.reduceMul, Nat.reduceLT, Nat.reduceLeDiff, Nat.reduceAnd, Nat.reduceSub, Int.reduceToNat, Array.toList, fnWp_some Tryz.func6, Tryz.f6, T0, FB, S14_at, add_at, none_at, g11, g14k, vreps, vfill, natlEnds, a0, a5, a1, h1, hi, hne, hw, hb, hr, Parsed.v, Ex.cells, d1, hk1, hlt, ne_eq]
    refine VDone.back hG ?_ rfl rfl
    intro j hj; simp (maxSteps := 1000000) -dsimp -implicitDefEqProofs only [↓eqD, eqU, eqV, eqW, vbuiltinQ, vlen, vslice, vindex, vstore, Int.reduceLE, Int.reduceLT, Nat.reduceBEq, ↓reduceIte, reduceCtorEq, Nat.reduceEqDiff, Nat.reduceAdd, Nat.reduceMul, Nat.reduceLT, Nat.reduceLeDiff, Nat.reduceAnd, Nat.reduceSub, Int.reduceToNat, Array.toList, ltx_0 hj, gtx_0 hj, ltx_1 hj, gtx_1 hj, ltx_2 hj, gtx_2 hj, ltx_3 hj, gtx_3 hj, ltx_4 hj, gtx_4 hj, ltx_5 hj, gtx_5 hj]
end Go.Vf
