/- A part of the proof: Tg. -/
import Derived.Test.YtkcdhmplinjldaaGreatDoorBATk
set_option linter.unusedVariables false
set_option linter.unusedSimpArgs false
namespace Go.Vf
open Go.Proofs Go.RowKit
theorem rng_holds {a b x : Nat} (ha : a < 100) (hb : b < 100) {p q : UInt8} (hp : p = 91 ∨ p = 40) (hq : q = 93 ∨ q = 41) :
    (rowTxt [.rng p (digitsF 5 a) (digitsF 5 b) q]).length ≤ 100 ∧ numsOk (rowTxt [.rng p (digitsF 5 a) (digitsF 5 b) q]) = true ∧ numsOk (notTxt [.rng p (digitsF 5 a) (digitsF 5 b) q]) = true ∧
    holdsL (rowTxt [.rng p (digitsF 5 a) (digitsF 5 b) q]) x = ((if p = 91 then decide ((a : Int) ≤ x) else decide ((a : Int) < x)) && (if q = 93 then decide ((x : Int) ≤ b) else decide ((x : Int) < b))) ∧
    holdsL (notTxt [.rng p (digitsF 5 a) (digitsF 5 b) q]) x = !((if p = 91 then decide ((a : Int) ≤ x) else decide ((a : Int) < x)) && (if q = 93 then decide ((x : Int) ≤ b) else decide ((x : Int) < b))) := by
  obtain ⟨a1, a2, a3, a4⟩ := dig_at ha
  obtain ⟨b1, b2, b3, b4⟩ := dig_at hb
  have hl : (rowTxt [.rng p (digitsF 5 a) (digitsF 5 b) q]).length ≤ 100 := by
    unfold rowTxt It.txt
    simp
    omega
  have hg : ∀ i, i ∈ [It.rng p (digitsF 5 a) (digitsF 5 b) q] → i.good := fun i hi => by
    obtain rfl : i = .rng p (digitsF 5 a) (digitsF 5 b) q := by simpa using hi
    exact ⟨⟨hp, hq⟩, dig_ok ha, dig_ok hb⟩
  obtain ⟨h1, h2, h3, h4⟩ := row_holds hg (by simp) (by simp) (by omega) (x : Int)
  have hw : [It.rng p (digitsF 5 a) (digitsF 5 b) q].any (wantI x) = ((if p = 91 then decide ((a : Int) ≤ x) else decide ((a : Int) < x)) && (if q = 93 then decide ((x : Int) ≤ b) else decide ((x : Int) < b))) := by
    simp only [List.any_cons, List.any_nil, Bool.or_false, wantI]
    rw [a1, b1]
  rw [hw] at h3 h4
  exact ⟨hl, h1, h2, h3, h4⟩
theorem rng_txt (p q : UInt8) (d e : List UInt8) : p :: (((d ++ [46, 46]) ++ e) ++ [q]) = rowTxt [.rng p d e q] := by unfold rowTxt It.txt; simp
theorem le_split (a x : Nat) : decide ((a : Int) ≤ x) = (decide ((a : Int) < x) || decide ((x : Int) = a)) := by rw [Bool.eq_iff_iff]; simp; omega
theorem le_split2 (x b : Nat) : decide ((x : Int) ≤ b) = (decide ((x : Int) < b) || decide ((x : Int) = b)) := by rw [Bool.eq_iff_iff]; simp; omega
theorem ok_lrng : fnOk Tryz.prog 5 T0 5 = true := by kernel_rfl
set_option maxRecDepth 100000 in
set_option maxHeartbeats 8000000 in
theorem cellRanges_walk0 (a b x : Nat) (ha : a < 100) (hb : b < 100) (hx : x < 100) (lo hi : Bool) (G : Heap) : VPure Tryz.prog 5 [.int .i64 a, .int .i64 b, .bool lo, .bool hi, .int .i64 x] G (.bool true) := by
  refine VCalls.of (okLS5) mixed T0 ok_lrng fun hG => ?_
  have a0 : ¬(a : Int) < 0 := by omega
  have a9 : ¬99 < (a : Int) := by omega
  have b0 : ¬(b : Int) < 0 := by omega
  have b9 : ¬99 < (b : Int) := by omega
  have x0 : ¬(x : Int) < 0 := by omega
  have x9 : ¬99 < (x : Int) := by omega
  have d1 : (0 ≤ (a : Int) ∧ (a : Int) < 1000000) ∧ (a : Int).toNat < 10 ^ 5 := by simp; omega
  have d2 : (0 ≤ (b : Int) ∧ (b : Int) < 1000000) ∧ (b : Int).toNat < 10 ^ 5 := by simp; omega
  have xi : In9 (x : Int) := by unfold In9; omega
  have la := (dig_at ha).2.2.2
  have lb := (dig_at hb).2.2.2
  cases lo <;> cases hi
  · obtain ⟨hl, n1, n2, h1, h2⟩ := rng_holds (x := x) ha hb (p := 40) (q := 41) (by decide) (by decide)
    have r1 := rng_txt 40 41 (digitsF 5 a) (digitsF 5 b)
    have r2 := not_txt [.rng 40 (digitsF 5 a) (digitsF 5 b) 41]
    rw [if_neg (by decide), if_neg (by decide)] at h1 h2
    rcases Classical.propComplete ((a : Int) < x) with F1 | F1 <;> rcases Classical.propComplete ((x : Int) = a) with F2 | F2 <;> rcases Classical.propComplete ((x : Int) < b) with F3 | F3 <;> rcases Classical.propComplete ((x : Int) = b) with F4 | F4
    all_goals first
      | (exfalso; simp only [eq_iff_iff, iff_true, iff_false] at F1 F2 F3 F4; omega)
      | (simp (maxSteps:=999999) -dsimp -implicitDefEqProofs only [↓eqD,eqU,eqV,eqW,vbuiltinQ,vlen,vslice,vindex,vstore,Array.toList,simprocAttr,fnWp_some Tryz.func5,Tryz.f5,T0,FB,FC,none_at,LS5_at,add_at,gHolds,gDig,gKnown,a0,a9,b0,b9,x0,x9,d1,d2,xi,F1,F2,F3,F4,Int.toNat_natCast,r1,r2,n1,n2,h1,h2,Bool.true_and,Bool.false_and,Bool.or_false,Bool.false_or,Bool.true_or,Bool.or_true,Bool.and_true,Bool.and_false,decide_true,decide_false,Bool.not_true,Bool.not_false,List.length_append,List.length_cons,List.length_nil]; (repeat ((with_reducible (refine And.intro ?_ ?_)); (focus (first | omega | exact ⟨by omega, by omega⟩)))); (repeat ((with_reducible (refine And.intro ?_ ?_)); (focus (first | omega | exact ⟨by omega, by omega⟩)))); (refine VDone.back hG ?_ rfl ?_); (intro j hj; first | rfl | simp (maxSteps:=999999) -dsimp -implicitDefEqProofs only [↓eqD,eqU,eqV,eqW,vbuiltinQ,vlen,vslice,vindex,vstore,Array.toList,simprocAttr,lt6 hj]); (first | rfl | simp []))
  · obtain ⟨hl, n1, n2, h1, h2⟩ := rng_holds (x := x) ha hb (p := 40) (q := 93) (by decide) (by decide)
    have r1 := rng_txt 40 93 (digitsF 5 a) (digitsF 5 b)
    have r2 := not_txt [.rng 40 (digitsF 5 a) (digitsF 5 b) 93]
    rw [if_neg (by decide), if_pos rfl, le_split2 x b] at h1 h2
    rcases Classical.propComplete ((a : Int) < x) with F1 | F1 <;> rcases Classical.propComplete ((x : Int) = a) with F2 | F2 <;> rcases Classical.propComplete ((x : Int) < b) with F3 | F3 <;> rcases Classical.propComplete ((x : Int) = b) with F4 | F4
    all_goals first
      | (exfalso; simp only [eq_iff_iff, iff_true, iff_false] at F1 F2 F3 F4; omega)
      | (simp (maxSteps:=999999) -dsimp -implicitDefEqProofs only [↓eqD,eqU,eqV,eqW,vbuiltinQ,vlen,vslice,vindex,vstore,Array.toList,simprocAttr,fnWp_some Tryz.func5,Tryz.f5,T0,FB,FC,none_at,LS5_at,add_at,gHolds,gDig,gKnown,a0,a9,b0,b9,x0,x9,d1,d2,xi,F1,F2,F3,F4,Int.toNat_natCast,r1,r2,n1,n2,h1,h2,Bool.true_and,Bool.false_and,Bool.or_false,Bool.false_or,Bool.true_or,Bool.or_true,Bool.and_true,Bool.and_false,decide_true,decide_false,Bool.not_true,Bool.not_false,List.length_append,List.length_cons,List.length_nil]; (repeat ((with_reducible (refine And.intro ?_ ?_)); (focus (first | omega | exact ⟨by omega, by omega⟩)))); (repeat ((with_reducible (refine And.intro ?_ ?_)); (focus (first | omega | exact ⟨by omega, by omega⟩)))); (refine VDone.back hG ?_ rfl ?_); (intro j hj; first | rfl | simp (maxSteps:=999999) -dsimp -implicitDefEqProofs only [↓eqD,eqU,eqV,eqW,vbuiltinQ,vlen,vslice,vindex,vstore,Array.toList,simprocAttr,lt6 hj]); (first | rfl | simp []))
  · obtain ⟨hl, n1, n2, h1, h2⟩ := rng_holds (x := x) ha hb (p := 91) (q := 41) (by decide) (by decide)
    have r1 := rng_txt 91 41 (digitsF 5 a) (digitsF 5 b)
    have r2 := not_txt [.rng 91 (digitsF 5 a) (digitsF 5 b) 41]
    rw [if_pos rfl, if_neg (by decide), le_split a x] at h1 h2
    rcases Classical.propComplete ((a : Int) < x) with F1 | F1 <;> rcases Classical.propComplete ((x : Int) = a) with F2 | F2 <;> rcases Classical.propComplete ((x : Int) < b) with F3 | F3 <;> rcases Classical.propComplete ((x : Int) = b) with F4 | F4
    all_goals first
      | (exfalso; simp only [eq_iff_iff, iff_true, iff_false] at F1 F2 F3 F4; omega)
      | (simp (maxSteps:=999999) -dsimp -implicitDefEqProofs only [↓eqD,eqU,eqV,eqW,vbuiltinQ,vlen,vslice,vindex,vstore,Array.toList,simprocAttr,fnWp_some Tryz.func5,Tryz.f5,T0,FB,FC,none_at,LS5_at,add_at,gHolds,gDig,gKnown,a0,a9,b0,b9,x0,x9,d1,d2,xi,F1,F2,F3,F4,Int.toNat_natCast,r1,r2,n1,n2,h1,h2,Bool.true_and,Bool.false_and,Bool.or_false,Bool.false_or,Bool.true_or,Bool.or_true,Bool.and_true,Bool.and_false,decide_true,decide_false,Bool.not_true,Bool.not_false,List.length_append,List.length_cons,List.length_nil]; (repeat ((with_reducible (refine And.intro ?_ ?_)); (focus (first | omega | exact ⟨by omega, by omega⟩)))); (repeat ((with_reducible (refine And.intro ?_ ?_)); (focus (first | omega | exact ⟨by omega, by omega⟩)))); (refine VDone.back hG ?_ rfl ?_); (intro j hj; first | rfl | simp (maxSteps:=999999) -dsimp -implicitDefEqProofs only [↓eqD,eqU,eqV,eqW,vbuiltinQ,vlen,vslice,vindex,vstore,Array.toList,simprocAttr,lt6 hj]); (first | rfl | simp []))
  · obtain ⟨hl, n1, n2, h1, h2⟩ := rng_holds (x := x) ha hb (p := 91) (q := 93) (by decide) (by decide)
    have r1 := rng_txt 91 93 (digitsF 5 a) (digitsF 5 b)
    have r2 := not_txt [.rng 91 (digitsF 5 a) (digitsF 5 b) 93]
    rw [if_pos rfl, if_pos rfl, le_split a x, le_split2 x b] at h1 h2
    rcases Classical.propComplete ((a : Int) < x) with F1 | F1 <;> rcases Classical.propComplete ((x : Int) = a) with F2 | F2 <;> rcases Classical.propComplete ((x : Int) < b) with F3 | F3 <;> rcases Classical.propComplete ((x : Int) = b) with F4 | F4
    all_goals first
      | (exfalso; simp only [eq_iff_iff, iff_true, iff_false] at F1 F2 F3 F4; omega)
      | (simp (maxSteps:=999999) -dsimp -implicitDefEqProofs only [↓eqD,eqU,eqV,eqW,vbuiltinQ,vlen,vslice,vindex,vstore,Array.toList,simprocAttr,fnWp_some Tryz.func5,Tryz.f5,T0,FB,FC,none_at,LS5_at,add_at,gHolds,gDig,gKnown,a0,a9,b0,b9,x0,x9,d1,d2,xi,F1,F2,F3,F4,Int.toNat_natCast,r1,r2,n1,n2,h1,h2,Bool.true_and,Bool.false_and,Bool.or_false,Bool.false_or,Bool.true_or,Bool.or_true,Bool.and_true,Bool.and_false,decide_true,decide_false,Bool.not_true,Bool.not_false,List.length_append,List.length_cons,List.length_nil]; (repeat ((with_reducible (refine And.intro ?_ ?_)); (focus (first | omega | exact ⟨by omega, by omega⟩)))); (repeat ((with_reducible (refine And.intro ?_ ?_)); (focus (first | omega | exact ⟨by omega, by omega⟩)))); (refine VDone.back hG ?_ rfl ?_); (intro j hj; first | rfl | simp (maxSteps:=999999) -dsimp -implicitDefEqProofs only [↓eqD,eqU,eqV,eqW,vbuiltinQ,vlen,vslice,vindex,vstore,Array.toList,simprocAttr,lt6 hj]); (first | rfl | simp []))
set_option maxRecDepth 100000 in
theorem cellRanges_walk (a b : Int) (lo hi : Bool) (x : Int) (G : Heap) : VPure Tryz.prog 5 [.int .i64 a, .int .i64 b, .bool lo, .bool hi, .int .i64 x] G (.bool true) := by
  by_cases h : 0 ≤ a ∧ a ≤ 99 ∧ 0 ≤ b ∧ b ≤ 99 ∧ 0 ≤ x ∧ x ≤ 99
  · obtain ⟨a1, a2, b1, b2, x1, x2⟩ := h
    obtain ⟨a, rfl⟩ := Int.eq_ofNat_of_zero_le a1
    obtain ⟨b, rfl⟩ := Int.eq_ofNat_of_zero_le b1
    obtain ⟨x, rfl⟩ := Int.eq_ofNat_of_zero_le x1
    exact cellRanges_walk0 a b x (by omega) (by omega) (by omega) lo hi G
  refine VCalls.of (okLS5) mixed T0 ok_lrng fun hG => ?_
  by_cases a0 : a < 0
  · simp (maxSteps:=999999) -dsimp -implicitDefEqProofs only [↓eqD,eqU,eqV,eqW,vbuiltinQ,vlen,vslice,vindex,vstore,Array.toList,simprocAttr,fnWp_some Tryz.func5,Tryz.f5,T0,FB,FC,none_at,LS5_at,add_at,a0]; (repeat ((with_reducible (refine And.intro ?_ ?_)); (focus (first | omega | exact ⟨by omega, by omega⟩))))
    (repeat ((with_reducible (refine And.intro ?_ ?_)); (focus (first | omega | exact ⟨by omega, by omega⟩)))); (refine VDone.back hG ?_ rfl ?_); (intro j hj; first | rfl | simp (maxSteps:=999999) -dsimp -implicitDefEqProofs only [↓eqD,eqU,eqV,eqW,vbuiltinQ,vlen,vslice,vindex,vstore,Array.toList,simprocAttr,lt6 hj]); (first | rfl | simp [])
  by_cases a9 : 99 < a
  · simp (maxSteps:=999999) -dsimp -implicitDefEqProofs only [↓eqD,eqU,eqV,eqW,vbuiltinQ,vlen,vslice,vindex,vstore,Array.toList,simprocAttr,fnWp_some Tryz.func5,Tryz.f5,T0,FB,FC,none_at,LS5_at,add_at,a0,a9]; (repeat ((with_reducible (refine And.intro ?_ ?_)); (focus (first | omega | exact ⟨by omega, by omega⟩))))
    (repeat ((with_reducible (refine And.intro ?_ ?_)); (focus (first | omega | exact ⟨by omega, by omega⟩)))); (refine VDone.back hG ?_ rfl ?_); (intro j hj; first | rfl | simp (maxSteps:=999999) -dsimp -implicitDefEqProofs only [↓eqD,eqU,eqV,eqW,vbuiltinQ,vlen,vslice,vindex,vstore,Array.toList,simprocAttr,lt6 hj]); (first | rfl | simp [])
  by_cases b0 : b < 0
  · simp (maxSteps:=999999) -dsimp -implicitDefEqProofs only [↓eqD,eqU,eqV,eqW,vbuiltinQ,vlen,vslice,vindex,vstore,Array.toList,simprocAttr,fnWp_some Tryz.func5,Tryz.f5,T0,FB,FC,none_at,LS5_at,add_at,a0,a9,b0]; (repeat ((with_reducible (refine And.intro ?_ ?_)); (focus (first | omega | exact ⟨by omega, by omega⟩))))
    (repeat ((with_reducible (refine And.intro ?_ ?_)); (focus (first | omega | exact ⟨by omega, by omega⟩)))); (refine VDone.back hG ?_ rfl ?_); (intro j hj; first | rfl | simp (maxSteps:=999999) -dsimp -implicitDefEqProofs only [↓eqD,eqU,eqV,eqW,vbuiltinQ,vlen,vslice,vindex,vstore,Array.toList,simprocAttr,lt6 hj]); (first | rfl | simp [])
  by_cases b9 : 99 < b
  · simp (maxSteps:=999999) -dsimp -implicitDefEqProofs only [↓eqD,eqU,eqV,eqW,vbuiltinQ,vlen,vslice,vindex,vstore,Array.toList,simprocAttr,fnWp_some Tryz.func5,Tryz.f5,T0,FB,FC,none_at,LS5_at,add_at,a0,a9,b0,b9]; (repeat ((with_reducible (refine And.intro ?_ ?_)); (focus (first | omega | exact ⟨by omega, by omega⟩))))
    (repeat ((with_reducible (refine And.intro ?_ ?_)); (focus (first | omega | exact ⟨by omega, by omega⟩)))); (refine VDone.back hG ?_ rfl ?_); (intro j hj; first | rfl | simp (maxSteps:=999999) -dsimp -implicitDefEqProofs only [↓eqD,eqU,eqV,eqW,vbuiltinQ,vlen,vslice,vindex,vstore,Array.toList,simprocAttr,lt6 hj]); (first | rfl | simp [])
  by_cases x0 : x < 0
  · simp (maxSteps:=999999) -dsimp -implicitDefEqProofs only [↓eqD,eqU,eqV,eqW,vbuiltinQ,vlen,vslice,vindex,vstore,Array.toList,simprocAttr,fnWp_some Tryz.func5,Tryz.f5,T0,FB,FC,none_at,LS5_at,add_at,a0,a9,b0,b9,x0]; (repeat ((with_reducible (refine And.intro ?_ ?_)); (focus (first | omega | exact ⟨by omega, by omega⟩))))
    (repeat ((with_reducible (refine And.intro ?_ ?_)); (focus (first | omega | exact ⟨by omega, by omega⟩)))); (refine VDone.back hG ?_ rfl ?_); (intro j hj; first | rfl | simp (maxSteps:=999999) -dsimp -implicitDefEqProofs only [↓eqD,eqU,eqV,eqW,vbuiltinQ,vlen,vslice,vindex,vstore,Array.toList,simprocAttr,lt6 hj]); (first | rfl | simp [])
  have x9 : 99 < x := by omega
  simp (maxSteps:=999999) -dsimp -implicitDefEqProofs only [↓eqD,eqU,eqV,eqW,vbuiltinQ,vlen,vslice,vindex,vstore,Array.toList,simprocAttr,fnWp_some Tryz.func5,Tryz.f5,T0,FB,FC,none_at,LS5_at,add_at,a0,a9,b0,b9,x0,x9]; (repeat ((with_reducible (refine And.intro ?_ ?_)); (focus (first | omega | exact ⟨by omega, by omega⟩))))
  (repeat ((with_reducible (refine And.intro ?_ ?_)); (focus (first | omega | exact ⟨by omega, by omega⟩)))); (refine VDone.back hG ?_ rfl ?_); (intro j hj; first | rfl | simp (maxSteps:=999999) -dsimp -implicitDefEqProofs only [↓eqD,eqU,eqV,eqW,vbuiltinQ,vlen,vslice,vindex,vstore,Array.toList,simprocAttr,lt6 hj]); (first | rfl | simp [])
end Go.Vf
