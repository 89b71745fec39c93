/- A part of the proof: Ss. -/
import Derived.Test.YtkcdhmplinjldaaGreatDoorBASr
set_option linter.unusedVariables false
set_option linter.unusedSimpArgs false
namespace Go.Vf
open Go.Proofs Go.RowKit
theorem ok_nanI : fnOk Tryz.prog 145 T0 1 = true := by kernel_rfl
set_option maxRecDepth 100000 in
theorem nanI_walk (a : Int) (G : Heap) : VPure Tryz.prog 145 [.int .i64 a] G (.bool false) := by
  refine VCalls.of (SOk.none _) mixed T0 ok_nanI fun hG => ?_
  simp (maxSteps:=999999) -dsimp -implicitDefEqProofs only [↓eqD,eqU,eqV,eqW,vbuiltinQ,vlen,vslice,vindex,vstore,Array.toList,simprocAttr,fnWp_some Tryz.func145,Tryz.f145,T0,FB,FC,none_at,ne_eq,not_true_eq_false]; (repeat ((with_reducible (refine And.intro ?_ ?_)); (focus (first | omega | exact ⟨by omega, by omega⟩))))
  (repeat ((with_reducible (refine And.intro ?_ ?_)); (focus (first | omega | exact ⟨by omega, by omega⟩)))); (refine VDone.back hG ?_ rfl ?_); (intro j hj; first | rfl | simp (maxSteps:=999999) -dsimp -implicitDefEqProofs only [↓eqD,eqU,eqV,eqW,vbuiltinQ,vlen,vslice,vindex,vstore,Array.toList,simprocAttr,lt6 hj]); (first | rfl | simp [])
theorem ok_nanS : fnOk Tryz.prog 147 T0 1 = true := by kernel_rfl
set_option maxRecDepth 100000 in
theorem nanS_walk (a : List UInt8) (G : Heap) : VPure Tryz.prog 147 [.str a] G (.bool false) := by
  refine VCalls.of (SOk.none _) mixed T0 ok_nanS fun hG => ?_
  simp (maxSteps:=999999) -dsimp -implicitDefEqProofs only [↓eqD,eqU,eqV,eqW,vbuiltinQ,vlen,vslice,vindex,vstore,Array.toList,simprocAttr,fnWp_some Tryz.func147,Tryz.f147,T0,FB,FC,none_at,ne_eq,not_true_eq_false]; (repeat ((with_reducible (refine And.intro ?_ ?_)); (focus (first | omega | exact ⟨by omega, by omega⟩))))
  (repeat ((with_reducible (refine And.intro ?_ ?_)); (focus (first | omega | exact ⟨by omega, by omega⟩)))); (refine VDone.back hG ?_ rfl ?_); (intro j hj; first | rfl | simp (maxSteps:=999999) -dsimp -implicitDefEqProofs only [↓eqD,eqU,eqV,eqW,vbuiltinQ,vlen,vslice,vindex,vstore,Array.toList,simprocAttr,lt6 hj]); (first | rfl | simp [])
def gNan : List V → Option (Prop × V)
  | [.int .i64 _] => some (True, .bool false)
  | _ => none
def gNanS : List V → Option (Prop × V)
  | [.str _] => some (True, .bool false)
  | _ => none
def ZS1 : Specs := (Specs.none.add 145 gNan).add 147 gNanS
theorem ZS1_at (f : FuncId) (xs : List V) (G : Heap) : ZS1 f xs G = ((Specs.none.add 145 gNan).add 147 gNanS) f xs G := rfl
theorem okZS1 : SOk Tryz.prog ZS1 := by
  refine ((SOk.none _).add ?_).add ?_
  · intro xs G p v e hp
    unfold gNan at e
    split at e
    · cases e; exact nanI_walk _ G
    · cases e
  · intro xs G p v e hp
    unfold gNanS at e
    split at e
    · cases e; exact nanS_walk _ G
    · cases e
theorem ok_cmpI : fnOk Tryz.prog 110 T0 2 = true := by kernel_rfl
set_option maxRecDepth 100000 in
theorem cmpI_walk (a b : Int) (G : Heap) : VPure Tryz.prog 110 [.int .i64 a, .int .i64 b] G (.int .i64 (ordI a b)) := by
  refine VCalls.of (okZS1) mixed T0 ok_cmpI fun hG => ?_
  unfold ordI
  by_cases h : a < b
  · simp (maxSteps:=999999) -dsimp -implicitDefEqProofs only [↓eqD,eqU,eqV,eqW,vbuiltinQ,vlen,vslice,vindex,vstore,Array.toList,simprocAttr,fnWp_some Tryz.func110,Tryz.f110,T0,FB,FC,none_at,ZS1_at,add_at,gNan,gNanS,h]; (repeat ((with_reducible (refine And.intro ?_ ?_)); (focus (first | omega | exact ⟨by omega, by omega⟩))))
    (repeat ((with_reducible (refine And.intro ?_ ?_)); (focus (first | omega | exact ⟨by omega, by omega⟩)))); (refine VDone.back hG ?_ rfl ?_); (intro j hj; first | rfl | simp (maxSteps:=999999) -dsimp -implicitDefEqProofs only [↓eqD,eqU,eqV,eqW,vbuiltinQ,vlen,vslice,vindex,vstore,Array.toList,simprocAttr,lt6 hj]); (first | rfl | simp [h])
  · by_cases h2 : b < a
    · simp (maxSteps:=999999) -dsimp -implicitDefEqProofs only [↓eqD,eqU,eqV,eqW,vbuiltinQ,vlen,vslice,vindex,vstore,Array.toList,simprocAttr,fnWp_some Tryz.func110,Tryz.f110,T0,FB,FC,none_at,ZS1_at,add_at,gNan,gNanS,h,h2]; (repeat ((with_reducible (refine And.intro ?_ ?_)); (focus (first | omega | exact ⟨by omega, by omega⟩))))
      (repeat ((with_reducible (refine And.intro ?_ ?_)); (focus (first | omega | exact ⟨by omega, by omega⟩)))); (refine VDone.back hG ?_ rfl ?_); (intro j hj; first | rfl | simp (maxSteps:=999999) -dsimp -implicitDefEqProofs only [↓eqD,eqU,eqV,eqW,vbuiltinQ,vlen,vslice,vindex,vstore,Array.toList,simprocAttr,lt6 hj]); (first | rfl | simp [h, h2])
    · simp (maxSteps:=999999) -dsimp -implicitDefEqProofs only [↓eqD,eqU,eqV,eqW,vbuiltinQ,vlen,vslice,vindex,vstore,Array.toList,simprocAttr,fnWp_some Tryz.func110,Tryz.f110,T0,FB,FC,none_at,ZS1_at,add_at,gNan,gNanS,h,h2]; (repeat ((with_reducible (refine And.intro ?_ ?_)); (focus (first | omega | exact ⟨by omega, by omega⟩))))
      (repeat ((with_reducible (refine And.intro ?_ ?_)); (focus (first | omega | exact ⟨by omega, by omega⟩)))); (refine VDone.back hG ?_ rfl ?_); (intro j hj; first | rfl | simp (maxSteps:=999999) -dsimp -implicitDefEqProofs only [↓eqD,eqU,eqV,eqW,vbuiltinQ,vlen,vslice,vindex,vstore,Array.toList,simprocAttr,lt6 hj]); (first | rfl | simp [h, h2])
theorem ok_cmpS : fnOk Tryz.prog 113 T0 2 = true := by kernel_rfl
set_option maxRecDepth 100000 in
theorem cmpS_walk (a b : List UInt8) (G : Heap) : VPure Tryz.prog 113 [.str a, .str b] G (.int .i64 (strCmp a b)) := by
  refine VCalls.of (okZS1) mixed T0 ok_cmpS fun hG => ?_
  unfold strCmp
  cases h : strLess a b with
  | true =>
    simp (maxSteps:=999999) -dsimp -implicitDefEqProofs only [↓eqD,eqU,eqV,eqW,vbuiltinQ,vlen,vslice,vindex,vstore,Array.toList,simprocAttr,fnWp_some Tryz.func113,Tryz.f113,T0,FB,FC,none_at,ZS1_at,add_at,gNan,gNanS,h]; (repeat ((with_reducible (refine And.intro ?_ ?_)); (focus (first | omega | exact ⟨by omega, by omega⟩))))
    (repeat ((with_reducible (refine And.intro ?_ ?_)); (focus (first | omega | exact ⟨by omega, by omega⟩)))); (refine VDone.back hG ?_ rfl ?_); (intro j hj; first | rfl | simp (maxSteps:=999999) -dsimp -implicitDefEqProofs only [↓eqD,eqU,eqV,eqW,vbuiltinQ,vlen,vslice,vindex,vstore,Array.toList,simprocAttr,lt6 hj]); (first | rfl | simp [h])
  | false =>
    by_cases h2 : a = b
    · subst h2
      simp (maxSteps:=999999) -dsimp -implicitDefEqProofs only [↓eqD,eqU,eqV,eqW,vbuiltinQ,vlen,vslice,vindex,vstore,Array.toList,simprocAttr,fnWp_some Tryz.func113,Tryz.f113,T0,FB,FC,none_at,ZS1_at,add_at,gNan,gNanS,h]; (repeat ((with_reducible (refine And.intro ?_ ?_)); (focus (first | omega | exact ⟨by omega, by omega⟩))))
      (repeat ((with_reducible (refine And.intro ?_ ?_)); (focus (first | omega | exact ⟨by omega, by omega⟩)))); (refine VDone.back hG ?_ rfl ?_); (intro j hj; first | rfl | simp (maxSteps:=999999) -dsimp -implicitDefEqProofs only [↓eqD,eqU,eqV,eqW,vbuiltinQ,vlen,vslice,vindex,vstore,Array.toList,simprocAttr,lt6 hj]); (first | rfl | simp [h])
    · simp (maxSteps:=999999) -dsimp -implicitDefEqProofs only [↓eqD,eqU,eqV,eqW,vbuiltinQ,vlen,vslice,vindex,vstore,Array.toList,simprocAttr,fnWp_some Tryz.func113,Tryz.f113,T0,FB,FC,none_at,ZS1_at,add_at,gNan,gNanS,h,h2]; (repeat ((with_reducible (refine And.intro ?_ ?_)); (focus (first | omega | exact ⟨by omega, by omega⟩))))
      (repeat ((with_reducible (refine And.intro ?_ ?_)); (focus (first | omega | exact ⟨by omega, by omega⟩)))); (refine VDone.back hG ?_ rfl ?_); (intro j hj; first | rfl | simp (maxSteps:=999999) -dsimp -implicitDefEqProofs only [↓eqD,eqU,eqV,eqW,vbuiltinQ,vlen,vslice,vindex,vstore,Array.toList,simprocAttr,lt6 hj]); (first | rfl | simp [h, h2])
def ZS2 : Specs := Specs.none.add 179 g109
theorem ZS2_at (f : FuncId) (xs : List V) (G : Heap) : ZS2 f xs G = (Specs.none.add 179 g109) f xs G := rfl
theorem okZS2 : SOk Tryz.prog ZS2 := ok109 (SOk.none _)
theorem sc_in {m s q : Int} (h : InD m s) (h1 : s ≤ q) (h2 : q ≤ 4) : -10000000000000 ≤ m * 10 ^ (q - s).toNat ∧ m * 10 ^ (q - s).toNat ≤ 10000000000000 ∧ (1 : Int) ≤ 10 ^ (q - s).toNat ∧ (10 : Int) ^ (q - s).toNat ≤ 10000 := by
  obtain ⟨⟨h3, h4⟩, h5, h6⟩ := h
  have h7 : (q - s).toNat ≤ 4 := by omega
  generalize (q - s).toNat = n at h7
  have : n = 0 ∨ n = 1 ∨ n = 2 ∨ n = 3 ∨ n = 4 := by omega
  rcases this with rfl | rfl | rfl | rfl | rfl <;> simp <;> omega
def T_dscaled : Tab := ⟨fun id => if id = 1 then ([0, 1, 2, 3, 4, 5, 6, 7, 8], [(1, 6)]) else ([], []), fun _ => false⟩
theorem T_dscaled_ord (id : Nat) : T_dscaled.ord id = if id = 1 then ([0, 1, 2, 3, 4, 5, 6, 7, 8], [(1, 6)]) else ([], []) := rfl
theorem T_dscaled_ghost (id : Nat) : T_dscaled.ghost id = false := rfl
theorem ok_dscaled : fnOk Tryz.prog 146 T_dscaled 2 = true := by kernel_rfl
set_option maxRecDepth 100000 in
theorem scaled_walk {m s q : Int} (h : InD m s) (h1 : s ≤ q) (h2 : q ≤ 4) (G : Heap) : VPure Tryz.prog 146 [.agg [.int .i64 m, .int .i64 s], .int .i64 q] G (.int .i64 (m * 10 ^ (q - s).toNat)) := by
  refine VCalls.of (okZS2) mixed T_dscaled ok_dscaled fun hG => ?_
  have hs := sc_in h h1 h2
  obtain ⟨⟨h3, h4⟩, h5, h6⟩ := h
  have w1 : IntKind.wrap .i64 (q - s) = q - s := w64 (by omega) (by omega)
  have c1 : 0 ≤ q - s ∧ q - s ≤ 18 := by omega
  have w2 : IntKind.wrap .i64 (m * 10 ^ (q - s).toNat) = m * 10 ^ (q - s).toNat := w64 (by omega) (by omega)
  simp (maxSteps:=999999) -dsimp -implicitDefEqProofs only [↓eqD,eqU,eqV,eqW,vbuiltinQ,vlen,vslice,vindex,vstore,Array.toList,simprocAttr,fnWp_some Tryz.func146,Tryz.f146,T_dscaled_ord,T_dscaled_ghost,FB,FC,none_at,ZS2_at,add_at,g109,f23_0,f23_1,p23_0,p23_1,st23,ag23,z23,c23,i23,w1,w2,c1]; (repeat ((with_reducible (refine And.intro ?_ ?_)); (focus (first | omega | exact ⟨by omega, by omega⟩))))
  (repeat ((with_reducible (refine And.intro ?_ ?_)); (focus (first | omega | exact ⟨by omega, by omega⟩)))); (refine VDone.back hG ?_ rfl ?_); (intro j hj; first | rfl | simp (maxSteps:=999999) -dsimp -implicitDefEqProofs only [↓eqD,eqU,eqV,eqW,vbuiltinQ,vlen,vslice,vindex,vstore,Array.toList,simprocAttr,lt6 hj]); (first | rfl | simp [])
def gScaled : List V → Option (Prop × V)
  | [.agg [.int .i64 m, .int .i64 s], .int .i64 q] => some (InD m s ∧ s ≤ q ∧ q ≤ 4, .int .i64 (m * 10 ^ (q - s).toNat))
  | _ => none
def gOrd : List V → Option (Prop × V)
  | [.int .i64 a, .int .i64 b] => some (True, .int .i64 (ordI a b))
  | _ => none
def ZS3 : Specs := (Specs.none.add 146 gScaled).add 110 gOrd
theorem ZS3_at (f : FuncId) (xs : List V) (G : Heap) : ZS3 f xs G = ((Specs.none.add 146 gScaled).add 110 gOrd) f xs G := rfl
theorem ok_scaled {P : Specs} (hP : SOk Tryz.prog P) : SOk Tryz.prog (P.add 146 gScaled) := hP.add fun xs G p v e hp => by
  unfold gScaled at e
  split at e
  · cases e; exact scaled_walk hp.1 hp.2.1 hp.2.2 G
  · cases e
theorem ok_ord {P : Specs} (hP : SOk Tryz.prog P) : SOk Tryz.prog (P.add 110 gOrd) := hP.add fun xs G p v e hp => by
  unfold gOrd at e
  split at e
  · cases e; exact cmpI_walk _ _ G
  · cases e
theorem okZS3 : SOk Tryz.prog ZS3 := ok_ord (ok_scaled (SOk.none _))
def T_dcmp : Tab := ⟨fun id => if id = 1 then ([0, 2, 1, 3, 4, 5], [(2, 1)]) else ([], []), fun _ => false⟩
theorem T_dcmp_ord (id : Nat) : T_dcmp.ord id = if id = 1 then ([0, 2, 1, 3, 4, 5], [(2, 1)]) else ([], []) := rfl
theorem T_dcmp_ghost (id : Nat) : T_dcmp.ghost id = false := rfl
theorem ok_dcmp : fnOk Tryz.prog 112 T_dcmp 2 = true := by kernel_rfl
set_option maxRecDepth 100000 in
theorem dcmp_walk {m s m' s' : Int} (h : InD m s) (h' : InD m' s') (G : Heap) : VPure Tryz.prog 112 [.agg [.int .i64 m, .int .i64 s], .agg [.int .i64 m', .int .i64 s']] G (.int .i64 (decCmp m s m' s')) := by
  refine VCalls.of (okZS3) mixed T_dcmp ok_dcmp fun hG => ?_
  have c1 := h.2.2
  have c2 := h'.2.2
  unfold decCmp scal
  have c0 : (4 : Int) ≤ 4 := by decide
  simp (maxSteps:=999999) -dsimp -implicitDefEqProofs only [↓eqD,eqU,eqV,eqW,vbuiltinQ,vlen,vslice,vindex,vstore,Array.toList,simprocAttr,fnWp_some Tryz.func112,Tryz.f112,T_dcmp_ord,T_dcmp_ghost,FB,FC,none_at,ZS3_at,add_at,gScaled,gOrd,f23_0,f23_1,p23_0,p23_1,st23,ag23,z23,c23,i23,h,h',c1,c2,c0]; (repeat ((with_reducible (refine And.intro ?_ ?_)); (focus (first | omega | exact ⟨by omega, by omega⟩))))
  (repeat ((with_reducible (refine And.intro ?_ ?_)); (focus (first | omega | exact ⟨by omega, by omega⟩)))); (refine VDone.back hG ?_ rfl ?_); (intro j hj; first | rfl | simp (maxSteps:=999999) -dsimp -implicitDefEqProofs only [↓eqD,eqU,eqV,eqW,vbuiltinQ,vlen,vslice,vindex,vstore,Array.toList,simprocAttr,lt6 hj]); (first | rfl | simp [])
theorem ok_number : fnOk Tryz.prog 111 T0 1 = true := by kernel_rfl
set_option maxRecDepth 100000 in
theorem number_walk (b : Bool) (G : Heap) : VPure Tryz.prog 111 [.bool b] G (.int .i64 (numB b)) := by
  refine VCalls.of (SOk.none _) mixed T0 ok_number fun hG => ?_
  cases b with
  | true =>
    simp (maxSteps:=999999) -dsimp -implicitDefEqProofs only [↓eqD,eqU,eqV,eqW,vbuiltinQ,vlen,vslice,vindex,vstore,Array.toList,simprocAttr,fnWp_some Tryz.func111,Tryz.f111,T0,FB,FC,none_at]; (repeat ((with_reducible (refine And.intro ?_ ?_)); (focus (first | omega | exact ⟨by omega, by omega⟩))))
    (repeat ((with_reducible (refine And.intro ?_ ?_)); (focus (first | omega | exact ⟨by omega, by omega⟩)))); (refine VDone.back hG ?_ rfl ?_); (intro j hj; first | rfl | simp (maxSteps:=999999) -dsimp -implicitDefEqProofs only [↓eqD,eqU,eqV,eqW,vbuiltinQ,vlen,vslice,vindex,vstore,Array.toList,simprocAttr,lt6 hj]); (first | rfl | simp [])
  | false =>
    simp (maxSteps:=999999) -dsimp -implicitDefEqProofs only [↓eqD,eqU,eqV,eqW,vbuiltinQ,vlen,vslice,vindex,vstore,Array.toList,simprocAttr,fnWp_some Tryz.func111,Tryz.f111,T0,FB,FC,none_at]; (repeat ((with_reducible (refine And.intro ?_ ?_)); (focus (first | omega | exact ⟨by omega, by omega⟩))))
    (repeat ((with_reducible (refine And.intro ?_ ?_)); (focus (first | omega | exact ⟨by omega, by omega⟩)))); (refine VDone.back hG ?_ rfl ?_); (intro j hj; first | rfl | simp (maxSteps:=999999) -dsimp -implicitDefEqProofs only [↓eqD,eqU,eqV,eqW,vbuiltinQ,vlen,vslice,vindex,vstore,Array.toList,simprocAttr,lt6 hj]); (first | rfl | simp [])
theorem cmpL_at {l l' : List Vl} {i : Nat} (h : i < l.length) (h' : i < l'.length) : cmpL (l.drop i) (l'.drop i) = if cmpV l[i] l'[i] = 0 then cmpL (l.drop (i + 1)) (l'.drop (i + 1)) else cmpV l[i] l'[i] := by
  rw [List.drop_eq_getElem_cons h, List.drop_eq_getElem_cons h', cmpL]
theorem cmpL_out1 {l l' : List Vl} {i : Nat} (h : i < l.length) (h' : l'.length ≤ i) : cmpL (l.drop i) (l'.drop i) = 1 := by
  rw [List.drop_eq_getElem_cons h, List.drop_of_length_le h', cmpL]
theorem cmpL_out0 {l l' : List Vl} (h : l.length < l'.length) : cmpL (l.drop l.length) (l'.drop l.length) = -1 := by
  rw [List.drop_of_length_le (Nat.le_refl _), List.drop_eq_getElem_cons h, cmpL]
theorem cmpL_out {l l' : List Vl} (h : l'.length ≤ l.length) : cmpL (l.drop l.length) (l'.drop l.length) = 0 := by
  rw [List.drop_of_length_le (Nat.le_refl _), List.drop_of_length_le h, cmpL]
theorem ok_cmpf : fnOk Tryz.prog 114 T0 3 = true := by kernel_rfl
set_option maxRecDepth 100000 in
set_option maxHeartbeats 2000000 in
theorem cmpf_walk (l l' : List Vl) (hl : l.length ≤ 1000) (hk : ∀ (i : Nat) (h : i < l.length) (h' : i < l'.length) (G : Heap), VPure Tryz.prog 82 [.agg l[i].cells, .agg l'[i].cells] G (.int .i64 (cmpV l[i] l'[i]))) (G : Heap) :
    VPure Tryz.prog 114 [.sl 6 l.length (vlsC l), .sl 6 l'.length (vlsC l'), .func (.func 82) [] []] G (.int .i64 (cmpL l l')) := by
  refine VCalls.of (SOk.none _) mixed T0 ok_cmpf fun hG => ?_
  simp (maxSteps:=999999) -dsimp -implicitDefEqProofs only [↓eqD,eqU,eqV,eqW,vbuiltinQ,vlen,vslice,vindex,vstore,Array.toList,simprocAttr,fnWp_some Tryz.func114,Tryz.f114,T0,FB,FC,none_at]; (repeat ((with_reducible (refine And.intro ?_ ?_)); (focus (first | omega | exact ⟨by omega, by omega⟩))))
  refine vloop_by (fun x : Nat × Nat => x.1 ≤ l.length ∧ G.next ≤ x.2 ∧ cmpL l l' = cmpL (l.drop x.1) (l'.drop x.1)) (fun x => Env.of [(0, .sl 6 l.length (vlsC l)), (1, .sl 6 l'.length (vlsC l')), (2, .func (.func 82) [] []), (11, .sl 6 l.length (vlsC l)), (12, .int .i64 l.length), (13, .int .i64 x.1)]) (fun x => G.over x.2 []) (fun x => l.length - x.1) (0, G.next) ?_ ?_ ?_
  · refine .of ?_ (.over hG ?_ ?_ ?_)
    · simp (maxSteps:=999999) -dsimp -implicitDefEqProofs only [↓eqD,eqU,eqV,eqW,vbuiltinQ,vlen,vslice,vindex,vstore,Array.toList,simprocAttr]
      (repeat' apply And.intro) <;> exact .refl _
    · simp (maxSteps:=999999) -dsimp -implicitDefEqProofs only [↓eqD,eqU,eqV,eqW,vbuiltinQ,vlen,vslice,vindex,vstore,Array.toList,simprocAttr]
    · simp (maxSteps:=999999) -dsimp -implicitDefEqProofs only [↓eqD,eqU,eqV,eqW,vbuiltinQ,vlen,vslice,vindex,vstore,Array.toList,simprocAttr,FB,FC]
    · intro j hj
      have hj : j < G.next := hj
      simp (maxSteps:=999999) -dsimp -implicitDefEqProofs only [↓eqD,eqU,eqV,eqW,vbuiltinQ,vlen,vslice,vindex,vstore,Array.toList,simprocAttr,lt6 hj]
  · exact ⟨Nat.zero_le _, Nat.le_refl _, rfl⟩
  · rintro ⟨i, n⟩ ⟨hle, hn, hI⟩
    simp only at hle hn hI ⊢
    by_cases hlt : i < l.length
    case neg =>
      have k1 : ¬(i : Int) < (l.length : Int) := by omega
      have e : i = l.length := by omega
      subst e
      by_cases k2 : l.length < l'.length
      · have k3 : (l.length : Int) < (l'.length : Int) := by omega
        rw [hI, cmpL_out0 k2]
        simp (maxSteps:=999999) -dsimp -implicitDefEqProofs only [↓eqD,eqU,eqV,eqW,vbuiltinQ,vlen,vslice,vindex,vstore,Array.toList,simprocAttr,T0,FB,FC,none_at,k1,k3]; (repeat ((with_reducible (refine And.intro ?_ ?_)); (focus (first | omega | exact ⟨by omega, by omega⟩))))
        refine VDone.back hG ?_ rfl rfl
        intro j hj; simp (maxSteps:=999999) -dsimp -implicitDefEqProofs only [↓eqD,eqU,eqV,eqW,vbuiltinQ,vlen,vslice,vindex,vstore,Array.toList,simprocAttr,lt6 hj]
      · have k3 : ¬(l.length : Int) < (l'.length : Int) := by omega
        rw [hI, cmpL_out (by omega)]
        simp (maxSteps:=999999) -dsimp -implicitDefEqProofs only [↓eqD,eqU,eqV,eqW,vbuiltinQ,vlen,vslice,vindex,vstore,Array.toList,simprocAttr,T0,FB,FC,none_at,k1,k3]; (repeat ((with_reducible (refine And.intro ?_ ?_)); (focus (first | omega | exact ⟨by omega, by omega⟩))))
        refine VDone.back hG ?_ rfl rfl
        intro j hj; simp (maxSteps:=999999) -dsimp -implicitDefEqProofs only [↓eqD,eqU,eqV,eqW,vbuiltinQ,vlen,vslice,vindex,vstore,Array.toList,simprocAttr,lt6 hj]
    have hx := vls_at hlt
    have k1 : (i : Int) < (l.length : Int) := by omega
    have k2 : 0 ≤ (i : Int) := by omega
    have kw : IntKind.wrap .i64 ((i : Int) + 1) = ((i + 1 : Nat) : Int) := by rw [w64 (by omega) (by omega)]; rfl
    by_cases hlt' : i < l'.length
    case neg =>
      have k3 : (l'.length : Int) ≤ (i : Int) := by omega
      rw [hI, cmpL_out1 hlt (by omega)]
      generalize l[i] = e1 at *
      obtain ⟨k, b, m, s, t, q⟩ := e1
      have d1 := vlsC_closed q
      simp only [Vl.cells] at hx
      simp (maxSteps:=999999) -dsimp -implicitDefEqProofs only [↓eqD,eqU,eqV,eqW,vbuiltinQ,vlen,vslice,vindex,vstore,Array.toList,simprocAttr,T0,FB,FC,none_at,k1,k2,k3,hx,d1]; (repeat ((with_reducible (refine And.intro ?_ ?_)); (focus (first | omega | exact ⟨by omega, by omega⟩))))
      refine VDone.back hG ?_ rfl rfl
      intro j hj
      have hj2 : j < n := by omega
      simp (maxSteps:=999999) -dsimp -implicitDefEqProofs only [↓eqD,eqU,eqV,eqW,vbuiltinQ,vlen,vslice,vindex,vstore,Array.toList,simprocAttr,lt6 hj2]
    have hx' := vls_at hlt'
    have hs := cmpL_at hlt hlt'
    have k3 : ¬(l'.length : Int) ≤ (i : Int) := by omega
    have k4 : (i : Int) < (l'.length : Int) := by omega
    have w := hk i hlt hlt'
    rw [hI, hs]
    generalize l[i] = e1 at *
    generalize l'[i] = e2 at *
    generalize cmpV e1 e2 = r at *
    obtain ⟨k, b, m, s, t, q⟩ := e1
    obtain ⟨k', b', m', s', t', q'⟩ := e2
    have d1 := vlsC_closed q
    have d2 := vlsC_closed q'
    simp only [Vl.cells] at hx hx' w
    simp (maxSteps:=999999) -dsimp -implicitDefEqProofs only [↓eqD,eqU,eqV,eqW,vbuiltinQ,vlen,vslice,vindex,vstore,Array.toList,simprocAttr,T0,FB,FC,none_at,k1,k2,k3,k4,hx,hx',d1,d2]; (repeat ((with_reducible (refine And.intro ?_ ?_)); (focus (first | omega | exact ⟨by omega, by omega⟩))))
    refine VPure.calls (w _) ?_
    by_cases hr : r = 0
    · subst hr
      simp (maxSteps:=999999) -dsimp -implicitDefEqProofs only [↓eqD,eqU,eqV,eqW,vbuiltinQ,vlen,vslice,vindex,vstore,Array.toList,simprocAttr,T0,FB,FC,none_at,kw,ne_eq]; (repeat ((with_reducible (refine And.intro ?_ ?_)); (focus (first | omega | exact ⟨by omega, by omega⟩))))
      refine ⟨(i + 1, n + 1 + 1), ⟨by simp only; omega, by simp only; omega, rfl⟩, by simp only; omega, .of ?_ (.over hG ?_ ?_ ?_)⟩
      · simp (maxSteps:=999999) -dsimp -implicitDefEqProofs only [↓eqD,eqU,eqV,eqW,vbuiltinQ,vlen,vslice,vindex,vstore,Array.toList,simprocAttr]
        (repeat' apply And.intro) <;> exact .refl _
      · simp (maxSteps:=999999) -dsimp -implicitDefEqProofs only [↓eqD,eqU,eqV,eqW,vbuiltinQ,vlen,vslice,vindex,vstore,Array.toList,simprocAttr]
      · simp (maxSteps:=999999) -dsimp -implicitDefEqProofs only [↓eqD,eqU,eqV,eqW,vbuiltinQ,vlen,vslice,vindex,vstore,Array.toList,simprocAttr,FB,FC]
      · intro j hj
        have hj : j < G.next := hj
        have hj2 : j < n := by omega
        simp (maxSteps:=999999) -dsimp -implicitDefEqProofs only [↓eqD,eqU,eqV,eqW,vbuiltinQ,vlen,vslice,vindex,vstore,Array.toList,simprocAttr,lt6 hj2]
    · simp (maxSteps:=999999) -dsimp -implicitDefEqProofs only [↓eqD,eqU,eqV,eqW,vbuiltinQ,vlen,vslice,vindex,vstore,Array.toList,simprocAttr,T0,FB,FC,none_at,kw,hr,ne_eq]; (repeat ((with_reducible (refine And.intro ?_ ?_)); (focus (first | omega | exact ⟨by omega, by omega⟩))))
      refine VDone.back hG ?_ rfl rfl
      intro j hj
      have hj2 : j < n := by omega
      simp (maxSteps:=999999) -dsimp -implicitDefEqProofs only [↓eqD,eqU,eqV,eqW,vbuiltinQ,vlen,vslice,vindex,vstore,Array.toList,simprocAttr,lt6 hj2]
end Go.Vf
