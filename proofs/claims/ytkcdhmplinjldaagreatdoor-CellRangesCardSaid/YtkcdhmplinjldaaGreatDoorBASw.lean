/- A part of the proof: Sw. -/
import Derived.Test.YtkcdhmplinjldaaGreatDoorBASu
set_option linter.unusedVariables false
set_option linter.unusedSimpArgs false
namespace Go.Vf
open Go.Proofs Go.RowKit
noncomputable def gCmpV : List V → Option (Prop × V) := gV2 fun a b => (a.decs ∧ b.decs, .int .i64 (cmpV a b))
theorem gCmpV_eq : gCmpV = gV2 fun a b => (a.decs ∧ b.decs, .int .i64 (cmpV a b)) := rfl
noncomputable def ZS5 : Specs := Specs.none.add 82 gCmpV
theorem ZS5_at (f : FuncId) (xs : List V) (G : Heap) : ZS5 f xs G = (Specs.none.add 82 gCmpV) f xs G := rfl
theorem ok_vcmpS {P : Specs} (hP : SOk Tryz.prog P) : SOk Tryz.prog (P.add 82 gCmpV) := okV2 hP fun v w G h => vcmp_walk v w h.1 h.2 G
theorem okZS5 : SOk Tryz.prog ZS5 := ok_vcmpS (SOk.none _)
theorem ok_vequal : fnOk Tryz.prog 80 T0 2 = true := by kernel_rfl
set_option maxRecDepth 100000 in
theorem vequal_walk (v w : Vl) (h1 : v.decs) (h2 : w.decs) (G : Heap) : VPure Tryz.prog 80 [v.v, w.v] G (.bool (decide (cmpV v w = 0))) := by
  refine VCalls.of (okZS5) mixed T0 ok_vequal fun hG => ?_
  unfold Vl.v Vl.cs
  simp (maxSteps:=999999) -dsimp -implicitDefEqProofs only [↓eqD,eqU,eqV,eqW,vbuiltinQ,vlen,vslice,vindex,vstore,Array.toList,simprocAttr,fnWp_some Tryz.func80,Tryz.f80,T0,FB,FC,none_at,ZS5_at,add_at,gCmpV_eq,gV2,vlOf_cs,vlsC_closed,h1,h2]; (repeat ((with_reducible (refine And.intro ?_ ?_)); (focus (first | omega | exact ⟨by omega, by omega⟩))))
  (repeat ((with_reducible (refine And.intro ?_ ?_)); (focus (first | omega | exact ⟨by omega, by omega⟩)))); (refine VDone.back hG ?_ rfl ?_); (intro j hj; first | rfl | simp (maxSteps:=999999) -dsimp -implicitDefEqProofs only [↓eqD,eqU,eqV,eqW,vbuiltinQ,vlen,vslice,vindex,vstore,Array.toList,simprocAttr,lt6 hj]); (first | rfl | simp [])
theorem ok_etruth : fnOk Tryz.prog 79 T0 1 = true := by kernel_rfl
set_option maxRecDepth 100000 in
theorem etruth_walk (b : Bool) (G : Heap) : VPure Tryz.prog 79 [.bool b] G (Vl.tr b).v := by
  refine VCalls.of (SOk.none _) mixed T0 ok_etruth fun hG => ?_
  simp (maxSteps:=999999) -dsimp -implicitDefEqProofs only [↓eqD,eqU,eqV,eqW,vbuiltinQ,vlen,vslice,vindex,vstore,Array.toList,simprocAttr,fnWp_some Tryz.func79,Tryz.f79,T0,FB,FC,none_at]; (repeat ((with_reducible (refine And.intro ?_ ?_)); (focus (first | omega | exact ⟨by omega, by omega⟩))))
  refine .weak (vle_v0 1 b 0 0 []) (VDone.back hG ?_ rfl rfl)
  intro j hj; simp (maxSteps:=999999) -dsimp -implicitDefEqProofs only [↓eqD,eqU,eqV,eqW,vbuiltinQ,vlen,vslice,vindex,vstore,Array.toList,simprocAttr,lt6 hj]
theorem ok_vtruth : fnOk Tryz.prog 50 T0 1 = true := by kernel_rfl
set_option maxRecDepth 100000 in
theorem vtruth_walk (v : Vl) (G : Heap) : VPure Tryz.prog 50 [v.v] G (.bool (truthV v)) := by
  refine VCalls.of (SOk.none _) mixed T0 ok_vtruth fun hG => ?_
  unfold Vl.v Vl.cs truthV
  by_cases h : v.kind = 1
  · simp (maxSteps:=999999) -dsimp -implicitDefEqProofs only [↓eqD,eqU,eqV,eqW,vbuiltinQ,vlen,vslice,vindex,vstore,Array.toList,simprocAttr,fnWp_some Tryz.func50,Tryz.f50,T0,FB,FC,none_at,vlsC_closed,h]; (repeat ((with_reducible (refine And.intro ?_ ?_)); (focus (first | omega | exact ⟨by omega, by omega⟩))))
    (repeat ((with_reducible (refine And.intro ?_ ?_)); (focus (first | omega | exact ⟨by omega, by omega⟩)))); (refine VDone.back hG ?_ rfl ?_); (intro j hj; first | rfl | simp (maxSteps:=999999) -dsimp -implicitDefEqProofs only [↓eqD,eqU,eqV,eqW,vbuiltinQ,vlen,vslice,vindex,vstore,Array.toList,simprocAttr,lt6 hj]); (first | rfl | simp [])
  · simp (maxSteps:=999999) -dsimp -implicitDefEqProofs only [↓eqD,eqU,eqV,eqW,vbuiltinQ,vlen,vslice,vindex,vstore,Array.toList,simprocAttr,fnWp_some Tryz.func50,Tryz.f50,T0,FB,FC,none_at,vlsC_closed,h]; (repeat ((with_reducible (refine And.intro ?_ ?_)); (focus (first | omega | exact ⟨by omega, by omega⟩))))
    (repeat ((with_reducible (refine And.intro ?_ ?_)); (focus (first | omega | exact ⟨by omega, by omega⟩)))); (refine VDone.back hG ?_ rfl ?_); (intro j hj; first | rfl | simp (maxSteps:=999999) -dsimp -implicitDefEqProofs only [↓eqD,eqU,eqV,eqW,vbuiltinQ,vlen,vslice,vindex,vstore,Array.toList,simprocAttr,lt6 hj]); (first | rfl | simp [])
theorem areK_at {k : Int} {l : List Vl} {i : Nat} (h : i < l.length) : areK k (l.drop i) = (decide (l[i].kind = k) && areK k (l.drop (i + 1))) := by
  rw [List.drop_eq_getElem_cons h, areK]
theorem ok_areall : fnOk Tryz.prog 81 T0 2 = true := by kernel_rfl
set_option maxRecDepth 100000 in
set_option maxHeartbeats 1000000 in
theorem areall_walk (k : Int) (l : List Vl) (hl : l.length ≤ 1000) (G : Heap) : VPure Tryz.prog 81 [.int .i64 k, .sl 6 l.length (vlsC l)] G (.bool (areK k l)) := by
  refine VCalls.of (SOk.none _) mixed T0 ok_areall fun hG => ?_
  simp (maxSteps:=999999) -dsimp -implicitDefEqProofs only [↓eqD,eqU,eqV,eqW,vbuiltinQ,vlen,vslice,vindex,vstore,Array.toList,simprocAttr,fnWp_some Tryz.func81,Tryz.f81,T0,FB,FC,none_at]; (repeat ((with_reducible (refine And.intro ?_ ?_)); (focus (first | omega | exact ⟨by omega, by omega⟩))))
  refine vloop_by (fun x : Nat × Nat => x.1 ≤ l.length ∧ G.next ≤ x.2 ∧ areK k l = areK k (l.drop x.1)) (fun x => Env.of [(0, .int .i64 k), (7, .sl 6 l.length (vlsC l)), (8, .int .i64 l.length), (9, .int .i64 x.1)]) (fun x => G.over x.2 []) (fun x => l.length - x.1) (0, G.next) ?_ ?_ ?_
  · refine .of ?_ (.over hG ?_ ?_ ?_)
    · simp (maxSteps:=999999) -dsimp -implicitDefEqProofs only [↓eqD,eqU,eqV,eqW,vbuiltinQ,vlen,vslice,vindex,vstore,Array.toList,simprocAttr]
      (repeat' apply And.intro) <;> exact .refl _
    · simp (maxSteps:=999999) -dsimp -implicitDefEqProofs only [↓eqD,eqU,eqV,eqW,vbuiltinQ,vlen,vslice,vindex,vstore,Array.toList,simprocAttr]
    · simp (maxSteps:=999999) -dsimp -implicitDefEqProofs only [↓eqD,eqU,eqV,eqW,vbuiltinQ,vlen,vslice,vindex,vstore,Array.toList,simprocAttr,FB,FC]
    · intro j hj
      have hj : j < G.next := hj
      simp (maxSteps:=999999) -dsimp -implicitDefEqProofs only [↓eqD,eqU,eqV,eqW,vbuiltinQ,vlen,vslice,vindex,vstore,Array.toList,simprocAttr,lt6 hj]
  · exact ⟨Nat.zero_le _, Nat.le_refl _, rfl⟩
  · rintro ⟨i, n⟩ ⟨hle, hn, hI⟩
    simp only at hle hn hI ⊢
    by_cases hlt : i < l.length
    case neg =>
      have k1 : ¬(i : Int) < (l.length : Int) := by omega
      rw [hI, List.drop_of_length_le (by omega), areK]
      simp (maxSteps:=999999) -dsimp -implicitDefEqProofs only [↓eqD,eqU,eqV,eqW,vbuiltinQ,vlen,vslice,vindex,vstore,Array.toList,simprocAttr,T0,FB,FC,none_at,k1]; (repeat ((with_reducible (refine And.intro ?_ ?_)); (focus (first | omega | exact ⟨by omega, by omega⟩))))
      refine VDone.back hG ?_ rfl rfl
      intro j hj; simp (maxSteps:=999999) -dsimp -implicitDefEqProofs only [↓eqD,eqU,eqV,eqW,vbuiltinQ,vlen,vslice,vindex,vstore,Array.toList,simprocAttr,lt6 hj]
    have hx := vls_cs hlt
    have hs := areK_at (k := k) hlt
    have k1 : (i : Int) < (l.length : Int) := by omega
    have k2 : 0 ≤ (i : Int) := by omega
    have kw : IntKind.wrap .i64 ((i : Int) + 1) = ((i + 1 : Nat) : Int) := by rw [w64 (by omega) (by omega)]; rfl
    rw [hI, hs]
    generalize l[i] = e at *
    by_cases he : e.kind = k
    · rw [decide_eq_true he, Bool.true_and]
      simp (maxSteps:=999999) -dsimp -implicitDefEqProofs only [↓eqD,eqU,eqV,eqW,vbuiltinQ,vlen,vslice,vindex,vstore,Array.toList,simprocAttr,T0,FB,FC,none_at,k1,k2,kw,hx,vlsC_closed,he,ne_eq]; (repeat ((with_reducible (refine And.intro ?_ ?_)); (focus (first | omega | exact ⟨by omega, by omega⟩))))
      refine ⟨(i + 1, n + 1), ⟨by simp only; omega, by simp only; omega, rfl⟩, by simp only; omega, .of ?_ (.over hG ?_ ?_ ?_)⟩
      · simp (maxSteps:=999999) -dsimp -implicitDefEqProofs only [↓eqD,eqU,eqV,eqW,vbuiltinQ,vlen,vslice,vindex,vstore,Array.toList,simprocAttr]
        (repeat' apply And.intro) <;> exact .refl _
      · simp (maxSteps:=999999) -dsimp -implicitDefEqProofs only [↓eqD,eqU,eqV,eqW,vbuiltinQ,vlen,vslice,vindex,vstore,Array.toList,simprocAttr]
      · simp (maxSteps:=999999) -dsimp -implicitDefEqProofs only [↓eqD,eqU,eqV,eqW,vbuiltinQ,vlen,vslice,vindex,vstore,Array.toList,simprocAttr,FB,FC]
      · intro j hj
        have hj : j < G.next := hj
        have hj2 : j < n := by omega
        simp (maxSteps:=999999) -dsimp -implicitDefEqProofs only [↓eqD,eqU,eqV,eqW,vbuiltinQ,vlen,vslice,vindex,vstore,Array.toList,simprocAttr,lt6 hj2]
    · rw [decide_eq_false he, Bool.false_and]
      simp (maxSteps:=999999) -dsimp -implicitDefEqProofs only [↓eqD,eqU,eqV,eqW,vbuiltinQ,vlen,vslice,vindex,vstore,Array.toList,simprocAttr,T0,FB,FC,none_at,k1,k2,kw,hx,vlsC_closed,he,ne_eq]; (repeat ((with_reducible (refine And.intro ?_ ?_)); (focus (first | omega | exact ⟨by omega, by omega⟩))))
      refine VDone.back hG ?_ rfl rfl
      intro j hj
      have hj2 : j < n := by omega
      simp (maxSteps:=999999) -dsimp -implicitDefEqProofs only [↓eqD,eqU,eqV,eqW,vbuiltinQ,vlen,vslice,vindex,vstore,Array.toList,simprocAttr,lt6 hj2]
theorem vlsC_two (a b : Vl) : vlsC [a, b] = [.int .i64 a.kind, .bool a.b, .int .i64 a.m, .int .i64 a.s, .str a.t, .sl 6 a.l.length (vlsC a.l), .int .i64 b.kind, .bool b.b, .int .i64 b.m, .int .i64 b.s, .str b.t, .sl 6 b.l.length (vlsC b.l)] := by
  simp [vlsC, Vl.cs_eq, Vl.cs]
theorem are2_walk (k : Int) (a b : Vl) (G : Heap) : VPure Tryz.prog 81 [.int .i64 k, .slc 6 2 (vlsC [a, b])] G (.bool (areK k [a, b])) :=
  VCalls.weak (areall_walk k [a, b] (by simp) G) ⟨.refl _, .slc_sl _ _ _, trivial⟩
noncomputable def gAre2 : List V → Option (Prop × V)
  | [.int .i64 k, .slc 6 2 [a0, a1, a2, a3, a4, a5, b0, b1, b2, b3, b4, b5]] => match vlOf (.agg [a0, a1, a2, a3, a4, a5]), vlOf (.agg [b0, b1, b2, b3, b4, b5]) with
    | some a, some b => some (True, .bool (areK k [a, b]))
    | _, _ => none
  | _ => none
theorem ok_are2 {P : Specs} (hP : SOk Tryz.prog P) : SOk Tryz.prog (P.add 81 gAre2) := hP.add fun xs G p v e hp => by
  unfold gAre2 at e
  split at e
  · split at e
    · rename_i a b ha hb
      cases e
      have h1 := vlOf_some ha
      have h2 := vlOf_some hb
      injection h1 with h1
      injection h2 with h2
      unfold Vl.cs at h1 h2
      simp only [List.cons.injEq, and_true] at h1 h2
      obtain ⟨rfl, rfl, rfl, rfl, rfl, rfl⟩ := h1
      obtain ⟨rfl, rfl, rfl, rfl, rfl, rfl⟩ := h2
      have := fun k => are2_walk k a b G
      simp only [vlsC_two] at this
      exact this _
    · cases e
  · cases e
noncomputable def gEq : List V → Option (Prop × V) := gV2 fun a b => (a.decs ∧ b.decs, .bool (decide (cmpV a b = 0)))
theorem gEq_eq : gEq = gV2 fun a b => (a.decs ∧ b.decs, .bool (decide (cmpV a b = 0))) := rfl
def gTr : List V → Option (Prop × V)
  | [.bool b] => some (True, .agg [.int .i64 1, .bool b, .int .i64 0, .int .i64 0, .str [], .sl 6 0 []])
  | _ => none
theorem ok_eqS {P : Specs} (hP : SOk Tryz.prog P) : SOk Tryz.prog (P.add 80 gEq) := okV2 hP fun v w G h => vequal_walk v w h.1 h.2 G
theorem ok_trS {P : Specs} (hP : SOk Tryz.prog P) : SOk Tryz.prog (P.add 79 gTr) := hP.add fun xs G p v e hp => by
  unfold gTr at e
  split at e
  · cases e; exact etruth_walk _ G
  · cases e
noncomputable def ZS6 : Specs := (((Specs.none.add 82 gCmpV).add 81 gAre2).add 80 gEq).add 79 gTr
theorem ZS6_at (f : FuncId) (xs : List V) (G : Heap) : ZS6 f xs G = ((((Specs.none.add 82 gCmpV).add 81 gAre2).add 80 gEq).add 79 gTr) f xs G := rfl
theorem okZS6 : SOk Tryz.prog ZS6 := ok_trS (ok_eqS (ok_are2 (ok_vcmpS (SOk.none _))))
theorem areK_two (k : Int) (a b : Vl) : areK k [a, b] = (decide (a.kind = k) && decide (b.kind = k)) := by simp [areK]
theorem ok_erel : fnOk Tryz.prog 51 T0 3 = true := by kernel_rfl
set_option maxRecDepth 100000 in
set_option maxHeartbeats 2000000 in
theorem erel_walk (op : List UInt8) (v w : Vl) (h1 : v.decs) (h2 : w.decs) (G : Heap) : VPure Tryz.prog 51 [.str op, v.v, w.v] G (relV op v w).v := by
  refine VCalls.of (okZS6) mixed T0 ok_erel fun hG => ?_
  unfold relV
  unfold Vl.v Vl.cs
  by_cases o1 : op = [61]
  · subst o1
    rw [if_pos rfl]
    simp (maxSteps:=999999) -dsimp -implicitDefEqProofs only [↓eqD,eqU,eqV,eqW,vbuiltinQ,vlen,vslice,vindex,vstore,Array.toList,simprocAttr,fnWp_some Tryz.func51,Tryz.f51,T0,FB,FC,none_at,ZS6_at,add_at,gCmpV_eq,gEq_eq,gV2,gAre2,gTr,vlOf_cs,vlsC_closed,h1,h2]; (repeat ((with_reducible (refine And.intro ?_ ?_)); (focus (first | omega | exact ⟨by omega, by omega⟩))))
    refine VDone.back hG ?_ rfl rfl
    intro j hj; simp (maxSteps:=999999) -dsimp -implicitDefEqProofs only [↓eqD,eqU,eqV,eqW,vbuiltinQ,vlen,vslice,vindex,vstore,Array.toList,simprocAttr,lt6 hj]
  rw [if_neg o1]
  by_cases o2 : op = [33, 61]
  · subst o2
    rw [if_pos rfl]
    simp (maxSteps:=999999) -dsimp -implicitDefEqProofs only [↓eqD,eqU,eqV,eqW,vbuiltinQ,vlen,vslice,vindex,vstore,Array.toList,simprocAttr,fnWp_some Tryz.func51,Tryz.f51,T0,FB,FC,none_at,ZS6_at,add_at,gCmpV_eq,gEq_eq,gV2,gAre2,gTr,vlOf_cs,vlsC_closed,h1,h2]; (repeat ((with_reducible (refine And.intro ?_ ?_)); (focus (first | omega | exact ⟨by omega, by omega⟩))))
    refine VDone.back hG ?_ rfl rfl
    intro j hj; simp (maxSteps:=999999) -dsimp -implicitDefEqProofs only [↓eqD,eqU,eqV,eqW,vbuiltinQ,vlen,vslice,vindex,vstore,Array.toList,simprocAttr,lt6 hj]
  rw [if_neg o2]
  by_cases c : ¬(v.kind = 2 ∧ w.kind = 2) ∧ ¬(v.kind = 3 ∧ w.kind = 3)
  · rw [if_pos c]
    have c2 : areK 2 [v, w] = false := by rw [areK_two]; cases h : (decide (v.kind = 2) && decide (w.kind = 2)) with | false => rfl | true => simp at h; exact (c.1 h).elim
    have c3 : areK 3 [v, w] = false := by rw [areK_two]; cases h : (decide (v.kind = 3) && decide (w.kind = 3)) with | false => rfl | true => simp at h; exact (c.2 h).elim
    simp (maxSteps:=999999) -dsimp -implicitDefEqProofs only [↓eqD,eqU,eqV,eqW,vbuiltinQ,vlen,vslice,vindex,vstore,Array.toList,simprocAttr,fnWp_some Tryz.func51,Tryz.f51,T0,FB,FC,none_at,ZS6_at,add_at,gCmpV_eq,gEq_eq,gV2,gAre2,gTr,vlOf_cs,vlsC_closed,vreps,vfill,h1,h2,o1,o2,c2,c3]; (repeat ((with_reducible (refine And.intro ?_ ?_)); (focus (first | omega | exact ⟨by omega, by omega⟩))))
    refine .weak (vle_v0 0 false 0 0 []) ?_
    refine VDone.back hG ?_ rfl rfl
    intro j hj; simp (maxSteps:=999999) -dsimp -implicitDefEqProofs only [↓eqD,eqU,eqV,eqW,vbuiltinQ,vlen,vslice,vindex,vstore,Array.toList,simprocAttr,lt6 hj]
  rw [if_neg c]
  have run : areK 2 [v, w] = true ∨ (areK 2 [v, w] = false ∧ areK 3 [v, w] = true) := by
    rw [areK_two, areK_two]
    by_cases q : v.kind = 2 ∧ w.kind = 2
    · left; simp [q]
    · right
      have q3 : v.kind = 3 ∧ w.kind = 3 := Classical.not_not.1 fun q3 => c ⟨q, q3⟩
      simp [q3]
  rcases run with c2 | ⟨c2, c3⟩
  · by_cases o3 : op = [60]
    · subst o3
      rw [if_pos rfl]
      simp (maxSteps:=999999) -dsimp -implicitDefEqProofs only [↓eqD,eqU,eqV,eqW,vbuiltinQ,vlen,vslice,vindex,vstore,Array.toList,simprocAttr,fnWp_some Tryz.func51,Tryz.f51,T0,FB,FC,none_at,ZS6_at,add_at,gCmpV_eq,gEq_eq,gV2,gAre2,gTr,vlOf_cs,vlsC_closed,vreps,vfill,h1,h2,o1,o2,c2]; (repeat ((with_reducible (refine And.intro ?_ ?_)); (focus (first | omega | exact ⟨by omega, by omega⟩))))
      refine VDone.back hG ?_ rfl rfl
      intro j hj; simp (maxSteps:=999999) -dsimp -implicitDefEqProofs only [↓eqD,eqU,eqV,eqW,vbuiltinQ,vlen,vslice,vindex,vstore,Array.toList,simprocAttr,lt6 hj]
    rw [if_neg o3]
    by_cases o4 : op = [60, 61]
    · subst o4
      rw [if_pos rfl]
      simp (maxSteps:=999999) -dsimp -implicitDefEqProofs only [↓eqD,eqU,eqV,eqW,vbuiltinQ,vlen,vslice,vindex,vstore,Array.toList,simprocAttr,fnWp_some Tryz.func51,Tryz.f51,T0,FB,FC,none_at,ZS6_at,add_at,gCmpV_eq,gEq_eq,gV2,gAre2,gTr,vlOf_cs,vlsC_closed,vreps,vfill,h1,h2,o1,o2,c2]; (repeat ((with_reducible (refine And.intro ?_ ?_)); (focus (first | omega | exact ⟨by omega, by omega⟩))))
      refine VDone.back hG ?_ rfl rfl
      intro j hj; simp (maxSteps:=999999) -dsimp -implicitDefEqProofs only [↓eqD,eqU,eqV,eqW,vbuiltinQ,vlen,vslice,vindex,vstore,Array.toList,simprocAttr,lt6 hj]
    rw [if_neg o4]
    by_cases o5 : op = [62]
    · subst o5
      rw [if_pos rfl]
      simp (maxSteps:=999999) -dsimp -implicitDefEqProofs only [↓eqD,eqU,eqV,eqW,vbuiltinQ,vlen,vslice,vindex,vstore,Array.toList,simprocAttr,fnWp_some Tryz.func51,Tryz.f51,T0,FB,FC,none_at,ZS6_at,add_at,gCmpV_eq,gEq_eq,gV2,gAre2,gTr,vlOf_cs,vlsC_closed,vreps,vfill,h1,h2,o1,o2,c2]; (repeat ((with_reducible (refine And.intro ?_ ?_)); (focus (first | omega | exact ⟨by omega, by omega⟩))))
      refine VDone.back hG ?_ rfl rfl
      intro j hj; simp (maxSteps:=999999) -dsimp -implicitDefEqProofs only [↓eqD,eqU,eqV,eqW,vbuiltinQ,vlen,vslice,vindex,vstore,Array.toList,simprocAttr,lt6 hj]
    rw [if_neg o5]
    by_cases o6 : op = [62, 61]
    · subst o6
      rw [if_pos rfl]
      simp (maxSteps:=999999) -dsimp -implicitDefEqProofs only [↓eqD,eqU,eqV,eqW,vbuiltinQ,vlen,vslice,vindex,vstore,Array.toList,simprocAttr,fnWp_some Tryz.func51,Tryz.f51,T0,FB,FC,none_at,ZS6_at,add_at,gCmpV_eq,gEq_eq,gV2,gAre2,gTr,vlOf_cs,vlsC_closed,vreps,vfill,h1,h2,o1,o2,c2]; (repeat ((with_reducible (refine And.intro ?_ ?_)); (focus (first | omega | exact ⟨by omega, by omega⟩))))
      refine VDone.back hG ?_ rfl rfl
      intro j hj; simp (maxSteps:=999999) -dsimp -implicitDefEqProofs only [↓eqD,eqU,eqV,eqW,vbuiltinQ,vlen,vslice,vindex,vstore,Array.toList,simprocAttr,lt6 hj]
    rw [if_neg o6]
    simp (maxSteps:=999999) -dsimp -implicitDefEqProofs only [↓eqD,eqU,eqV,eqW,vbuiltinQ,vlen,vslice,vindex,vstore,Array.toList,simprocAttr,fnWp_some Tryz.func51,Tryz.f51,T0,FB,FC,none_at,ZS6_at,add_at,gCmpV_eq,gEq_eq,gV2,gAre2,gTr,vlOf_cs,vlsC_closed,vreps,vfill,h1,h2,o1,o2,o3,o4,o5,o6,c2]; (repeat ((with_reducible (refine And.intro ?_ ?_)); (focus (first | omega | exact ⟨by omega, by omega⟩))))
    refine .weak (vle_v0 0 false 0 0 []) ?_
    refine VDone.back hG ?_ rfl rfl
    intro j hj; simp (maxSteps:=999999) -dsimp -implicitDefEqProofs only [↓eqD,eqU,eqV,eqW,vbuiltinQ,vlen,vslice,vindex,vstore,Array.toList,simprocAttr,lt6 hj]
  · by_cases o3 : op = [60]
    · subst o3
      rw [if_pos rfl]
      simp (maxSteps:=999999) -dsimp -implicitDefEqProofs only [↓eqD,eqU,eqV,eqW,vbuiltinQ,vlen,vslice,vindex,vstore,Array.toList,simprocAttr,fnWp_some Tryz.func51,Tryz.f51,T0,FB,FC,none_at,ZS6_at,add_at,gCmpV_eq,gEq_eq,gV2,gAre2,gTr,vlOf_cs,vlsC_closed,vreps,vfill,h1,h2,o1,o2,c2,c3]; (repeat ((with_reducible (refine And.intro ?_ ?_)); (focus (first | omega | exact ⟨by omega, by omega⟩))))
      refine VDone.back hG ?_ rfl rfl
      intro j hj; simp (maxSteps:=999999) -dsimp -implicitDefEqProofs only [↓eqD,eqU,eqV,eqW,vbuiltinQ,vlen,vslice,vindex,vstore,Array.toList,simprocAttr,lt6 hj]
    rw [if_neg o3]
    by_cases o4 : op = [60, 61]
    · subst o4
      rw [if_pos rfl]
      simp (maxSteps:=999999) -dsimp -implicitDefEqProofs only [↓eqD,eqU,eqV,eqW,vbuiltinQ,vlen,vslice,vindex,vstore,Array.toList,simprocAttr,fnWp_some Tryz.func51,Tryz.f51,T0,FB,FC,none_at,ZS6_at,add_at,gCmpV_eq,gEq_eq,gV2,gAre2,gTr,vlOf_cs,vlsC_closed,vreps,vfill,h1,h2,o1,o2,c2,c3]; (repeat ((with_reducible (refine And.intro ?_ ?_)); (focus (first | omega | exact ⟨by omega, by omega⟩))))
      refine VDone.back hG ?_ rfl rfl
      intro j hj; simp (maxSteps:=999999) -dsimp -implicitDefEqProofs only [↓eqD,eqU,eqV,eqW,vbuiltinQ,vlen,vslice,vindex,vstore,Array.toList,simprocAttr,lt6 hj]
    rw [if_neg o4]
    by_cases o5 : op = [62]
    · subst o5
      rw [if_pos rfl]
      simp (maxSteps:=999999) -dsimp -implicitDefEqProofs only [↓eqD,eqU,eqV,eqW,vbuiltinQ,vlen,vslice,vindex,vstore,Array.toList,simprocAttr,fnWp_some Tryz.func51,Tryz.f51,T0,FB,FC,none_at,ZS6_at,add_at,gCmpV_eq,gEq_eq,gV2,gAre2,gTr,vlOf_cs,vlsC_closed,vreps,vfill,h1,h2,o1,o2,c2,c3]; (repeat ((with_reducible (refine And.intro ?_ ?_)); (focus (first | omega | exact ⟨by omega, by omega⟩))))
      refine VDone.back hG ?_ rfl rfl
      intro j hj; simp (maxSteps:=999999) -dsimp -implicitDefEqProofs only [↓eqD,eqU,eqV,eqW,vbuiltinQ,vlen,vslice,vindex,vstore,Array.toList,simprocAttr,lt6 hj]
    rw [if_neg o5]
    by_cases o6 : op = [62, 61]
    · subst o6
      rw [if_pos rfl]
      simp (maxSteps:=999999) -dsimp -implicitDefEqProofs only [↓eqD,eqU,eqV,eqW,vbuiltinQ,vlen,vslice,vindex,vstore,Array.toList,simprocAttr,fnWp_some Tryz.func51,Tryz.f51,T0,FB,FC,none_at,ZS6_at,add_at,gCmpV_eq,gEq_eq,gV2,gAre2,gTr,vlOf_cs,vlsC_closed,vreps,vfill,h1,h2,o1,o2,c2,c3]; (repeat ((with_reducible (refine And.intro ?_ ?_)); (focus (first | omega | exact ⟨by omega, by omega⟩))))
      refine VDone.back hG ?_ rfl rfl
      intro j hj; simp (maxSteps:=999999) -dsimp -implicitDefEqProofs only [↓eqD,eqU,eqV,eqW,vbuiltinQ,vlen,vslice,vindex,vstore,Array.toList,simprocAttr,lt6 hj]
    rw [if_neg o6]
    simp (maxSteps:=999999) -dsimp -implicitDefEqProofs only [↓eqD,eqU,eqV,eqW,vbuiltinQ,vlen,vslice,vindex,vstore,Array.toList,simprocAttr,fnWp_some Tryz.func51,Tryz.f51,T0,FB,FC,none_at,ZS6_at,add_at,gCmpV_eq,gEq_eq,gV2,gAre2,gTr,vlOf_cs,vlsC_closed,vreps,vfill,h1,h2,o1,o2,o3,o4,o5,o6,c2,c3]; (repeat ((with_reducible (refine And.intro ?_ ?_)); (focus (first | omega | exact ⟨by omega, by omega⟩))))
    refine .weak (vle_v0 0 false 0 0 []) ?_
    refine VDone.back hG ?_ rfl rfl
    intro j hj; simp (maxSteps:=999999) -dsimp -implicitDefEqProofs only [↓eqD,eqU,eqV,eqW,vbuiltinQ,vlen,vslice,vindex,vstore,Array.toList,simprocAttr,lt6 hj]
end Go.Vf
