/- A part of the proof: Su. -/
import Derived.Test.YtkcdhmplinjldaaGreatDoorBASs
import Derived.Test.YtkcdhmplinjldaaGreatDoorBASg
set_option linter.unusedVariables false
set_option linter.unusedSimpArgs false
namespace Go.Vf
open Go.Proofs Go.RowKit
def Vl.cs (v : Vl) : List V := [.int .i64 v.kind, .bool v.b, .int .i64 v.m, .int .i64 v.s, .str v.t, .sl 6 v.l.length (vlsC v.l)]
theorem Vl.cs_eq (v : Vl) : v.cells = v.cs := by cases v; rfl
mutual
theorem Vl.inj : ∀ a b : Vl, a.cells = b.cells → a = b
  | .mk k b m s t l, .mk k' b' m' s' t' l', h => by
    simp only [Vl.cells, List.cons.injEq, V.int.injEq, V.bool.injEq, V.str.injEq, V.sl.injEq, true_and, and_true] at h
    obtain ⟨rfl, rfl, rfl, rfl, rfl, h1, h2⟩ := h
    rw [vls_inj l l' h1 h2]
theorem vls_inj : ∀ l l' : List Vl, l.length = l'.length → vlsC l = vlsC l' → l = l'
  | [], [], _, _ => rfl
  | a :: r, b :: r', hl, h => by
    rw [vlsC, vlsC] at h
    obtain ⟨h1, h2⟩ := List.append_inj h (by rw [a.cells_len, b.cells_len])
    rw [Vl.inj a b h1, vls_inj r r' (by simpa using hl) h2]
  | [], _ :: _, hl, _ => by simp at hl
  | _ :: _, [], hl, _ => by simp at hl
end
open Classical in
noncomputable def vlOf (u : V) : Option Vl := if h : ∃ v : Vl, u = .agg v.cells then some (Classical.choose h) else none
theorem vlOf_cells (v : Vl) : vlOf (.agg v.cells) = some v := by
  unfold vlOf
  have h : ∃ w : Vl, V.agg v.cells = .agg w.cells := ⟨v, rfl⟩
  rw [dif_pos h]
  have := Classical.choose_spec h
  injection this with this
  exact congrArg some (Vl.inj _ _ this).symm
theorem vlOf_cs (v : Vl) : vlOf (.agg [.int .i64 v.kind, .bool v.b, .int .i64 v.m, .int .i64 v.s, .str v.t, .sl 6 v.l.length (vlsC v.l)]) = some v := by
  have := vlOf_cells v
  rw [v.cs_eq] at this
  exact this
theorem vls_cs {l : List Vl} {i : Nat} (h : i < l.length) : velem 6 (vlsC l) i = [.int .i64 l[i].kind, .bool l[i].b, .int .i64 l[i].m, .int .i64 l[i].s, .str l[i].t, .sl 6 l[i].l.length (vlsC l[i].l)] := by
  rw [vls_at h, Vl.cs_eq]; rfl
theorem Vl.kind_mk (k : Int) (b : Bool) (m s : Int) (t : List UInt8) (l : List Vl) : (Vl.mk k b m s t l).kind = k := rfl
theorem Vl.b_mk (k : Int) (b : Bool) (m s : Int) (t : List UInt8) (l : List Vl) : (Vl.mk k b m s t l).b = b := rfl
theorem Vl.m_mk (k : Int) (b : Bool) (m s : Int) (t : List UInt8) (l : List Vl) : (Vl.mk k b m s t l).m = m := rfl
theorem Vl.s_mk (k : Int) (b : Bool) (m s : Int) (t : List UInt8) (l : List Vl) : (Vl.mk k b m s t l).s = s := rfl
theorem Vl.t_mk (k : Int) (b : Bool) (m s : Int) (t : List UInt8) (l : List Vl) : (Vl.mk k b m s t l).t = t := rfl
theorem Vl.l_mk (k : Int) (b : Bool) (m s : Int) (t : List UInt8) (l : List Vl) : (Vl.mk k b m s t l).l = l := rfl
noncomputable def gV1 (f : Vl → Prop × V) : List V → Option (Prop × V)
  | [u] => (vlOf u).map f
  | _ => none
noncomputable def gV2 (f : Vl → Vl → Prop × V) : List V → Option (Prop × V)
  | [u, v] => match vlOf u, vlOf v with
    | some a, some b => some (f a b)
    | _, _ => none
  | _ => none
theorem vlOf_some {u : V} {v : Vl} (h : vlOf u = some v) : u = .agg v.cs := by
  unfold vlOf at h
  split at h
  · rename_i hx
    cases h
    rw [← Vl.cs_eq]
    exact Classical.choose_spec hx
  · cases h
theorem okV1 {P : Program} {S : Specs} (hS : SOk P S) {f : FuncId} {g : Vl → Prop × V} (h : ∀ v G, (g v).1 → VPure P f [.agg v.cs] G (g v).2) : SOk P (S.add f (gV1 g)) := hS.add fun xs G p v e hp => by
  unfold gV1 at e
  split at e
  · rename_i u
    cases hu : vlOf u with
    | none => rw [hu] at e; cases e
    | some w =>
      rw [hu] at e
      simp only [Option.map_some, Option.some.injEq] at e
      rw [vlOf_some hu]
      have := h w G
      rw [e] at this
      exact this hp
  · cases e
theorem okV2 {P : Program} {S : Specs} (hS : SOk P S) {f : FuncId} {g : Vl → Vl → Prop × V} (h : ∀ v w G, (g v w).1 → VPure P f [.agg v.cs, .agg w.cs] G (g v w).2) : SOk P (S.add f (gV2 g)) := hS.add fun xs G p v e hp => by
  unfold gV2 at e
  split at e
  · rename_i u u'
    split at e
    · rename_i a b ha hb
      have e := Option.some.inj e
      rw [vlOf_some ha, vlOf_some hb]
      have := h a b G
      rw [e] at this
      exact this hp
    · cases e
  · cases e
abbrev Vl.v (v : Vl) : V := .agg v.cs
theorem vle_v0 (k : Int) (b : Bool) (m s : Int) (t : List UInt8) : VLe (.agg [.int .i64 k, .bool b, .int .i64 m, .int .i64 s, .str t, .nilsl]) (Vl.mk k b m s t []).v := vle_val0 k b m s t
def gNumB : List V → Option (Prop × V)
  | [.bool b] => some (True, .int .i64 (numB b))
  | _ => none
def gDcmp : List V → Option (Prop × V)
  | [.agg [.int .i64 m, .int .i64 s], .agg [.int .i64 m', .int .i64 s']] => some (InD m s ∧ InD m' s', .int .i64 (decCmp m s m' s'))
  | _ => none
def gOrdS : List V → Option (Prop × V)
  | [.str a, .str b] => some (True, .int .i64 (strCmp a b))
  | _ => none
def ZS4 : Specs := (((Specs.none.add 110 gOrd).add 111 gNumB).add 112 gDcmp).add 113 gOrdS
theorem ZS4_at (f : FuncId) (xs : List V) (G : Heap) : ZS4 f xs G = ((((Specs.none.add 110 gOrd).add 111 gNumB).add 112 gDcmp).add 113 gOrdS) f xs G := rfl
theorem okZS4 : SOk Tryz.prog ZS4 := by
  refine SOk.add (SOk.add (SOk.add (ok_ord (SOk.none _)) ?_) ?_) ?_
  · intro xs G p v e hp
    unfold gNumB at e
    split at e
    · cases e; exact number_walk _ G
    · cases e
  · intro xs G p v e hp
    unfold gDcmp at e
    split at e
    · cases e; exact dcmp_walk hp.1 hp.2 G
    · cases e
  · intro xs G p v e hp
    unfold gOrdS at e
    split at e
    · cases e; exact cmpS_walk _ _ G
    · cases e
def T_vcmp : Tab := ⟨fun id => if id = 5 then ([0, 1, 3, 4, 2, 5, 6, 7], [(4, 2)]) else ([], []), fun _ => false⟩
theorem T_vcmp_ord (id : Nat) : T_vcmp.ord id = if id = 5 then ([0, 1, 3, 4, 2, 5, 6, 7], [(4, 2)]) else ([], []) := rfl
theorem T_vcmp_ghost (id : Nat) : T_vcmp.ghost id = false := rfl
theorem ok_vcmp : fnOk Tryz.prog 82 T_vcmp 2 = true := by kernel_rfl
set_option maxRecDepth 100000 in
set_option maxHeartbeats 1000000 in
theorem vcmp_walk0 (v w : Vl) (h1 : v.decs) (h2 : w.decs) (hk : ∀ (i : Nat) (h : i < v.l.length) (h' : i < w.l.length) (G : Heap), VPure Tryz.prog 82 [.agg v.l[i].cells, .agg w.l[i].cells] G (.int .i64 (cmpV v.l[i] w.l[i]))) (G : Heap) :
    VPure Tryz.prog 82 [v.v, w.v] G (.int .i64 (cmpV v w)) := by
  refine VCalls.of (okZS4) mixed T_vcmp ok_vcmp fun hG => ?_
  obtain ⟨k, b, m, s, t, l⟩ := v
  obtain ⟨k', b', m', s', t', l'⟩ := w
  unfold Vl.decs at h1 h2
  have wf := cmpf_walk l l' h1.2.1 hk
  rw [cmpV]
  unfold Vl.v Vl.cs
  simp only [Vl.kind_mk, Vl.b_mk, Vl.m_mk, Vl.s_mk, Vl.t_mk, Vl.l_mk]
  by_cases e : k = k'
  case neg =>
    rw [if_neg e]
    simp (maxSteps:=999999) -dsimp -implicitDefEqProofs only [↓eqD,eqU,eqV,eqW,vbuiltinQ,vlen,vslice,vindex,vstore,Array.toList,simprocAttr,fnWp_some Tryz.func82,Tryz.f82,T_vcmp_ord,T_vcmp_ghost,FB,FC,none_at,ZS4_at,add_at,gOrd,gNumB,gDcmp,gOrdS,vlsC_closed,e,ne_eq]; (repeat ((with_reducible (refine And.intro ?_ ?_)); (focus (first | omega | exact ⟨by omega, by omega⟩))))
    (repeat ((with_reducible (refine And.intro ?_ ?_)); (focus (first | omega | exact ⟨by omega, by omega⟩)))); (refine VDone.back hG ?_ rfl ?_); (intro j hj; first | rfl | simp (maxSteps:=999999) -dsimp -implicitDefEqProofs only [↓eqD,eqU,eqV,eqW,vbuiltinQ,vlen,vslice,vindex,vstore,Array.toList,simprocAttr,lt6 hj]); (first | rfl | simp [])
  subst e
  rw [if_pos rfl]
  by_cases q1 : k = 1
  · subst q1
    rw [if_pos rfl]
    have wn : IntKind.wrap .i64 (numB b - numB b') = numB b - numB b' := by unfold numB; cases b <;> cases b' <;> decide
    simp (maxSteps:=999999) -dsimp -implicitDefEqProofs only [↓eqD,eqU,eqV,eqW,vbuiltinQ,vlen,vslice,vindex,vstore,Array.toList,simprocAttr,fnWp_some Tryz.func82,Tryz.f82,T_vcmp_ord,T_vcmp_ghost,FB,FC,none_at,ZS4_at,add_at,gOrd,gNumB,gDcmp,gOrdS,vlsC_closed,ne_eq,wn]; (repeat ((with_reducible (refine And.intro ?_ ?_)); (focus (first | omega | exact ⟨by omega, by omega⟩))))
    (repeat ((with_reducible (refine And.intro ?_ ?_)); (focus (first | omega | exact ⟨by omega, by omega⟩)))); (refine VDone.back hG ?_ rfl ?_); (intro j hj; first | rfl | simp (maxSteps:=999999) -dsimp -implicitDefEqProofs only [↓eqD,eqU,eqV,eqW,vbuiltinQ,vlen,vslice,vindex,vstore,Array.toList,simprocAttr,lt6 hj]); (first | rfl | simp [])
  rw [if_neg q1]
  by_cases q2 : k = 2
  · subst q2
    rw [if_pos rfl]
    have d1 := h1.1 rfl
    have d2 := h2.1 rfl
    simp (maxSteps:=999999) -dsimp -implicitDefEqProofs only [↓eqD,eqU,eqV,eqW,vbuiltinQ,vlen,vslice,vindex,vstore,Array.toList,simprocAttr,fnWp_some Tryz.func82,Tryz.f82,T_vcmp_ord,T_vcmp_ghost,FB,FC,none_at,ZS4_at,add_at,gOrd,gNumB,gDcmp,gOrdS,vlsC_closed,ne_eq,d1,d2]; (repeat ((with_reducible (refine And.intro ?_ ?_)); (focus (first | omega | exact ⟨by omega, by omega⟩))))
    (repeat ((with_reducible (refine And.intro ?_ ?_)); (focus (first | omega | exact ⟨by omega, by omega⟩)))); (refine VDone.back hG ?_ rfl ?_); (intro j hj; first | rfl | simp (maxSteps:=999999) -dsimp -implicitDefEqProofs only [↓eqD,eqU,eqV,eqW,vbuiltinQ,vlen,vslice,vindex,vstore,Array.toList,simprocAttr,lt6 hj]); (first | rfl | simp [])
  rw [if_neg q2]
  by_cases q3 : k = 3
  · subst q3
    rw [if_pos rfl]
    simp (maxSteps:=999999) -dsimp -implicitDefEqProofs only [↓eqD,eqU,eqV,eqW,vbuiltinQ,vlen,vslice,vindex,vstore,Array.toList,simprocAttr,fnWp_some Tryz.func82,Tryz.f82,T_vcmp_ord,T_vcmp_ghost,FB,FC,none_at,ZS4_at,add_at,gOrd,gNumB,gDcmp,gOrdS,vlsC_closed,ne_eq]; (repeat ((with_reducible (refine And.intro ?_ ?_)); (focus (first | omega | exact ⟨by omega, by omega⟩))))
    (repeat ((with_reducible (refine And.intro ?_ ?_)); (focus (first | omega | exact ⟨by omega, by omega⟩)))); (refine VDone.back hG ?_ rfl ?_); (intro j hj; first | rfl | simp (maxSteps:=999999) -dsimp -implicitDefEqProofs only [↓eqD,eqU,eqV,eqW,vbuiltinQ,vlen,vslice,vindex,vstore,Array.toList,simprocAttr,lt6 hj]); (first | rfl | simp [])
  rw [if_neg q3]
  simp (maxSteps:=999999) -dsimp -implicitDefEqProofs only [↓eqD,eqU,eqV,eqW,vbuiltinQ,vlen,vslice,vindex,vstore,Array.toList,simprocAttr,fnWp_some Tryz.func82,Tryz.f82,T_vcmp_ord,T_vcmp_ghost,FB,FC,none_at,ZS4_at,add_at,gOrd,gNumB,gDcmp,gOrdS,vlsC_closed,ne_eq,q1,q2,q3]; (repeat ((with_reducible (refine And.intro ?_ ?_)); (focus (first | omega | exact ⟨by omega, by omega⟩))))
  refine VPure.calls (wf _) ?_
  simp (maxSteps:=999999) -dsimp -implicitDefEqProofs only [↓eqD,eqU,eqV,eqW,vbuiltinQ,vlen,vslice,vindex,vstore,Array.toList,simprocAttr,T_vcmp_ord,T_vcmp_ghost,FB,FC,none_at,ZS4_at,add_at]; (repeat ((with_reducible (refine And.intro ?_ ?_)); (focus (first | omega | exact ⟨by omega, by omega⟩))))
  (repeat ((with_reducible (refine And.intro ?_ ?_)); (focus (first | omega | exact ⟨by omega, by omega⟩)))); (refine VDone.back hG ?_ rfl ?_); (intro j hj; first | rfl | simp (maxSteps:=999999) -dsimp -implicitDefEqProofs only [↓eqD,eqU,eqV,eqW,vbuiltinQ,vlen,vslice,vindex,vstore,Array.toList,simprocAttr,lt6 hj]); (first | rfl | simp [])
theorem decs_at : ∀ {l : List Vl} (i : Nat) (h : i < l.length), decsL l → l[i].decs
  | a :: r, 0, _, hs => by rw [decsL] at hs; exact hs.1
  | a :: r, i + 1, h, hs => by rw [decsL] at hs; exact decs_at i (by simpa using h) hs.2
mutual
theorem vcmp_walk : ∀ (v w : Vl), v.decs → w.decs → ∀ G, VPure Tryz.prog 82 [v.v, w.v] G (.int .i64 (cmpV v w))
  | .mk k b m s t l, w, h1, h2, G => vcmp_walk0 (.mk k b m s t l) w h1 h2 (fun i h h' G => by
      obtain ⟨k', b', m', s', t', l'⟩ := w
      unfold Vl.decs at h1 h2
      rw [Vl.cs_eq, Vl.cs_eq]
      exact vcmps_walk l h1.2.2 i h _ (decs_at i h' h2.2.2) G) G
theorem vcmps_walk : ∀ (l : List Vl), decsL l → ∀ (i : Nat) (h : i < l.length) (w : Vl), w.decs → ∀ G, VPure Tryz.prog 82 [l[i].v, w.v] G (.int .i64 (cmpV l[i] w))
  | a :: r, hs, 0, _, w, h2, G => by rw [decsL] at hs; exact vcmp_walk a w hs.1 h2 G
  | a :: r, hs, i + 1, h, w, h2, G => by rw [decsL] at hs; exact vcmps_walk r hs.2 i (by simpa using h) w h2 G
end
end Go.Vf
