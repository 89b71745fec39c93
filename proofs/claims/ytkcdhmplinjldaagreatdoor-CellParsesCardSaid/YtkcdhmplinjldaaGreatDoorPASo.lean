/- A part of the proof: So. -/
import Derived.Test.YtkcdhmplinjldaaGreatDoorPASm
set_option linter.unusedVariables false
set_option linter.unusedSimpArgs false
namespace Go.Vf
open Go.Proofs Go.RowKit
def T_rhere : Tab := ⟨fun id => if id = 1 then ([0, 1, 2, 3, 4, 5, 6, 7, 8, 9], []) else if id = 2 then ([0, 1, 2, 3, 4, 5, 6, 7, 8, 9, 10, 11], []) else ([], []), fun _ => false⟩
theorem T_rhere_ord (id : Nat) : T_rhere.ord id = if id = 1 then ([0, 1, 2, 3, 4, 5, 6, 7, 8, 9], []) else if id = 2 then ([0, 1, 2, 3, 4, 5, 6, 7, 8, 9, 10, 11], []) else ([], []) := rfl
theorem T_rhere_ghost (id : Nat) : T_rhere.ghost id = false := rfl
theorem ok_rhere : fnOk Tryz.prog 47 T_rhere 1 = true := by kernel_rfl
set_option maxRecDepth 100000 in
theorem rhere_walk {T : List Tok} {en : Int} {s : St} {id : Nat} {G : Heap} (h : ReaderAt G id T en s) : VCalls Tryz.prog 47 [.ptr id 0 0] G (Stays G (.int .i64 (hereT T en s.at_))) := by
  refine VCalls.of (SOk.none _) mixed T_rhere ok_rhere fun hG => ?_
  have h1 := h.1
  rw [rcells_eq] at h1
  unfold hereT
  by_cases ha : s.at_ < T.length
  · have hx := toks_at ha
    have hT : T.getD s.at_ ⟨0, [], 0⟩ = T[s.at_] := by simp [List.getD, ha]
    rw [if_pos ha, hT]
    generalize T[s.at_] = t at hx hT
    have c1 : (s.at_ : Int) < (T.length : Int) := by omega
    simp (maxSteps:=999999) -dsimp -implicitDefEqProofs only [↓eqD,eqU,eqV,eqW,vbuiltinQ,vlen,vslice,vindex,vstore,Array.toList,simprocAttr,fnWp_some Tryz.func47,Tryz.f47,T_rhere_ord,T_rhere_ghost,FB,FC,none_at,h1,c1,hx,Tok.cells]; (repeat ((with_reducible (refine And.intro ?_ ?_)); (focus (first | omega | exact ⟨by omega, by omega⟩))))
    exact VDone.back hG (fun _ _ => rfl) rfl rfl
  · rw [if_neg ha]
    have c1 : ¬(s.at_ : Int) < (T.length : Int) := by omega
    simp (maxSteps:=999999) -dsimp -implicitDefEqProofs only [↓eqD,eqU,eqV,eqW,vbuiltinQ,vlen,vslice,vindex,vstore,Array.toList,simprocAttr,fnWp_some Tryz.func47,Tryz.f47,T_rhere_ord,T_rhere_ghost,FB,FC,none_at,h1,c1]; (repeat ((with_reducible (refine And.intro ?_ ?_)); (focus (first | omega | exact ⟨by omega, by omega⟩))))
    exact VDone.back hG (fun _ _ => rfl) rfl rfl
def YS1 : Specs := Specs.none.addH 47 (gR r61)
theorem YS1_at (f : FuncId) (xs : List V) (G : Heap) : YS1 f xs G = (Specs.none.addH 47 (gR r61)) f xs G := rfl
theorem okYS1 : SOk Tryz.prog YS1 := okR (SOk.none _) fun T en s id G xs v s' h e => by
  unfold r61 at e
  split at e
  · cases e
    rw [put_same h.1]
    exact rhere_walk h
  · cases e
theorem ok_rfail : fnOk Tryz.prog 28 T0 2 = true := by kernel_rfl
set_option maxRecDepth 100000 in
theorem rfail_walk {T : List Tok} {en : Int} {s : St} {id : Nat} {G : Heap} (h : ReaderAt G id T en s) (e : Int) : VCalls Tryz.prog 28 [.ptr id 0 0, .int .i64 e] G fun u H => u = .tup [] ∧ H = G.put id (.cells 0 (rcells T en (errsT T en s e))) := by
  refine VCalls.of (okYS1) mixed T0 ok_rfail fun hG => ?_
  have hid := hG.lt h.1
  have hu := fun s' => rcells_under T en s' G.next
  have h11 := h.1
  have h12 := h.2.1
  have h13 := h.2.2
  have h1 := h.1
  rw [rcells_eq] at h1
  have hre := rcells_eq T en s
  rw [errsT_here]
  by_cases he : s.err = 0
  · rw [if_pos he]
    simp (maxSteps:=999999) -dsimp -implicitDefEqProofs only [↓eqD,eqU,eqV,eqW,vbuiltinQ,vlen,vslice,vindex,vstore,Array.toList,simprocAttr,fnWp_some Tryz.func28,Tryz.f28,T0,FB,FC,none_at,YS1_at,addH_at,gR,r61,rOf_lit,rcells_mk,ReaderAt,hre,h1,h12,h13,he,lt6 hid]; (repeat ((with_reducible (refine And.intro ?_ ?_)); (focus (first | omega | exact ⟨by omega, by omega⟩))))
    refine VDone.turned hG hid (hu _) ?_ ?_ rfl rfl
    · simp (maxSteps:=999999) -dsimp -implicitDefEqProofs only [↓eqD,eqU,eqV,eqW,vbuiltinQ,vlen,vslice,vindex,vstore,Array.toList,simprocAttr,rcells_mk]
    · intro j hj hji; simp (maxSteps:=999999) -dsimp -implicitDefEqProofs only [↓eqD,eqU,eqV,eqW,vbuiltinQ,vlen,vslice,vindex,vstore,Array.toList,simprocAttr,hji]
  · try rw [if_neg he]
    simp (maxSteps:=999999) -dsimp -implicitDefEqProofs only [↓eqD,eqU,eqV,eqW,vbuiltinQ,vlen,vslice,vindex,vstore,Array.toList,simprocAttr,fnWp_some Tryz.func28,Tryz.f28,T0,FB,FC,none_at,h1,he,lt6 hid]; (repeat ((with_reducible (refine And.intro ?_ ?_)); (focus (first | omega | exact ⟨by omega, by omega⟩))))
    refine VDone.turned hG hid (hu _) h11 (fun _ _ _ => rfl) rfl rfl
theorem takeS_stuck {T : List Tok} {s : St} (h : s.err ≠ 0 ∨ T.length ≤ s.at_) : ∀ ws : List (List UInt8), takeS T s ws = ([], s)
  | [] => rfl
  | w :: r => by
    have : isT T s 4 w = false := by
      cases e : isT T s 4 w with
      | false => rfl
      | true =>
        have := isT_lt (by decide) e
        rcases h with h | h
        · exact (h this.1).elim
        · omega
    unfold takeS
    rw [if_neg (by rw [this]; decide)]
    exact takeS_stuck h r
def T_rtake : Tab := ⟨fun id => if id = 2 then ([0, 1, 2, 3, 4, 5, 6, 7, 8, 9, 10, 11, 12, 13, 14, 15, 16, 17, 18, 19, 20, 21, 22], []) else if id = 4 then ([0, 1, 2, 3, 4, 5, 6, 7, 8, 9, 10, 11, 12, 13, 14, 15, 16, 17, 18, 19, 20, 21, 22, 23, 24, 25, 26, 27, 28, 29], []) else ([], []), fun _ => false⟩
theorem T_rtake_ord (id : Nat) : T_rtake.ord id = if id = 2 then ([0, 1, 2, 3, 4, 5, 6, 7, 8, 9, 10, 11, 12, 13, 14, 15, 16, 17, 18, 19, 20, 21, 22], []) else if id = 4 then ([0, 1, 2, 3, 4, 5, 6, 7, 8, 9, 10, 11, 12, 13, 14, 15, 16, 17, 18, 19, 20, 21, 22, 23, 24, 25, 26, 27, 28, 29], []) else ([], []) := rfl
theorem T_rtake_ghost (id : Nat) : T_rtake.ghost id = false := rfl
theorem ok_rtake : fnOk Tryz.prog 27 T_rtake 2 = true := by kernel_rfl
set_option maxRecDepth 100000 in
set_option maxHeartbeats 1000000 in
theorem rtake_walk {T : List Tok} {en : Int} {s : St} {id : Nat} {G : Heap} (h : ReaderAt G id T en s) (ws : List (List UInt8)) (hw : ws.length ≤ 100) : VCalls Tryz.prog 27 [.ptr id 0 0, .slc 1 ws.length (ws.map .str)] G fun u H => u = .str (takeS T s ws).1 ∧ H = G.put id (.cells 0 (rcells T en (takeS T s ws).2)) := by
  refine VCalls.of (SOk.none _) mixed T_rtake ok_rtake fun hG => ?_
  have hid := hG.lt h.1
  have hu := fun s' => rcells_under T en s' G.next
  have h11 := h.1
  have h12 := h.2.1
  have h13 := h.2.2
  have h1 := h.1
  rw [rcells_eq] at h1
  simp (maxSteps:=999999) -dsimp -implicitDefEqProofs only [↓eqD,eqU,eqV,eqW,vbuiltinQ,vlen,vslice,vindex,vstore,Array.toList,simprocAttr,fnWp_some Tryz.func27,Tryz.f27,T_rtake_ord,T_rtake_ghost,FB,FC,none_at]; (repeat ((with_reducible (refine And.intro ?_ ?_)); (focus (first | omega | exact ⟨by omega, by omega⟩))))
  refine vloop_by (fun i : Nat => i ≤ ws.length ∧ takeS T s (ws.drop i) = takeS T s ws) (fun i => Env.of [(0, .ptr id 0 0), (1, .slc 1 ws.length (ws.map .str)), (5, .int .i64 (i : Nat))]) (fun _ => G.over G.next []) (fun i => ws.length - i) 0 ?_ ?_ ?_
  · refine .of ?_ (.over hG rfl trivial (fun _ _ => rfl))
    simp (maxSteps:=999999) -dsimp -implicitDefEqProofs only [↓eqD,eqU,eqV,eqW,vbuiltinQ,vlen,vslice,vindex,vstore,Array.toList,simprocAttr]
    (repeat' apply And.intro) <;> exact .refl _
  · exact ⟨Nat.zero_le _, rfl⟩
  · rintro i ⟨hi0, hi⟩
    have hov : (G.over G.next []).get id = some (.cells 0 [.sl 3 T.length (toksC T), .int .i64 s.at_, .int .i64 en, .int .i64 s.err, .int .i64 s.pos]) := h1
    by_cases hlt : i < ws.length
    · have hx := velem_map (f := V.str) hlt
      rw [List.drop_eq_getElem_cons hlt, takeS] at hi
      have w1 : IntKind.wrap .i64 ((i : Int) + 1) = ((i + 1 : Nat) : Int) := by rw [w64 (by omega) (by omega)]; rfl
      have c1 : (i : Int) < (ws.length : Int) := by omega
      generalize ws[i] = x at hx hi
      by_cases he : s.err = 0
      · by_cases ha : s.at_ < T.length
        · have hxt := toks_at ha
          have hT : T.getD s.at_ ⟨0, [], 0⟩ = T[s.at_] := by simp [List.getD, ha]
          have c2 : (s.at_ : Int) < (T.length : Int) := by omega
          have wa : IntKind.wrap .i64 ((s.at_ : Int) + 1) = ((s.at_ + 1 : Nat) : Int) := by rw [w64 (by omega) (by omega)]; rfl
          have hit : isT T s 4 x = (decide (T[s.at_].kind = 4) && decide (T[s.at_].text = x)) := by
            rw [isT_sign]; unfold signAt; rw [hT]; simp [he, ha]
          generalize T[s.at_] = t at hxt hT hit
          by_cases hk : t.kind = 4
          · by_cases ht : t.text = x
            · have hc : isT T s 4 x = true := by rw [hit]; simp [hk, ht]
              have htk : takeT T s 4 x = ⟨s.at_ + 1, s.pos, s.err⟩ := by unfold takeT; rw [if_pos hc]
              rw [if_pos hc, htk] at hi
              rw [← hi]
              simp (maxSteps:=999999) -dsimp -implicitDefEqProofs only [↓eqD,eqU,eqV,eqW,vbuiltinQ,vlen,vslice,vindex,vstore,Array.toList,simprocAttr,T_rtake_ord,T_rtake_ghost,FB,FC,none_at,hov,he,hx,w1,wa,c1,c2,hxt,Tok.cells,hk,ht]; (repeat ((with_reducible (refine And.intro ?_ ?_)); (focus (first | omega | exact ⟨by omega, by omega⟩))))
              refine VDone.turned hG hid (hu ⟨s.at_ + 1, s.pos, 0⟩) ?_ ?_ rfl rfl
              · simp (maxSteps:=999999) -dsimp -implicitDefEqProofs only [↓eqD,eqU,eqV,eqW,vbuiltinQ,vlen,vslice,vindex,vstore,Array.toList,simprocAttr,rcells_mk,he]
                try rfl
              · intro j hj hji; simp (maxSteps:=999999) -dsimp -implicitDefEqProofs only [↓eqD,eqU,eqV,eqW,vbuiltinQ,vlen,vslice,vindex,vstore,Array.toList,simprocAttr,hji]
                try rfl
            · have hc : isT T s 4 x = false := by rw [hit]; simp [ht]
              rw [if_neg (by rw [hc]; decide)] at hi
              simp (maxSteps:=999999) -dsimp -implicitDefEqProofs only [↓eqD,eqU,eqV,eqW,vbuiltinQ,vlen,vslice,vindex,vstore,Array.toList,simprocAttr,T_rtake_ord,T_rtake_ghost,FB,FC,none_at,hov,he,hx,w1,c1,c2,hxt,Tok.cells,hk,ht]; (repeat ((with_reducible (refine And.intro ?_ ?_)); (focus (first | omega | exact ⟨by omega, by omega⟩))))
              refine ⟨i + 1, ⟨by omega, hi⟩, by omega, .of ?_ (.refl _)⟩
              simp (maxSteps:=999999) -dsimp -implicitDefEqProofs only [↓eqD,eqU,eqV,eqW,vbuiltinQ,vlen,vslice,vindex,vstore,Array.toList,simprocAttr]
              (repeat' apply And.intro) <;> exact .refl _
          · have hc : isT T s 4 x = false := by rw [hit]; simp [hk]
            rw [if_neg (by rw [hc]; decide)] at hi
            simp (maxSteps:=999999) -dsimp -implicitDefEqProofs only [↓eqD,eqU,eqV,eqW,vbuiltinQ,vlen,vslice,vindex,vstore,Array.toList,simprocAttr,T_rtake_ord,T_rtake_ghost,FB,FC,none_at,hov,he,hx,w1,c1,c2,hxt,Tok.cells,hk]; (repeat ((with_reducible (refine And.intro ?_ ?_)); (focus (first | omega | exact ⟨by omega, by omega⟩))))
            refine ⟨i + 1, ⟨by omega, hi⟩, by omega, .of ?_ (.refl _)⟩
            simp (maxSteps:=999999) -dsimp -implicitDefEqProofs only [↓eqD,eqU,eqV,eqW,vbuiltinQ,vlen,vslice,vindex,vstore,Array.toList,simprocAttr]
            (repeat' apply And.intro) <;> exact .refl _
        · have c2 : ¬(s.at_ : Int) < (T.length : Int) := by omega
          rw [takeS_stuck (.inr (by omega))]
          simp (maxSteps:=999999) -dsimp -implicitDefEqProofs only [↓eqD,eqU,eqV,eqW,vbuiltinQ,vlen,vslice,vindex,vstore,Array.toList,simprocAttr,T_rtake_ord,T_rtake_ghost,FB,FC,none_at,hov,he,c1,c2]; (repeat ((with_reducible (refine And.intro ?_ ?_)); (focus (first | omega | exact ⟨by omega, by omega⟩))))
          exact VDone.turned hG hid (hu _) h11 (fun _ _ _ => rfl) rfl rfl
      · rw [takeS_stuck (.inl he)]
        simp (maxSteps:=999999) -dsimp -implicitDefEqProofs only [↓eqD,eqU,eqV,eqW,vbuiltinQ,vlen,vslice,vindex,vstore,Array.toList,simprocAttr,T_rtake_ord,T_rtake_ghost,FB,FC,none_at,hov,he,c1]; (repeat ((with_reducible (refine And.intro ?_ ?_)); (focus (first | omega | exact ⟨by omega, by omega⟩))))
        exact VDone.turned hG hid (hu _) h11 (fun _ _ _ => rfl) rfl rfl
    · have c1 : ¬(i : Int) < (ws.length : Int) := by omega
      have hd : ws.drop i = [] := List.drop_eq_nil_of_le (by omega)
      rw [hd, takeS] at hi
      simp (maxSteps:=999999) -dsimp -implicitDefEqProofs only [↓eqD,eqU,eqV,eqW,vbuiltinQ,vlen,vslice,vindex,vstore,Array.toList,simprocAttr,T_rtake_ord,T_rtake_ghost,FB,FC,none_at,c1]; (repeat ((with_reducible (refine And.intro ?_ ?_)); (focus (first | omega | exact ⟨by omega, by omega⟩))))
      rw [← hi]
      exact VDone.turned hG hid (hu _) h11 (fun _ _ _ => rfl) rfl rfl
theorem tk_zero {T : List Tok} {en : Int} {a : Nat} (h : (tk T en a).err ≠ 0) : (tk T en a).e = Ex.zero := by
  unfold tk takeF at *
  split at h
  · exact (h rfl).elim
  · rename_i c; rw [if_neg c]
theorem rtakeE {T : List Tok} (hT : TokOk T) (hlen : T.length ≤ 1000) (a : Nat) (ha : a ≤ T.length) (en : Int) (G : Heap) : VPure Tryz.prog 100 [.sl 3 T.length (toksC T), .int .i64 a, .int .i64 en] G (tk T en a).v :=
  taker_walk decB_at T hT.short hlen a ha en G
def T_rexpr : Tab := ⟨fun id => if id = 3 then ([0, 1, 2, 3, 4, 5, 6, 7, 8, 9, 10, 11, 12, 13, 14, 15, 16, 17, 18, 19, 20, 21, 22], [(1000012, 18), (3, 18), (7, 18), (11, 18)]) else ([], []), fun _ => false⟩
theorem T_rexpr_ord (id : Nat) : T_rexpr.ord id = if id = 3 then ([0, 1, 2, 3, 4, 5, 6, 7, 8, 9, 10, 11, 12, 13, 14, 15, 16, 17, 18, 19, 20, 21, 22], [(1000012, 18), (3, 18), (7, 18), (11, 18)]) else ([], []) := rfl
theorem T_rexpr_ghost (id : Nat) : T_rexpr.ghost id = false := rfl
theorem ok_rexpr : fnOk Tryz.prog 71 T_rexpr 1 = true := by kernel_rfl
set_option maxRecDepth 100000 in
set_option maxHeartbeats 1000000 in
theorem rexpr_walk {T : List Tok} (hT : TokOk T) {en : Int} {s : St} {id : Nat} {G : Heap} (h : ReaderAt G id T en s) : VCalls Tryz.prog 71 [.ptr id 0 0] G fun u H => u = .agg (exprT T en s).1.cells ∧ H = G.put id (.cells 0 (rcells T en (exprT T en s).2)) := by
  refine VCalls.of (SOk.none _) mixed T_rexpr ok_rexpr fun hG => ?_
  have hid := hG.lt h.1
  have hu := fun s' => rcells_under T en s' G.next
  have h12 := h.2.1
  have h13 := h.2.2
  obtain ⟨a, p0, e0⟩ := s
  have h11 := h.1
  rw [rcells_mk] at h11
  unfold exprT
  simp only at h13 ⊢
  by_cases he : e0 = 0
  · rw [if_pos he]
    subst he
    have w := rtakeE hT h12 a h13 en
    obtain ⟨n, hn, hn1, hn2⟩ := tk_goes (en := en) h13
    have hz := tk_zero (T := T) (en := en) (a := a)
    generalize tk T en a = r at *
    obtain ⟨x, n', pos, er⟩ := r
    simp only at hn hz
    subst hn
    by_cases hr : er = 0
    · subst hr
      obtain ⟨kx, bx, mx, cx, tx, lox, hix, ksx⟩ := x
      simp (maxSteps:=999999) -dsimp -implicitDefEqProofs only [↓eqD,eqU,eqV,eqW,vbuiltinQ,vlen,vslice,vindex,vstore,Array.toList,simprocAttr,fnWp_some Tryz.func71,Tryz.f71,T_rexpr_ord,T_rexpr_ghost,FB,FC,none_at,h11,lt6 hid]; (repeat ((with_reducible (refine And.intro ?_ ?_)); (focus (first | omega | exact ⟨by omega, by omega⟩))))
      refine ⟨VPure.calls (w _) ?_, VPure.calls (w _) ?_⟩
      all_goals
        simp (maxSteps:=999999) -dsimp -implicitDefEqProofs only [↓eqD,eqU,eqV,eqW,vbuiltinQ,vlen,vslice,vindex,vstore,Array.toList,simprocAttr,T_rexpr_ord,T_rexpr_ghost,FB,FC,none_at,h11,Taken.v,Ex.cells,lt6 hid]; (repeat ((with_reducible (refine And.intro ?_ ?_)); (focus (first | omega | exact ⟨by omega, by omega⟩))))
        refine VDone.turned hG hid (hu ⟨n, p0, 0⟩) ?_ ?_ rfl rfl
        · simp (maxSteps:=999999) -dsimp -implicitDefEqProofs only [↓eqD,eqU,eqV,eqW,vbuiltinQ,vlen,vslice,vindex,vstore,Array.toList,simprocAttr,rcells_mk,Int.toNat_natCast,lt6 hid]
        · intro j hj hji; simp (maxSteps:=999999) -dsimp -implicitDefEqProofs only [↓eqD,eqU,eqV,eqW,vbuiltinQ,vlen,vslice,vindex,vstore,Array.toList,simprocAttr,hji,lt6 hj]
    · have hz := hz hr
      subst hz
      simp (maxSteps:=999999) -dsimp -implicitDefEqProofs only [↓eqD,eqU,eqV,eqW,vbuiltinQ,vlen,vslice,vindex,vstore,Array.toList,simprocAttr,fnWp_some Tryz.func71,Tryz.f71,T_rexpr_ord,T_rexpr_ghost,FB,FC,none_at,h11,lt6 hid]; (repeat ((with_reducible (refine And.intro ?_ ?_)); (focus (first | omega | exact ⟨by omega, by omega⟩))))
      refine ⟨VPure.calls (w _) ?_, VPure.calls (w _) ?_⟩
      all_goals
        simp (maxSteps:=999999) -dsimp -implicitDefEqProofs only [↓eqD,eqU,eqV,eqW,vbuiltinQ,vlen,vslice,vindex,vstore,Array.toList,simprocAttr,T_rexpr_ord,T_rexpr_ghost,FB,FC,none_at,h11,hr,ne_eq,Taken.v,Ex.zero,Ex.cells,exsC,lt6 hid]; (repeat ((with_reducible (refine And.intro ?_ ?_)); (focus (first | omega | exact ⟨by omega, by omega⟩))))
        refine VDone.turned hG hid (hu ⟨a, pos, er⟩) ?_ ?_ rfl (by simp [hr, Ex.zero, Ex.cells, exsC])
        · simp (maxSteps:=999999) -dsimp -implicitDefEqProofs only [↓eqD,eqU,eqV,eqW,vbuiltinQ,vlen,vslice,vindex,vstore,Array.toList,simprocAttr,rcells_mk,hr,lt6 hid]
        · intro j hj hji; simp (maxSteps:=999999) -dsimp -implicitDefEqProofs only [↓eqD,eqU,eqV,eqW,vbuiltinQ,vlen,vslice,vindex,vstore,Array.toList,simprocAttr,hji,lt6 hj]
  · rw [if_neg he]
    simp (maxSteps:=999999) -dsimp -implicitDefEqProofs only [↓eqD,eqU,eqV,eqW,vbuiltinQ,vlen,vslice,vindex,vstore,Array.toList,simprocAttr,fnWp_some Tryz.func71,Tryz.f71,T_rexpr_ord,T_rexpr_ghost,FB,FC,none_at,h11,he,ne_eq,lt6 hid]; (repeat ((with_reducible (refine And.intro ?_ ?_)); (focus (first | omega | exact ⟨by omega, by omega⟩))))
    refine .weak (vle_zeroE 0 false 0 0 [] false false) (VDone.turned hG hid (hu ⟨a, p0, e0⟩) ?_ ?_ rfl rfl)
    · simp (maxSteps:=999999) -dsimp -implicitDefEqProofs only [↓eqD,eqU,eqV,eqW,vbuiltinQ,vlen,vslice,vindex,vstore,Array.toList,simprocAttr,rcells_mk,h11,lt6 hid]
    · intro j hj hji; simp (maxSteps:=999999) -dsimp -implicitDefEqProofs only [↓eqD,eqU,eqV,eqW,vbuiltinQ,vlen,vslice,vindex,vstore,Array.toList,simprocAttr,hji,lt6 hj]
end Go.Vf
