/- A part of the proof: Sd. -/
import Derived.Test.YtkcdhmplinjldaaGreatDoorBASc
import Derived.Test.YtkcdhmplinjldaaGreatDoorBAQT
set_option linter.unusedVariables false
set_option linter.unusedSimpArgs false
namespace Go.Vf
open Go.Proofs Go.RowKit
structure TokOk (T : List Tok) : Prop where
  short : Short T
  good : GoodT T
theorem ctake {T : List Tok} (hT : TokOk T) (hlen : T.length ≤ 1000) (a : Nat) (ha : a ≤ T.length) (en : Int) (G : Heap) : VPure Tryz.prog 131 [.sl 3 T.length (toksC T), .int .i64 a, .int .i64 en] G (tk T en a).v := by
  have w := ftake_walk decA_at T hT.short hlen a ha en G
  have hsim := (kids_sim hT.good hT.short (en := en) (decF := decA) 9).1.at (.refl ⟨a, 0, 0⟩) ha
  rw [takeF_eq hsim] at w
  exact w
theorem vle_zeroE (k : Int) (b : Bool) (m s : Int) (t : List UInt8) (lo hi : Bool) : VLe (.agg [.int .i64 k, .bool b, .int .i64 m, .int .i64 s, .str t, .bool lo, .bool hi, .nilsl]) (.agg (Ex.mk k b m s t lo hi []).cells) := vle_nil k b m s t lo hi
theorem pcells_mk (T : List Tok) (en : Int) (a : Nat) (pos err : Int) : pcells T en ⟨a, pos, err⟩ = [.sl 3 T.length (toksC T), .int .i64 (a : Int), .int .i64 en, .int .i64 pos, .int .i64 err] := rfl
def T_cexpr : Tab := ⟨fun id => if id = 3 then ([0, 1, 2, 3, 4, 5, 6, 7, 8, 9, 10, 11, 12, 13, 14, 15, 16, 17, 18, 19, 20, 21, 22], [(1000012, 18), (3, 18), (7, 18), (11, 18)]) else ([], []), fun _ => false⟩
theorem T_cexpr_ord (id : Nat) : T_cexpr.ord id = if id = 3 then ([0, 1, 2, 3, 4, 5, 6, 7, 8, 9, 10, 11, 12, 13, 14, 15, 16, 17, 18, 19, 20, 21, 22], [(1000012, 18), (3, 18), (7, 18), (11, 18)]) else ([], []) := rfl
theorem T_cexpr_ghost (id : Nat) : T_cexpr.ghost id = false := rfl
theorem ok_cexpr : fnOk Tryz.prog 99 T_cexpr 1 = true := by kernel_rfl
set_option maxRecDepth 100000 in
theorem cexpr_walk {T : List Tok} (hT : TokOk T) {en : Int} {s : St} {id : Nat} {G : Heap} (h : ParserAt G id T en s) : VCalls Tryz.prog 99 [.ptr id 0 0] G fun u H => u = .agg (exprT T en s).1.cells ∧ H = G.put id (.cells 0 (pcells T en (exprT T en s).2)) := by
  refine VCalls.of (okXS2) mixed T_cexpr ok_cexpr fun hG => ?_
  have hid := hG.lt h.1
  have hu := fun s' => pcells_under T en s' G.next
  have h12 := h.2.1
  have h13 := h.2.2
  obtain ⟨a, p0, e0⟩ := s
  have h11 := h.1
  rw [pcells_mk] at h11
  unfold exprT
  simp only at h13 ⊢
  by_cases he : e0 = 0
  · rw [if_pos he]
    subst he
    have w := ctake hT h12 a h13 en
    obtain ⟨n, hn, hn1, hn2⟩ := tk_goes (en := en) h13
    generalize tk T en a = r at *
    obtain ⟨⟨kx, bx, mx, cx, tx, lox, hix, ksx⟩, n', pos, er⟩ := r
    simp only at hn
    subst hn
    simp (maxSteps:=999999) -dsimp -implicitDefEqProofs only [↓eqD,eqU,eqV,eqW,vbuiltinQ,vlen,vslice,vindex,vstore,Array.toList,simprocAttr,fnWp_some Tryz.func99,Tryz.f99,T_cexpr_ord,T_cexpr_ghost,FB,FC,none_at,XS2_at,addH_at,gP,qchere,qcfails,parserOf_def,pOf_lit,pcells_mk,ParserAt,h12,h13,h11,lt6 hid]; (repeat ((with_reducible (refine And.intro ?_ ?_)); (focus (first | omega | exact ⟨by omega, by omega⟩))))
    refine ⟨VPure.calls (w _) ?_, VPure.calls (w _) ?_⟩
    all_goals
      by_cases hr : er = 0
      · subst hr
        simp (maxSteps:=999999) -dsimp -implicitDefEqProofs only [↓eqD,eqU,eqV,eqW,vbuiltinQ,vlen,vslice,vindex,vstore,Array.toList,simprocAttr,T_cexpr_ord,T_cexpr_ghost,FB,FC,none_at,XS2_at,addH_at,gP,qchere,qcfails,parserOf_def,pOf_lit,pcells_mk,ParserAt,h12,h13,h11,Taken.v,Ex.cells,lt6 hid]; (repeat ((with_reducible (refine And.intro ?_ ?_)); (focus (first | omega | exact ⟨by omega, by omega⟩))))
        refine VDone.turned hG hid (hu ⟨n, p0, 0⟩) ?_ ?_ rfl rfl
        · simp (maxSteps:=999999) -dsimp -implicitDefEqProofs only [↓eqD,eqU,eqV,eqW,vbuiltinQ,vlen,vslice,vindex,vstore,Array.toList,simprocAttr,pcells_mk,Int.toNat_natCast,lt6 hid]
        · intro j hj hji; simp (maxSteps:=999999) -dsimp -implicitDefEqProofs only [↓eqD,eqU,eqV,eqW,vbuiltinQ,vlen,vslice,vindex,vstore,Array.toList,simprocAttr,hji,lt6 hj]
      · simp (maxSteps:=999999) -dsimp -implicitDefEqProofs only [↓eqD,eqU,eqV,eqW,vbuiltinQ,vlen,vslice,vindex,vstore,Array.toList,simprocAttr,T_cexpr_ord,T_cexpr_ghost,FB,FC,none_at,XS2_at,addH_at,gP,qchere,qcfails,parserOf_def,pOf_lit,pcells_mk,ParserAt,h12,h13,h11,hr,ne_eq,Taken.v,Ex.cells,lt6 hid]; (repeat ((with_reducible (refine And.intro ?_ ?_)); (focus (first | omega | exact ⟨by omega, by omega⟩))))
        refine .weak (vle_zeroE 0 false 0 0 [] false false) (VDone.turned hG hid (hu ⟨a, pos, er⟩) ?_ ?_ rfl rfl)
        · unfold failsT; simp (maxSteps:=999999) -dsimp -implicitDefEqProofs only [↓eqD,eqU,eqV,eqW,vbuiltinQ,vlen,vslice,vindex,vstore,Array.toList,simprocAttr,pcells_mk,hr,lt6 hid]
        · intro j hj hji; simp (maxSteps:=999999) -dsimp -implicitDefEqProofs only [↓eqD,eqU,eqV,eqW,vbuiltinQ,vlen,vslice,vindex,vstore,Array.toList,simprocAttr,hji,lt6 hj]
  · rw [if_neg he]
    simp (maxSteps:=999999) -dsimp -implicitDefEqProofs only [↓eqD,eqU,eqV,eqW,vbuiltinQ,vlen,vslice,vindex,vstore,Array.toList,simprocAttr,fnWp_some Tryz.func99,Tryz.f99,T_cexpr_ord,T_cexpr_ghost,FB,FC,none_at,XS2_at,addH_at,gP,qchere,qcfails,h11,he,ne_eq,lt6 hid]; (repeat ((with_reducible (refine And.intro ?_ ?_)); (focus (first | omega | exact ⟨by omega, by omega⟩))))
    refine .weak (vle_zeroE 0 false 0 0 [] false false) (VDone.turned hG hid (hu ⟨a, p0, e0⟩) ?_ ?_ rfl rfl)
    · simp (maxSteps:=999999) -dsimp -implicitDefEqProofs only [↓eqD,eqU,eqV,eqW,vbuiltinQ,vlen,vslice,vindex,vstore,Array.toList,simprocAttr,pcells_mk,h11,lt6 hid]
    · intro j hj hji; simp (maxSteps:=999999) -dsimp -implicitDefEqProofs only [↓eqD,eqU,eqV,eqW,vbuiltinQ,vlen,vslice,vindex,vstore,Array.toList,simprocAttr,hji,lt6 hj]
def T_cisr : Tab := ⟨fun id => if id = 3 then ([0, 1, 2, 3, 4, 5, 6, 7, 8, 9, 10, 11, 12, 13, 14, 15, 16, 17, 18, 19, 20, 21, 22, 23], [(1000013, 19), (3, 19), (7, 19), (12, 19)]) else ([], []), fun _ => false⟩
theorem T_cisr_ord (id : Nat) : T_cisr.ord id = if id = 3 then ([0, 1, 2, 3, 4, 5, 6, 7, 8, 9, 10, 11, 12, 13, 14, 15, 16, 17, 18, 19, 20, 21, 22, 23], [(1000013, 19), (3, 19), (7, 19), (12, 19)]) else ([], []) := rfl
theorem T_cisr_ghost (id : Nat) : T_cisr.ghost id = false := rfl
theorem ok_cisr : fnOk Tryz.prog 97 T_cisr 1 = true := by kernel_rfl
set_option maxRecDepth 100000 in
set_option maxHeartbeats 1000000 in
theorem cisr_walk {T : List Tok} (hT : TokOk T) {en : Int} {s : St} {id : Nat} {G : Heap} (h : ParserAt G id T en s) : VCalls Tryz.prog 97 [.ptr id 0 0] G (Stays G (.bool (isRangeT T en s))) := by
  refine VCalls.of (okXS1) mixed T_cisr ok_cisr fun hG => ?_
  have hid := hG.lt h.1
  have h11 := h.1
  have h12 := h.2.1
  have h13 := h.2.2
  have hre : pcells T en s = [.sl 3 T.length (toksC T), .int .i64 s.at_, .int .i64 en, .int .i64 s.pos, .int .i64 s.err] := rfl
  rw [hre] at h11
  have hpo : pOf (some (.cells 0 [.sl 3 T.length (toksC T), .int .i64 s.at_, .int .i64 en, .int .i64 s.pos, .int .i64 s.err])) = some (T, en, s) := pOf_pcells T en s
  have w1 : IntKind.wrap .i64 ((s.at_ : Int) + 1) = ((s.at_ + 1 : Nat) : Int) := by rw [w64 (by omega) (by omega)]; rfl
  have rest : ∀ (hlt : s.at_ < T.length), True := fun _ => trivial
  unfold isRangeT
  by_cases ho : isT T s 4 [91] = true
  case neg =>
    have ho : isT T s 4 [91] = false := by simpa using ho
    by_cases hp : isT T s 4 [40] = true
    case neg =>
      have hp : isT T s 4 [40] = false := by simpa using hp
      simp (maxSteps:=999999) -dsimp -implicitDefEqProofs only [↓eqD,eqU,eqV,eqW,vbuiltinQ,vlen,vslice,vindex,vstore,Array.toList,simprocAttr,fnWp_some Tryz.func97,Tryz.f97,T_cisr_ord,T_cisr_ghost,FB,FC,none_at,XS1_at,addH_at,gQ,qcis,parserOf_def,hpo,ParserAt,hre,h12,h13,h11,ho,hp,lt6 hid]; (repeat ((with_reducible (refine And.intro ?_ ?_)); (focus (first | omega | exact ⟨by omega, by omega⟩))))
      first | exact VDone.back hG (fun _ _ => rfl) rfl rfl | (refine VDone.back hG ?_ rfl rfl; intro j hj; simp (maxSteps:=999999) -dsimp -implicitDefEqProofs only [↓eqD,eqU,eqV,eqW,vbuiltinQ,vlen,vslice,vindex,vstore,Array.toList,simprocAttr,lt6 hj])
    have hlt := (isT_lt (by decide) hp).2
    have w := ctake hT h12 (s.at_ + 1) hlt en
    obtain ⟨n, hn, hn1, hn2⟩ := tk_goes (en := en) hlt
    generalize tk T en (s.at_ + 1) = r at *
    obtain ⟨⟨kx, bx, mx, cx, tx, lox, hix, ksx⟩, n', pos, er⟩ := r
    simp only at hn
    subst hn
    unfold signAt
    simp (maxSteps:=999999) -dsimp -implicitDefEqProofs only [↓eqD,eqU,eqV,eqW,vbuiltinQ,vlen,vslice,vindex,vstore,Array.toList,simprocAttr,fnWp_some Tryz.func97,Tryz.f97,T_cisr_ord,T_cisr_ghost,FB,FC,none_at,XS1_at,addH_at,gQ,qcis,parserOf_def,hpo,ParserAt,hre,h12,h13,h11,ho,hp,w1,lt6 hid]; (repeat ((with_reducible (refine And.intro ?_ ?_)); (focus (first | omega | exact ⟨by omega, by omega⟩))))
    refine ⟨VPure.calls (w _) ?_, VPure.calls (w _) ?_⟩
    all_goals
      by_cases hr : er = 0
      · subst hr
        by_cases ha : n < T.length
        · have hx := toks_at ha
          have hTa : T.getD n ⟨0, [], 0⟩ = T[n] := by simp [List.getD, ha]
          have c1 : (n : Int) < (T.length : Int) := by omega
          try simp only [Int.toNat_natCast]
          rw [hTa]
          generalize T[n] = t at hx hTa
          by_cases hk4 : t.kind = 4
          · simp (maxSteps:=999999) -dsimp -implicitDefEqProofs only [↓eqD,eqU,eqV,eqW,vbuiltinQ,vlen,vslice,vindex,vstore,Array.toList,simprocAttr,T_cisr_ord,T_cisr_ghost,FB,FC,none_at,XS1_at,addH_at,gQ,qcis,h11,Taken.v,Ex.cells,c1,hx,Tok.cells,hk4,ha,lt6 hid]; (repeat ((with_reducible (refine And.intro ?_ ?_)); (focus (first | omega | exact ⟨by omega, by omega⟩))))
            (repeat ((with_reducible (refine And.intro ?_ ?_)); (focus (first | omega | exact ⟨by omega, by omega⟩)))); (refine VDone.back hG ?_ rfl ?_); (intro j hj; first | rfl | simp (maxSteps:=999999) -dsimp -implicitDefEqProofs only [↓eqD,eqU,eqV,eqW,vbuiltinQ,vlen,vslice,vindex,vstore,Array.toList,simprocAttr,lt6 hj]); (first | rfl | simp [hk4])
          · simp (maxSteps:=999999) -dsimp -implicitDefEqProofs only [↓eqD,eqU,eqV,eqW,vbuiltinQ,vlen,vslice,vindex,vstore,Array.toList,simprocAttr,T_cisr_ord,T_cisr_ghost,FB,FC,none_at,XS1_at,addH_at,gQ,qcis,h11,Taken.v,Ex.cells,c1,hx,Tok.cells,hk4,ha,lt6 hid]; (repeat ((with_reducible (refine And.intro ?_ ?_)); (focus (first | omega | exact ⟨by omega, by omega⟩))))
            (repeat ((with_reducible (refine And.intro ?_ ?_)); (focus (first | omega | exact ⟨by omega, by omega⟩)))); (refine VDone.back hG ?_ rfl ?_); (intro j hj; first | rfl | simp (maxSteps:=999999) -dsimp -implicitDefEqProofs only [↓eqD,eqU,eqV,eqW,vbuiltinQ,vlen,vslice,vindex,vstore,Array.toList,simprocAttr,lt6 hj]); (first | rfl | simp [hk4])
        · have c1 : ¬(n : Int) < (T.length : Int) := by omega
          simp (maxSteps:=999999) -dsimp -implicitDefEqProofs only [↓eqD,eqU,eqV,eqW,vbuiltinQ,vlen,vslice,vindex,vstore,Array.toList,simprocAttr,T_cisr_ord,T_cisr_ghost,FB,FC,none_at,XS1_at,addH_at,gQ,qcis,h11,Taken.v,Ex.cells,c1,ha,Int.toNat_natCast,lt6 hid]; (repeat ((with_reducible (refine And.intro ?_ ?_)); (focus (first | omega | exact ⟨by omega, by omega⟩))))
          (repeat ((with_reducible (refine And.intro ?_ ?_)); (focus (first | omega | exact ⟨by omega, by omega⟩)))); (refine VDone.back hG ?_ rfl ?_); (intro j hj; first | rfl | simp (maxSteps:=999999) -dsimp -implicitDefEqProofs only [↓eqD,eqU,eqV,eqW,vbuiltinQ,vlen,vslice,vindex,vstore,Array.toList,simprocAttr,lt6 hj]); (first | rfl | simp [])
      · simp (maxSteps:=999999) -dsimp -implicitDefEqProofs only [↓eqD,eqU,eqV,eqW,vbuiltinQ,vlen,vslice,vindex,vstore,Array.toList,simprocAttr,T_cisr_ord,T_cisr_ghost,FB,FC,none_at,XS1_at,addH_at,gQ,qcis,h11,Taken.v,Ex.cells,hr,lt6 hid]; (repeat ((with_reducible (refine And.intro ?_ ?_)); (focus (first | omega | exact ⟨by omega, by omega⟩))))
        (repeat ((with_reducible (refine And.intro ?_ ?_)); (focus (first | omega | exact ⟨by omega, by omega⟩)))); (refine VDone.back hG ?_ rfl ?_); (intro j hj; first | rfl | simp (maxSteps:=999999) -dsimp -implicitDefEqProofs only [↓eqD,eqU,eqV,eqW,vbuiltinQ,vlen,vslice,vindex,vstore,Array.toList,simprocAttr,lt6 hj]); (first | rfl | simp [])
  have hlt := (isT_lt (by decide) ho).2
  have w := ctake hT h12 (s.at_ + 1) hlt en
  obtain ⟨n, hn, hn1, hn2⟩ := tk_goes (en := en) hlt
  generalize tk T en (s.at_ + 1) = r at *
  obtain ⟨⟨kx, bx, mx, cx, tx, lox, hix, ksx⟩, n', pos, er⟩ := r
  simp only at hn
  subst hn
  unfold signAt
  simp (maxSteps:=999999) -dsimp -implicitDefEqProofs only [↓eqD,eqU,eqV,eqW,vbuiltinQ,vlen,vslice,vindex,vstore,Array.toList,simprocAttr,fnWp_some Tryz.func97,Tryz.f97,T_cisr_ord,T_cisr_ghost,FB,FC,none_at,XS1_at,addH_at,gQ,qcis,parserOf_def,hpo,ParserAt,hre,h12,h13,h11,ho,w1,lt6 hid]; (repeat ((with_reducible (refine And.intro ?_ ?_)); (focus (first | omega | exact ⟨by omega, by omega⟩))))
  refine ⟨VPure.calls (w _) ?_, VPure.calls (w _) ?_⟩
  all_goals
    by_cases hr : er = 0
    · subst hr
      by_cases ha : n < T.length
      · have hx := toks_at ha
        have hTa : T.getD n ⟨0, [], 0⟩ = T[n] := by simp [List.getD, ha]
        have c1 : (n : Int) < (T.length : Int) := by omega
        try simp only [Int.toNat_natCast]
        rw [hTa]
        generalize T[n] = t at hx hTa
        by_cases hk4 : t.kind = 4
        · simp (maxSteps:=999999) -dsimp -implicitDefEqProofs only [↓eqD,eqU,eqV,eqW,vbuiltinQ,vlen,vslice,vindex,vstore,Array.toList,simprocAttr,T_cisr_ord,T_cisr_ghost,FB,FC,none_at,XS1_at,addH_at,gQ,qcis,h11,Taken.v,Ex.cells,c1,hx,Tok.cells,hk4,ha,lt6 hid]; (repeat ((with_reducible (refine And.intro ?_ ?_)); (focus (first | omega | exact ⟨by omega, by omega⟩))))
          (repeat ((with_reducible (refine And.intro ?_ ?_)); (focus (first | omega | exact ⟨by omega, by omega⟩)))); (refine VDone.back hG ?_ rfl ?_); (intro j hj; first | rfl | simp (maxSteps:=999999) -dsimp -implicitDefEqProofs only [↓eqD,eqU,eqV,eqW,vbuiltinQ,vlen,vslice,vindex,vstore,Array.toList,simprocAttr,lt6 hj]); (first | rfl | simp [hk4])
        · simp (maxSteps:=999999) -dsimp -implicitDefEqProofs only [↓eqD,eqU,eqV,eqW,vbuiltinQ,vlen,vslice,vindex,vstore,Array.toList,simprocAttr,T_cisr_ord,T_cisr_ghost,FB,FC,none_at,XS1_at,addH_at,gQ,qcis,h11,Taken.v,Ex.cells,c1,hx,Tok.cells,hk4,ha,lt6 hid]; (repeat ((with_reducible (refine And.intro ?_ ?_)); (focus (first | omega | exact ⟨by omega, by omega⟩))))
          (repeat ((with_reducible (refine And.intro ?_ ?_)); (focus (first | omega | exact ⟨by omega, by omega⟩)))); (refine VDone.back hG ?_ rfl ?_); (intro j hj; first | rfl | simp (maxSteps:=999999) -dsimp -implicitDefEqProofs only [↓eqD,eqU,eqV,eqW,vbuiltinQ,vlen,vslice,vindex,vstore,Array.toList,simprocAttr,lt6 hj]); (first | rfl | simp [hk4])
      · have c1 : ¬(n : Int) < (T.length : Int) := by omega
        simp (maxSteps:=999999) -dsimp -implicitDefEqProofs only [↓eqD,eqU,eqV,eqW,vbuiltinQ,vlen,vslice,vindex,vstore,Array.toList,simprocAttr,T_cisr_ord,T_cisr_ghost,FB,FC,none_at,XS1_at,addH_at,gQ,qcis,h11,Taken.v,Ex.cells,c1,ha,Int.toNat_natCast,lt6 hid]; (repeat ((with_reducible (refine And.intro ?_ ?_)); (focus (first | omega | exact ⟨by omega, by omega⟩))))
        (repeat ((with_reducible (refine And.intro ?_ ?_)); (focus (first | omega | exact ⟨by omega, by omega⟩)))); (refine VDone.back hG ?_ rfl ?_); (intro j hj; first | rfl | simp (maxSteps:=999999) -dsimp -implicitDefEqProofs only [↓eqD,eqU,eqV,eqW,vbuiltinQ,vlen,vslice,vindex,vstore,Array.toList,simprocAttr,lt6 hj]); (first | rfl | simp [])
    · simp (maxSteps:=999999) -dsimp -implicitDefEqProofs only [↓eqD,eqU,eqV,eqW,vbuiltinQ,vlen,vslice,vindex,vstore,Array.toList,simprocAttr,T_cisr_ord,T_cisr_ghost,FB,FC,none_at,XS1_at,addH_at,gQ,qcis,h11,Taken.v,Ex.cells,hr,lt6 hid]; (repeat ((with_reducible (refine And.intro ?_ ?_)); (focus (first | omega | exact ⟨by omega, by omega⟩))))
      (repeat ((with_reducible (refine And.intro ?_ ?_)); (focus (first | omega | exact ⟨by omega, by omega⟩)))); (refine VDone.back hG ?_ rfl ?_); (intro j hj; first | rfl | simp (maxSteps:=999999) -dsimp -implicitDefEqProofs only [↓eqD,eqU,eqV,eqW,vbuiltinQ,vlen,vslice,vindex,vstore,Array.toList,simprocAttr,lt6 hj]); (first | rfl | simp [])
end Go.Vf
