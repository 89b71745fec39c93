/- A part of the proof: Sk, Sl. -/
import Derived.Test.YtkcdhmplinjldaaGreatDoorBASe
set_option linter.unusedVariables false
set_option linter.unusedSimpArgs false
namespace Go.Vf
open Go.Proofs Go.RowKit
def XS3 : Specs := (Specs.none.addH 41 (gP (q71 4))).addH 25 (gP p24)
theorem XS3_at (f : FuncId) (xs : List V) (G : Heap) : XS3 f xs G = ((Specs.none.addH 41 (gP (q71 4))).addH 25 (gP p24)) f xs G := rfl
theorem sp_may {S : Specs} (hS : SOk Tryz.prog S) : SOk Tryz.prog (S.addH 41 (gP (q71 4))) := okP hS fun T en s id G xs v s' h e => by
  unfold q71 at e
  split at e
  · cases e; exact cmay_walk h _
  · cases e
theorem sp_must {S : Specs} (hS : SOk Tryz.prog S) : SOk Tryz.prog (S.addH 25 (gP p24)) := okP hS fun T en s id G xs v s' h e => by
  unfold p24 at e
  split at e
  · cases e; exact cmust_walk h _
  · cases e
theorem okXS3 : SOk Tryz.prog XS3 := sp_must (sp_may (SOk.none _))
theorem mustT_true (T : List Tok) (en : Int) (s : St) : mustT T en s true = s := rfl
theorem vle_te0 {x0 x1 x2 x3 x4 x5 x6 x7 x8 x9 x10 x11 x12 x13 x14 x15 x16 x17 x18 x19 : V} :
    VLe (.agg [x0, x1, x2, x3, x4, x5, x6, x7, x8, x9, x10, x11, x12, x13, x14, x15, x16, x17, x18, x19, .nilsl]) (.agg [x0, x1, x2, x3, x4, x5, x6, x7, x8, x9, x10, x11, x12, x13, x14, x15, x16, x17, x18, x19, .sl 21 0 []]) :=
  .agg ⟨.refl _, .refl _, .refl _, .refl _, .refl _, .refl _, .refl _, .refl _, .refl _, .refl _, .refl _, .refl _, .refl _, .refl _, .refl _, .refl _, .refl _, .refl _, .refl _, .refl _, .nil_sl 21, trivial⟩
theorem Te.cells_eq (k : Int) (r : List UInt8) (a b : Ex) (lo hi : Bool) (ks : List Te) : (Te.mk k r a b lo hi ks).cells = .int .i64 k :: .str r :: (a.cells ++ (b.cells ++ [.bool lo, .bool hi, .sl 21 ks.length (tesC ks)])) := by rw [Te.cells]
theorem ok_cranged : fnOk Tryz.prog 98 T0 1 = true := by kernel_rfl
set_option maxRecDepth 100000 in
set_option maxHeartbeats 1000000 in
theorem cranged_walk {T : List Tok} (hT : TokOk T) {en : Int} {s : St} {id : Nat} {G : Heap} (h : ParserAt G id T en s) : VCalls Tryz.prog 98 [.ptr id 0 0] G fun u H => u = .agg (rangedT T en s).1.cells ∧ H = G.put id (.cells 0 (pcells T en (rangedT T en s).2)) := by
  refine VCalls.of (okXS3) mixed T0 ok_cranged fun hG => ?_
  have hid := hG.lt h.1
  have hu := fun s' => pcells_under T en s' G.next
  have h11 := h.1
  have h12 := h.2.1
  have h13 := h.2.2
  unfold rangedT
  have g1 := (takeT_goes (T := T) (s := s) (k := 4) (w := [91]) (by decide) h13).2
  cases hi : isT T s 4 [91] with
  | true =>
    have ho : opT T en s [91] [40] = takeT T s 4 [91] := by unfold opT; rw [if_pos hi]
    rw [ho]
    simp (maxSteps:=999999) -dsimp -implicitDefEqProofs only [↓eqD,eqU,eqV,eqW,vbuiltinQ,vlen,vslice,vindex,vstore,Array.toList,simprocAttr,fnWp_some Tryz.func98,Tryz.f98,T0,FB,FC,none_at,XS3_at,addH_at,gP,q71,p24,parserOf_def,pOf_pcells,ParserAt,h11,h12,h13,g1,hi,mustT_true,lt6 hid]; (repeat ((with_reducible (refine And.intro ?_ ?_)); (focus (first | omega | exact ⟨by omega, by omega⟩))))
    refine (cexpr_walk hT (en := en) (s := takeT T s 4 [91]) ⟨by simp (maxSteps:=999999) -dsimp -implicitDefEqProofs only [↓eqD,eqU,eqV,eqW,vbuiltinQ,vlen,vslice,vindex,vstore,Array.toList,simprocAttr,lt6 hid], h12, g1⟩).mono ?_
    rintro _ _ ⟨rfl, rfl⟩
    generalize takeT T s 4 [91] = s1 at *
    have m1 := exprT_goes (T := T) (en := en) s1 g1
    generalize exprT T en s1 = ks at *
    obtain ⟨⟨k1, b1, m1', c1, t1, lo1, hi1, kids1⟩, s2⟩ := ks
    simp only at m1 ⊢
    have a2 := m1.2
    have a3 := (takeT_goes (T := T) (s := s2) (k := 4) (w := [46, 46]) (by decide) a2).2
    simp (maxSteps:=999999) -dsimp -implicitDefEqProofs only [↓eqD,eqU,eqV,eqW,vbuiltinQ,vlen,vslice,vindex,vstore,Array.toList,simprocAttr,T0,FB,FC,none_at,XS3_at,addH_at,gP,q71,p24,parserOf_def,pOf_pcells,ParserAt,Ex.cells,h12,a2,a3,lt6 hid]; (repeat ((with_reducible (refine And.intro ?_ ?_)); (focus (first | omega | exact ⟨by omega, by omega⟩))))
    have a4 : (mustT T en (takeT T s2 4 [46, 46]) (isT T s2 4 [46, 46])).at_ ≤ T.length := by rw [mustT_at]; exact a3
    generalize mustT T en (takeT T s2 4 [46, 46]) (isT T s2 4 [46, 46]) = s3 at *
    refine (cexpr_walk hT (en := en) (s := s3) ⟨by simp (maxSteps:=999999) -dsimp -implicitDefEqProofs only [↓eqD,eqU,eqV,eqW,vbuiltinQ,vlen,vslice,vindex,vstore,Array.toList,simprocAttr,lt6 hid], h12, a4⟩).mono ?_
    rintro _ _ ⟨rfl, rfl⟩
    have m3 := exprT_goes (T := T) (en := en) s3 a4
    generalize exprT T en s3 = ks at *
    obtain ⟨⟨k2, b2, m2', c2, t2, lo2, hi2, kids2⟩, s4⟩ := ks
    simp only at m3 ⊢
    have a5 := m3.2
    have a6 := (takeT_goes (T := T) (s := s4) (k := 4) (w := [93]) (by decide) a5).2
    unfold opT
    cases hc : isT T s4 4 [93] with
    | true =>
      rw [if_pos rfl]
      simp (maxSteps:=999999) -dsimp -implicitDefEqProofs only [↓eqD,eqU,eqV,eqW,vbuiltinQ,vlen,vslice,vindex,vstore,Array.toList,simprocAttr,T0,FB,FC,none_at,XS3_at,addH_at,gP,q71,p24,parserOf_def,pOf_pcells,ParserAt,Ex.cells,h12,a5,a6,hc,mustT_true,lt6 hid]; (repeat ((with_reducible (refine And.intro ?_ ?_)); (focus (first | omega | exact ⟨by omega, by omega⟩))))
      refine .weak vle_te0 (VDone.turned hG hid (hu _) ?_ ?_ rfl ?_)
      · simp (maxSteps:=999999) -dsimp -implicitDefEqProofs only [↓eqD,eqU,eqV,eqW,vbuiltinQ,vlen,vslice,vindex,vstore,Array.toList,simprocAttr,lt6 hid]
      · intro j hj hji; simp (maxSteps:=999999) -dsimp -implicitDefEqProofs only [↓eqD,eqU,eqV,eqW,vbuiltinQ,vlen,vslice,vindex,vstore,Array.toList,simprocAttr,lt6 hj,hji]
      · rfl
    | false =>
      rw [if_neg (by decide)]
      have hs5 := takeT_no hc
      have a7 := (takeT_goes (T := T) (s := s4) (k := 4) (w := [41]) (by decide) a5).2
      rw [hs5]
      simp (maxSteps:=999999) -dsimp -implicitDefEqProofs only [↓eqD,eqU,eqV,eqW,vbuiltinQ,vlen,vslice,vindex,vstore,Array.toList,simprocAttr,T0,FB,FC,none_at,XS3_at,addH_at,gP,q71,p24,parserOf_def,pOf_pcells,ParserAt,Ex.cells,h12,a5,a6,a7,hc,hs5,lt6 hid]; (repeat ((with_reducible (refine And.intro ?_ ?_)); (focus (first | omega | exact ⟨by omega, by omega⟩))))
      refine .weak vle_te0 (VDone.turned hG hid (hu _) ?_ ?_ rfl ?_)
      · simp (maxSteps:=999999) -dsimp -implicitDefEqProofs only [↓eqD,eqU,eqV,eqW,vbuiltinQ,vlen,vslice,vindex,vstore,Array.toList,simprocAttr,lt6 hid]
      · intro j hj hji; simp (maxSteps:=999999) -dsimp -implicitDefEqProofs only [↓eqD,eqU,eqV,eqW,vbuiltinQ,vlen,vslice,vindex,vstore,Array.toList,simprocAttr,lt6 hj,hji]
      · rfl
  | false =>
    have hs := takeT_no hi
    have ho : opT T en s [91] [40] = mustT T en (takeT T s 4 [40]) (isT T s 4 [40]) := by unfold opT; rw [if_neg (by rw [hi]; decide), hs]
    rw [ho]
    have g2 := (takeT_goes (T := T) (s := s) (k := 4) (w := [40]) (by decide) h13).2
    simp (maxSteps:=999999) -dsimp -implicitDefEqProofs only [↓eqD,eqU,eqV,eqW,vbuiltinQ,vlen,vslice,vindex,vstore,Array.toList,simprocAttr,fnWp_some Tryz.func98,Tryz.f98,T0,FB,FC,none_at,XS3_at,addH_at,gP,q71,p24,parserOf_def,pOf_pcells,ParserAt,h11,h12,h13,g2,hi,hs,lt6 hid]; (repeat ((with_reducible (refine And.intro ?_ ?_)); (focus (first | omega | exact ⟨by omega, by omega⟩))))
    have g1 : (mustT T en (takeT T s 4 [40]) (isT T s 4 [40])).at_ ≤ T.length := by rw [mustT_at]; exact g2
    generalize mustT T en (takeT T s 4 [40]) (isT T s 4 [40]) = s1 at *
    refine (cexpr_walk hT (en := en) (s := s1) ⟨by simp (maxSteps:=999999) -dsimp -implicitDefEqProofs only [↓eqD,eqU,eqV,eqW,vbuiltinQ,vlen,vslice,vindex,vstore,Array.toList,simprocAttr,lt6 hid], h12, g1⟩).mono ?_
    rintro _ _ ⟨rfl, rfl⟩
    have m1 := exprT_goes (T := T) (en := en) s1 g1
    generalize exprT T en s1 = ks at *
    obtain ⟨⟨k1, b1, m1', c1, t1, lo1, hi1, kids1⟩, s2⟩ := ks
    simp only at m1 ⊢
    have a2 := m1.2
    have a3 := (takeT_goes (T := T) (s := s2) (k := 4) (w := [46, 46]) (by decide) a2).2
    simp (maxSteps:=999999) -dsimp -implicitDefEqProofs only [↓eqD,eqU,eqV,eqW,vbuiltinQ,vlen,vslice,vindex,vstore,Array.toList,simprocAttr,T0,FB,FC,none_at,XS3_at,addH_at,gP,q71,p24,parserOf_def,pOf_pcells,ParserAt,Ex.cells,h12,a2,a3,lt6 hid]; (repeat ((with_reducible (refine And.intro ?_ ?_)); (focus (first | omega | exact ⟨by omega, by omega⟩))))
    have a4 : (mustT T en (takeT T s2 4 [46, 46]) (isT T s2 4 [46, 46])).at_ ≤ T.length := by rw [mustT_at]; exact a3
    generalize mustT T en (takeT T s2 4 [46, 46]) (isT T s2 4 [46, 46]) = s3 at *
    refine (cexpr_walk hT (en := en) (s := s3) ⟨by simp (maxSteps:=999999) -dsimp -implicitDefEqProofs only [↓eqD,eqU,eqV,eqW,vbuiltinQ,vlen,vslice,vindex,vstore,Array.toList,simprocAttr,lt6 hid], h12, a4⟩).mono ?_
    rintro _ _ ⟨rfl, rfl⟩
    have m3 := exprT_goes (T := T) (en := en) s3 a4
    generalize exprT T en s3 = ks at *
    obtain ⟨⟨k2, b2, m2', c2, t2, lo2, hi2, kids2⟩, s4⟩ := ks
    simp only at m3 ⊢
    have a5 := m3.2
    have a6 := (takeT_goes (T := T) (s := s4) (k := 4) (w := [93]) (by decide) a5).2
    unfold opT
    cases hc : isT T s4 4 [93] with
    | true =>
      rw [if_pos rfl]
      simp (maxSteps:=999999) -dsimp -implicitDefEqProofs only [↓eqD,eqU,eqV,eqW,vbuiltinQ,vlen,vslice,vindex,vstore,Array.toList,simprocAttr,T0,FB,FC,none_at,XS3_at,addH_at,gP,q71,p24,parserOf_def,pOf_pcells,ParserAt,Ex.cells,h12,a5,a6,hc,mustT_true,lt6 hid]; (repeat ((with_reducible (refine And.intro ?_ ?_)); (focus (first | omega | exact ⟨by omega, by omega⟩))))
      refine .weak vle_te0 (VDone.turned hG hid (hu _) ?_ ?_ rfl ?_)
      · simp (maxSteps:=999999) -dsimp -implicitDefEqProofs only [↓eqD,eqU,eqV,eqW,vbuiltinQ,vlen,vslice,vindex,vstore,Array.toList,simprocAttr,lt6 hid]
      · intro j hj hji; simp (maxSteps:=999999) -dsimp -implicitDefEqProofs only [↓eqD,eqU,eqV,eqW,vbuiltinQ,vlen,vslice,vindex,vstore,Array.toList,simprocAttr,lt6 hj,hji]
      · rfl
    | false =>
      rw [if_neg (by decide)]
      have hs5 := takeT_no hc
      have a7 := (takeT_goes (T := T) (s := s4) (k := 4) (w := [41]) (by decide) a5).2
      rw [hs5]
      simp (maxSteps:=999999) -dsimp -implicitDefEqProofs only [↓eqD,eqU,eqV,eqW,vbuiltinQ,vlen,vslice,vindex,vstore,Array.toList,simprocAttr,T0,FB,FC,none_at,XS3_at,addH_at,gP,q71,p24,parserOf_def,pOf_pcells,ParserAt,Ex.cells,h12,a5,a6,a7,hc,hs5,lt6 hid]; (repeat ((with_reducible (refine And.intro ?_ ?_)); (focus (first | omega | exact ⟨by omega, by omega⟩))))
      refine .weak vle_te0 (VDone.turned hG hid (hu _) ?_ ?_ rfl ?_)
      · simp (maxSteps:=999999) -dsimp -implicitDefEqProofs only [↓eqD,eqU,eqV,eqW,vbuiltinQ,vlen,vslice,vindex,vstore,Array.toList,simprocAttr,lt6 hid]
      · intro j hj hji; simp (maxSteps:=999999) -dsimp -implicitDefEqProofs only [↓eqD,eqU,eqV,eqW,vbuiltinQ,vlen,vslice,vindex,vstore,Array.toList,simprocAttr,lt6 hj,hji]
      · rfl
end Go.Vf
set_option linter.unusedVariables false
set_option linter.unusedSimpArgs false
namespace Go.Vf
open Go.Proofs Go.RowKit
def XS4 : Specs := Specs.none.add 94 g19
theorem XS4_at (f : FuncId) (xs : List V) (G : Heap) : XS4 f xs G = (Specs.none.add 94 g19) f xs G := rfl
theorem okXS4 : SOk Tryz.prog XS4 := by
  refine (SOk.none _).add ?_
  intro xs G p v e hp
  unfold g19 at e
  split at e
  · cases e; exact contains_walk _ _ hp G
  · cases e
theorem vle_te1 {x0 x1 x2 x3 x4 x5 x6 x7 x8 x9 x10 x11 x12 x13 x14 x15 x16 x18 x19 : V} :
    VLe (.agg [x0, x1, x2, x3, x4, x5, x6, x7, x8, x9, x10, x11, x12, x13, x14, x15, x16, .nilsl, x18, x19, .nilsl]) (.agg [x0, x1, x2, x3, x4, x5, x6, x7, x8, x9, x10, x11, x12, x13, x14, x15, x16, .sl 8 0 [], x18, x19, .sl 21 0 []]) :=
  .agg ⟨.refl _, .refl _, .refl _, .refl _, .refl _, .refl _, .refl _, .refl _, .refl _, .refl _, .refl _, .refl _, .refl _, .refl _, .refl _, .refl _, .refl _, .nil_sl 8, .refl _, .refl _, .nil_sl 21, trivial⟩
theorem relB_len : relB.length < 4294967281 := by decide
def T_ctest : Tab := ⟨fun id => if id = 4 then ([0, 1, 2, 3, 4, 5, 6, 7, 8, 9, 10, 11, 12, 13, 14, 15, 16, 17, 18, 19, 20, 21, 22, 23, 24, 25, 26, 27, 28, 29, 30, 31, 32, 33, 34, 35, 36, 37, 38, 39], []) else if id = 5 then ([0, 1, 2, 3, 4, 5, 6, 7, 8, 9, 10, 11, 12], []) else ([], []), fun _ => false⟩
theorem T_ctest_ord (id : Nat) : T_ctest.ord id = if id = 4 then ([0, 1, 2, 3, 4, 5, 6, 7, 8, 9, 10, 11, 12, 13, 14, 15, 16, 17, 18, 19, 20, 21, 22, 23, 24, 25, 26, 27, 28, 29, 30, 31, 32, 33, 34, 35, 36, 37, 38, 39], []) else if id = 5 then ([0, 1, 2, 3, 4, 5, 6, 7, 8, 9, 10, 11, 12], []) else ([], []) := rfl
theorem T_ctest_ghost (id : Nat) : T_ctest.ghost id = false := rfl
theorem ok_ctest : fnOk Tryz.prog 70 T_ctest 1 = true := by kernel_rfl
set_option maxRecDepth 100000 in
set_option maxHeartbeats 1000000 in
theorem ctest_walk {T : List Tok} (hT : TokOk T) {en : Int} {s : St} {id : Nat} {G : Heap} (h : ParserAt G id T en s) (he : s.err = 0) : VCalls Tryz.prog 70 [.ptr id 0 0] G fun u H => u = .agg (testT T en s).1.cells ∧ H = G.put id (.cells 0 (pcells T en (testT T en s).2)) := by
  refine VCalls.of (okXS4) mixed T_ctest ok_ctest fun hG => ?_
  have hid := hG.lt h.1
  have hu := fun s' => pcells_under T en s' G.next
  have h11 := h.1
  have h12 := h.2.1
  have h13 := h.2.2
  have hre : pcells T en s = [.sl 3 T.length (toksC T), .int .i64 s.at_, .int .i64 en, .int .i64 s.pos, .int .i64 s.err] := rfl
  unfold testT
  simp (maxSteps:=999999) -dsimp -implicitDefEqProofs only [↓eqD,eqU,eqV,eqW,vbuiltinQ,vlen,vslice,vindex,vstore,Array.toList,simprocAttr,fnWp_some Tryz.func70,Tryz.f70,T_ctest_ord,T_ctest_ghost,FB,FC,none_at,XS4_at,add_at,lt6 hid]; (repeat ((with_reducible (refine And.intro ?_ ?_)); (focus (first | omega | exact ⟨by omega, by omega⟩))))
  refine (cisr_walk hT (en := en) (s := s) ⟨by simp (maxSteps:=999999) -dsimp -implicitDefEqProofs only [↓eqD,eqU,eqV,eqW,vbuiltinQ,vlen,vslice,vindex,vstore,Array.toList,simprocAttr,lt6 hid]; exact h11, h12, h13⟩).mono ?_
  rintro _ _ ⟨rfl, rfl⟩
  cases hr : isRangeT T en s with
  | true =>
    rw [if_pos rfl]
    simp (maxSteps:=999999) -dsimp -implicitDefEqProofs only [↓eqD,eqU,eqV,eqW,vbuiltinQ,vlen,vslice,vindex,vstore,Array.toList,simprocAttr,T_ctest_ord,T_ctest_ghost,FB,FC,none_at,XS4_at,add_at,lt6 hid]; (repeat ((with_reducible (refine And.intro ?_ ?_)); (focus (first | omega | exact ⟨by omega, by omega⟩))))
    refine (cranged_walk hT (en := en) (s := s) ⟨by simp (maxSteps:=999999) -dsimp -implicitDefEqProofs only [↓eqD,eqU,eqV,eqW,vbuiltinQ,vlen,vslice,vindex,vstore,Array.toList,simprocAttr,lt6 hid]; exact h11, h12, h13⟩).mono ?_
    rintro _ _ ⟨rfl, rfl⟩
    generalize rangedT T en s = ks at *
    obtain ⟨⟨k, r, ⟨k1, b1, m1', c1, t1, lo1, hi1, kids1⟩, ⟨k2, b2, m2', c2, t2, lo2, hi2, kids2⟩, lo, hi, ks⟩, s2⟩ := ks
    simp only
    simp (maxSteps:=999999) -dsimp -implicitDefEqProofs only [↓eqD,eqU,eqV,eqW,vbuiltinQ,vlen,vslice,vindex,vstore,Array.toList,simprocAttr,T_ctest_ord,T_ctest_ghost,FB,FC,none_at,XS4_at,add_at,Te.cells_eq,Ex.cells,List.cons_append,List.nil_append,lt6 hid]; (repeat ((with_reducible (refine And.intro ?_ ?_)); (focus (first | omega | exact ⟨by omega, by omega⟩))))
    refine VDone.turned hG hid (hu _) ?_ ?_ rfl rfl
    · simp (maxSteps:=999999) -dsimp -implicitDefEqProofs only [↓eqD,eqU,eqV,eqW,vbuiltinQ,vlen,vslice,vindex,vstore,Array.toList,simprocAttr,lt6 hid]
    · intro j hj hji; simp (maxSteps:=999999) -dsimp -implicitDefEqProofs only [↓eqD,eqU,eqV,eqW,vbuiltinQ,vlen,vslice,vindex,vstore,Array.toList,simprocAttr,lt6 hj,hji]
  | false =>
    rw [if_neg (by decide)]
    rw [hre] at h11
    have ho : ∀ b, ofOk T s relB = b → b = false → ofT T s relB = s ∧ relT T s = [61] := fun b e1 e2 => by
      subst e2; unfold relT ofT ofV; rw [e1]; exact ⟨rfl, rfl⟩
    have now : nowT T s = T.getD s.at_ ⟨0, [], 0⟩ := by unfold nowT; rw [if_neg (fun h => h he)]
    by_cases ha : s.at_ < T.length
    · have hx := toks_at ha
      have hTa : T.getD s.at_ ⟨0, [], 0⟩ = T[s.at_] := by simp [List.getD, ha]
      have hsh := hT.short _ (List.getElem_mem ha)
      rw [hTa] at now
      generalize T[s.at_] = t at hx hTa now hsh
      have c1 : (s.at_ : Int) < (T.length : Int) := by omega
      have wa : IntKind.wrap .i64 ((s.at_ : Int) + 1) = ((s.at_ + 1 : Nat) : Int) := by rw [w64 (by omega) (by omega)]; rfl
      by_cases hk : t.kind = 4
      · have hok : ofOk T s relB = Lib.contains relB (([32] ++ t.text) ++ [32]) := by unfold ofOk; rw [now, hk]; rfl
        cases hc : Lib.contains relB (([32] ++ t.text) ++ [32]) with
        | true =>
          rw [hc] at hok
          have e1 : ofT T s relB = ⟨s.at_ + 1, s.pos, s.err⟩ := by unfold ofT; rw [if_pos hok]
          have e2 : relT T s = t.text := by
            have : ofV T s relB = t.text := by unfold ofV; rw [if_pos hok, now]
            unfold relT; rw [this, if_neg]
            intro e; rw [e] at hc; exact absurd hc (by decide +kernel)
          have hc' : Lib.contains relB (32 :: (t.text ++ [32])) = true := hc
          rw [e1, e2]
          simp (maxSteps:=999999) -dsimp -implicitDefEqProofs only [↓eqD,eqU,eqV,eqW,vbuiltinQ,vlen,vslice,vindex,vstore,Array.toList,simprocAttr,T_ctest_ord,T_ctest_ghost,FB,FC,none_at,XS4_at,add_at,g19,rel_fold,relB_len,h11,c1,hx,Tok.cells,hk,hc',wa,lt6 hid]; (repeat ((with_reducible (refine And.intro ?_ ?_)); (focus (first | omega | exact ⟨by omega, by omega⟩))))
          refine (cexpr_walk hT (en := en) (s := ⟨s.at_ + 1, s.pos, s.err⟩) ⟨by simp (maxSteps:=999999) -dsimp -implicitDefEqProofs only [↓eqD,eqU,eqV,eqW,vbuiltinQ,vlen,vslice,vindex,vstore,Array.toList,simprocAttr,pcells_mk,lt6 hid], h12, ha⟩).mono ?_
          rintro _ _ ⟨rfl, rfl⟩
          generalize exprT T en _ = ks at *
          obtain ⟨⟨k1, b1, m1', c1, t1, lo1, hi1, kids1⟩, s2⟩ := ks
          simp only
          simp (maxSteps:=999999) -dsimp -implicitDefEqProofs only [↓eqD,eqU,eqV,eqW,vbuiltinQ,vlen,vslice,vindex,vstore,Array.toList,simprocAttr,T_ctest_ord,T_ctest_ghost,FB,FC,none_at,XS4_at,add_at,Ex.cells,lt6 hid]; (repeat ((with_reducible (refine And.intro ?_ ?_)); (focus (first | omega | exact ⟨by omega, by omega⟩))))
          refine .weak vle_te1 (VDone.turned hG hid (hu _) ?_ ?_ rfl ?_)
          · simp (maxSteps:=999999) -dsimp -implicitDefEqProofs only [↓eqD,eqU,eqV,eqW,vbuiltinQ,vlen,vslice,vindex,vstore,Array.toList,simprocAttr,lt6 hid]
          · intro j hj hji; simp (maxSteps:=999999) -dsimp -implicitDefEqProofs only [↓eqD,eqU,eqV,eqW,vbuiltinQ,vlen,vslice,vindex,vstore,Array.toList,simprocAttr,lt6 hj,hji]
          · rfl
        | false =>
          obtain ⟨e1, e2⟩ := ho _ (hok.trans hc) rfl
          have hc' : Lib.contains relB (32 :: (t.text ++ [32])) = false := hc
          rw [e1, e2]
          simp (maxSteps:=999999) -dsimp -implicitDefEqProofs only [↓eqD,eqU,eqV,eqW,vbuiltinQ,vlen,vslice,vindex,vstore,Array.toList,simprocAttr,T_ctest_ord,T_ctest_ghost,FB,FC,none_at,XS4_at,add_at,g19,rel_fold,relB_len,h11,c1,hx,Tok.cells,hk,hc',lt6 hid]; (repeat ((with_reducible (refine And.intro ?_ ?_)); (focus (first | omega | exact ⟨by omega, by omega⟩))))
          refine (cexpr_walk hT (en := en) (s := s) ⟨by simp (maxSteps:=999999) -dsimp -implicitDefEqProofs only [↓eqD,eqU,eqV,eqW,vbuiltinQ,vlen,vslice,vindex,vstore,Array.toList,simprocAttr,hre,h11,lt6 hid], h12, h13⟩).mono ?_
          rintro _ _ ⟨rfl, rfl⟩
          generalize exprT T en _ = ks at *
          obtain ⟨⟨k1, b1, m1', c1, t1, lo1, hi1, kids1⟩, s2⟩ := ks
          simp only
          simp (maxSteps:=999999) -dsimp -implicitDefEqProofs only [↓eqD,eqU,eqV,eqW,vbuiltinQ,vlen,vslice,vindex,vstore,Array.toList,simprocAttr,T_ctest_ord,T_ctest_ghost,FB,FC,none_at,XS4_at,add_at,Ex.cells,lt6 hid]; (repeat ((with_reducible (refine And.intro ?_ ?_)); (focus (first | omega | exact ⟨by omega, by omega⟩))))
          refine .weak vle_te1 (VDone.turned hG hid (hu _) ?_ ?_ rfl ?_)
          · simp (maxSteps:=999999) -dsimp -implicitDefEqProofs only [↓eqD,eqU,eqV,eqW,vbuiltinQ,vlen,vslice,vindex,vstore,Array.toList,simprocAttr,lt6 hid]
          · intro j hj hji; simp (maxSteps:=999999) -dsimp -implicitDefEqProofs only [↓eqD,eqU,eqV,eqW,vbuiltinQ,vlen,vslice,vindex,vstore,Array.toList,simprocAttr,lt6 hj,hji]
          · rfl
      · obtain ⟨e1, e2⟩ := ho false (by unfold ofOk; rw [now]; simp [hk]) rfl
        rw [e1, e2]
        simp (maxSteps:=999999) -dsimp -implicitDefEqProofs only [↓eqD,eqU,eqV,eqW,vbuiltinQ,vlen,vslice,vindex,vstore,Array.toList,simprocAttr,T_ctest_ord,T_ctest_ghost,FB,FC,none_at,XS4_at,add_at,g19,h11,c1,hx,Tok.cells,hk,lt6 hid]; (repeat ((with_reducible (refine And.intro ?_ ?_)); (focus (first | omega | exact ⟨by omega, by omega⟩))))
        refine (cexpr_walk hT (en := en) (s := s) ⟨by simp (maxSteps:=999999) -dsimp -implicitDefEqProofs only [↓eqD,eqU,eqV,eqW,vbuiltinQ,vlen,vslice,vindex,vstore,Array.toList,simprocAttr,hre,h11,lt6 hid], h12, h13⟩).mono ?_
        rintro _ _ ⟨rfl, rfl⟩
        generalize exprT T en _ = ks at *
        obtain ⟨⟨k1, b1, m1', c1, t1, lo1, hi1, kids1⟩, s2⟩ := ks
        simp only
        simp (maxSteps:=999999) -dsimp -implicitDefEqProofs only [↓eqD,eqU,eqV,eqW,vbuiltinQ,vlen,vslice,vindex,vstore,Array.toList,simprocAttr,T_ctest_ord,T_ctest_ghost,FB,FC,none_at,XS4_at,add_at,Ex.cells,lt6 hid]; (repeat ((with_reducible (refine And.intro ?_ ?_)); (focus (first | omega | exact ⟨by omega, by omega⟩))))
        refine .weak vle_te1 (VDone.turned hG hid (hu _) ?_ ?_ rfl ?_)
        · simp (maxSteps:=999999) -dsimp -implicitDefEqProofs only [↓eqD,eqU,eqV,eqW,vbuiltinQ,vlen,vslice,vindex,vstore,Array.toList,simprocAttr,lt6 hid]
        · intro j hj hji; simp (maxSteps:=999999) -dsimp -implicitDefEqProofs only [↓eqD,eqU,eqV,eqW,vbuiltinQ,vlen,vslice,vindex,vstore,Array.toList,simprocAttr,lt6 hj,hji]
        · rfl
    · have now2 : nowT T s = ⟨0, [], 0⟩ := by rw [now, List.getD, List.getElem?_eq_none (by omega)]; rfl
      obtain ⟨e1, e2⟩ := ho false (by unfold ofOk; rw [now2]; rfl) rfl
      rw [e1, e2]
      have c1 : ¬(s.at_ : Int) < (T.length : Int) := by omega
      simp (maxSteps:=999999) -dsimp -implicitDefEqProofs only [↓eqD,eqU,eqV,eqW,vbuiltinQ,vlen,vslice,vindex,vstore,Array.toList,simprocAttr,T_ctest_ord,T_ctest_ghost,FB,FC,none_at,XS4_at,add_at,g19,h11,c1,lt6 hid]; (repeat ((with_reducible (refine And.intro ?_ ?_)); (focus (first | omega | exact ⟨by omega, by omega⟩))))
      refine (cexpr_walk hT (en := en) (s := s) ⟨by simp (maxSteps:=999999) -dsimp -implicitDefEqProofs only [↓eqD,eqU,eqV,eqW,vbuiltinQ,vlen,vslice,vindex,vstore,Array.toList,simprocAttr,hre,h11,lt6 hid], h12, h13⟩).mono ?_
      rintro _ _ ⟨rfl, rfl⟩
      generalize exprT T en _ = ks at *
      obtain ⟨⟨k1, b1, m1', c1, t1, lo1, hi1, kids1⟩, s2⟩ := ks
      simp only
      simp (maxSteps:=999999) -dsimp -implicitDefEqProofs only [↓eqD,eqU,eqV,eqW,vbuiltinQ,vlen,vslice,vindex,vstore,Array.toList,simprocAttr,T_ctest_ord,T_ctest_ghost,FB,FC,none_at,XS4_at,add_at,Ex.cells,lt6 hid]; (repeat ((with_reducible (refine And.intro ?_ ?_)); (focus (first | omega | exact ⟨by omega, by omega⟩))))
      refine .weak vle_te1 (VDone.turned hG hid (hu _) ?_ ?_ rfl ?_)
      · simp (maxSteps:=999999) -dsimp -implicitDefEqProofs only [↓eqD,eqU,eqV,eqW,vbuiltinQ,vlen,vslice,vindex,vstore,Array.toList,simprocAttr,lt6 hid]
      · intro j hj hji; simp (maxSteps:=999999) -dsimp -implicitDefEqProofs only [↓eqD,eqU,eqV,eqW,vbuiltinQ,vlen,vslice,vindex,vstore,Array.toList,simprocAttr,lt6 hj,hji]
      · rfl
end Go.Vf
