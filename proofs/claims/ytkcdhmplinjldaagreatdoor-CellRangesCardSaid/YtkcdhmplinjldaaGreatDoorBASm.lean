/- A part of the proof: Sm, Sn. -/
import Derived.Test.YtkcdhmplinjldaaGreatDoorBASk
set_option linter.unusedVariables false
set_option linter.unusedSimpArgs false
namespace Go.Vf
open Go.Proofs Go.RowKit
theorem VLe.slc_in {sz m : Nat} {a b : List V} (h : VLes a b) (hb : V.closedL b = true) : VLe (.slc sz m a) (.sl sz m b) := fun ρ n x hx => by
  obtain ⟨hl, hg⟩ := VLes.get h
  cases hx with
  | slc _ _ _ xs bb o h1 h2 h3 h4 h5 =>
    refine .sl _ _ _ xs bb o m hb (by rw [← hl]; exact h2) (Nat.le_refl _) h3 (by rw [← hl]; exact h4) fun i v y hv hy => ?_
    obtain ⟨w, hw, hle⟩ := hg i v hv
    exact hle _ _ _ (h5 i w y hw hy)
  | slc0 =>
    have : b = [] := by simpa using hl.symm
    subst this
    exact .sl0 _ _ _
theorem tesC_snoc (l : List Te) (x : Te) : tesC (l ++ [x]) = tesC l ++ x.cells := by rw [tesC_append]; simp [tesC]
def z0 : List Te → List Te := fun _ => []
theorem ok_ctests : fnOk Tryz.prog 43 T0 1 = true := by kernel_rfl
def XS5 : Specs := (((Specs.none.addH 41 (gP (q71 4))).addH 25 (gP p24)).addH 45 (gP qchere)).addH 44 (gP qcfails)
theorem XS5_at (f : FuncId) (xs : List V) (G : Heap) : XS5 f xs G = ((((Specs.none.addH 41 (gP (q71 4))).addH 25 (gP p24)).addH 45 (gP qchere)).addH 44 (gP qcfails)) f xs G := rfl
theorem okXS5 : SOk Tryz.prog XS5 := ok_fails (ok_here (sp_must (sp_may (SOk.none _))))
set_option maxRecDepth 100000 in
set_option maxHeartbeats 2000000 in
theorem ctests_walk {T : List Tok} (hT : TokOk T) {en : Int} {s : St} {id : Nat} {G : Heap} (h : ParserAt G id T en s) (he : s.err = 0) :
    VCalls Tryz.prog 43 [.ptr id 0 0] G fun u H => u = .sl 21 (testsT z0 T en 6 [] s).1.length (tesC (testsT z0 T en 6 [] s).1) ∧ H = G.put id (.cells 0 (pcells T en (testsT z0 T en 6 [] s).2)) := by
  refine VCalls.of (okXS5) mixed T0 ok_ctests fun hG => ?_
  have hid := hG.lt h.1
  have hu := fun s' => pcells_under T en s' G.next
  have h12 := h.2.1
  have hfin := testsT_goes (z := z0) (T := T) (en := en) 6 [] s h.2.2
  generalize hR : testsT z0 T en 6 [] s = R at *
  obtain ⟨RL, RS⟩ := R
  simp only at hfin ⊢
  simp (maxSteps:=999999) -dsimp -implicitDefEqProofs only [↓eqD,eqU,eqV,eqW,vbuiltinQ,vlen,vslice,vindex,vstore,Array.toList,simprocAttr,fnWp_some Tryz.func43,Tryz.f43,T0,FB,FC,none_at,XS5_at,addH_at,lt6 hid]; (repeat ((with_reducible (refine And.intro ?_ ?_)); (focus (first | omega | exact ⟨by omega, by omega⟩))))
  refine vloop_to 0 (fun x : Nat × List Te × St × Bool × Nat × Nat => x.2.2.1.at_ ≤ T.length ∧ x.2.1.length ≤ 6 ∧ G.next < x.2.2.2.2.2 ∧ (x.2.2.2.1 = true → x.2.1.length + x.1 = 6 ∧ x.2.2.1.err = 0 ∧ testsT z0 T en x.1 x.2.1 x.2.2.1 = (RL, RS)) ∧ (x.2.2.2.1 = false → (x.2.1, x.2.2.1) = (RL, RS)))
    (fun x => Env.of [(0, .ptr id 0 0), (3, .arr 21 G.next x.2.2.2.2.1 0 x.2.1.length), (4, .bool x.2.2.2.1)])
    (fun x => (G.put id (.cells 0 (pcells T en x.2.2.1))).over x.2.2.2.2.2 [(G.next, .cells x.2.2.2.2.1 (tesC x.2.1))]) (fun x => x.1) (6, [], s, true, 0, G.next + 1)
    (fun E G' => ∃ g m, G.next < m ∧ RL.length ≤ 6 ∧ E 0 = .ptr id 0 0 ∧ E 3 = .arr 21 G.next g 0 RL.length ∧ G' = (G.put id (.cells 0 (pcells T en RS))).over m [(G.next, .cells g (tesC RL))]) ?_ ?_ ?_ ?_
  · refine .trans (.own 3 21 (by simp (maxSteps:=999999) -dsimp -implicitDefEqProofs only [↓eqD,eqU,eqV,eqW,vbuiltinQ,vlen,vslice,vindex,vstore,Array.toList,simprocAttr])) (.of ?_ (.over (hG.put hid (hu _)) ?_ ?_ ?_))
    · simp (maxSteps:=999999) -dsimp -implicitDefEqProofs only [↓eqD,eqU,eqV,eqW,vbuiltinQ,vlen,vslice,vindex,vstore,Array.toList,simprocAttr]
      (repeat' apply And.intro) <;> exact .refl _
    · simp (maxSteps:=999999) -dsimp -implicitDefEqProofs only [↓eqD,eqU,eqV,eqW,vbuiltinQ,vlen,vslice,vindex,vstore,Array.toList,simprocAttr]
    · simp (maxSteps:=999999) -dsimp -implicitDefEqProofs only [↓eqD,eqU,eqV,eqW,vbuiltinQ,vlen,vslice,vindex,vstore,Array.toList,simprocAttr,FB,FC,lt6 hid,tesC]
    · intro j hj
      have hj : j < G.next := hj
      by_cases hji : j = id
      · subst hji; simp (maxSteps:=999999) -dsimp -implicitDefEqProofs only [↓eqD,eqU,eqV,eqW,vbuiltinQ,vlen,vslice,vindex,vstore,Array.toList,simprocAttr,lt6 hid,Nat.ne_of_lt hid,h.1]
      · simp (maxSteps:=999999) -dsimp -implicitDefEqProofs only [↓eqD,eqU,eqV,eqW,vbuiltinQ,vlen,vslice,vindex,vstore,Array.toList,simprocAttr,lt6 hj,hji]
  · exact ⟨h.2.2, by simp, Nat.lt_succ_self _, fun _ => ⟨rfl, he, hR⟩, fun e => by cases e⟩
  · rintro ⟨f, acc, s1, more, g, m⟩ ⟨a1, a2, a3, a4, a5⟩
    simp only at a1 a2 a3 a4 a5
    have hm1 := Nat.ne_of_lt a3
    have hm2 := Nat.ne_of_gt a3
    have hidm : id < m := by omega
    cases more with
    | false =>
      have a5 := a5 rfl
      simp only [Prod.mk.injEq] at a5
      obtain ⟨rfl, rfl⟩ := a5
      simp (maxSteps:=999999) -dsimp -implicitDefEqProofs only [↓eqD,eqU,eqV,eqW,vbuiltinQ,vlen,vslice,vindex,vstore,Array.toList,simprocAttr,T0,FB,FC,none_at,XS5_at,addH_at,lt6 hid,hm1,hm2]; (repeat ((with_reducible (refine And.intro ?_ ?_)); (focus (first | omega | exact ⟨by omega, by omega⟩))))
      exact ⟨g, m, a3, a2, rfl, rfl⟩
    | true =>
      obtain ⟨b1, b2, b3⟩ := a4 rfl
      have el := tesC_len acc
      cases f with
      | zero =>
        rw [testsT] at b3
        simp only [Prod.mk.injEq] at b3
        obtain ⟨rfl, rfl⟩ := b3
        have c6 : (6 : Int) ≤ (acc.length : Int) := by omega
        simp (maxSteps:=999999) -dsimp -implicitDefEqProofs only [↓eqD,eqU,eqV,eqW,vbuiltinQ,vlen,vslice,vindex,vstore,Array.toList,simprocAttr,T0,FB,FC,none_at,XS5_at,addH_at,gP,qchere,qcfails,q71,p24,parserOf_def,pOf_pcells,ParserAt,a1,h12,lt6 hid,hm1,hm2,el,c6,fails_here]; (repeat ((with_reducible (refine And.intro ?_ ?_)); (focus (first | omega | exact ⟨by omega, by omega⟩))))
        refine .weak (.nil_sl 21) (VDone.turned hG hid (hu _) ?_ ?_ rfl rfl)
        · simp (maxSteps:=999999) -dsimp -implicitDefEqProofs only [↓eqD,eqU,eqV,eqW,vbuiltinQ,vlen,vslice,vindex,vstore,Array.toList,simprocAttr,lt6 hid,hm1,hm2]
        · intro j hj hji
          have hj2 : j < m := by omega
          simp (maxSteps:=999999) -dsimp -implicitDefEqProofs only [↓eqD,eqU,eqV,eqW,vbuiltinQ,vlen,vslice,vindex,vstore,Array.toList,simprocAttr,lt6 hj,hji]
      | succ f' =>
        have c6 : ¬(6 : Int) ≤ (acc.length : Int) := by omega
        rw [testsT] at b3
        have hat : ParserAt ((G.put id (.cells 0 (pcells T en s1))).over m [(G.next, .cells g (tesC acc))]) id T en s1 := ⟨by simp (maxSteps:=999999) -dsimp -implicitDefEqProofs only [↓eqD,eqU,eqV,eqW,vbuiltinQ,vlen,vslice,vindex,vstore,Array.toList,simprocAttr,lt6 hid], h.2.1, a1⟩
        simp (maxSteps:=999999) -dsimp -implicitDefEqProofs only [↓eqD,eqU,eqV,eqW,vbuiltinQ,vlen,vslice,vindex,vstore,Array.toList,simprocAttr,T0,FB,FC,none_at,XS5_at,addH_at,gP,qchere,qcfails,q71,p24,parserOf_def,pOf_pcells,ParserAt,a1,h12,lt6 hid,hm1,hm2,el,c6]; (repeat ((with_reducible (refine And.intro ?_ ?_)); (focus (first | omega | exact ⟨by omega, by omega⟩))))
        refine (ctest_walk hT hat b2).mono ?_
        rintro _ _ ⟨rfl, rfl⟩
        have h1 := testT_goes (T := T) (en := en) a1
        generalize testT T en s1 = ks at *
        obtain ⟨⟨k, r, ⟨k1, v1, m1, n1, t1, lo1, hi1, kids1⟩, ⟨k2, v2, m2, n2, t2, lo2, hi2, kids2⟩, lo, hi, ks⟩, s2⟩ := ks
        simp only at h1 b3
        have d1 := exsC_closed kids1
        have d2 := exsC_closed kids2
        have d3 := tesC_closed ks
        have a22 := h1.2
        have h2 := takeT_goes (T := T) (s := s2) (k := 4) (w := [44]) (by decide) h1.2
        have hb : (acc.length + 1) * 216 ≤ roomB := by unfold roomB; omega
        have en1 : tesC (acc ++ [Te.mk k r (.mk k1 v1 m1 n1 t1 lo1 hi1 kids1) (.mk k2 v2 m2 n2 t2 lo2 hi2 kids2) lo hi ks]) = tesC acc ++ [.int .i64 k, .str r, .int .i64 k1, .bool v1, .int .i64 m1, .int .i64 n1, .str t1, .bool lo1, .bool hi1, .sl 8 kids1.length (exsC kids1), .int .i64 k2, .bool v2, .int .i64 m2, .int .i64 n2, .str t2, .bool lo2, .bool hi2, .sl 8 kids2.length (exsC kids2), .bool lo, .bool hi, .sl 21 ks.length (tesC ks)] := by rw [tesC_snoc]; simp [Te.cells_eq, Ex.cells]
        cases hc : isT T s2 4 [44] with
        | true =>
          rw [if_pos hc] at b3
          have hst : (takeT T s2 4 [44]).at_ = s2.at_ + 1 := by unfold takeT; rw [if_pos hc]
          have hse := (isT_lt (by decide) hc).1
          simp (maxSteps:=999999) -dsimp -implicitDefEqProofs only [↓eqD,eqU,eqV,eqW,vbuiltinQ,vlen,vslice,vindex,vstore,Array.toList,simprocAttr,T0,FB,FC,none_at,XS5_at,addH_at,gP,qchere,qcfails,q71,p24,parserOf_def,pOf_pcells,ParserAt,Te.cells_eq,Ex.cells,List.cons_append,List.nil_append,h12,lt6 hid,hm1,hm2,vreps,vfill,vrow,d1,d2,d3,a22,el,hb,hc]; (repeat ((with_reducible (refine And.intro ?_ ?_)); (focus (first | omega | exact ⟨by omega, by omega⟩))))
          refine ⟨(f', acc ++ [.mk k r (.mk k1 v1 m1 n1 t1 lo1 hi1 kids1) (.mk k2 v2 m2 n2 t2 lo2 hi2 kids2) lo hi ks], takeT T s2 4 [44], true, g + 1, m), ⟨h2.2, by simp; omega, a3, fun _ => ⟨by simp; omega, hse, b3⟩, fun e => by cases e⟩, by simp only; omega, .of ?_ (.over (hG.put hid (hu _)) ?_ ?_ ?_)⟩
          · simp (maxSteps:=999999) -dsimp -implicitDefEqProofs only [↓eqD,eqU,eqV,eqW,vbuiltinQ,vlen,vslice,vindex,vstore,Array.toList,simprocAttr,List.length_append]
            (repeat' apply And.intro) <;> exact .refl _
          · simp (maxSteps:=999999) -dsimp -implicitDefEqProofs only [↓eqD,eqU,eqV,eqW,vbuiltinQ,vlen,vslice,vindex,vstore,Array.toList,simprocAttr]
          · simp (maxSteps:=999999) -dsimp -implicitDefEqProofs only [↓eqD,eqU,eqV,eqW,vbuiltinQ,vlen,vslice,vindex,vstore,Array.toList,simprocAttr,FB,FC,lt6 hid,en1]
          · intro j hj
            have hj : j < G.next := hj
            by_cases hji : j = id <;> simp (maxSteps:=999999) -dsimp -implicitDefEqProofs only [↓eqD,eqU,eqV,eqW,vbuiltinQ,vlen,vslice,vindex,vstore,Array.toList,simprocAttr,lt6 hj,hji,lt6 hid]
        | false =>
          rw [if_neg (by rw [hc]; decide)] at b3
          have hst : takeT T s2 4 [44] = s2 := takeT_no hc
          simp (maxSteps:=999999) -dsimp -implicitDefEqProofs only [↓eqD,eqU,eqV,eqW,vbuiltinQ,vlen,vslice,vindex,vstore,Array.toList,simprocAttr,T0,FB,FC,none_at,XS5_at,addH_at,gP,qchere,qcfails,q71,p24,parserOf_def,pOf_pcells,ParserAt,Te.cells_eq,Ex.cells,List.cons_append,List.nil_append,h12,lt6 hid,hm1,hm2,vreps,vfill,vrow,d1,d2,d3,a22,el,hb,hc,hst]; (repeat ((with_reducible (refine And.intro ?_ ?_)); (focus (first | omega | exact ⟨by omega, by omega⟩))))
          refine ⟨(f', acc ++ [.mk k r (.mk k1 v1 m1 n1 t1 lo1 hi1 kids1) (.mk k2 v2 m2 n2 t2 lo2 hi2 kids2) lo hi ks], s2, false, g + 1, m), ⟨h1.2, by simp; omega, a3, fun e => (by cases e), fun _ => b3⟩, by simp only; omega, .of ?_ (.over (hG.put hid (hu _)) ?_ ?_ ?_)⟩
          · simp (maxSteps:=999999) -dsimp -implicitDefEqProofs only [↓eqD,eqU,eqV,eqW,vbuiltinQ,vlen,vslice,vindex,vstore,Array.toList,simprocAttr,List.length_append]
            (repeat' apply And.intro) <;> exact .refl _
          · simp (maxSteps:=999999) -dsimp -implicitDefEqProofs only [↓eqD,eqU,eqV,eqW,vbuiltinQ,vlen,vslice,vindex,vstore,Array.toList,simprocAttr]
          · simp (maxSteps:=999999) -dsimp -implicitDefEqProofs only [↓eqD,eqU,eqV,eqW,vbuiltinQ,vlen,vslice,vindex,vstore,Array.toList,simprocAttr,FB,FC,lt6 hid,en1]
          · intro j hj
            have hj : j < G.next := hj
            by_cases hji : j = id <;> simp (maxSteps:=999999) -dsimp -implicitDefEqProofs only [↓eqD,eqU,eqV,eqW,vbuiltinQ,vlen,vslice,vindex,vstore,Array.toList,simprocAttr,lt6 hj,hji,lt6 hid]
  · rintro E G' ⟨g, m, b1, b2, e0, e3, rfl⟩
    have hm1 := Nat.ne_of_lt b1
    have hm2 := Nat.ne_of_gt b1
    simp (maxSteps:=999999) -dsimp -implicitDefEqProofs only [↓eqD,eqU,eqV,eqW,vbuiltinQ,vlen,vslice,vindex,vstore,Array.toList,simprocAttr,T0,FB,FC,none_at,XS5_at,addH_at,lt6 hid,hm1,hm2,e0,e3]; (repeat ((with_reducible (refine And.intro ?_ ?_)); (focus (first | omega | exact ⟨by omega, by omega⟩))))
    have el := tesC_len RL
    refine .pub (id := G.next) (g := g) (cs := tesC RL) (by simp (maxSteps:=999999) -dsimp -implicitDefEqProofs only [↓eqD,eqU,eqV,eqW,vbuiltinQ,vlen,vslice,vindex,vstore,Array.toList,simprocAttr,lt6 hid]) (tesC_closed RL) ?_
    have hpv : pubV G.next g (tesC RL) (.arr 21 G.next g 0 RL.length) = .sl 21 RL.length (tesC RL) := by
      simp only [pubV, pub1]
      rw [if_pos ⟨trivial, trivial, by rw [el]; omega⟩, ← el, List.drop_zero, List.take_length]
    rw [hpv]
    refine VDone.turned hG hid (hu _) ?_ ?_ rfl rfl
    · simp (maxSteps:=999999) -dsimp -implicitDefEqProofs only [↓eqD,eqU,eqV,eqW,vbuiltinQ,vlen,vslice,vindex,vstore,Array.toList,simprocAttr,lt6 hid]
    · intro j hj hji; simp (maxSteps:=999999) -dsimp -implicitDefEqProofs only [↓eqD,eqU,eqV,eqW,vbuiltinQ,vlen,vslice,vindex,vstore,Array.toList,simprocAttr,lt6 hj,hji]
end Go.Vf
set_option linter.unusedVariables false
set_option linter.unusedSimpArgs false
namespace Go.Vf
open Go.Proofs Go.RowKit
theorem vle_any {x0 x1 x2 x3 x4 x5 x6 x7 x8 x10 x11 x12 x13 x14 x15 x16 x18 x19 : V} (h : V.closedL [x0, x1, x2, x3, x4, x5, x6, x7, x8, .sl 8 0 [], x10, x11, x12, x13, x14, x15, x16, .sl 8 0 [], x18, x19, .sl 21 0 []] = true) :
    VLe (.slc 21 1 [x0, x1, x2, x3, x4, x5, x6, x7, x8, .nilsl, x10, x11, x12, x13, x14, x15, x16, .nilsl, x18, x19, .nilsl]) (.sl 21 1 [x0, x1, x2, x3, x4, x5, x6, x7, x8, .sl 8 0 [], x10, x11, x12, x13, x14, x15, x16, .sl 8 0 [], x18, x19, .sl 21 0 []]) :=
  .slc_in ⟨.refl _, .refl _, .refl _, .refl _, .refl _, .refl _, .refl _, .refl _, .refl _, .nil_sl 8, .refl _, .refl _, .refl _, .refl _, .refl _, .refl _, .refl _, .nil_sl 8, .refl _, .refl _, .nil_sl 21, trivial⟩ h
theorem vle_not {x0 x1 x2 x3 x4 x5 x6 x7 x8 x10 x11 x12 x13 x14 x15 x16 x18 x19 x20 : V} (h : V.closedL [x0, x1, x2, x3, x4, x5, x6, x7, x8, .sl 8 0 [], x10, x11, x12, x13, x14, x15, x16, .sl 8 0 [], x18, x19, x20] = true) :
    VLe (.slc 21 1 [x0, x1, x2, x3, x4, x5, x6, x7, x8, .nilsl, x10, x11, x12, x13, x14, x15, x16, .nilsl, x18, x19, x20]) (.sl 21 1 [x0, x1, x2, x3, x4, x5, x6, x7, x8, .sl 8 0 [], x10, x11, x12, x13, x14, x15, x16, .sl 8 0 [], x18, x19, x20]) :=
  .slc_in ⟨.refl _, .refl _, .refl _, .refl _, .refl _, .refl _, .refl _, .refl _, .refl _, .nil_sl 8, .refl _, .refl _, .refl _, .refl _, .refl _, .refl _, .refl _, .nil_sl 8, .refl _, .refl _, .refl _, trivial⟩ h
def XS6 : Specs := ((Specs.none.addH 41 (gP (q71 4))).addH 25 (gP p24)).addH 42 (gQ qcis)
theorem XS6_at (f : FuncId) (xs : List V) (G : Heap) : XS6 f xs G = (((Specs.none.addH 41 (gP (q71 4))).addH 25 (gP p24)).addH 42 (gQ qcis)) f xs G := rfl
theorem okXS6 : SOk Tryz.prog XS6 := ok_qcis (sp_must (sp_may (SOk.none _)))
theorem isT_0 {T : List Tok} {w : List UInt8} : isT T ⟨0, 0, 0⟩ 4 w = signAt T 0 w := by rw [isT_sign]; rfl
theorem isA_1 {T : List Tok} {w : List UInt8} : isA T ⟨0, 0, 0⟩ 1 w = signAt T 1 w := by unfold isA; rfl
theorem signAt_lt {T : List Tok} {i : Nat} {w : List UInt8} (h : signAt T i w = true) : i < T.length := by
  unfold signAt at h
  simp only [Bool.and_eq_true, decide_eq_true_eq] at h
  exact h.1
theorem pOf_0 (T : List Tok) (n : Nat) (en pos err : Int) : pOf (some (.cells 0 [.sl 3 n (toksC T), .int .i64 0, .int .i64 en, .int .i64 pos, .int .i64 err])) = some (T, en, ⟨0, pos, err⟩) := pOf_lit T n 0 en pos err
theorem z64 : ((1 : Nat) : Int) = 1 ∧ ((0 : Nat) : Int) = 0 := ⟨rfl, rfl⟩
theorem ok_ccell : fnOk Tryz.prog 24 T0 1 = true := by kernel_rfl
set_option maxRecDepth 100000 in
set_option maxHeartbeats 2000000 in
theorem ccell_walk {T : List Tok} (hT : TokOk T) {en : Int} {id : Nat} {G : Heap} (h : ParserAt G id T en ⟨0, 0, 0⟩) :
    VCalls Tryz.prog 24 [.ptr id 0 0] G fun u H => u = .sl 21 (cellT z0 T en).1.length (tesC (cellT z0 T en).1) ∧ H = G.put id (.cells 0 (pcells T en (cellT z0 T en).2)) := by
  refine VCalls.of (okXS6) mixed T0 ok_ccell fun hG => ?_
  have hid := hG.lt h.1
  have hu := fun s' => pcells_under T en s' G.next
  have h12 := h.2.1
  have h11 : G.get id = some (.cells 0 [.sl 3 T.length (toksC T), .int .i64 0, .int .i64 en, .int .i64 0, .int .i64 0]) := h.1
  have hat := h
  unfold ParserAt at hat
  unfold cellT
  by_cases c1 : T.length = 1 ∧ signAt T 0 [45] = true
  · obtain ⟨c1, c2⟩ := c1
    rw [if_pos ⟨c1, c2⟩]
    have i1 : (T.length : Int) = 1 := by omega
    have ht : takeT T ⟨0, 0, 0⟩ 4 [45] = ⟨1, 0, 0⟩ := by unfold takeT; rw [isT_0, c2]; rfl
    simp (maxSteps:=999999) -dsimp -implicitDefEqProofs only [↓eqD,eqU,eqV,eqW,vbuiltinQ,vlen,vslice,vindex,vstore,Array.toList,simprocAttr,fnWp_some Tryz.func24,Tryz.f24,T0,FB,FC,none_at,XS6_at,addH_at,gP,gQ,qcis,q71,p24,parserOf_def,pOf_0,pcells_mk,ParserAt,h11,h12,i1,isT_0,c2,ht,vreps,vfill,z64,lt6 hid]; (repeat ((with_reducible (refine And.intro ?_ ?_)); (focus (first | omega | exact ⟨by omega, by omega⟩))))
    refine .weak (vle_any rfl) (VDone.turned hG hid (hu ⟨1, 0, 0⟩) ?_ ?_ rfl rfl)
    · simp (maxSteps:=999999) -dsimp -implicitDefEqProofs only [↓eqD,eqU,eqV,eqW,vbuiltinQ,vlen,vslice,vindex,vstore,Array.toList,simprocAttr,pcells_mk,z64,lt6 hid]
    · intro j hj hji; simp (maxSteps:=999999) -dsimp -implicitDefEqProofs only [↓eqD,eqU,eqV,eqW,vbuiltinQ,vlen,vslice,vindex,vstore,Array.toList,simprocAttr,lt6 hj,hji]
  rw [if_neg c1]
  by_cases c2 : (T.getD 0 ⟨0, [], 0⟩).kind = 1 ∧ (T.getD 0 ⟨0, [], 0⟩).text = [110, 111, 116] ∧ signAt T 1 [40] = true
  · rw [if_pos c2]
    obtain ⟨k1, k2, k3⟩ := c2
    have hl := signAt_lt k3
    have i1 : ¬(T.length : Int) = 1 := by omega
    have i2 : 0 < (T.length : Int) := by omega
    have hx := toks_at (l := T) (i := 0) (by omega)
    have hTa : T.getD 0 ⟨0, [], 0⟩ = T[0] := by rw [List.getD, List.getElem?_eq_getElem]; rfl
    rw [hTa] at k1 k2
    generalize T[0] = t at *
    simp (maxSteps:=999999) -dsimp -implicitDefEqProofs only [↓eqD,eqU,eqV,eqW,vbuiltinQ,vlen,vslice,vindex,vstore,Array.toList,simprocAttr,fnWp_some Tryz.func24,Tryz.f24,T0,FB,FC,none_at,XS6_at,addH_at,gP,gQ,qcis,q71,p24,parserOf_def,pOf_0,pcells_mk,ParserAt,h11,h12,i1,i2,hx,Tok.cells,k1,k2,isA_1,k3,z64,lt6 hid]; (repeat ((with_reducible (refine And.intro ?_ ?_)); (focus (first | omega | exact ⟨by omega, by omega⟩))))
    refine (ctests_walk hT (en := en) (s := ⟨2, 0, 0⟩) ⟨by simp (maxSteps:=999999) -dsimp -implicitDefEqProofs only [↓eqD,eqU,eqV,eqW,vbuiltinQ,vlen,vslice,vindex,vstore,Array.toList,simprocAttr,pcells_mk,z64,lt6 hid], h12, hl⟩ rfl).mono ?_
    rintro _ _ ⟨rfl, rfl⟩
    have m1 := testsT_goes (z := z0) (T := T) (en := en) 6 [] ⟨2, 0, 0⟩ hl
    generalize testsT z0 T en 6 [] ⟨2, 0, 0⟩ = ks at *
    obtain ⟨ts, s2⟩ := ks
    simp only at m1 ⊢
    have a2 := m1.2
    have a3 := (takeT_goes (T := T) (s := s2) (k := 4) (w := [41]) (by decide) a2).2
    have d1 := tesC_closed ts
    simp (maxSteps:=999999) -dsimp -implicitDefEqProofs only [↓eqD,eqU,eqV,eqW,vbuiltinQ,vlen,vslice,vindex,vstore,Array.toList,simprocAttr,T0,FB,FC,none_at,XS6_at,addH_at,gP,gQ,qcis,q71,p24,parserOf_def,pOf_pcells,ParserAt,h12,a2,a3,vreps,vfill,d1,lt6 hid]; (repeat ((with_reducible (refine And.intro ?_ ?_)); (focus (first | omega | exact ⟨by omega, by omega⟩))))
    refine .weak (vle_not (by simp [V.closedL, V.closed, V.scalar, d1])) (VDone.turned hG hid (hu _) ?_ ?_ rfl ?_)
    · simp (maxSteps:=999999) -dsimp -implicitDefEqProofs only [↓eqD,eqU,eqV,eqW,vbuiltinQ,vlen,vslice,vindex,vstore,Array.toList,simprocAttr,lt6 hid]
    · intro j hj hji; simp (maxSteps:=999999) -dsimp -implicitDefEqProofs only [↓eqD,eqU,eqV,eqW,vbuiltinQ,vlen,vslice,vindex,vstore,Array.toList,simprocAttr,lt6 hj,hji]
    · simp [tesC, Te.cells_eq, Ex.zero, Ex.cells, exsC]
  rw [if_neg c2]
  by_cases l1 : T.length = 1
  · have i1 : (T.length : Int) = 1 := by omega
    have b1 : signAt T 0 [45] = false := by
      cases e : signAt T 0 [45] with
      | false => rfl
      | true => exact (c1 ⟨l1, e⟩).elim
    have ht : takeT T ⟨0, 0, 0⟩ 4 [45] = ⟨0, 0, 0⟩ := takeT_no (by rw [isT_0]; exact b1)
    have b2 : signAt T 1 [40] = false := by
      cases e : signAt T 1 [40] with
      | false => rfl
      | true => have := signAt_lt e; omega
    have hx := toks_at (l := T) (i := 0) (by omega)
    generalize T[0] = t at *
    by_cases k1 : t.kind = 1
    · by_cases k2 : t.text = [110, 111, 116]
      · simp (maxSteps:=999999) -dsimp -implicitDefEqProofs only [↓eqD,eqU,eqV,eqW,vbuiltinQ,vlen,vslice,vindex,vstore,Array.toList,simprocAttr,fnWp_some Tryz.func24,Tryz.f24,T0,FB,FC,none_at,XS6_at,addH_at,gP,gQ,qcis,q71,p24,parserOf_def,pOf_0,pcells_mk,ParserAt,h11,h12,i1,isT_0,b1,ht,put_same h11,hx,Tok.cells,k1,k2,isA_1,b2,z64,lt6 hid]; (repeat ((with_reducible (refine And.intro ?_ ?_)); (focus (first | omega | exact ⟨by omega, by omega⟩))))
        refine (ctests_walk hT (en := en) (s := ⟨0, 0, 0⟩) h rfl).mono ?_
        rintro _ _ ⟨rfl, rfl⟩
        generalize testsT z0 T en 6 [] ⟨0, 0, 0⟩ = ks at *
        obtain ⟨ts, s2⟩ := ks
        simp (maxSteps:=999999) -dsimp -implicitDefEqProofs only [↓eqD,eqU,eqV,eqW,vbuiltinQ,vlen,vslice,vindex,vstore,Array.toList,simprocAttr,T0,FB,FC,none_at,XS6_at,addH_at,gP,gQ,qcis,q71,p24]; (repeat ((with_reducible (refine And.intro ?_ ?_)); (focus (first | omega | exact ⟨by omega, by omega⟩))))
        refine VDone.turned hG hid (hu _) ?_ ?_ rfl rfl
        · simp (maxSteps:=999999) -dsimp -implicitDefEqProofs only [↓eqD,eqU,eqV,eqW,vbuiltinQ,vlen,vslice,vindex,vstore,Array.toList,simprocAttr,lt6 hid]
        · intro j hj hji; simp (maxSteps:=999999) -dsimp -implicitDefEqProofs only [↓eqD,eqU,eqV,eqW,vbuiltinQ,vlen,vslice,vindex,vstore,Array.toList,simprocAttr,lt6 hj,hji]
      · simp (maxSteps:=999999) -dsimp -implicitDefEqProofs only [↓eqD,eqU,eqV,eqW,vbuiltinQ,vlen,vslice,vindex,vstore,Array.toList,simprocAttr,fnWp_some Tryz.func24,Tryz.f24,T0,FB,FC,none_at,XS6_at,addH_at,gP,gQ,qcis,q71,p24,parserOf_def,pOf_0,pcells_mk,ParserAt,h11,h12,i1,isT_0,b1,ht,put_same h11,hx,Tok.cells,k1,k2,isA_1,b2,z64,lt6 hid]; (repeat ((with_reducible (refine And.intro ?_ ?_)); (focus (first | omega | exact ⟨by omega, by omega⟩))))
        refine (ctests_walk hT (en := en) (s := ⟨0, 0, 0⟩) h rfl).mono ?_
        rintro _ _ ⟨rfl, rfl⟩
        generalize testsT z0 T en 6 [] ⟨0, 0, 0⟩ = ks at *
        obtain ⟨ts, s2⟩ := ks
        simp (maxSteps:=999999) -dsimp -implicitDefEqProofs only [↓eqD,eqU,eqV,eqW,vbuiltinQ,vlen,vslice,vindex,vstore,Array.toList,simprocAttr,T0,FB,FC,none_at,XS6_at,addH_at,gP,gQ,qcis,q71,p24]; (repeat ((with_reducible (refine And.intro ?_ ?_)); (focus (first | omega | exact ⟨by omega, by omega⟩))))
        refine VDone.turned hG hid (hu _) ?_ ?_ rfl rfl
        · simp (maxSteps:=999999) -dsimp -implicitDefEqProofs only [↓eqD,eqU,eqV,eqW,vbuiltinQ,vlen,vslice,vindex,vstore,Array.toList,simprocAttr,lt6 hid]
        · intro j hj hji; simp (maxSteps:=999999) -dsimp -implicitDefEqProofs only [↓eqD,eqU,eqV,eqW,vbuiltinQ,vlen,vslice,vindex,vstore,Array.toList,simprocAttr,lt6 hj,hji]
    · simp (maxSteps:=999999) -dsimp -implicitDefEqProofs only [↓eqD,eqU,eqV,eqW,vbuiltinQ,vlen,vslice,vindex,vstore,Array.toList,simprocAttr,fnWp_some Tryz.func24,Tryz.f24,T0,FB,FC,none_at,XS6_at,addH_at,gP,gQ,qcis,q71,p24,parserOf_def,pOf_0,pcells_mk,ParserAt,h11,h12,i1,isT_0,b1,ht,put_same h11,hx,Tok.cells,k1,isA_1,b2,z64,lt6 hid]; (repeat ((with_reducible (refine And.intro ?_ ?_)); (focus (first | omega | exact ⟨by omega, by omega⟩))))
      refine (ctests_walk hT (en := en) (s := ⟨0, 0, 0⟩) h rfl).mono ?_
      rintro _ _ ⟨rfl, rfl⟩
      generalize testsT z0 T en 6 [] ⟨0, 0, 0⟩ = ks at *
      obtain ⟨ts, s2⟩ := ks
      simp (maxSteps:=999999) -dsimp -implicitDefEqProofs only [↓eqD,eqU,eqV,eqW,vbuiltinQ,vlen,vslice,vindex,vstore,Array.toList,simprocAttr,T0,FB,FC,none_at,XS6_at,addH_at,gP,gQ,qcis,q71,p24]; (repeat ((with_reducible (refine And.intro ?_ ?_)); (focus (first | omega | exact ⟨by omega, by omega⟩))))
      refine VDone.turned hG hid (hu _) ?_ ?_ rfl rfl
      · simp (maxSteps:=999999) -dsimp -implicitDefEqProofs only [↓eqD,eqU,eqV,eqW,vbuiltinQ,vlen,vslice,vindex,vstore,Array.toList,simprocAttr,lt6 hid]
      · intro j hj hji; simp (maxSteps:=999999) -dsimp -implicitDefEqProofs only [↓eqD,eqU,eqV,eqW,vbuiltinQ,vlen,vslice,vindex,vstore,Array.toList,simprocAttr,lt6 hj,hji]
  have i1 : ¬(T.length : Int) = 1 := by omega
  by_cases l0 : T.length = 0
  · have i2 : ¬0 < (T.length : Int) := by omega
    simp (maxSteps:=999999) -dsimp -implicitDefEqProofs only [↓eqD,eqU,eqV,eqW,vbuiltinQ,vlen,vslice,vindex,vstore,Array.toList,simprocAttr,fnWp_some Tryz.func24,Tryz.f24,T0,FB,FC,none_at,XS6_at,addH_at,gP,gQ,qcis,q71,p24,parserOf_def,pOf_0,pcells_mk,ParserAt,h11,h12,i1,i2,z64,lt6 hid]; (repeat ((with_reducible (refine And.intro ?_ ?_)); (focus (first | omega | exact ⟨by omega, by omega⟩))))
    refine (ctests_walk hT (en := en) (s := ⟨0, 0, 0⟩) h rfl).mono ?_
    rintro _ _ ⟨rfl, rfl⟩
    generalize testsT z0 T en 6 [] ⟨0, 0, 0⟩ = ks at *
    obtain ⟨ts, s2⟩ := ks
    simp (maxSteps:=999999) -dsimp -implicitDefEqProofs only [↓eqD,eqU,eqV,eqW,vbuiltinQ,vlen,vslice,vindex,vstore,Array.toList,simprocAttr,T0,FB,FC,none_at,XS6_at,addH_at,gP,gQ,qcis,q71,p24]; (repeat ((with_reducible (refine And.intro ?_ ?_)); (focus (first | omega | exact ⟨by omega, by omega⟩))))
    refine VDone.turned hG hid (hu _) ?_ ?_ rfl rfl
    · simp (maxSteps:=999999) -dsimp -implicitDefEqProofs only [↓eqD,eqU,eqV,eqW,vbuiltinQ,vlen,vslice,vindex,vstore,Array.toList,simprocAttr,lt6 hid]
    · intro j hj hji; simp (maxSteps:=999999) -dsimp -implicitDefEqProofs only [↓eqD,eqU,eqV,eqW,vbuiltinQ,vlen,vslice,vindex,vstore,Array.toList,simprocAttr,lt6 hj,hji]
  have i2 : 0 < (T.length : Int) := by omega
  have hx := toks_at (l := T) (i := 0) (by omega)
  have hTa : T.getD 0 ⟨0, [], 0⟩ = T[0] := by rw [List.getD, List.getElem?_eq_getElem]; rfl
  rw [hTa] at c2
  generalize T[0] = t at *
  by_cases k1 : t.kind = 1
  · by_cases k2 : t.text = [110, 111, 116]
    · have b2 : signAt T 1 [40] = false := by
        cases e : signAt T 1 [40] with
        | false => rfl
        | true => exact (c2 ⟨k1, k2, e⟩).elim
      simp (maxSteps:=999999) -dsimp -implicitDefEqProofs only [↓eqD,eqU,eqV,eqW,vbuiltinQ,vlen,vslice,vindex,vstore,Array.toList,simprocAttr,fnWp_some Tryz.func24,Tryz.f24,T0,FB,FC,none_at,XS6_at,addH_at,gP,gQ,qcis,q71,p24,parserOf_def,pOf_0,pcells_mk,ParserAt,h11,h12,i1,i2,hx,Tok.cells,k1,k2,isA_1,b2,z64,lt6 hid]; (repeat ((with_reducible (refine And.intro ?_ ?_)); (focus (first | omega | exact ⟨by omega, by omega⟩))))
      refine (ctests_walk hT (en := en) (s := ⟨0, 0, 0⟩) h rfl).mono ?_
      rintro _ _ ⟨rfl, rfl⟩
      generalize testsT z0 T en 6 [] ⟨0, 0, 0⟩ = ks at *
      obtain ⟨ts, s2⟩ := ks
      simp (maxSteps:=999999) -dsimp -implicitDefEqProofs only [↓eqD,eqU,eqV,eqW,vbuiltinQ,vlen,vslice,vindex,vstore,Array.toList,simprocAttr,T0,FB,FC,none_at,XS6_at,addH_at,gP,gQ,qcis,q71,p24]; (repeat ((with_reducible (refine And.intro ?_ ?_)); (focus (first | omega | exact ⟨by omega, by omega⟩))))
      refine VDone.turned hG hid (hu _) ?_ ?_ rfl rfl
      · simp (maxSteps:=999999) -dsimp -implicitDefEqProofs only [↓eqD,eqU,eqV,eqW,vbuiltinQ,vlen,vslice,vindex,vstore,Array.toList,simprocAttr,lt6 hid]
      · intro j hj hji; simp (maxSteps:=999999) -dsimp -implicitDefEqProofs only [↓eqD,eqU,eqV,eqW,vbuiltinQ,vlen,vslice,vindex,vstore,Array.toList,simprocAttr,lt6 hj,hji]
    · simp (maxSteps:=999999) -dsimp -implicitDefEqProofs only [↓eqD,eqU,eqV,eqW,vbuiltinQ,vlen,vslice,vindex,vstore,Array.toList,simprocAttr,fnWp_some Tryz.func24,Tryz.f24,T0,FB,FC,none_at,XS6_at,addH_at,gP,gQ,qcis,q71,p24,parserOf_def,pOf_0,pcells_mk,ParserAt,h11,h12,i1,i2,hx,Tok.cells,k1,k2,z64,lt6 hid]; (repeat ((with_reducible (refine And.intro ?_ ?_)); (focus (first | omega | exact ⟨by omega, by omega⟩))))
      refine (ctests_walk hT (en := en) (s := ⟨0, 0, 0⟩) h rfl).mono ?_
      rintro _ _ ⟨rfl, rfl⟩
      generalize testsT z0 T en 6 [] ⟨0, 0, 0⟩ = ks at *
      obtain ⟨ts, s2⟩ := ks
      simp (maxSteps:=999999) -dsimp -implicitDefEqProofs only [↓eqD,eqU,eqV,eqW,vbuiltinQ,vlen,vslice,vindex,vstore,Array.toList,simprocAttr,T0,FB,FC,none_at,XS6_at,addH_at,gP,gQ,qcis,q71,p24]; (repeat ((with_reducible (refine And.intro ?_ ?_)); (focus (first | omega | exact ⟨by omega, by omega⟩))))
      refine VDone.turned hG hid (hu _) ?_ ?_ rfl rfl
      · simp (maxSteps:=999999) -dsimp -implicitDefEqProofs only [↓eqD,eqU,eqV,eqW,vbuiltinQ,vlen,vslice,vindex,vstore,Array.toList,simprocAttr,lt6 hid]
      · intro j hj hji; simp (maxSteps:=999999) -dsimp -implicitDefEqProofs only [↓eqD,eqU,eqV,eqW,vbuiltinQ,vlen,vslice,vindex,vstore,Array.toList,simprocAttr,lt6 hj,hji]
  · simp (maxSteps:=999999) -dsimp -implicitDefEqProofs only [↓eqD,eqU,eqV,eqW,vbuiltinQ,vlen,vslice,vindex,vstore,Array.toList,simprocAttr,fnWp_some Tryz.func24,Tryz.f24,T0,FB,FC,none_at,XS6_at,addH_at,gP,gQ,qcis,q71,p24,parserOf_def,pOf_0,pcells_mk,ParserAt,h11,h12,i1,i2,hx,Tok.cells,k1,z64,lt6 hid]; (repeat ((with_reducible (refine And.intro ?_ ?_)); (focus (first | omega | exact ⟨by omega, by omega⟩))))
    refine (ctests_walk hT (en := en) (s := ⟨0, 0, 0⟩) h rfl).mono ?_
    rintro _ _ ⟨rfl, rfl⟩
    generalize testsT z0 T en 6 [] ⟨0, 0, 0⟩ = ks at *
    obtain ⟨ts, s2⟩ := ks
    simp (maxSteps:=999999) -dsimp -implicitDefEqProofs only [↓eqD,eqU,eqV,eqW,vbuiltinQ,vlen,vslice,vindex,vstore,Array.toList,simprocAttr,T0,FB,FC,none_at,XS6_at,addH_at,gP,gQ,qcis,q71,p24]; (repeat ((with_reducible (refine And.intro ?_ ?_)); (focus (first | omega | exact ⟨by omega, by omega⟩))))
    refine VDone.turned hG hid (hu _) ?_ ?_ rfl rfl
    · simp (maxSteps:=999999) -dsimp -implicitDefEqProofs only [↓eqD,eqU,eqV,eqW,vbuiltinQ,vlen,vslice,vindex,vstore,Array.toList,simprocAttr,lt6 hid]
    · intro j hj hji; simp (maxSteps:=999999) -dsimp -implicitDefEqProofs only [↓eqD,eqU,eqV,eqW,vbuiltinQ,vlen,vslice,vindex,vstore,Array.toList,simprocAttr,lt6 hj,hji]
theorem cellT_goes {z : List Te → List Te} {T : List Tok} {en : Int} : (cellT z T en).2.at_ ≤ T.length := by
  unfold cellT
  split
  · rename_i c; simp only; omega
  · split
    · rename_i c
      have hl := signAt_lt c.2.2
      have h1 := testsT_goes (z := z) (T := T) (en := en) 6 [] ⟨2, 0, 0⟩ hl
      simp only
      rw [mustT_at]
      exact (takeT_goes (by decide) h1.2).2
    · exact (testsT_goes (z := z) (T := T) (en := en) 6 [] ⟨0, 0, 0⟩ (Nat.zero_le _)).2
def XS7 : Specs := (Specs.none.add 23 g9L).addH 25 (gP p24)
theorem XS7_at (f : FuncId) (xs : List V) (G : Heap) : XS7 f xs G = ((Specs.none.add 23 g9L).addH 25 (gP p24)) f xs G := rfl
theorem okXS7 : SOk Tryz.prog XS7 := by
  refine sp_must ((SOk.none _).add ?_)
  intro xs G p v e hp
  unfold g9L at e
  split at e
  · cases e; exact lex_walk _ G
  · cases e
def T_cparse : Tab := ⟨fun id => if id = 8 then ([0, 1, 2, 3, 4, 5, 6, 7, 8, 9, 10], []) else ([], []), fun _ => false⟩
theorem T_cparse_ord (id : Nat) : T_cparse.ord id = if id = 8 then ([0, 1, 2, 3, 4, 5, 6, 7, 8, 9, 10], []) else ([], []) := rfl
theorem T_cparse_ghost (id : Nat) : T_cparse.ghost id = false := rfl
theorem ok_cparse : fnOk Tryz.prog 10 T_cparse 1 = true := by kernel_rfl
theorem vle_res {x y : V} : VLe (.tup [.nilsl, x, y]) (.tup [.sl 21 0 [], x, y]) := .tup ⟨.nil_sl 21, .refl _, .refl _, trivial⟩
set_option maxRecDepth 100000 in
set_option maxHeartbeats 1000000 in
theorem cparse_walk (s : List UInt8) (G : Heap) : VPure Tryz.prog 10 [.str s] G (parseC z0 s).v := by
  refine VCalls.of (okXS7) mixed T_cparse ok_cparse fun hG => ?_
  have hlen := lexL_len s
  have htl := lexL_textlen s
  have hgd := lexL_signs s
  have hsl : (lexL s).err = 0 → s.length ≤ 200 := fun e => by
    rcases Nat.lt_or_ge 200 s.length with h | h
    · unfold lexL at e; rw [if_pos h] at e; cases e
    · exact h
  unfold parseC
  by_cases he : (lexL s).err = 0
  · have hs := hsl he
    rw [if_pos he]
    generalize hl : lexL s = r at *
    obtain ⟨T, rn, re⟩ := r
    simp only at he hlen htl hgd
    subst he
    have hT : TokOk T := ⟨fun t ht => by have := htl t ht; omega, hgd⟩
    have hne : ¬(0 : Int) ≠ 0 := by decide
    simp only
    simp (maxSteps:=999999) -dsimp -implicitDefEqProofs only [↓eqD,eqU,eqV,eqW,vbuiltinQ,vlen,vslice,vindex,vstore,Array.toList,simprocAttr,fnWp_some Tryz.func10,Tryz.f10,T_cparse_ord,T_cparse_ghost,FB,FC,none_at,XS7_at,add_at,addH_at,g9L,hl,Lexed.v,hne]; (repeat ((with_reducible (refine And.intro ?_ ?_)); (focus (first | omega | exact ⟨by omega, by omega⟩))))
    refine (ccell_walk hT (en := s.length) (id := G.next) ⟨by simp (maxSteps:=999999) -dsimp -implicitDefEqProofs only [↓eqD,eqU,eqV,eqW,vbuiltinQ,vlen,vslice,vindex,vstore,Array.toList,simprocAttr,FB,FC,pcells_mk,z64], by omega, Nat.zero_le _⟩).mono ?_
    rintro _ _ ⟨rfl, rfl⟩
    have m := cellT_goes (z := z0) (T := T) (en := s.length)
    generalize cellT z0 T s.length = ks at *
    obtain ⟨l, s2⟩ := ks
    simp only at m ⊢
    have hd : decide ((T.length : Int) ≤ (s2.at_ : Int)) = decide (T.length ≤ s2.at_) := by simp
    have aT : T.length ≤ 1000 := by omega
    have hre : pcells T s.length s2 = [.sl 3 T.length (toksC T), .int .i64 s2.at_, .int .i64 s.length, .int .i64 s2.pos, .int .i64 s2.err] := rfl
    have hrm : ∀ M : St, pcells T s.length M = [.sl 3 T.length (toksC T), .int .i64 M.at_, .int .i64 s.length, .int .i64 M.pos, .int .i64 M.err] := fun _ => rfl
    by_cases hm : (mustT T s.length s2 (decide (T.length ≤ s2.at_))).err = 0
    · rw [if_pos hm]
      simp (maxSteps:=999999) -dsimp -implicitDefEqProofs only [↓eqD,eqU,eqV,eqW,vbuiltinQ,vlen,vslice,vindex,vstore,Array.toList,simprocAttr,T_cparse_ord,T_cparse_ghost,FB,FC,none_at,XS7_at,add_at,addH_at,gP,p24,parserOf_def,pOf_lit,St_eta,hrm,ParserAt,m,aT,hd,hm,hne]; (repeat ((with_reducible (refine And.intro ?_ ?_)); (focus (first | omega | exact ⟨by omega, by omega⟩))))
      refine VDone.back hG ?_ rfl rfl
      intro j hj; simp (maxSteps:=999999) -dsimp -implicitDefEqProofs only [↓eqD,eqU,eqV,eqW,vbuiltinQ,vlen,vslice,vindex,vstore,Array.toList,simprocAttr,lt6 hj]
    · rw [if_neg hm]
      simp (maxSteps:=999999) -dsimp -implicitDefEqProofs only [↓eqD,eqU,eqV,eqW,vbuiltinQ,vlen,vslice,vindex,vstore,Array.toList,simprocAttr,T_cparse_ord,T_cparse_ghost,FB,FC,none_at,XS7_at,add_at,addH_at,gP,p24,parserOf_def,pOf_lit,St_eta,hrm,ParserAt,m,aT,hd,hm,ne_eq]; (repeat ((with_reducible (refine And.intro ?_ ?_)); (focus (first | omega | exact ⟨by omega, by omega⟩))))
      refine .weak vle_res (VDone.back hG ?_ rfl rfl)
      intro j hj; simp (maxSteps:=999999) -dsimp -implicitDefEqProofs only [↓eqD,eqU,eqV,eqW,vbuiltinQ,vlen,vslice,vindex,vstore,Array.toList,simprocAttr,lt6 hj]
  · rw [if_neg he]
    simp (maxSteps:=999999) -dsimp -implicitDefEqProofs only [↓eqD,eqU,eqV,eqW,vbuiltinQ,vlen,vslice,vindex,vstore,Array.toList,simprocAttr,fnWp_some Tryz.func10,Tryz.f10,T_cparse_ord,T_cparse_ghost,FB,FC,none_at,XS7_at,add_at,addH_at,g9L,Lexed.v,he,ne_eq]; (repeat ((with_reducible (refine And.intro ?_ ?_)); (focus (first | omega | exact ⟨by omega, by omega⟩))))
    exact .weak vle_res (VDone.back hG (fun _ _ => rfl) rfl rfl)
end Go.Vf
