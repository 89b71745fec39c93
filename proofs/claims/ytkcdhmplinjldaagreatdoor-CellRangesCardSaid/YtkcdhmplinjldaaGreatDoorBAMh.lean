/- A part of the proof: Mh, Mi, Mj, Mk, Ml. -/
import Derived.Test.YtkcdhmplinjldaaGreatDoorBAMe
set_option linter.unusedVariables false
set_option linter.unusedSimpArgs false
namespace Go.Vf
open Go.Proofs Go.RowKit
def needT (T : List Tok) (en : Int) (s : St) (k : Int) (w : List UInt8) : St := mustT T en (takeT T s k w) (isT T s k w)
theorem needT_goes {T : List Tok} {en : Int} {s : St} {k : Int} {w : List UInt8} (hk : k ≠ 0) (h : s.at_ ≤ T.length) : s.at_ ≤ (needT T en s k w).at_ ∧ (needT T en s k w).at_ ≤ T.length := by
  unfold needT; rw [mustT_at]; exact takeT_goes hk h
def thenB : List UInt8 := [116, 104, 101, 110]
def elseB : List UInt8 := [101, 108, 115, 101]
def choiceP (T : List Tok) (en : Int) (ex : Kid) : Kid := fun s =>
  (Ex.mk 8 false 0 0 [] false false [(ex s).1, (ex (needT T en (ex s).2 1 thenB)).1, (ex (needT T en (ex (needT T en (ex s).2 1 thenB)).2 1 elseB)).1], (ex (needT T en (ex (needT T en (ex s).2 1 thenB)).2 1 elseB)).2)
theorem choiceP_goes {T : List Tok} {en : Int} {ex : Kid} (me : Goes T ex) : Goes T (choiceP T en ex) := fun s h => by
  unfold choiceP
  have h1 := me s h
  have h2 := needT_goes (T := T) (en := en) (s := (ex s).2) (k := 1) (w := thenB) (by decide) h1.2
  have h3 := me _ h2.2
  have h4 := needT_goes (T := T) (en := en) (s := (ex (needT T en (ex s).2 1 thenB)).2) (k := 1) (w := elseB) (by decide) h3.2
  have h5 := me _ h4.2
  simp only
  omega
theorem then_fold : ([116, 104, 101, 110] : List UInt8) = thenB := rfl
theorem else_fold : ([101, 108, 115, 101] : List UInt8) = elseB := rfl
theorem okm100 : fnOk Tryz.prog 238 T0 2 = true := by kernel_rfl
set_option maxRecDepth 100000 in
theorem choice_walk {T : List Tok} {en : Int} {id : Nat} {d : Nat} {ex : Kid} (hk : KidAt T en id 158 d ex) (me : Goes T ex) : KidAt T en id 238 d (choiceP T en ex) := fun s G h => by
  refine VCalls.of okS6 mixed T0 okm100 fun hG => ?_
  have hid := hG.lt h.1
  have hu := fun s' => pcells_under T en s' G.next
  have h12 := h.2.1
  have h1 := me s h.2.2
  unfold choiceP
  simp (maxSteps:=999999) -dsimp -implicitDefEqProofs only [↓eqD,eqU,eqV,eqW,vbuiltinQ,vlen,vslice,vindex,vstore,Array.toList,simprocAttr,fnWp_some Tryz.func238,Tryz.f238,T0,FB,S6_at,addH_at,add_at,none_at,gP,gQ,q71,p24,p70,g47,g59,parserOf_def,pOf_pcells,ParserAt,Ex.cells,h12,lt6 hid]
  refine (hk s _ ⟨by simp (maxSteps:=999999) -dsimp -implicitDefEqProofs only [↓eqD,eqU,eqV,eqW,vbuiltinQ,vlen,vslice,vindex,vstore,Array.toList,simprocAttr,lt6 hid]; exact h.1, h.2.1, h.2.2⟩).mono ?_
  rintro _ _ ⟨rfl, rfl⟩
  generalize ex s = ks at *
  obtain ⟨⟨k1, b1, m1, c1, t1, lo1, hi1, kids1⟩, s1⟩ := ks
  simp only at h1 ⊢
  have a1 := h1.2
  have a2 := (takeT_goes (T := T) (s := s1) (k := 1) (w := thenB) (by decide) h1.2).2
  have h2 := needT_goes (T := T) (en := en) (s := s1) (k := 1) (w := thenB) (by decide) h1.2
  have h3 := me _ h2.2
  simp (maxSteps:=999999) -dsimp -implicitDefEqProofs only [↓eqD,eqU,eqV,eqW,vbuiltinQ,vlen,vslice,vindex,vstore,Array.toList,simprocAttr,T0,FB,S6_at,addH_at,add_at,none_at,gP,gQ,q71,p24,p70,g47,g59,parserOf_def,pOf_pcells,ParserAt,Ex.cells,h12,lt6 hid,then_fold,a1,a2]
  refine (hk (needT T en s1 1 thenB) _ ⟨by simp (maxSteps:=999999) -dsimp -implicitDefEqProofs only [↓eqD,eqU,eqV,eqW,vbuiltinQ,vlen,vslice,vindex,vstore,Array.toList,simprocAttr,lt6 hid,needT], h.2.1, h2.2⟩).mono ?_
  rintro _ _ ⟨rfl, rfl⟩
  generalize ex (needT T en s1 1 thenB) = ks at *
  obtain ⟨⟨k2, b2, m2, c2, t2, lo2, hi2, kids2⟩, s2⟩ := ks
  simp only at h3 ⊢
  have a3 := h3.2
  have a4 := (takeT_goes (T := T) (s := s2) (k := 1) (w := elseB) (by decide) h3.2).2
  have h4 := needT_goes (T := T) (en := en) (s := s2) (k := 1) (w := elseB) (by decide) h3.2
  simp (maxSteps:=999999) -dsimp -implicitDefEqProofs only [↓eqD,eqU,eqV,eqW,vbuiltinQ,vlen,vslice,vindex,vstore,Array.toList,simprocAttr,T0,FB,S6_at,addH_at,add_at,none_at,gP,gQ,q71,p24,p70,g47,g59,parserOf_def,pOf_pcells,ParserAt,Ex.cells,h12,lt6 hid,else_fold,a3,a4]
  refine (hk (needT T en s2 1 elseB) _ ⟨by simp (maxSteps:=999999) -dsimp -implicitDefEqProofs only [↓eqD,eqU,eqV,eqW,vbuiltinQ,vlen,vslice,vindex,vstore,Array.toList,simprocAttr,lt6 hid,needT], h.2.1, h4.2⟩).mono ?_
  rintro _ _ ⟨rfl, rfl⟩
  generalize ex (needT T en s2 1 elseB) = ks at *
  obtain ⟨⟨k3, b3, m3, n3, t3, lo3, hi3, kids3⟩, s3⟩ := ks
  have d1 := exsC_closed kids1
  have d2 := exsC_closed kids2
  have d3 := exsC_closed kids3
  simp (maxSteps:=999999) -dsimp -implicitDefEqProofs only [↓eqD,eqU,eqV,eqW,vbuiltinQ,vlen,vslice,vindex,vstore,Array.toList,simprocAttr,T0,FB,S6_at,addH_at,add_at,none_at,gP,gQ,q71,p24,p70,g47,g59,parserOf_def,pOf_pcells,ParserAt,Ex.cells,h12,lt6 hid,vreps,vfill,d1,d2,d3]
  have e3 : exsC [Ex.mk k1 b1 m1 c1 t1 lo1 hi1 kids1, Ex.mk k2 b2 m2 c2 t2 lo2 hi2 kids2, Ex.mk k3 b3 m3 n3 t3 lo3 hi3 kids3] = [.int .i64 k1, .bool b1, .int .i64 m1, .int .i64 c1, .str t1, .bool lo1, .bool hi1, .sl 8 kids1.length (exsC kids1), .int .i64 k2, .bool b2, .int .i64 m2, .int .i64 c2, .str t2, .bool lo2, .bool hi2, .sl 8 kids2.length (exsC kids2), .int .i64 k3, .bool b3, .int .i64 m3, .int .i64 n3, .str t3, .bool lo3, .bool hi3, .sl 8 kids3.length (exsC kids3)] := by simp [exsC, Ex.cells]
  have hle := vle_kids 8 false 0 0 [] false false [Ex.mk k1 b1 m1 c1 t1 lo1 hi1 kids1, Ex.mk k2 b2 m2 c2 t2 lo2 hi2 kids2, Ex.mk k3 b3 m3 n3 t3 lo3 hi3 kids3]
  rw [e3] at hle
  refine .weak hle (VDone.turned hG hid (hu _) ?_ ?_ rfl ?_)
  · simp (maxSteps:=999999) -dsimp -implicitDefEqProofs only [↓eqD,eqU,eqV,eqW,vbuiltinQ,vlen,vslice,vindex,vstore,Array.toList,simprocAttr,lt6 hid]
  · intro j hj hji; simp (maxSteps:=999999) -dsimp -implicitDefEqProofs only [↓eqD,eqU,eqV,eqW,vbuiltinQ,vlen,vslice,vindex,vstore,Array.toList,simprocAttr,lt6 hj,hji]
  · simp (maxSteps:=999999) -dsimp -implicitDefEqProofs only [↓eqD,eqU,eqV,eqW,vbuiltinQ,vlen,vslice,vindex,vstore,Array.toList,simprocAttr,Ex.cells,e3]
def listGo (T : List Tok) (ex : Kid) : Nat → List Ex → St → List Ex × St
  | 0, acc, s => (acc, s)
  | f + 1, acc, s => if s.err = 0 then
      (if isT T (ex s).2 4 [44] = true then listGo T ex f (acc ++ [(ex s).1]) (takeT T (ex s).2 4 [44]) else (acc ++ [(ex s).1], (ex s).2))
    else (acc, s)
def listP (T : List Tok) (en : Int) (ex : Kid) (cl : List UInt8) (s : St) : List Ex × St :=
  if isT T s 4 cl = true then ([], takeT T s 4 cl)
  else ((listGo T ex (T.length + 1) [] s).1, needT T en (listGo T ex (T.length + 1) [] s).2 4 cl)
theorem listGo_goes {T : List Tok} {ex : Kid} (me : Goes T ex) : ∀ (f : Nat) (acc : List Ex) (s : St), s.at_ ≤ T.length → s.at_ ≤ (listGo T ex f acc s).2.at_ ∧ (listGo T ex f acc s).2.at_ ≤ T.length
  | 0, _, s, h => ⟨Nat.le_refl _, h⟩
  | f + 1, acc, s, h => by
    unfold listGo
    have h1 := me s h
    have h2 := takeT_goes (T := T) (s := (ex s).2) (k := 4) (w := [44]) (by decide) h1.2
    split
    · split
      · have := listGo_goes me f (acc ++ [(ex s).1]) _ h2.2
        omega
      · exact h1
    · exact ⟨Nat.le_refl _, h⟩
theorem listP_goes {T : List Tok} {en : Int} {ex : Kid} (me : Goes T ex) (cl : List UInt8) (s : St) (h : s.at_ ≤ T.length) : s.at_ ≤ (listP T en ex cl s).2.at_ ∧ (listP T en ex cl s).2.at_ ≤ T.length := by
  unfold listP
  split
  · exact takeT_goes (by decide) h
  · have h1 := listGo_goes me (T.length + 1) [] s h
    have h2 := needT_goes (T := T) (en := en) (s := (listGo T ex (T.length + 1) [] s).2) (k := 4) (w := cl) (by decide) h1.2
    simp only; omega
theorem exsC_snoc (l : List Ex) (x : Ex) : exsC (l ++ [x]) = exsC l ++ x.cells := by
  induction l with
  | nil => simp [exsC]
  | cons a r ih => rw [List.cons_append, exsC, ih, exsC, List.append_assoc]
theorem pcells_err (T : List Tok) (en : Int) (s : St) : pcells T en s = [.sl 3 T.length (toksC T), .int .i64 s.at_, .int .i64 en, .int .i64 s.pos, .int .i64 s.err] := rfl
theorem okm92 : fnOk Tryz.prog 232 T0 3 = true := by kernel_rfl
set_option maxRecDepth 100000 in
theorem list_walk {T : List Tok} {en : Int} {id : Nat} {d : Nat} {ex : Kid} (hk : KidAt T en id 158 d ex) (me : Goes T ex) (cl : List UInt8) (s : St) (G : Heap) (h : ParserAt G id T en s) :
    VCalls Tryz.prog 232 [.ptr id 0 0, .str cl, .int .i64 d] G fun u H => u = .sl 8 (listP T en ex cl s).1.length (exsC (listP T en ex cl s).1) ∧ H = G.put id (.cells 0 (pcells T en (listP T en ex cl s).2)) := by
  refine VCalls.of okS6 mixed T0 okm92 fun hG => ?_
  have hid := hG.lt h.1
  have hu := fun s' => pcells_under T en s' G.next
  have h12 := h.2.1
  have h11 := h.1
  have h13 := h.2.2
  unfold listP
  by_cases hi : isT T s 4 cl = true
  · rw [if_pos hi]
    simp (maxSteps:=999999) -dsimp -implicitDefEqProofs only [↓eqD,eqU,eqV,eqW,vbuiltinQ,vlen,vslice,vindex,vstore,Array.toList,simprocAttr,fnWp_some Tryz.func232,Tryz.f232,T0,FB,S6_at,addH_at,add_at,none_at,gP,gQ,q71,p24,p70,g47,g59,parserOf_def,pOf_pcells,ParserAt,Ex.cells,h12,lt6 hid,h11,h13,hi]
    refine .weak (.nil_sl 8) (VDone.turned hG hid (hu _) ?_ ?_ rfl rfl)
    · simp (maxSteps:=999999) -dsimp -implicitDefEqProofs only [↓eqD,eqU,eqV,eqW,vbuiltinQ,vlen,vslice,vindex,vstore,Array.toList,simprocAttr,lt6 hid]
    · intro j hj hji; simp (maxSteps:=999999) -dsimp -implicitDefEqProofs only [↓eqD,eqU,eqV,eqW,vbuiltinQ,vlen,vslice,vindex,vstore,Array.toList,simprocAttr,lt6 hj,hji]
  · try rw [if_neg hi]
    have hi : isT T s 4 cl = false := by simpa using hi
    have hs : takeT T s 4 cl = s := by unfold takeT; rw [hi]; rfl
    simp (maxSteps:=999999) -dsimp -implicitDefEqProofs only [↓eqD,eqU,eqV,eqW,vbuiltinQ,vlen,vslice,vindex,vstore,Array.toList,simprocAttr,fnWp_some Tryz.func232,Tryz.f232,T0,FB,S6_at,addH_at,add_at,none_at,gP,gQ,q71,p24,p70,g47,g59,parserOf_def,pOf_pcells,ParserAt,Ex.cells,h12,lt6 hid,h11,h13,hi,hs]
    have hfin := listGo_goes me (T.length + 1) [] s h.2.2
    generalize hR : listGo T ex (T.length + 1) [] s = R at *
    obtain ⟨RL, RS⟩ := R
    simp only at hfin ⊢
    refine vloop_to 0 (fun x : Nat × List Ex × St × Bool × Nat × Nat => x.2.2.1.at_ ≤ T.length ∧ x.2.1.length ≤ 1001 ∧ G.next < x.2.2.2.2.2 ∧ (x.2.2.2.1 = true → T.length < x.2.2.1.at_ + x.1 ∧ x.2.1.length ≤ x.2.2.1.at_ ∧ listGo T ex x.1 x.2.1 x.2.2.1 = (RL, RS)) ∧ (x.2.2.2.1 = false → (x.2.1, x.2.2.1) = (RL, RS)))
      (fun x => Env.of [(0, .ptr id 0 0), (1, .str cl), (2, .int .i64 d), (7, .arr 8 G.next x.2.2.2.2.1 0 x.2.1.length), (8, .bool x.2.2.2.1)])
      (fun x => (G.put id (.cells 0 (pcells T en x.2.2.1))).over x.2.2.2.2.2 [(G.next, .cells x.2.2.2.2.1 (exsC x.2.1))]) (fun x => x.1) (T.length + 1, [], s, true, 0, G.next + 1)
      (fun E G' => ∃ g m, G.next < m ∧ RL.length ≤ 1001 ∧ E 0 = .ptr id 0 0 ∧ E 1 = .str cl ∧ E 7 = .arr 8 G.next g 0 RL.length ∧ G' = (G.put id (.cells 0 (pcells T en RS))).over m [(G.next, .cells g (exsC RL))]) ?_ ?_ ?_ ?_
    · refine .trans (.own 7 8 (by simp (maxSteps:=999999) -dsimp -implicitDefEqProofs only [↓eqD,eqU,eqV,eqW,vbuiltinQ,vlen,vslice,vindex,vstore,Array.toList,simprocAttr])) (.of ?_ (.over (hG.put hid (hu _)) ?_ ?_ ?_))
      · simp (maxSteps:=999999) -dsimp -implicitDefEqProofs only [↓eqD,eqU,eqV,eqW,vbuiltinQ,vlen,vslice,vindex,vstore,Array.toList,simprocAttr]
        (repeat' apply And.intro) <;> exact .refl _
      · simp (maxSteps:=999999) -dsimp -implicitDefEqProofs only [↓eqD,eqU,eqV,eqW,vbuiltinQ,vlen,vslice,vindex,vstore,Array.toList,simprocAttr]
      · simp (maxSteps:=999999) -dsimp -implicitDefEqProofs only [↓eqD,eqU,eqV,eqW,vbuiltinQ,vlen,vslice,vindex,vstore,Array.toList,simprocAttr,FB,lt6 hid,exsC]
      · intro j hj
        have hj : j < G.next := hj
        simp (maxSteps:=999999) -dsimp -implicitDefEqProofs only [↓eqD,eqU,eqV,eqW,vbuiltinQ,vlen,vslice,vindex,vstore,Array.toList,simprocAttr,lt6 hj]
    · exact ⟨h.2.2, by simp, Nat.lt_succ_self _, fun _ => ⟨by simp only; omega, by simp, hR⟩, fun e => by cases e⟩
    · rintro ⟨f, acc, s1, more, g, m⟩ ⟨a1, a2, a3, a4, a5⟩
      simp only at a1 a2 a3 a4 a5
      have hm1 := Nat.ne_of_lt a3
      have hm2 := Nat.ne_of_gt a3
      have hidm : id < m := by omega
      cases more with
      | false =>
        have a5 := a5 rfl
        simp only [Prod.mk.injEq] at a5
        obtain ⟨rfl, rfl⟩ := a5
        simp (maxSteps:=999999) -dsimp -implicitDefEqProofs only [↓eqD,eqU,eqV,eqW,vbuiltinQ,vlen,vslice,vindex,vstore,Array.toList,simprocAttr,T0,FB,S6_at,addH_at,add_at,none_at,gP,gQ,q71,p24,p70,g47,g59,parserOf_def,pOf_pcells,ParserAt,Ex.cells,h12,lt6 hid,hm1,hm2]
        exact ⟨g, m, a3, a2, rfl, rfl⟩
      | true =>
        obtain ⟨b1, b2, b3⟩ := a4 rfl
        obtain ⟨f', rfl⟩ : ∃ f', f = f' + 1 := ⟨f - 1, by omega⟩
        rw [listGo] at b3
        have hpe : pcells T en s1 = [.sl 3 T.length (toksC T), .int .i64 s1.at_, .int .i64 en, .int .i64 s1.pos, .int .i64 s1.err] := rfl
        by_cases he : s1.err = 0
        · rw [if_pos he] at b3
          have hat : ParserAt ((G.put id (.cells 0 (pcells T en s1))).over m [(G.next, .cells g (exsC acc))]) id T en s1 := ⟨by simp (maxSteps:=999999) -dsimp -implicitDefEqProofs only [↓eqD,eqU,eqV,eqW,vbuiltinQ,vlen,vslice,vindex,vstore,Array.toList,simprocAttr,lt6 hid], h.2.1, a1⟩
          rw [hpe, he] at hat
          simp (maxSteps:=999999) -dsimp -implicitDefEqProofs only [↓eqD,eqU,eqV,eqW,vbuiltinQ,vlen,vslice,vindex,vstore,Array.toList,simprocAttr,T0,FB,S6_at,addH_at,add_at,none_at,gP,gQ,q71,p24,p70,g47,g59,parserOf_def,pOf_pcells,ParserAt,Ex.cells,h12,lt6 hid,hm1,hm2,hpe,he]
          refine (hk s1 _ hat).mono ?_
          rintro _ _ ⟨rfl, rfl⟩
          have h1 := me s1 a1
          generalize ex s1 = ks at *
          obtain ⟨⟨k1, v1, m1, n1, t1, lo1, hi1, kids1⟩, s2⟩ := ks
          simp only at h1 b3
          have d1 := exsC_closed kids1
          have a22 := h1.2
          have h2 := takeT_goes (T := T) (s := s2) (k := 4) (w := [44]) (by decide) h1.2
          have el := exsC_len acc
          have hb : (acc.length + 1) * 80 ≤ roomB := by unfold roomB; omega
          have en1 : exsC (acc ++ [Ex.mk k1 v1 m1 n1 t1 lo1 hi1 kids1]) = exsC acc ++ [.int .i64 k1, .bool v1, .int .i64 m1, .int .i64 n1, .str t1, .bool lo1, .bool hi1, .sl 8 kids1.length (exsC kids1)] := by rw [exsC_snoc]; simp [Ex.cells]
          cases hc : isT T s2 4 [44] with
          | true =>
            rw [if_pos hc] at b3
            have hlt := (isT_lt (by decide) hc).2
            have hst : (takeT T s2 4 [44]).at_ = s2.at_ + 1 := by unfold takeT; rw [if_pos hc]
            simp (maxSteps:=999999) -dsimp -implicitDefEqProofs only [↓eqD,eqU,eqV,eqW,vbuiltinQ,vlen,vslice,vindex,vstore,Array.toList,simprocAttr,T0,FB,S6_at,addH_at,add_at,none_at,gP,gQ,q71,p24,p70,g47,g59,parserOf_def,pOf_pcells,ParserAt,Ex.cells,h12,lt6 hid,hm1,hm2,vreps,vfill,vrow,d1,a22,el,hb,hc]
            refine ⟨(f', acc ++ [.mk k1 v1 m1 n1 t1 lo1 hi1 kids1], takeT T s2 4 [44], true, g + 1, m), ⟨h2.2, by simp; omega, a3, fun _ => ⟨by simp only; omega, by simp; omega, b3⟩, fun e => by cases e⟩, by simp only; omega, .of ?_ (.over (hG.put hid (hu _)) ?_ ?_ ?_)⟩
            · simp (maxSteps:=999999) -dsimp -implicitDefEqProofs only [↓eqD,eqU,eqV,eqW,vbuiltinQ,vlen,vslice,vindex,vstore,Array.toList,simprocAttr,List.length_append]
              (repeat' apply And.intro) <;> exact .refl _
            · simp (maxSteps:=999999) -dsimp -implicitDefEqProofs only [↓eqD,eqU,eqV,eqW,vbuiltinQ,vlen,vslice,vindex,vstore,Array.toList,simprocAttr]
            · simp (maxSteps:=999999) -dsimp -implicitDefEqProofs only [↓eqD,eqU,eqV,eqW,vbuiltinQ,vlen,vslice,vindex,vstore,Array.toList,simprocAttr,FB,lt6 hid,en1]
            · intro j hj
              have hj : j < G.next := hj
              by_cases hji : j = id <;> simp (maxSteps:=999999) -dsimp -implicitDefEqProofs only [↓eqD,eqU,eqV,eqW,vbuiltinQ,vlen,vslice,vindex,vstore,Array.toList,simprocAttr,lt6 hj,hji,lt6 hid]
          | false =>
            rw [if_neg (by rw [hc]; decide)] at b3
            have hst : takeT T s2 4 [44] = s2 := by unfold takeT; rw [hc]; rfl
            simp (maxSteps:=999999) -dsimp -implicitDefEqProofs only [↓eqD,eqU,eqV,eqW,vbuiltinQ,vlen,vslice,vindex,vstore,Array.toList,simprocAttr,T0,FB,S6_at,addH_at,add_at,none_at,gP,gQ,q71,p24,p70,g47,g59,parserOf_def,pOf_pcells,ParserAt,Ex.cells,h12,lt6 hid,hm1,hm2,vreps,vfill,vrow,d1,a22,el,hb,hc,hst]
            refine ⟨(f', acc ++ [.mk k1 v1 m1 n1 t1 lo1 hi1 kids1], s2, false, g + 1, m), ⟨h1.2, by simp; omega, a3, fun e => (by cases e), fun _ => b3⟩, by simp only; omega, .of ?_ (.over (hG.put hid (hu _)) ?_ ?_ ?_)⟩
            · simp (maxSteps:=999999) -dsimp -implicitDefEqProofs only [↓eqD,eqU,eqV,eqW,vbuiltinQ,vlen,vslice,vindex,vstore,Array.toList,simprocAttr,List.length_append]
              (repeat' apply And.intro) <;> exact .refl _
            · simp (maxSteps:=999999) -dsimp -implicitDefEqProofs only [↓eqD,eqU,eqV,eqW,vbuiltinQ,vlen,vslice,vindex,vstore,Array.toList,simprocAttr]
            · simp (maxSteps:=999999) -dsimp -implicitDefEqProofs only [↓eqD,eqU,eqV,eqW,vbuiltinQ,vlen,vslice,vindex,vstore,Array.toList,simprocAttr,FB,lt6 hid,en1]
            · intro j hj
              have hj : j < G.next := hj
              by_cases hji : j = id <;> simp (maxSteps:=999999) -dsimp -implicitDefEqProofs only [↓eqD,eqU,eqV,eqW,vbuiltinQ,vlen,vslice,vindex,vstore,Array.toList,simprocAttr,lt6 hj,hji,lt6 hid]
        · try rw [if_neg he] at b3
          simp only [Prod.mk.injEq] at b3
          obtain ⟨rfl, rfl⟩ := b3
          simp (maxSteps:=999999) -dsimp -implicitDefEqProofs only [↓eqD,eqU,eqV,eqW,vbuiltinQ,vlen,vslice,vindex,vstore,Array.toList,simprocAttr,T0,FB,S6_at,addH_at,add_at,none_at,gP,gQ,q71,p24,p70,g47,g59,parserOf_def,pOf_pcells,ParserAt,Ex.cells,h12,lt6 hid,hm1,hm2,hpe,he]
          exact ⟨g, m, a3, a2, rfl, rfl⟩
    · rintro E G' ⟨g, m, b1, b2, e0, e1, e7, rfl⟩
      have hm1 := Nat.ne_of_lt b1
      have hm2 := Nat.ne_of_gt b1
      have c1 := takeT_goes (T := T) (s := RS) (k := 4) (w := cl) (by decide) hfin.2
      have c12 := c1.2
      have c22 := hfin.2
      simp (maxSteps:=999999) -dsimp -implicitDefEqProofs only [↓eqD,eqU,eqV,eqW,vbuiltinQ,vlen,vslice,vindex,vstore,Array.toList,simprocAttr,T0,FB,S6_at,addH_at,add_at,none_at,gP,gQ,q71,p24,p70,g47,g59,parserOf_def,pOf_pcells,ParserAt,Ex.cells,h12,lt6 hid,hm1,hm2,e0,e1,e7,c12,c22]
      have el := exsC_len RL
      refine .pub (id := G.next) (g := g) (cs := exsC RL) (by simp (maxSteps:=999999) -dsimp -implicitDefEqProofs only [↓eqD,eqU,eqV,eqW,vbuiltinQ,vlen,vslice,vindex,vstore,Array.toList,simprocAttr,lt6 hid]) (exsC_closed RL) ?_
      have hpv : pubV G.next g (exsC RL) (.arr 8 G.next g 0 RL.length) = .sl 8 RL.length (exsC RL) := by
        simp only [pubV, pub1]
        rw [if_pos ⟨trivial, trivial, by rw [el]; omega⟩, ← el, List.drop_zero, List.take_length]
      rw [hpv]
      refine VDone.turned hG hid (hu _) ?_ ?_ rfl rfl
      · simp (maxSteps:=999999) -dsimp -implicitDefEqProofs only [↓eqD,eqU,eqV,eqW,vbuiltinQ,vlen,vslice,vindex,vstore,Array.toList,simprocAttr,lt6 hid,needT]
      · intro j hj hji; simp (maxSteps:=999999) -dsimp -implicitDefEqProofs only [↓eqD,eqU,eqV,eqW,vbuiltinQ,vlen,vslice,vindex,vstore,Array.toList,simprocAttr,lt6 hj,hji]
end Go.Vf
set_option linter.unusedVariables false
set_option linter.unusedSimpArgs false
namespace Go.Vf
open Go.Proofs Go.RowKit
def S7 : Specs := S6.add 66 g12
theorem S7_at (f : FuncId) (xs : List V) (G : Heap) : S7 f xs G = (((((((((((Specs.none.addH 222 (gQ q73)).addH 220 (gP (q71 4))).addH 206 (gP (q71 1))).addH 188 (gP p30)).addH 219 (gP p24)).addH 213 g59)).addH 218 (gP (p70 [91] [40]))).addH 221 (gP (p70 [93] [41]))).add 203 g47).add 66 g12) f xs G := rfl
theorem okS7 : SOk Tryz.prog S7 := by
  refine okS6.add ?_
  intro xs G p v e hp
  unfold g12 at e
  split at e
  · cases e; exact word_walk _ hp G
  · cases e
def nextS (s : St) : St := ⟨s.at_ + 1, s.pos, s.err⟩
def trueB : List UInt8 := [116, 114, 117, 101]
def falseB : List UInt8 := [102, 97, 108, 115, 101]
def nullB : List UInt8 := [110, 117, 108, 108]
def ifB : List UInt8 := [105, 102]
def namedP (T : List Tok) (en : Int) (ex : Kid) (w : List UInt8) : Kid := fun s =>
  if w = trueB then (.mk 2 true 0 0 [] false false [], nextS s)
  else if w = falseB then (.mk 2 false 0 0 [] false false [], nextS s)
  else if w = nullB then (.mk 1 false 0 0 [] false false [], nextS s)
  else if w = ifB then choiceP T en ex (nextS s)
  else if wordB w = true then (Ex.zero, errsT T en s 2)
  else if isT T (nextS s) 4 [40] = true then (.mk 10 false 0 0 w false false (listP T en ex [41] (takeT T (nextS s) 4 [40])).1, (listP T en ex [41] (takeT T (nextS s) 4 [40])).2)
  else (.mk 5 false 0 0 w false false [], nextS s)
def ListAt (T : List Tok) (en : Int) (id : Nat) (d : Int) (ex : Kid) : Prop :=
  ∀ cl s G, ParserAt G id T en s → VCalls Tryz.prog 232 [.ptr id 0 0, .str cl, .int .i64 d] G fun u H => u = .sl 8 (listP T en ex cl s).1.length (exsC (listP T en ex cl s).1) ∧ H = G.put id (.cells 0 (pcells T en (listP T en ex cl s).2))
theorem true_fold : ([116, 114, 117, 101] : List UInt8) = trueB := rfl
theorem false_fold : ([102, 97, 108, 115, 101] : List UInt8) = falseB := rfl
theorem null_fold : ([110, 117, 108, 108] : List UInt8) = nullB := rfl
theorem if_fold : ([105, 102] : List UInt8) = ifB := rfl
theorem tf_ne : falseB ≠ trueB := by decide
theorem nt_ne : nullB ≠ trueB := by decide
theorem nf_ne : nullB ≠ falseB := by decide
theorem it_ne : ifB ≠ trueB := by decide
theorem if_ne : ifB ≠ falseB := by decide
theorem in_ne : ifB ≠ nullB := by decide
theorem namedP_goes {T : List Tok} {en : Int} {ex : Kid} (me : Goes T ex) (w : List UInt8) (s : St) (h : s.at_ < T.length) : s.at_ ≤ (namedP T en ex w s).2.at_ ∧ (namedP T en ex w s).2.at_ ≤ T.length := by
  have h0 : (nextS s).at_ = s.at_ + 1 := rfl
  have h1 := choiceP_goes (en := en) me (nextS s) (by omega)
  have h2 := takeT_goes (T := T) (s := nextS s) (k := 4) (w := [40]) (by decide) (by omega)
  have h3 := listP_goes (en := en) me [41] _ h2.2
  have h4 : (errsT T en s 2).at_ = s.at_ := rfl
  unfold namedP
  split
  · simp only; omega
  · split
    · simp only; omega
    · split
      · simp only; omega
      · split
        · omega
        · split
          · simp only; omega
          · split
            · simp only; omega
            · simp only; omega
theorem okm91 : fnOk Tryz.prog 231 T0 3 = true := by kernel_rfl
set_option maxRecDepth 100000 in
theorem named_walk {T : List Tok} {en : Int} {id : Nat} {d : Nat} {ex : Kid} (hd : d ≤ 100) (hc : KidAt T en id 238 ((d + 1 : Nat) : Int) (choiceP T en ex)) (hl : ListAt T en id ((d + 1 : Nat) : Int) ex) (w : List UInt8) (hw : w.length ≤ 1000) (s : St) (G : Heap) (h : ParserAt G id T en s) (hlt : s.at_ < T.length) :
    VCalls Tryz.prog 231 [.ptr id 0 0, .str w, .int .i64 d] G fun u H => u = .agg (namedP T en ex w s).1.cells ∧ H = G.put id (.cells 0 (pcells T en (namedP T en ex w s).2)) := by
  refine VCalls.of okS7 mixed T0 okm91 fun hG => ?_
  have hid := hG.lt h.1
  have hu := fun s' => pcells_under T en s' G.next
  have h12 := h.2.1
  have h11 := h.1
  have h13 := h.2.2
  have h1' := h.1
  rw [pcells_err] at h1'
  have wd : IntKind.wrap .i64 ((d : Int) + 1) = ((d + 1 : Nat) : Int) := by rw [w64 (by omega) (by omega)]; rfl
  have wa : IntKind.wrap .i64 ((s.at_ : Int) + 1) = ((s.at_ + 1 : Nat) : Int) := by rw [w64 (by omega) (by omega)]; rfl
  have hn : pcells T en (nextS s) = [.sl 3 T.length (toksC T), .int .i64 ((s.at_ + 1 : Nat) : Int), .int .i64 en, .int .i64 s.pos, .int .i64 s.err] := rfl
  have hwl : w.length < 4294967281 := by omega
  have hna : (nextS s).at_ ≤ T.length := hlt
  have hza : (errsT T en s 2).at_ ≤ T.length := h.2.2
  unfold namedP
  by_cases c1 : w = trueB
  · rw [if_pos c1]
    simp (maxSteps:=999999) -dsimp -implicitDefEqProofs only [↓eqD,eqU,eqV,eqW,vbuiltinQ,vlen,vslice,vindex,vstore,Array.toList,simprocAttr,fnWp_some Tryz.func231,Tryz.f231,T0,FB,S7_at,addH_at,add_at,none_at,gP,gQ,q71,p24,p30,p70,g47,g59,g12,q73,parserOf_def,pOf_pcells,ParserAt,Ex.cells,h12,lt6 hid,h1',wd,wa,true_fold,false_fold,null_fold,if_fold,c1]
    refine .weak (vle_nil _ _ _ _ _ _ _) (VDone.turned hG hid (hu _) ?_ ?_ rfl rfl)
    · simp (maxSteps:=999999) -dsimp -implicitDefEqProofs only [↓eqD,eqU,eqV,eqW,vbuiltinQ,vlen,vslice,vindex,vstore,Array.toList,simprocAttr,lt6 hid,hn]
    · intro j hj hji; simp (maxSteps:=999999) -dsimp -implicitDefEqProofs only [↓eqD,eqU,eqV,eqW,vbuiltinQ,vlen,vslice,vindex,vstore,Array.toList,simprocAttr,lt6 hj,hji]
  try rw [if_neg c1]
  by_cases c2 : w = falseB
  · rw [if_pos c2]
    simp (maxSteps:=999999) -dsimp -implicitDefEqProofs only [↓eqD,eqU,eqV,eqW,vbuiltinQ,vlen,vslice,vindex,vstore,Array.toList,simprocAttr,fnWp_some Tryz.func231,Tryz.f231,T0,FB,S7_at,addH_at,add_at,none_at,gP,gQ,q71,p24,p30,p70,g47,g59,g12,q73,parserOf_def,pOf_pcells,ParserAt,Ex.cells,h12,lt6 hid,h1',wd,wa,true_fold,false_fold,null_fold,if_fold,c2,tf_ne]
    refine .weak (vle_nil _ _ _ _ _ _ _) (VDone.turned hG hid (hu _) ?_ ?_ rfl rfl)
    · simp (maxSteps:=999999) -dsimp -implicitDefEqProofs only [↓eqD,eqU,eqV,eqW,vbuiltinQ,vlen,vslice,vindex,vstore,Array.toList,simprocAttr,lt6 hid,hn]
    · intro j hj hji; simp (maxSteps:=999999) -dsimp -implicitDefEqProofs only [↓eqD,eqU,eqV,eqW,vbuiltinQ,vlen,vslice,vindex,vstore,Array.toList,simprocAttr,lt6 hj,hji]
  try rw [if_neg c2]
  by_cases c3' : w = nullB
  · rw [if_pos c3']
    simp (maxSteps:=999999) -dsimp -implicitDefEqProofs only [↓eqD,eqU,eqV,eqW,vbuiltinQ,vlen,vslice,vindex,vstore,Array.toList,simprocAttr,fnWp_some Tryz.func231,Tryz.f231,T0,FB,S7_at,addH_at,add_at,none_at,gP,gQ,q71,p24,p30,p70,g47,g59,g12,q73,parserOf_def,pOf_pcells,ParserAt,Ex.cells,h12,lt6 hid,h1',wd,wa,true_fold,false_fold,null_fold,if_fold,c3',nt_ne,nf_ne]
    refine .weak (vle_nil _ _ _ _ _ _ _) (VDone.turned hG hid (hu _) ?_ ?_ rfl rfl)
    · simp (maxSteps:=999999) -dsimp -implicitDefEqProofs only [↓eqD,eqU,eqV,eqW,vbuiltinQ,vlen,vslice,vindex,vstore,Array.toList,simprocAttr,lt6 hid,hn]
    · intro j hj hji; simp (maxSteps:=999999) -dsimp -implicitDefEqProofs only [↓eqD,eqU,eqV,eqW,vbuiltinQ,vlen,vslice,vindex,vstore,Array.toList,simprocAttr,lt6 hj,hji]
  try rw [if_neg c3']
  by_cases c4 : w = ifB
  · rw [if_pos c4]
    simp (maxSteps:=999999) -dsimp -implicitDefEqProofs only [↓eqD,eqU,eqV,eqW,vbuiltinQ,vlen,vslice,vindex,vstore,Array.toList,simprocAttr,fnWp_some Tryz.func231,Tryz.f231,T0,FB,S7_at,addH_at,add_at,none_at,gP,gQ,q71,p24,p30,p70,g47,g59,g12,q73,parserOf_def,pOf_pcells,ParserAt,Ex.cells,h12,lt6 hid,h1',wd,wa,true_fold,false_fold,null_fold,if_fold,c4,it_ne,if_ne,in_ne]
    refine (hc (nextS s) _ ⟨by simp (maxSteps:=999999) -dsimp -implicitDefEqProofs only [↓eqD,eqU,eqV,eqW,vbuiltinQ,vlen,vslice,vindex,vstore,Array.toList,simprocAttr,lt6 hid,hn], h.2.1, hna⟩).mono ?_
    rintro _ _ ⟨rfl, rfl⟩
    generalize choiceP T en ex (nextS s) = ks at *
    obtain ⟨⟨k2, b2, m2, n2, t2, lo2, hi2, kids2⟩, s2⟩ := ks
    simp (maxSteps:=999999) -dsimp -implicitDefEqProofs only [↓eqD,eqU,eqV,eqW,vbuiltinQ,vlen,vslice,vindex,vstore,Array.toList,simprocAttr,T0,FB,S7_at,addH_at,add_at,none_at,gP,gQ,q71,p24,p30,p70,g47,g59,g12,q73,parserOf_def,pOf_pcells,ParserAt,Ex.cells,h12,lt6 hid]
    refine VDone.turned hG hid (hu _) ?_ ?_ rfl rfl
    · simp (maxSteps:=999999) -dsimp -implicitDefEqProofs only [↓eqD,eqU,eqV,eqW,vbuiltinQ,vlen,vslice,vindex,vstore,Array.toList,simprocAttr,lt6 hid]
    · intro j hj hji; simp (maxSteps:=999999) -dsimp -implicitDefEqProofs only [↓eqD,eqU,eqV,eqW,vbuiltinQ,vlen,vslice,vindex,vstore,Array.toList,simprocAttr,lt6 hj,hji]
  try rw [if_neg c4]
  by_cases c5' : wordB w = true
  · rw [if_pos c5']
    simp (maxSteps:=999999) -dsimp -implicitDefEqProofs only [↓eqD,eqU,eqV,eqW,vbuiltinQ,vlen,vslice,vindex,vstore,Array.toList,simprocAttr,fnWp_some Tryz.func231,Tryz.f231,T0,FB,S7_at,addH_at,add_at,none_at,gP,gQ,q71,p24,p30,p70,g47,g59,g12,q73,parserOf_def,pOf_pcells,ParserAt,Ex.cells,h12,lt6 hid,h11,h13,wd,wa,true_fold,false_fold,null_fold,if_fold,c1,c2,c3',c4,c5',hwl]
    refine .weak (vle_nil 0 false 0 0 [] false false) (VDone.turned hG hid (hu _) ?_ ?_ rfl rfl)
    · simp (maxSteps:=999999) -dsimp -implicitDefEqProofs only [↓eqD,eqU,eqV,eqW,vbuiltinQ,vlen,vslice,vindex,vstore,Array.toList,simprocAttr,lt6 hid,hn]
    · intro j hj hji; simp (maxSteps:=999999) -dsimp -implicitDefEqProofs only [↓eqD,eqU,eqV,eqW,vbuiltinQ,vlen,vslice,vindex,vstore,Array.toList,simprocAttr,lt6 hj,hji]
  try rw [if_neg c5']
  have c5' : wordB w = false := by simpa using c5'
  have hna2 := takeT_goes (T := T) (s := nextS s) (k := 4) (w := [40]) (by decide) hna
  have hfold : [.sl 3 T.length (toksC T), .int .i64 ((s.at_ + 1 : Nat) : Int), .int .i64 en, .int .i64 s.pos, .int .i64 s.err] = pcells T en (nextS s) := rfl
  by_cases c6 : isT T (nextS s) 4 [40] = true
  · rw [if_pos c6]
    simp (maxSteps:=999999) -dsimp -implicitDefEqProofs only [↓eqD,eqU,eqV,eqW,vbuiltinQ,vlen,vslice,vindex,vstore,Array.toList,simprocAttr,fnWp_some Tryz.func231,Tryz.f231,T0,FB,S7_at,addH_at,add_at,none_at,gP,gQ,q71,p24,p30,p70,g47,g59,g12,q73,parserOf_def,pOf_pcells,ParserAt,Ex.cells,h12,lt6 hid,h1',wd,wa,true_fold,false_fold,null_fold,if_fold,c1,c2,c3',c4,c5',hwl,hfold,hna,c6]
    refine (hl [41] (takeT T (nextS s) 4 [40]) _ ⟨by simp (maxSteps:=999999) -dsimp -implicitDefEqProofs only [↓eqD,eqU,eqV,eqW,vbuiltinQ,vlen,vslice,vindex,vstore,Array.toList,simprocAttr,lt6 hid], h.2.1, hna2.2⟩).mono ?_
    rintro _ _ ⟨rfl, rfl⟩
    generalize listP T en ex [41] (takeT T (nextS s) 4 [40]) = ks at *
    obtain ⟨l2, s2⟩ := ks
    have dl := exsC_closed l2
    simp (maxSteps:=999999) -dsimp -implicitDefEqProofs only [↓eqD,eqU,eqV,eqW,vbuiltinQ,vlen,vslice,vindex,vstore,Array.toList,simprocAttr,T0,FB,S7_at,addH_at,add_at,none_at,gP,gQ,q71,p24,p30,p70,g47,g59,g12,q73,parserOf_def,pOf_pcells,ParserAt,Ex.cells,h12,lt6 hid,dl]
    refine VDone.turned hG hid (hu _) ?_ ?_ rfl rfl
    · simp (maxSteps:=999999) -dsimp -implicitDefEqProofs only [↓eqD,eqU,eqV,eqW,vbuiltinQ,vlen,vslice,vindex,vstore,Array.toList,simprocAttr,lt6 hid]
    · intro j hj hji; simp (maxSteps:=999999) -dsimp -implicitDefEqProofs only [↓eqD,eqU,eqV,eqW,vbuiltinQ,vlen,vslice,vindex,vstore,Array.toList,simprocAttr,lt6 hj,hji]
  · try rw [if_neg c6]
    have c6 : isT T (nextS s) 4 [40] = false := by simpa using c6
    have hs : takeT T (nextS s) 4 [40] = nextS s := by unfold takeT; rw [c6]; rfl
    simp (maxSteps:=999999) -dsimp -implicitDefEqProofs only [↓eqD,eqU,eqV,eqW,vbuiltinQ,vlen,vslice,vindex,vstore,Array.toList,simprocAttr,fnWp_some Tryz.func231,Tryz.f231,T0,FB,S7_at,addH_at,add_at,none_at,gP,gQ,q71,p24,p30,p70,g47,g59,g12,q73,parserOf_def,pOf_pcells,ParserAt,Ex.cells,h12,lt6 hid,h1',wd,wa,true_fold,false_fold,null_fold,if_fold,c1,c2,c3',c4,c5',hwl,hfold,hna,c6,hs]
    refine .weak (vle_nil _ _ _ _ _ _ _) (VDone.turned hG hid (hu _) ?_ ?_ rfl rfl)
    · simp (maxSteps:=999999) -dsimp -implicitDefEqProofs only [↓eqD,eqU,eqV,eqW,vbuiltinQ,vlen,vslice,vindex,vstore,Array.toList,simprocAttr,lt6 hid]
    · intro j hj hji; simp (maxSteps:=999999) -dsimp -implicitDefEqProofs only [↓eqD,eqU,eqV,eqW,vbuiltinQ,vlen,vslice,vindex,vstore,Array.toList,simprocAttr,lt6 hj,hji]
end Go.Vf
set_option linter.unusedVariables false
set_option linter.unusedSimpArgs false
namespace Go.Vf
open Go.Proofs Go.RowKit
theorem ag23 : tagg Tryz.prog 32 = some true := by kernel_rfl
theorem z23 : tzero Tryz.prog 32 = some [.int .i64 0, .int .i64 0] := by kernel_rfl
theorem c23 : Tryz.prog.cellsOf 32 = 2 := by kernel_rfl
theorem i23 : (Tryz.prog.info? 32).isSome = true := by kernel_rfl
theorem pOf_lit (T : List Tok) (n a : Nat) (en pos err : Int) : pOf (some (.cells 0 [.sl 3 n (toksC T), .int .i64 (a : Int), .int .i64 en, .int .i64 pos, .int .i64 err])) = some (T, en, ⟨a, pos, err⟩) := by
  unfold pOf; simp [toksD_C]
theorem St_eta (s : St) : (⟨s.at_, s.pos, s.err⟩ : St) = s := rfl
structure DecR where
  m : Int
  s : Int
  err : Int
def DecAt (decF : List UInt8 → DecR) : Prop := ∀ t G, t.length ≤ 1000 → VPure Tryz.prog 230 [.str t] G (.tup [.agg [.int .i64 (decF t).m, .int .i64 (decF t).s], .int .i64 (decF t).err])
def NamedAt (T : List Tok) (en : Int) (id : Nat) (d : Int) (ex : Kid) : Prop :=
  ∀ w s G, w.length ≤ 1000 → ParserAt G id T en s → s.at_ < T.length → VCalls Tryz.prog 231 [.ptr id 0 0, .str w, .int .i64 d] G fun u H => u = .agg (namedP T en ex w s).1.cells ∧ H = G.put id (.cells 0 (pcells T en (namedP T en ex w s).2))
def atomP (T : List Tok) (en : Int) (decF : List UInt8 → DecR) (ex : Kid) : Kid := fun s =>
  if (nowT T s).kind = 2 then (if (decF (nowT T s).text).err ≠ 0 then (Ex.zero, errsT T en s (decF (nowT T s).text).err) else (.mk 3 false (decF (nowT T s).text).m (decF (nowT T s).text).s [] false false [], nextS s))
  else if (nowT T s).kind = 3 then (.mk 4 false 0 0 (nowT T s).text false false [], nextS s)
  else if (nowT T s).kind = 1 then namedP T en ex (nowT T s).text s
  else if isT T s 4 [40] = true then ((ex (takeT T s 4 [40])).1, needT T en (ex (takeT T s 4 [40])).2 4 [41])
  else if isT T s 4 [91] = true then (.mk 9 false 0 0 [] false false (listP T en ex [93] (takeT T s 4 [91])).1, (listP T en ex [93] (takeT T s 4 [91])).2)
  else (Ex.zero, errsT T en s 2)
theorem now_lt {T : List Tok} {s : St} (h : (nowT T s).kind ≠ 0) : s.err = 0 ∧ s.at_ < T.length :=
  isT_lt (kind := (nowT T s).kind) (text := (nowT T s).text) h (by unfold isT; simp)
theorem now_short {T : List Tok} (hT : Short T) (s : St) : (nowT T s).text.length ≤ 1000 := by
  unfold nowT
  split
  · simp
  · rcases Nat.lt_or_ge s.at_ T.length with h' | h'
    · rw [List.getD, List.getElem?_eq_getElem h']
      exact hT _ (List.getElem_mem h')
    · rw [List.getD, List.getElem?_eq_none h']; simp
theorem atomP_goes {T : List Tok} {en : Int} {decF : List UInt8 → DecR} {ex : Kid} (me : Goes T ex) : Goes T (atomP T en decF ex) := fun s h => by
  have h0 : (nextS s).at_ = s.at_ + 1 := rfl
  have hz : ∀ e, (errsT T en s e).at_ = s.at_ := fun _ => rfl
  have h1 := takeT_goes (T := T) (s := s) (k := 4) (w := [40]) (by decide) h
  have h2 := me _ h1.2
  have h3 := needT_goes (T := T) (en := en) (s := (ex (takeT T s 4 [40])).2) (k := 4) (w := [41]) (by decide) h2.2
  have h4 := takeT_goes (T := T) (s := s) (k := 4) (w := [91]) (by decide) h
  have h5 := listP_goes (en := en) me [93] _ h4.2
  unfold atomP
  split
  · rename_i c
    have := now_lt (T := T) (s := s) (by rw [c]; decide)
    split
    · rw [hz]; omega
    · simp only; omega
  · split
    · rename_i c
      have := now_lt (T := T) (s := s) (by rw [c]; decide)
      simp only; omega
    · split
      · rename_i c
        have := now_lt (T := T) (s := s) (by rw [c]; decide)
        exact namedP_goes me _ s this.2
      · split
        · simp only; omega
        · split
          · simp only; omega
          · rw [hz]; omega
theorem okm86 : fnOk Tryz.prog 227 T0 2 = true := by kernel_rfl
set_option maxRecDepth 100000 in
theorem atom_walk {T : List Tok} {en : Int} {id : Nat} {d : Nat} {ex : Kid} {decF : List UInt8 → DecR} (hd : d ≤ 100) (hT : Short T) (hdec : DecAt decF) (hk : KidAt T en id 158 ((d + 1 : Nat) : Int) ex) (me : Goes T ex) (hn : NamedAt T en id d ex) (hl : ListAt T en id ((d + 1 : Nat) : Int) ex) :
    KidAt T en id 227 d (atomP T en decF ex) := fun s G h => by
  refine VCalls.of okS7 mixed T0 okm86 fun hG => ?_
  have hid := hG.lt h.1
  have hu := fun s' => pcells_under T en s' G.next
  have h12 := h.2.1
  have h11 := h.1
  have h13 := h.2.2
  have hsh := now_short hT s
  have wd : IntKind.wrap .i64 ((d : Int) + 1) = ((d + 1 : Nat) : Int) := by rw [w64 (by omega) (by omega)]; rfl
  have wa : IntKind.wrap .i64 ((s.at_ : Int) + 1) = ((s.at_ + 1 : Nat) : Int) := by rw [w64 (by omega) (by omega)]; rfl
  have hn' : pcells T en (nextS s) = [.sl 3 T.length (toksC T), .int .i64 ((s.at_ + 1 : Nat) : Int), .int .i64 en, .int .i64 s.pos, .int .i64 s.err] := rfl
  have hza : ∀ e, (errsT T en s e).at_ ≤ T.length := fun _ => h.2.2
  have hs1 := pcells_err T en s
  unfold atomP
  by_cases c1 : (nowT T s).kind = 2
  · rw [if_pos c1]
    simp (maxSteps:=999999) -dsimp -implicitDefEqProofs only [↓eqD,eqU,eqV,eqW,vbuiltinQ,vlen,vslice,vindex,vstore,Array.toList,simprocAttr,fnWp_some Tryz.func227,Tryz.f227,T0,FB,S7_at,addH_at,add_at,none_at,gP,gQ,q71,p24,p30,p70,g47,g59,g12,q73,parserOf_def,pOf_pcells,ParserAt,Ex.cells,h12,lt6 hid,h11,h13,wd,wa,c1]
    refine VPure.calls (hdec _ _ hsh) ?_
    by_cases c2 : (decF (nowT T s).text).err = 0
    · rw [if_neg (fun h => h c2)]
      simp (maxSteps:=999999) -dsimp -implicitDefEqProofs only [↓eqD,eqU,eqV,eqW,vbuiltinQ,vlen,vslice,vindex,vstore,Array.toList,simprocAttr,T0,FB,S7_at,addH_at,add_at,none_at,gP,gQ,q71,p24,p30,p70,g47,g59,g12,q73,parserOf_def,pOf_pcells,ParserAt,Ex.cells,h12,lt6 hid,ag23,z23,c23,i23,c2,h11,hs1,wa,ne_eq]
      refine .weak (vle_nil _ _ _ _ _ _ _) (VDone.turned hG hid (hu _) ?_ ?_ rfl rfl)
      · simp (maxSteps:=999999) -dsimp -implicitDefEqProofs only [↓eqD,eqU,eqV,eqW,vbuiltinQ,vlen,vslice,vindex,vstore,Array.toList,simprocAttr,lt6 hid,hn']
      · intro j hj hji; simp (maxSteps:=999999) -dsimp -implicitDefEqProofs only [↓eqD,eqU,eqV,eqW,vbuiltinQ,vlen,vslice,vindex,vstore,Array.toList,simprocAttr,lt6 hj,hji]
    · try rw [if_pos c2]
      simp (maxSteps:=999999) -dsimp -implicitDefEqProofs only [↓eqD,eqU,eqV,eqW,vbuiltinQ,vlen,vslice,vindex,vstore,Array.toList,simprocAttr,T0,FB,S7_at,addH_at,add_at,none_at,gP,gQ,q71,p24,p30,p70,g47,g59,g12,q73,parserOf_def,pOf_pcells,ParserAt,Ex.cells,h12,lt6 hid,ag23,z23,c23,i23,c2,h11,h13,ne_eq]
      refine .weak (vle_nil 0 false 0 0 [] false false) (VDone.turned hG hid (hu _) ?_ ?_ rfl rfl)
      · simp (maxSteps:=999999) -dsimp -implicitDefEqProofs only [↓eqD,eqU,eqV,eqW,vbuiltinQ,vlen,vslice,vindex,vstore,Array.toList,simprocAttr,lt6 hid,hn']
      · intro j hj hji; simp (maxSteps:=999999) -dsimp -implicitDefEqProofs only [↓eqD,eqU,eqV,eqW,vbuiltinQ,vlen,vslice,vindex,vstore,Array.toList,simprocAttr,lt6 hj,hji]
  try rw [if_neg c1]
  by_cases c2 : (nowT T s).kind = 3
  · rw [if_pos c2]
    simp (maxSteps:=999999) -dsimp -implicitDefEqProofs only [↓eqD,eqU,eqV,eqW,vbuiltinQ,vlen,vslice,vindex,vstore,Array.toList,simprocAttr,fnWp_some Tryz.func227,Tryz.f227,T0,FB,S7_at,addH_at,add_at,none_at,gP,gQ,q71,p24,p30,p70,g47,g59,g12,q73,parserOf_def,pOf_pcells,ParserAt,Ex.cells,h12,lt6 hid,h11,h13,wd,wa,c2,hs1,pOf_lit,St_eta,Int.reduceEq]
    refine .weak (vle_nil _ _ _ _ _ _ _) (VDone.turned hG hid (hu _) ?_ ?_ rfl rfl)
    · simp (maxSteps:=999999) -dsimp -implicitDefEqProofs only [↓eqD,eqU,eqV,eqW,vbuiltinQ,vlen,vslice,vindex,vstore,Array.toList,simprocAttr,lt6 hid,hn']
    · intro j hj hji; simp (maxSteps:=999999) -dsimp -implicitDefEqProofs only [↓eqD,eqU,eqV,eqW,vbuiltinQ,vlen,vslice,vindex,vstore,Array.toList,simprocAttr,lt6 hj,hji]
  try rw [if_neg c2]
  by_cases c3' : (nowT T s).kind = 1
  · rw [if_pos c3']
    have hlt := (now_lt (T := T) (s := s) (by rw [c3']; decide)).2
    simp (maxSteps:=999999) -dsimp -implicitDefEqProofs only [↓eqD,eqU,eqV,eqW,vbuiltinQ,vlen,vslice,vindex,vstore,Array.toList,simprocAttr,fnWp_some Tryz.func227,Tryz.f227,T0,FB,S7_at,addH_at,add_at,none_at,gP,gQ,q71,p24,p30,p70,g47,g59,g12,q73,parserOf_def,pOf_pcells,ParserAt,Ex.cells,h12,lt6 hid,h11,h13,wd,wa,c3',Int.reduceEq]
    refine (hn _ s _ hsh ⟨by simp (maxSteps:=999999) -dsimp -implicitDefEqProofs only [↓eqD,eqU,eqV,eqW,vbuiltinQ,vlen,vslice,vindex,vstore,Array.toList,simprocAttr,lt6 hid]; exact h.1, h.2.1, h.2.2⟩ hlt).mono ?_
    rintro _ _ ⟨rfl, rfl⟩
    generalize namedP T en ex (nowT T s).text s = ks at *
    obtain ⟨⟨k2, b2, m2, n2, t2, lo2, hi2, kids2⟩, s2⟩ := ks
    simp (maxSteps:=999999) -dsimp -implicitDefEqProofs only [↓eqD,eqU,eqV,eqW,vbuiltinQ,vlen,vslice,vindex,vstore,Array.toList,simprocAttr,T0,FB,S7_at,addH_at,add_at,none_at,gP,gQ,q71,p24,p30,p70,g47,g59,g12,q73,parserOf_def,pOf_pcells,ParserAt,Ex.cells,h12,lt6 hid]
    refine VDone.turned hG hid (hu _) ?_ ?_ rfl rfl
    · simp (maxSteps:=999999) -dsimp -implicitDefEqProofs only [↓eqD,eqU,eqV,eqW,vbuiltinQ,vlen,vslice,vindex,vstore,Array.toList,simprocAttr,lt6 hid]
    · intro j hj hji; simp (maxSteps:=999999) -dsimp -implicitDefEqProofs only [↓eqD,eqU,eqV,eqW,vbuiltinQ,vlen,vslice,vindex,vstore,Array.toList,simprocAttr,lt6 hj,hji]
  try rw [if_neg c3']
  have g1 := takeT_goes (T := T) (s := s) (k := 4) (w := [40]) (by decide) h.2.2
  have g2 := takeT_goes (T := T) (s := s) (k := 4) (w := [91]) (by decide) h.2.2
  have g12' := g1.2
  have g22 := g2.2
  by_cases c4 : isT T s 4 [40] = true
  · rw [if_pos c4]
    simp (maxSteps:=999999) -dsimp -implicitDefEqProofs only [↓eqD,eqU,eqV,eqW,vbuiltinQ,vlen,vslice,vindex,vstore,Array.toList,simprocAttr,fnWp_some Tryz.func227,Tryz.f227,T0,FB,S7_at,addH_at,add_at,none_at,gP,gQ,q71,p24,p30,p70,g47,g59,g12,q73,parserOf_def,pOf_pcells,ParserAt,Ex.cells,h12,lt6 hid,h11,h13,wd,wa,c1,c2,c3',c4]
    refine (hk (takeT T s 4 [40]) _ ⟨by simp (maxSteps:=999999) -dsimp -implicitDefEqProofs only [↓eqD,eqU,eqV,eqW,vbuiltinQ,vlen,vslice,vindex,vstore,Array.toList,simprocAttr,lt6 hid], h.2.1, g1.2⟩).mono ?_
    rintro _ _ ⟨rfl, rfl⟩
    have h1 := me _ g1.2
    generalize ex (takeT T s 4 [40]) = ks at *
    obtain ⟨⟨k2, b2, m2, n2, t2, lo2, hi2, kids2⟩, s2⟩ := ks
    simp only at h1 ⊢
    have a2 := h1.2
    have a3 := (takeT_goes (T := T) (s := s2) (k := 4) (w := [41]) (by decide) h1.2).2
    simp (maxSteps:=999999) -dsimp -implicitDefEqProofs only [↓eqD,eqU,eqV,eqW,vbuiltinQ,vlen,vslice,vindex,vstore,Array.toList,simprocAttr,T0,FB,S7_at,addH_at,add_at,none_at,gP,gQ,q71,p24,p30,p70,g47,g59,g12,q73,parserOf_def,pOf_pcells,ParserAt,Ex.cells,h12,lt6 hid,a2,a3]
    refine VDone.turned hG hid (hu _) ?_ ?_ rfl rfl
    · simp (maxSteps:=999999) -dsimp -implicitDefEqProofs only [↓eqD,eqU,eqV,eqW,vbuiltinQ,vlen,vslice,vindex,vstore,Array.toList,simprocAttr,lt6 hid,needT]
    · intro j hj hji; simp (maxSteps:=999999) -dsimp -implicitDefEqProofs only [↓eqD,eqU,eqV,eqW,vbuiltinQ,vlen,vslice,vindex,vstore,Array.toList,simprocAttr,lt6 hj,hji]
  try rw [if_neg c4]
  have c4 : isT T s 4 [40] = false := by simpa using c4
  have hs4 : takeT T s 4 [40] = s := by unfold takeT; rw [c4]; rfl
  by_cases c5' : isT T s 4 [91] = true
  · rw [if_pos c5']
    simp (maxSteps:=999999) -dsimp -implicitDefEqProofs only [↓eqD,eqU,eqV,eqW,vbuiltinQ,vlen,vslice,vindex,vstore,Array.toList,simprocAttr,fnWp_some Tryz.func227,Tryz.f227,T0,FB,S7_at,addH_at,add_at,none_at,gP,gQ,q71,p24,p30,p70,g47,g59,g12,q73,parserOf_def,pOf_pcells,ParserAt,Ex.cells,h12,lt6 hid,h11,h13,wd,wa,c1,c2,c3',c4,hs4,c5']
    refine (hl [93] (takeT T s 4 [91]) _ ⟨by simp (maxSteps:=999999) -dsimp -implicitDefEqProofs only [↓eqD,eqU,eqV,eqW,vbuiltinQ,vlen,vslice,vindex,vstore,Array.toList,simprocAttr,lt6 hid], h.2.1, g2.2⟩).mono ?_
    rintro _ _ ⟨rfl, rfl⟩
    generalize listP T en ex [93] (takeT T s 4 [91]) = ks at *
    obtain ⟨l2, s2⟩ := ks
    have dl := exsC_closed l2
    simp (maxSteps:=999999) -dsimp -implicitDefEqProofs only [↓eqD,eqU,eqV,eqW,vbuiltinQ,vlen,vslice,vindex,vstore,Array.toList,simprocAttr,T0,FB,S7_at,addH_at,add_at,none_at,gP,gQ,q71,p24,p30,p70,g47,g59,g12,q73,parserOf_def,pOf_pcells,ParserAt,Ex.cells,h12,lt6 hid,dl]
    refine VDone.turned hG hid (hu _) ?_ ?_ rfl rfl
    · simp (maxSteps:=999999) -dsimp -implicitDefEqProofs only [↓eqD,eqU,eqV,eqW,vbuiltinQ,vlen,vslice,vindex,vstore,Array.toList,simprocAttr,lt6 hid]
    · intro j hj hji; simp (maxSteps:=999999) -dsimp -implicitDefEqProofs only [↓eqD,eqU,eqV,eqW,vbuiltinQ,vlen,vslice,vindex,vstore,Array.toList,simprocAttr,lt6 hj,hji]
  try rw [if_neg c5']
  have c5' : isT T s 4 [91] = false := by simpa using c5'
  have hs5 : takeT T s 4 [91] = s := by unfold takeT; rw [c5']; rfl
  simp (maxSteps:=999999) -dsimp -implicitDefEqProofs only [↓eqD,eqU,eqV,eqW,vbuiltinQ,vlen,vslice,vindex,vstore,Array.toList,simprocAttr,fnWp_some Tryz.func227,Tryz.f227,T0,FB,S7_at,addH_at,add_at,none_at,gP,gQ,q71,p24,p30,p70,g47,g59,g12,q73,parserOf_def,pOf_pcells,ParserAt,Ex.cells,h12,lt6 hid,h11,h13,wd,wa,c1,c2,c3',c4,hs4,c5',hs5]
  refine .weak (vle_nil 0 false 0 0 [] false false) (VDone.turned hG hid (hu _) ?_ ?_ rfl rfl)
  · simp (maxSteps:=999999) -dsimp -implicitDefEqProofs only [↓eqD,eqU,eqV,eqW,vbuiltinQ,vlen,vslice,vindex,vstore,Array.toList,simprocAttr,lt6 hid]
  · intro j hj hji; simp (maxSteps:=999999) -dsimp -implicitDefEqProofs only [↓eqD,eqU,eqV,eqW,vbuiltinQ,vlen,vslice,vindex,vstore,Array.toList,simprocAttr,lt6 hj,hji]
end Go.Vf
set_option linter.unusedVariables false
set_option linter.unusedSimpArgs false
namespace Go.Vf
open Go.Proofs Go.RowKit
def addP (T : List Tok) (un : Kid) : Kid := rowP T (rowP T un (opOf T productsB)) (opOf T sumsB)
def unS (T : List Tok) (en : Int) (decF : List UInt8 → DecR) (ex un : Kid) : Kid := fun s =>
  if isT T s 4 [45] = true then (Ex.neg (un (takeT T s 4 [45])).1, (un (takeT T s 4 [45])).2) else atomP T en decF ex s
def exS (T : List Tok) (en : Int) (ex un : Kid) : Kid := rowP T (rowP T (cmpP T en (addP T un) ex) (opWord T [97, 110, 100])) (opWord T [111, 114])
def stepK (T : List Tok) (en : Int) (decF : List UInt8 → DecR) (p : Kid × Kid) : Kid × Kid := (exS T en p.1 (unS T en decF p.1 p.2), unS T en decF p.1 p.2)
def iterA {α : Type} (f : α → α) (z : α) : Nat → α
  | 0 => z
  | k + 1 => f (iterA f z k)
theorem iterA_zero {α : Type} (f : α → α) (z : α) : iterA f z 0 = z := rfl
theorem iterA_succ {α : Type} (f : α → α) (z : α) (k : Nat) : iterA f z (k + 1) = f (iterA f z k) := rfl
def zeroK (T : List Tok) (en : Int) : Kid := fun s => (Ex.zero, errsT T en s 12)
def kidsK (T : List Tok) (en : Int) (decF : List UInt8 → DecR) (k : Nat) : Kid × Kid := iterA (stepK T en decF) (zeroK T en, zeroK T en) k
def exK (T : List Tok) (en : Int) (decF : List UInt8 → DecR) (k : Nat) : Kid := (kidsK T en decF k).1
def unK (T : List Tok) (en : Int) (decF : List UInt8 → DecR) (k : Nat) : Kid := (kidsK T en decF k).2
theorem exK_zero (T : List Tok) (en : Int) (decF : List UInt8 → DecR) : exK T en decF 0 = fun s => (Ex.zero, errsT T en s 12) := by unfold exK kidsK; rw [iterA_zero]; rfl
theorem unK_zero (T : List Tok) (en : Int) (decF : List UInt8 → DecR) : unK T en decF 0 = fun s => (Ex.zero, errsT T en s 12) := by unfold unK kidsK; rw [iterA_zero]; rfl
theorem exK_succ (T : List Tok) (en : Int) (decF : List UInt8 → DecR) (k : Nat) : exK T en decF (k + 1) = exS T en (exK T en decF k) (unK T en decF (k + 1)) := by unfold exK unK kidsK; rw [iterA_succ]; rfl
theorem unK_succ (T : List Tok) (en : Int) (decF : List UInt8 → DecR) (k : Nat) : unK T en decF (k + 1) = unS T en decF (exK T en decF k) (unK T en decF k) := by unfold exK unK kidsK; rw [iterA_succ]; rfl
theorem unK_eq {T : List Tok} {en : Int} {decF : List UInt8 → DecR} {k d : Nat} (h : ¬8 < d) : unK T en decF (k + 1) = unaryP T en d (unK T en decF k) (atomP T en decF (exK T en decF k)) := by
  funext s
  rw [unK_succ, unS, unaryP, if_neg h]
theorem exK_eq {T : List Tok} {en : Int} {decF : List UInt8 → DecR} {k d : Nat} (h : ¬8 < d) : exK T en decF (k + 1) = exprP T en d (rowP T (cmpP T en (addP T (unK T en decF (k + 1))) (exK T en decF k)) (opWord T [97, 110, 100])) := by
  funext s
  rw [exK_succ, exS, exprP, if_neg h]
theorem errs_goes (T : List Tok) (en : Int) (e : Int) : Goes T fun s => (Ex.zero, errsT T en s e) := fun s h => ⟨Nat.le_refl _, h⟩
theorem kids_go {T : List Tok} {en : Int} {decF : List UInt8 → DecR} : ∀ k, Goes T (exK T en decF k) ∧ Goes T (unK T en decF k)
  | 0 => by rw [exK_zero, unK_zero]; exact ⟨errs_goes T en 12, errs_goes T en 12⟩
  | k + 1 => by
    have ih := kids_go (T := T) (en := en) (decF := decF) k
    have hu : Goes T (unK T en decF (k + 1)) := by rw [unK_eq (d := 0) (by decide)]; exact unaryP_goes ih.2 (atomP_goes ih.1)
    refine ⟨?_, hu⟩
    rw [exK_succ]
    exact rowP_goes (rowP_goes (cmpP_goes (rowP_goes (rowP_goes hu (steps_of _ _)) (steps_of _ _)) ih.1) (steps_word _ _)) (steps_word _ _)
theorem kids_walk {T : List Tok} {en : Int} {id : Nat} {decF : List UInt8 → DecR} (hT : Short T) (hdec : DecAt decF) : ∀ k, k ≤ 9 → KidAt T en id 158 ((9 - k : Nat) : Int) (exK T en decF k) ∧ KidAt T en id 224 ((9 - k : Nat) : Int) (unK T en decF k)
  | 0, _ => by
    have g : Goes T fun s => ((Ex.zero, s) : Ex × St) := fun s h => ⟨Nat.le_refl _, h⟩
    have h1 := expr_walk (T := T) (en := en) (id := id) (d := 9) (kid := fun s => (Ex.zero, s)) (fun h => absurd h (by decide)) g
    have h2 := unary_walk (T := T) (en := en) (id := id) (d := 9) (un := fun s => (Ex.zero, s)) (atom := fun s => (Ex.zero, s)) (fun h => absurd h (by decide)) (fun h => absurd h (by decide))
    have e1 : exK T en decF 0 = exprP T en 9 fun s => (Ex.zero, s) := by funext s; rw [exK_zero, exprP, if_pos (by decide)]
    have e2 : unK T en decF 0 = unaryP T en 9 (fun s => (Ex.zero, s)) (fun s => (Ex.zero, s)) := by funext s; rw [unK_zero, unaryP, if_pos (by decide)]
    rw [e1, e2]
    exact ⟨h1, h2⟩
  | k + 1, hk => by
    obtain ⟨w1, w2⟩ := kids_walk hT hdec (id := id) (en := en) k (by omega)
    obtain ⟨g1, g2⟩ := kids_go (T := T) (en := en) (decF := decF) k
    have gu := (kids_go (T := T) (en := en) (decF := decF) (k + 1)).2
    have hd : ¬8 < 9 - (k + 1) := by omega
    have e : ((9 - k : Nat) : Int) = ((9 - (k + 1) + 1 : Nat) : Int) := by omega
    rw [e] at w1 w2
    have hl : ListAt T en id ((9 - (k + 1) + 1 : Nat) : Int) (exK T en decF k) := fun cl s G h => list_walk w1 g1 cl s G h
    have hc := choice_walk w1 g1
    have hn : NamedAt T en id ((9 - (k + 1) : Nat) : Int) (exK T en decF k) := fun w s G hw h hlt => named_walk (by omega) hc hl w hw s G h hlt
    have ha := atom_walk (d := 9 - (k + 1)) (by omega) hT hdec w1 g1 hn hl
    have hu : KidAt T en id 224 ((9 - (k + 1) : Nat) : Int) (unK T en decF (k + 1)) := by
      rw [unK_eq hd]; exact unary_walk (fun _ => w2) (fun _ => ha)
    refine ⟨?_, hu⟩
    have hm := mul_walk hT hu gu
    have gm := rowP_goes gu (steps_of T productsB)
    have hadd := add_walk hT hm gm
    have gadd := rowP_goes gm (steps_of T sumsB)
    have hw : WithinAt T en id ((9 - (k + 1) : Nat) : Int) (withinP T en (exK T en decF k)) := fun x s G h => within_walk (by omega) w1 g1 x s G h
    have hcmp := cmp_walk hT hadd gadd hw
    have gcmp := cmpP_goes (en := en) gadd g1
    have hand := and_walk hcmp gcmp
    rw [exK_eq hd]
    exact expr_walk (fun _ => hand) (rowP_goes gcmp (steps_word _ _))
end Go.Vf
set_option linter.unusedVariables false
set_option linter.unusedSimpArgs false
namespace Go.Vf
open Go.Proofs Go.RowKit
theorem nextL_textlen {s : List UInt8} (h0 : s ≠ []) : (nextL s).text.length ≤ s.length := by
  have l4 : (signL s).length ≤ s.length := by
    rcases signGo_pre s signsF with h | h
    · unfold signL; rw [h]; simp
    · exact (List.isPrefixOf_iff_prefix.1 h).length_le
  unfold nextL
  split
  · split
    · simp
    · simp [List.length_take]; omega
  · split
    · simp [List.length_take]; omega
    · split
      · split
        · simp
        · split
          · simp
          · simp only [List.length_drop, List.length_take]; omega
      · split
        · simp
        · exact l4
theorem lexGo_textlen {s : List UInt8} : ∀ {f p : Nat} {acc : List Tok}, (∀ t, t ∈ acc → t.text.length ≤ s.length) → ∀ t, t ∈ (lexGo s f p acc).toks → t.text.length ≤ s.length
  | 0, _, _, _ => by intro t ht; simp [lexGo] at ht
  | f + 1, p, acc, h => by
    unfold lexGo
    split
    · rename_i hp
      split
      · intro t ht; simp at ht
      · split
        · intro t ht; simp at ht
        · rename_i c2
          refine lexGo_textlen fun t ht => ?_
          rcases List.mem_append.1 ht with ht | ht
          · exact h t ht
          · have : t = ⟨(nextL (s.drop p)).kind, (nextL (s.drop p)).text, p⟩ := by simpa using ht
            rw [this]
            have := nextL_textlen (s := s.drop p) (by rw [ne_eq, List.drop_eq_nil_iff]; omega)
            simp only [List.length_drop] at this
            simp only; omega
    · exact h
theorem lexL_textlen (s : List UInt8) : ∀ t, t ∈ (lexL s).toks → t.text.length ≤ s.length := by
  unfold lexL
  split
  · intro t ht; simp at ht
  · exact lexGo_textlen fun t ht => by simp at ht
theorem lexGo_len {s : List UInt8} : ∀ {f p : Nat} {acc : List Tok}, acc.length ≤ 60 → (lexGo s f p acc).toks.length ≤ 60
  | 0, _, _, _ => by simp [lexGo]
  | f + 1, p, acc, h => by
    unfold lexGo
    split
    · split
      · simp
      · rename_i h1
        split
        · simp
        · rename_i h2
          exact lexGo_len (by rw [List.length_append]; simp; rcases Nat.lt_or_ge acc.length 60 with h' | h'; · omega
                              · exact (h1 ⟨Classical.not_not.1 h2, h'⟩).elim)
    · exact h
theorem lexL_len (s : List UInt8) : (lexL s).toks.length ≤ 60 := by
  unfold lexL
  split
  · simp
  · exact lexGo_len (by simp)
structure Parsed where
  e : Ex
  n : Int
  err : Int
def Parsed.v (r : Parsed) : V := .tup [.agg r.e.cells, .int .i64 r.n, .int .i64 r.err]
theorem u55 : tstruct Tryz.prog 172 = some [.nilsl, .int .i64 0, .int .i64 0, .int .i64 0, .int .i64 0] := by kernel_rfl
theorem p55_0 : tplaces Tryz.prog 172 0 = some (0, 1) := by kernel_rfl
theorem p55_2 : tplaces Tryz.prog 172 2 = some (2, 1) := by kernel_rfl
end Go.Vf
