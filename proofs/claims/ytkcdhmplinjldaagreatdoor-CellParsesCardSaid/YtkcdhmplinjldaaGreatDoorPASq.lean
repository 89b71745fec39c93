/- A part of the proof: Sq. -/
import Derived.Test.YtkcdhmplinjldaaGreatDoorPASp
set_option linter.unusedVariables false
set_option linter.unusedSimpArgs false
namespace Go.Vf
open Go.Proofs Go.RowKit
def z1 : List Te → List Te := fun l => l
theorem takeS_one (T : List Tok) (s : St) (w : List UInt8) : takeS T s [w] = if isT T s 4 w = true then (w, takeT T s 4 w) else ([], s) := rfl
theorem ok_rtests : fnOk Tryz.prog 26 T0 1 = true := by kernel_rfl
set_option maxRecDepth 100000 in
set_option maxHeartbeats 2000000 in
theorem rtests_walk {T : List Tok} (hT : TokOk T) {en : Int} {s : St} {id : Nat} {G : Heap} (h : ReaderAt G id T en s) (he : s.err = 0) :
    VCalls Tryz.prog 26 [.ptr id 0 0] G fun u H => u = .sl 21 (testsT z1 T en 6 [] s).1.length (tesC (testsT z1 T en 6 [] s).1) ∧ H = G.put id (.cells 0 (rcells T en (testsT z1 T en 6 [] s).2)) := by
  refine VCalls.of (okYS2) mixed T0 ok_rtests fun hG => ?_
  have hid := hG.lt h.1
  have hu := fun s' => rcells_under T en s' G.next
  have h12 := h.2.1
  have hfin := testsT_goes (z := z1) (T := T) (en := en) 6 [] s h.2.2
  generalize hR : testsT z1 T en 6 [] s = R at *
  obtain ⟨RL, RS⟩ := R
  simp only at hfin ⊢
  simp (maxSteps:=999999) -dsimp -implicitDefEqProofs only [↓eqD,eqU,eqV,eqW,vbuiltinQ,vlen,vslice,vindex,vstore,Array.toList,simprocAttr,fnWp_some Tryz.func26,Tryz.f26,T0,FB,FC,none_at,YS2_at,addH_at,lt6 hid]; (repeat ((with_reducible (refine And.intro ?_ ?_)); (focus (first | omega | exact ⟨by omega, by omega⟩))))
  refine vloop_by (fun x : Nat × List Te × St × Nat × Nat => x.2.2.1.at_ ≤ T.length ∧ G.next < x.2.2.2.2 ∧ x.2.1.length + x.1 = 6 ∧ x.2.2.1.err = 0 ∧ testsT z1 T en x.1 x.2.1 x.2.2.1 = (RL, RS))
    (fun x => Env.of [(0, .ptr id 0 0), (3, .arr 21 G.next x.2.2.2.1 0 x.2.1.length)])
    (fun x => (G.put id (.cells 0 (rcells T en x.2.2.1))).over x.2.2.2.2 [(G.next, .cells x.2.2.2.1 (tesC x.2.1))]) (fun x => x.1) (6, [], s, 0, G.next + 1) ?_ ?_ ?_
  · refine .trans (.own 3 21 (by simp (maxSteps:=999999) -dsimp -implicitDefEqProofs only [↓eqD,eqU,eqV,eqW,vbuiltinQ,vlen,vslice,vindex,vstore,Array.toList,simprocAttr])) (.of ?_ (.over (hG.put hid (hu _)) ?_ ?_ ?_))
    · simp (maxSteps:=999999) -dsimp -implicitDefEqProofs only [↓eqD,eqU,eqV,eqW,vbuiltinQ,vlen,vslice,vindex,vstore,Array.toList,simprocAttr]
      (repeat' apply And.intro) <;> exact .refl _
    · simp (maxSteps:=999999) -dsimp -implicitDefEqProofs only [↓eqD,eqU,eqV,eqW,vbuiltinQ,vlen,vslice,vindex,vstore,Array.toList,simprocAttr]
    · simp (maxSteps:=999999) -dsimp -implicitDefEqProofs only [↓eqD,eqU,eqV,eqW,vbuiltinQ,vlen,vslice,vindex,vstore,Array.toList,simprocAttr,FB,FC,lt6 hid,tesC]
    · intro j hj
      have hj : j < G.next := hj
      by_cases hji : j = id
      · subst hji; simp (maxSteps:=999999) -dsimp -implicitDefEqProofs only [↓eqD,eqU,eqV,eqW,vbuiltinQ,vlen,vslice,vindex,vstore,Array.toList,simprocAttr,lt6 hid,Nat.ne_of_lt hid,h.1]
      · simp (maxSteps:=999999) -dsimp -implicitDefEqProofs only [↓eqD,eqU,eqV,eqW,vbuiltinQ,vlen,vslice,vindex,vstore,Array.toList,simprocAttr,lt6 hj,hji]
  · exact ⟨h.2.2, Nat.lt_succ_self _, rfl, he, hR⟩
  · rintro ⟨f, acc, s1, g, m⟩ ⟨a1, a3, b1, b2, b3⟩
    simp only at a1 a3 b1 b2 b3
    have hm1 := Nat.ne_of_lt a3
    have hm2 := Nat.ne_of_gt a3
    have hidm : id < m := by omega
    have el := tesC_len acc
    cases f with
    | zero =>
      rw [testsT] at b3
      simp only [Prod.mk.injEq, z1] at b3
      obtain ⟨rfl, rfl⟩ := b3
      have c6 : (6 : Int) ≤ (acc.length : Int) := by omega
      have hre := rcells_eq T en (errsT T en s1 13)
      have hne := errsT_ne (T := T) (en := en) (s := s1) (e := 13) (by decide)
      simp (maxSteps:=999999) -dsimp -implicitDefEqProofs only [↓eqD,eqU,eqV,eqW,vbuiltinQ,vlen,vslice,vindex,vstore,Array.toList,simprocAttr,T0,FB,FC,none_at,YS2_at,addH_at,g27,gR,r51,rOf_rcells,ReaderAt,a1,h12,lt6 hid,hm1,hm2,el,c6,hre,hne,ne_eq]; (repeat ((with_reducible (refine And.intro ?_ ?_)); (focus (first | omega | exact ⟨by omega, by omega⟩))))
      refine .pub (id := G.next) (g := g) (cs := tesC acc) (by simp (maxSteps:=999999) -dsimp -implicitDefEqProofs only [↓eqD,eqU,eqV,eqW,vbuiltinQ,vlen,vslice,vindex,vstore,Array.toList,simprocAttr,lt6 hid]) (tesC_closed acc) ?_
      have hpv : pubV G.next g (tesC acc) (.arr 21 G.next g 0 acc.length) = .sl 21 acc.length (tesC acc) := by
        simp only [pubV, pub1]
        rw [if_pos ⟨trivial, trivial, by rw [el]; omega⟩, ← el, List.drop_zero, List.take_length]
      rw [hpv]
      refine VDone.turned hG hid (hu (errsT T en s1 13)) ?_ ?_ rfl rfl
      · simp (maxSteps:=999999) -dsimp -implicitDefEqProofs only [↓eqD,eqU,eqV,eqW,vbuiltinQ,vlen,vslice,vindex,vstore,Array.toList,simprocAttr,lt6 hid,hre]
      · intro j hj hji; simp (maxSteps:=999999) -dsimp -implicitDefEqProofs only [↓eqD,eqU,eqV,eqW,vbuiltinQ,vlen,vslice,vindex,vstore,Array.toList,simprocAttr,lt6 hj,hji]
    | succ f' =>
      have c6 : ¬(6 : Int) ≤ (acc.length : Int) := by omega
      rw [testsT] at b3
      have hat : ReaderAt ((G.put id (.cells 0 (rcells T en s1))).over m [(G.next, .cells g (tesC acc))]) id T en s1 := ⟨by simp (maxSteps:=999999) -dsimp -implicitDefEqProofs only [↓eqD,eqU,eqV,eqW,vbuiltinQ,vlen,vslice,vindex,vstore,Array.toList,simprocAttr,lt6 hid], h.2.1, a1⟩
      have hre := rcells_eq T en s1
      rw [hre] at hat
      rw [b2] at hre hat
      have h1 := testT_goes (T := T) (en := en) a1
      simp (maxSteps:=999999) -dsimp -implicitDefEqProofs only [↓eqD,eqU,eqV,eqW,vbuiltinQ,vlen,vslice,vindex,vstore,Array.toList,simprocAttr,T0,FB,FC,none_at,YS2_at,addH_at,g27,gR,r51,rOf_rcells,ReaderAt,a1,h12,lt6 hid,hm1,hm2,el,c6,hre,ne_eq]; (repeat ((with_reducible (refine And.intro ?_ ?_)); (focus (first | omega | exact ⟨by omega, by omega⟩))))
      refine (rtest_walk hT (en := en) (s := s1) hat).mono ?_
      rw [test_eq hT.good]
      rintro _ _ ⟨rfl, rfl⟩
      generalize testT T en s1 = ks at *
      obtain ⟨⟨k, r, ⟨k1, v1, m1, n1, t1, lo1, hi1, kids1⟩, ⟨k2, v2, m2, n2, t2, lo2, hi2, kids2⟩, lo, hi, ks⟩, s2⟩ := ks
      simp only at h1 b3
      have d1 := exsC_closed kids1
      have d2 := exsC_closed kids2
      have d3 := tesC_closed ks
      have a22 := h1.2
      have h2 := takeT_goes (T := T) (s := s2) (k := 4) (w := [44]) (by decide) h1.2
      have hb : (acc.length + 1) * 216 ≤ roomB := by unfold roomB; omega
      have en1 : tesC (acc ++ [Te.mk k r (.mk k1 v1 m1 n1 t1 lo1 hi1 kids1) (.mk k2 v2 m2 n2 t2 lo2 hi2 kids2) lo hi ks]) = tesC acc ++ [.int .i64 k, .str r, .int .i64 k1, .bool v1, .int .i64 m1, .int .i64 n1, .str t1, .bool lo1, .bool hi1, .sl 8 kids1.length (exsC kids1), .int .i64 k2, .bool v2, .int .i64 m2, .int .i64 n2, .str t2, .bool lo2, .bool hi2, .sl 8 kids2.length (exsC kids2), .bool lo, .bool hi, .sl 21 ks.length (tesC ks)] := by rw [tesC_snoc]; simp [Te.cells_eq, Ex.cells]
      have hts := takeS_one T s2 [44]
      cases hc : isT T s2 4 [44] with
      | true =>
        rw [if_pos hc] at b3
        rw [if_pos hc] at hts
        have hse := (isT_lt (by decide) hc).1
        simp (maxSteps:=999999) -dsimp -implicitDefEqProofs only [↓eqD,eqU,eqV,eqW,vbuiltinQ,vlen,vslice,vindex,vstore,Array.toList,simprocAttr,T0,FB,FC,none_at,YS2_at,addH_at,g27,gR,r51,unstr_cons,unstr_nil,map_str_cons,map_str_nil,rOf_rcells,ReaderAt,Te.cells_eq,Ex.cells,List.cons_append,List.nil_append,h12,lt6 hid,hm1,hm2,vreps,vfill,vrow,d1,d2,d3,a22,el,hb,hts,ne_eq]; (repeat ((with_reducible (refine And.intro ?_ ?_)); (focus (first | omega | exact ⟨by omega, by omega⟩))))
        refine ⟨(f', acc ++ [.mk k r (.mk k1 v1 m1 n1 t1 lo1 hi1 kids1) (.mk k2 v2 m2 n2 t2 lo2 hi2 kids2) lo hi ks], takeT T s2 4 [44], g + 1, m), ⟨h2.2, a3, by simp; omega, hse, b3⟩, by simp only; omega, .of ?_ (.over (hG.put hid (hu _)) ?_ ?_ ?_)⟩
        · simp (maxSteps:=999999) -dsimp -implicitDefEqProofs only [↓eqD,eqU,eqV,eqW,vbuiltinQ,vlen,vslice,vindex,vstore,Array.toList,simprocAttr,List.length_append]
          (repeat' apply And.intro) <;> exact .refl _
        · simp (maxSteps:=999999) -dsimp -implicitDefEqProofs only [↓eqD,eqU,eqV,eqW,vbuiltinQ,vlen,vslice,vindex,vstore,Array.toList,simprocAttr]
        · simp (maxSteps:=999999) -dsimp -implicitDefEqProofs only [↓eqD,eqU,eqV,eqW,vbuiltinQ,vlen,vslice,vindex,vstore,Array.toList,simprocAttr,FB,FC,lt6 hid,en1]
        · intro j hj
          have hj : j < G.next := hj
          by_cases hji : j = id <;> simp (maxSteps:=999999) -dsimp -implicitDefEqProofs only [↓eqD,eqU,eqV,eqW,vbuiltinQ,vlen,vslice,vindex,vstore,Array.toList,simprocAttr,lt6 hj,hji,lt6 hid]
      | false =>
        rw [if_neg (by rw [hc]; decide)] at b3
        rw [if_neg (by rw [hc]; decide)] at hts
        simp only [Prod.mk.injEq] at b3
        obtain ⟨rfl, rfl⟩ := b3
        simp (maxSteps:=999999) -dsimp -implicitDefEqProofs only [↓eqD,eqU,eqV,eqW,vbuiltinQ,vlen,vslice,vindex,vstore,Array.toList,simprocAttr,T0,FB,FC,none_at,YS2_at,addH_at,g27,gR,r51,unstr_cons,unstr_nil,map_str_cons,map_str_nil,rOf_rcells,ReaderAt,Te.cells_eq,Ex.cells,List.cons_append,List.nil_append,h12,lt6 hid,hm1,hm2,vreps,vfill,vrow,d1,d2,d3,a22,el,hb,hts,ne_eq]; (repeat ((with_reducible (refine And.intro ?_ ?_)); (focus (first | omega | exact ⟨by omega, by omega⟩))))
        have el2 := tesC_len (acc ++ [Te.mk k r (.mk k1 v1 m1 n1 t1 lo1 hi1 kids1) (.mk k2 v2 m2 n2 t2 lo2 hi2 kids2) lo hi ks])
        rw [← en1]
        refine .pub (id := G.next) (g := g + 1) (cs := tesC (acc ++ [Te.mk k r (.mk k1 v1 m1 n1 t1 lo1 hi1 kids1) (.mk k2 v2 m2 n2 t2 lo2 hi2 kids2) lo hi ks])) (by simp (maxSteps:=999999) -dsimp -implicitDefEqProofs only [↓eqD,eqU,eqV,eqW,vbuiltinQ,vlen,vslice,vindex,vstore,Array.toList,simprocAttr,lt6 hid]) (tesC_closed _) ?_
        have hpv : pubV G.next (g + 1) (tesC (acc ++ [Te.mk k r (.mk k1 v1 m1 n1 t1 lo1 hi1 kids1) (.mk k2 v2 m2 n2 t2 lo2 hi2 kids2) lo hi ks])) (.arr 21 G.next (g + 1) 0 (acc.length + 1)) = .sl 21 (acc.length + 1) (tesC (acc ++ [Te.mk k r (.mk k1 v1 m1 n1 t1 lo1 hi1 kids1) (.mk k2 v2 m2 n2 t2 lo2 hi2 kids2) lo hi ks])) := by
          simp only [pubV, pub1]
          have el3 : (acc.length + 1) * 21 = (tesC (acc ++ [Te.mk k r (.mk k1 v1 m1 n1 t1 lo1 hi1 kids1) (.mk k2 v2 m2 n2 t2 lo2 hi2 kids2) lo hi ks])).length := by rw [el2]; simp
          rw [if_pos ⟨trivial, trivial, by omega⟩, el3, List.drop_zero, List.take_length]
        rw [hpv]
        refine VDone.turned hG hid (hu _) ?_ ?_ rfl (by simp)
        · simp (maxSteps:=999999) -dsimp -implicitDefEqProofs only [↓eqD,eqU,eqV,eqW,vbuiltinQ,vlen,vslice,vindex,vstore,Array.toList,simprocAttr,lt6 hid]
        · intro j hj hji; simp (maxSteps:=999999) -dsimp -implicitDefEqProofs only [↓eqD,eqU,eqV,eqW,vbuiltinQ,vlen,vslice,vindex,vstore,Array.toList,simprocAttr,lt6 hj,hji]
def YS3 : Specs := ((Specs.none.add 19 g16L).addH 27 g27).addH 28 (gR r51)
theorem YS3_at (f : FuncId) (xs : List V) (G : Heap) : YS3 f xs G = (((Specs.none.add 19 g16L).addH 27 g27).addH 28 (gR r51)) f xs G := rfl
theorem okYS3 : SOk Tryz.prog YS3 := ok_rfl (ok_rtk okSRP)
theorem vle_res1 {x y : V} {x0 x1 x2 x3 x4 x5 x6 x7 x8 x10 x11 x12 x13 x14 x15 x16 x18 x19 : V} (h : V.closedL [x0, x1, x2, x3, x4, x5, x6, x7, x8, .sl 8 0 [], x10, x11, x12, x13, x14, x15, x16, .sl 8 0 [], x18, x19, .sl 21 0 []] = true) :
    VLe (.tup [.slc 21 1 [x0, x1, x2, x3, x4, x5, x6, x7, x8, .nilsl, x10, x11, x12, x13, x14, x15, x16, .nilsl, x18, x19, .nilsl], x, y]) (.tup [.sl 21 1 [x0, x1, x2, x3, x4, x5, x6, x7, x8, .sl 8 0 [], x10, x11, x12, x13, x14, x15, x16, .sl 8 0 [], x18, x19, .sl 21 0 []], x, y]) :=
  .tup ⟨vle_any h, .refl _, .refl _, trivial⟩
theorem vle_res2 {x y : V} {x0 x1 x2 x3 x4 x5 x6 x7 x8 x10 x11 x12 x13 x14 x15 x16 x18 x19 x20 : V} (h : V.closedL [x0, x1, x2, x3, x4, x5, x6, x7, x8, .sl 8 0 [], x10, x11, x12, x13, x14, x15, x16, .sl 8 0 [], x18, x19, x20] = true) :
    VLe (.tup [.slc 21 1 [x0, x1, x2, x3, x4, x5, x6, x7, x8, .nilsl, x10, x11, x12, x13, x14, x15, x16, .nilsl, x18, x19, x20], x, y]) (.tup [.sl 21 1 [x0, x1, x2, x3, x4, x5, x6, x7, x8, .sl 8 0 [], x10, x11, x12, x13, x14, x15, x16, .sl 8 0 [], x18, x19, x20], x, y]) :=
  .tup ⟨vle_not h, .refl _, .refl _, trivial⟩
theorem errsT_at0 (T : List Tok) (en : Int) (s : St) (e : Int) : (errsT T en s e).at_ = s.at_ := by unfold errsT; rfl
theorem mustT_false (T : List Tok) (en : Int) (s : St) : mustT T en s false = errsT T en s 2 := rfl
def T_rparse : Tab := ⟨fun id => if id = 17 then ([0, 1, 2, 3, 4, 5, 6, 7, 8, 9, 10], []) else ([], []), fun _ => false⟩
theorem T_rparse_ord (id : Nat) : T_rparse.ord id = if id = 17 then ([0, 1, 2, 3, 4, 5, 6, 7, 8, 9, 10], []) else ([], []) := rfl
theorem T_rparse_ghost (id : Nat) : T_rparse.ghost id = false := rfl
theorem ok_rparse : fnOk Tryz.prog 11 T_rparse 1 = true := by kernel_rfl
set_option maxRecDepth 100000 in
set_option maxHeartbeats 2000000 in
theorem rparse_walk (s : List UInt8) (G : Heap) : VPure Tryz.prog 11 [.str s] G (parseC z1 s).v := by
  refine VCalls.of (okYS3) mixed T_rparse ok_rparse fun hG => ?_
  have hlen := lexL_len s
  have htl := lexL_textlen s
  have hgd := lexL_signs s
  have hsl : (lexL s).err = 0 → s.length ≤ 200 := fun e => by
    rcases Nat.lt_or_ge 200 s.length with h | h
    · unfold lexL at e; rw [if_pos h] at e; cases e
    · exact h
  have hrn0 := lexL_n s
  unfold parseC
  by_cases he : (lexL s).err = 0
  case neg =>
    rw [if_neg he]
    simp (maxSteps:=999999) -dsimp -implicitDefEqProofs only [↓eqD,eqU,eqV,eqW,vbuiltinQ,vlen,vslice,vindex,vstore,Array.toList,simprocAttr,fnWp_some Tryz.func11,Tryz.f11,T_rparse_ord,T_rparse_ghost,FB,FC,none_at,YS3_at,add_at,addH_at,g16L,Lexed.v,he,ne_eq]; (repeat ((with_reducible (refine And.intro ?_ ?_)); (focus (first | omega | exact ⟨by omega, by omega⟩))))
    exact .weak vle_res (VDone.back hG (fun _ _ => rfl) rfl rfl)
  have hs := hsl he
  have hrn := hrn0 he
  clear hrn0
  rw [if_pos he]
  generalize hl : lexL s = r at *
  obtain ⟨T, rn, re⟩ := r
  simp only at he hlen htl hgd hrn
  subst he
  subst hrn
  have hT : TokOk T := ⟨fun t ht => by have := htl t ht; omega, hgd⟩
  have hne0 : ¬(0 : Int) ≠ 0 := by decide
  have aT : T.length ≤ 1000 := by omega
  simp only
  unfold cellT
  by_cases l0 : T.length = 0
  · have e0 : T = [] := List.length_eq_zero_iff.1 l0
    have k1 : ¬(T.length = 1 ∧ signAt T 0 [45] = true) := by omega
    have k2 : ¬((T.getD 0 ⟨0, [], 0⟩).kind = 1 ∧ (T.getD 0 ⟨0, [], 0⟩).text = [110, 111, 116] ∧ signAt T 1 [40] = true) := fun h => by have := signAt_lt h.2.2; omega
    rw [if_neg k1, if_neg k2]
    have i1 : ¬(T.length : Int) = 1 := by omega
    have i2 : ¬(2 : Int) ≤ (T.length : Int) := by omega
    simp (maxSteps:=999999) -dsimp -implicitDefEqProofs only [↓eqD,eqU,eqV,eqW,vbuiltinQ,vlen,vslice,vindex,vstore,Array.toList,simprocAttr,fnWp_some Tryz.func11,Tryz.f11,T_rparse_ord,T_rparse_ghost,FB,FC,none_at,YS3_at,add_at,addH_at,g16L,hl,Lexed.v,hne0,i1,i2]; (repeat ((with_reducible (refine And.intro ?_ ?_)); (focus (first | omega | exact ⟨by omega, by omega⟩))))
    refine (rtests_walk hT (en := s.length) (id := G.next) (s := ⟨0, 0, 0⟩) ⟨by simp (maxSteps:=999999) -dsimp -implicitDefEqProofs only [↓eqD,eqU,eqV,eqW,vbuiltinQ,vlen,vslice,vindex,vstore,Array.toList,simprocAttr,FB,FC,rcells_mk,z64], by omega, Nat.zero_le _⟩ rfl).mono ?_
    rintro _ _ ⟨rfl, rfl⟩
    have m := testsT_goes (z := z1) (T := T) (en := s.length) 6 [] ⟨0, 0, 0⟩ (Nat.zero_le _)
    generalize testsT z1 T s.length 6 [] ⟨0, 0, 0⟩ = ks at *
    obtain ⟨ts, s3⟩ := ks
    simp only at m ⊢
    have m3 := m.2
    by_cases hl : s3.at_ < T.length
    · have c1 : (s3.at_ : Int) < (T.length : Int) := by omega
      have hd : decide (T.length ≤ s3.at_) = false := by simp; omega
      rw [hd, mustT_false]
      have hne := errsT_ne (T := T) (en := s.length) (s := s3) (e := 2) (by decide)
      rw [if_neg hne]
      have hrm : ∀ M : St, rcells T s.length M = [.sl 3 T.length (toksC T), .int .i64 M.at_, .int .i64 s.length, .int .i64 M.err, .int .i64 M.pos] := fun _ => rfl
      simp (maxSteps:=999999) -dsimp -implicitDefEqProofs only [↓eqD,eqU,eqV,eqW,vbuiltinQ,vlen,vslice,vindex,vstore,Array.toList,simprocAttr,T_rparse_ord,T_rparse_ghost,FB,FC,none_at,YS3_at,add_at,addH_at,g27,gR,r51,rOf_lit,St_eta,hrm,ReaderAt,m3,aT,c1,hne,ne_eq]; (repeat ((with_reducible (refine And.intro ?_ ?_)); (focus (first | omega | exact ⟨by omega, by omega⟩))))
      refine .weak vle_res (VDone.back hG ?_ rfl rfl)
      intro j hj; simp (maxSteps:=999999) -dsimp -implicitDefEqProofs only [↓eqD,eqU,eqV,eqW,vbuiltinQ,vlen,vslice,vindex,vstore,Array.toList,simprocAttr,lt6 hj]
    · have c1 : ¬(s3.at_ : Int) < (T.length : Int) := by omega
      have hd : decide (T.length ≤ s3.at_) = true := by simp; omega
      rw [hd, mustT_true]
      have hrm : ∀ M : St, rcells T s.length M = [.sl 3 T.length (toksC T), .int .i64 M.at_, .int .i64 s.length, .int .i64 M.err, .int .i64 M.pos] := fun _ => rfl
      by_cases h3 : s3.err = 0
      · rw [if_pos h3]
        simp (maxSteps:=999999) -dsimp -implicitDefEqProofs only [↓eqD,eqU,eqV,eqW,vbuiltinQ,vlen,vslice,vindex,vstore,Array.toList,simprocAttr,T_rparse_ord,T_rparse_ghost,FB,FC,none_at,YS3_at,add_at,addH_at,g27,gR,r51,rOf_lit,St_eta,hrm,ReaderAt,m3,aT,c1,h3,ne_eq]; (repeat ((with_reducible (refine And.intro ?_ ?_)); (focus (first | omega | exact ⟨by omega, by omega⟩))))
        first | refine VDone.back hG ?_ rfl rfl | refine .weak (vle_res2 (by simp [V.closedL, V.closed, V.scalar, d1])) (VDone.back hG ?_ rfl (by simp [Tests.v, tesC, Te.cells_eq, Ex.zero, Ex.cells, exsC]))
        intro j hj; simp (maxSteps:=999999) -dsimp -implicitDefEqProofs only [↓eqD,eqU,eqV,eqW,vbuiltinQ,vlen,vslice,vindex,vstore,Array.toList,simprocAttr,lt6 hj]
      · rw [if_neg h3]
        simp (maxSteps:=999999) -dsimp -implicitDefEqProofs only [↓eqD,eqU,eqV,eqW,vbuiltinQ,vlen,vslice,vindex,vstore,Array.toList,simprocAttr,T_rparse_ord,T_rparse_ghost,FB,FC,none_at,YS3_at,add_at,addH_at,g27,gR,r51,rOf_lit,St_eta,hrm,ReaderAt,m3,aT,c1,h3,ne_eq]; (repeat ((with_reducible (refine And.intro ?_ ?_)); (focus (first | omega | exact ⟨by omega, by omega⟩))))
        refine .weak vle_res (VDone.back hG ?_ rfl rfl)
        intro j hj; simp (maxSteps:=999999) -dsimp -implicitDefEqProofs only [↓eqD,eqU,eqV,eqW,vbuiltinQ,vlen,vslice,vindex,vstore,Array.toList,simprocAttr,lt6 hj]
  have hx := toks_at (l := T) (i := 0) (by omega)
  have hTa : T.getD 0 ⟨0, [], 0⟩ = T[0] := by rw [List.getD, List.getElem?_eq_getElem]; rfl
  have hsa : ∀ w, signAt T 0 w = (decide (T[0].kind = 4) && decide (T[0].text = w)) := fun w => by unfold signAt; rw [hTa]; simp; omega
  rw [hTa]
  generalize T[0] = t at *
  by_cases l1 : T.length = 1
  · have i1 : (T.length : Int) = 1 := by omega
    have i2 : ¬(2 : Int) ≤ (T.length : Int) := by omega
    have k2 : ¬(t.kind = 1 ∧ t.text = [110, 111, 116] ∧ signAt T 1 [40] = true) := fun h => by have := signAt_lt h.2.2; omega
    by_cases q1 : t.kind = 4
    · by_cases q2 : t.text = [45]
      · have k1 : T.length = 1 ∧ signAt T 0 [45] = true := ⟨l1, by rw [hsa]; simp [q1, q2]⟩
        rw [if_pos k1]
        have hm : mustT T s.length ⟨1, 0, 0⟩ (decide (T.length ≤ 1)) = ⟨1, 0, 0⟩ := by rw [l1]; rfl
        simp only [hm, if_true]
        simp (maxSteps:=999999) -dsimp -implicitDefEqProofs only [↓eqD,eqU,eqV,eqW,vbuiltinQ,vlen,vslice,vindex,vstore,Array.toList,simprocAttr,fnWp_some Tryz.func11,Tryz.f11,T_rparse_ord,T_rparse_ghost,FB,FC,none_at,YS3_at,add_at,addH_at,g16L,hl,Lexed.v,hne0,i1,hx,Tok.cells,q1,q2,vreps,vfill]; (repeat ((with_reducible (refine And.intro ?_ ?_)); (focus (first | omega | exact ⟨by omega, by omega⟩))))
        exact .weak (vle_res1 rfl) (VDone.back hG (fun _ _ => rfl) rfl rfl)
      · have k1 : ¬(T.length = 1 ∧ signAt T 0 [45] = true) := fun h => by rw [hsa] at h; simp [q2] at h
        rw [if_neg k1, if_neg k2]
        simp (maxSteps:=999999) -dsimp -implicitDefEqProofs only [↓eqD,eqU,eqV,eqW,vbuiltinQ,vlen,vslice,vindex,vstore,Array.toList,simprocAttr,fnWp_some Tryz.func11,Tryz.f11,T_rparse_ord,T_rparse_ghost,FB,FC,none_at,YS3_at,add_at,addH_at,g16L,hl,Lexed.v,hne0,i1,i2,hx,Tok.cells,q1,q2]; (repeat ((with_reducible (refine And.intro ?_ ?_)); (focus (first | omega | exact ⟨by omega, by omega⟩))))
        refine (rtests_walk hT (en := s.length) (id := G.next) (s := ⟨0, 0, 0⟩) ⟨by simp (maxSteps:=999999) -dsimp -implicitDefEqProofs only [↓eqD,eqU,eqV,eqW,vbuiltinQ,vlen,vslice,vindex,vstore,Array.toList,simprocAttr,FB,FC,rcells_mk,z64], by omega, Nat.zero_le _⟩ rfl).mono ?_
        rintro _ _ ⟨rfl, rfl⟩
        have m := testsT_goes (z := z1) (T := T) (en := s.length) 6 [] ⟨0, 0, 0⟩ (Nat.zero_le _)
        generalize testsT z1 T s.length 6 [] ⟨0, 0, 0⟩ = ks at *
        obtain ⟨ts, s3⟩ := ks
        simp only at m ⊢
        have m3 := m.2
        by_cases hl : s3.at_ < T.length
        · have c1 : (s3.at_ : Int) < (T.length : Int) := by omega
          have hd : decide (T.length ≤ s3.at_) = false := by simp; omega
          rw [hd, mustT_false]
          have hne := errsT_ne (T := T) (en := s.length) (s := s3) (e := 2) (by decide)
          rw [if_neg hne]
          have hrm : ∀ M : St, rcells T s.length M = [.sl 3 T.length (toksC T), .int .i64 M.at_, .int .i64 s.length, .int .i64 M.err, .int .i64 M.pos] := fun _ => rfl
          simp (maxSteps:=999999) -dsimp -implicitDefEqProofs only [↓eqD,eqU,eqV,eqW,vbuiltinQ,vlen,vslice,vindex,vstore,Array.toList,simprocAttr,T_rparse_ord,T_rparse_ghost,FB,FC,none_at,YS3_at,add_at,addH_at,g27,gR,r51,rOf_lit,St_eta,hrm,ReaderAt,m3,aT,c1,hne,ne_eq]; (repeat ((with_reducible (refine And.intro ?_ ?_)); (focus (first | omega | exact ⟨by omega, by omega⟩))))
          refine .weak vle_res (VDone.back hG ?_ rfl rfl)
          intro j hj; simp (maxSteps:=999999) -dsimp -implicitDefEqProofs only [↓eqD,eqU,eqV,eqW,vbuiltinQ,vlen,vslice,vindex,vstore,Array.toList,simprocAttr,lt6 hj]
        · have c1 : ¬(s3.at_ : Int) < (T.length : Int) := by omega
          have hd : decide (T.length ≤ s3.at_) = true := by simp; omega
          rw [hd, mustT_true]
          have hrm : ∀ M : St, rcells T s.length M = [.sl 3 T.length (toksC T), .int .i64 M.at_, .int .i64 s.length, .int .i64 M.err, .int .i64 M.pos] := fun _ => rfl
          by_cases h3 : s3.err = 0
          · rw [if_pos h3]
            simp (maxSteps:=999999) -dsimp -implicitDefEqProofs only [↓eqD,eqU,eqV,eqW,vbuiltinQ,vlen,vslice,vindex,vstore,Array.toList,simprocAttr,T_rparse_ord,T_rparse_ghost,FB,FC,none_at,YS3_at,add_at,addH_at,g27,gR,r51,rOf_lit,St_eta,hrm,ReaderAt,m3,aT,c1,h3,ne_eq]; (repeat ((with_reducible (refine And.intro ?_ ?_)); (focus (first | omega | exact ⟨by omega, by omega⟩))))
            first | refine VDone.back hG ?_ rfl rfl | refine .weak (vle_res2 (by simp [V.closedL, V.closed, V.scalar, d1])) (VDone.back hG ?_ rfl (by simp [Tests.v, tesC, Te.cells_eq, Ex.zero, Ex.cells, exsC]))
            intro j hj; simp (maxSteps:=999999) -dsimp -implicitDefEqProofs only [↓eqD,eqU,eqV,eqW,vbuiltinQ,vlen,vslice,vindex,vstore,Array.toList,simprocAttr,lt6 hj]
          · rw [if_neg h3]
            simp (maxSteps:=999999) -dsimp -implicitDefEqProofs only [↓eqD,eqU,eqV,eqW,vbuiltinQ,vlen,vslice,vindex,vstore,Array.toList,simprocAttr,T_rparse_ord,T_rparse_ghost,FB,FC,none_at,YS3_at,add_at,addH_at,g27,gR,r51,rOf_lit,St_eta,hrm,ReaderAt,m3,aT,c1,h3,ne_eq]; (repeat ((with_reducible (refine And.intro ?_ ?_)); (focus (first | omega | exact ⟨by omega, by omega⟩))))
            refine .weak vle_res (VDone.back hG ?_ rfl rfl)
            intro j hj; simp (maxSteps:=999999) -dsimp -implicitDefEqProofs only [↓eqD,eqU,eqV,eqW,vbuiltinQ,vlen,vslice,vindex,vstore,Array.toList,simprocAttr,lt6 hj]
    · have k1 : ¬(T.length = 1 ∧ signAt T 0 [45] = true) := fun h => by rw [hsa] at h; simp [q1] at h
      rw [if_neg k1, if_neg k2]
      simp (maxSteps:=999999) -dsimp -implicitDefEqProofs only [↓eqD,eqU,eqV,eqW,vbuiltinQ,vlen,vslice,vindex,vstore,Array.toList,simprocAttr,fnWp_some Tryz.func11,Tryz.f11,T_rparse_ord,T_rparse_ghost,FB,FC,none_at,YS3_at,add_at,addH_at,g16L,hl,Lexed.v,hne0,i1,i2,hx,Tok.cells,q1]; (repeat ((with_reducible (refine And.intro ?_ ?_)); (focus (first | omega | exact ⟨by omega, by omega⟩))))
      refine (rtests_walk hT (en := s.length) (id := G.next) (s := ⟨0, 0, 0⟩) ⟨by simp (maxSteps:=999999) -dsimp -implicitDefEqProofs only [↓eqD,eqU,eqV,eqW,vbuiltinQ,vlen,vslice,vindex,vstore,Array.toList,simprocAttr,FB,FC,rcells_mk,z64], by omega, Nat.zero_le _⟩ rfl).mono ?_
      rintro _ _ ⟨rfl, rfl⟩
      have m := testsT_goes (z := z1) (T := T) (en := s.length) 6 [] ⟨0, 0, 0⟩ (Nat.zero_le _)
      generalize testsT z1 T s.length 6 [] ⟨0, 0, 0⟩ = ks at *
      obtain ⟨ts, s3⟩ := ks
      simp only at m ⊢
      have m3 := m.2
      by_cases hl : s3.at_ < T.length
      · have c1 : (s3.at_ : Int) < (T.length : Int) := by omega
        have hd : decide (T.length ≤ s3.at_) = false := by simp; omega
        rw [hd, mustT_false]
        have hne := errsT_ne (T := T) (en := s.length) (s := s3) (e := 2) (by decide)
        rw [if_neg hne]
        have hrm : ∀ M : St, rcells T s.length M = [.sl 3 T.length (toksC T), .int .i64 M.at_, .int .i64 s.length, .int .i64 M.err, .int .i64 M.pos] := fun _ => rfl
        simp (maxSteps:=999999) -dsimp -implicitDefEqProofs only [↓eqD,eqU,eqV,eqW,vbuiltinQ,vlen,vslice,vindex,vstore,Array.toList,simprocAttr,T_rparse_ord,T_rparse_ghost,FB,FC,none_at,YS3_at,add_at,addH_at,g27,gR,r51,rOf_lit,St_eta,hrm,ReaderAt,m3,aT,c1,hne,ne_eq]; (repeat ((with_reducible (refine And.intro ?_ ?_)); (focus (first | omega | exact ⟨by omega, by omega⟩))))
        refine .weak vle_res (VDone.back hG ?_ rfl rfl)
        intro j hj; simp (maxSteps:=999999) -dsimp -implicitDefEqProofs only [↓eqD,eqU,eqV,eqW,vbuiltinQ,vlen,vslice,vindex,vstore,Array.toList,simprocAttr,lt6 hj]
      · have c1 : ¬(s3.at_ : Int) < (T.length : Int) := by omega
        have hd : decide (T.length ≤ s3.at_) = true := by simp; omega
        rw [hd, mustT_true]
        have hrm : ∀ M : St, rcells T s.length M = [.sl 3 T.length (toksC T), .int .i64 M.at_, .int .i64 s.length, .int .i64 M.err, .int .i64 M.pos] := fun _ => rfl
        by_cases h3 : s3.err = 0
        · rw [if_pos h3]
          simp (maxSteps:=999999) -dsimp -implicitDefEqProofs only [↓eqD,eqU,eqV,eqW,vbuiltinQ,vlen,vslice,vindex,vstore,Array.toList,simprocAttr,T_rparse_ord,T_rparse_ghost,FB,FC,none_at,YS3_at,add_at,addH_at,g27,gR,r51,rOf_lit,St_eta,hrm,ReaderAt,m3,aT,c1,h3,ne_eq]; (repeat ((with_reducible (refine And.intro ?_ ?_)); (focus (first | omega | exact ⟨by omega, by omega⟩))))
          first | refine VDone.back hG ?_ rfl rfl | refine .weak (vle_res2 (by simp [V.closedL, V.closed, V.scalar, d1])) (VDone.back hG ?_ rfl (by simp [Tests.v, tesC, Te.cells_eq, Ex.zero, Ex.cells, exsC]))
          intro j hj; simp (maxSteps:=999999) -dsimp -implicitDefEqProofs only [↓eqD,eqU,eqV,eqW,vbuiltinQ,vlen,vslice,vindex,vstore,Array.toList,simprocAttr,lt6 hj]
        · rw [if_neg h3]
          simp (maxSteps:=999999) -dsimp -implicitDefEqProofs only [↓eqD,eqU,eqV,eqW,vbuiltinQ,vlen,vslice,vindex,vstore,Array.toList,simprocAttr,T_rparse_ord,T_rparse_ghost,FB,FC,none_at,YS3_at,add_at,addH_at,g27,gR,r51,rOf_lit,St_eta,hrm,ReaderAt,m3,aT,c1,h3,ne_eq]; (repeat ((with_reducible (refine And.intro ?_ ?_)); (focus (first | omega | exact ⟨by omega, by omega⟩))))
          refine .weak vle_res (VDone.back hG ?_ rfl rfl)
          intro j hj; simp (maxSteps:=999999) -dsimp -implicitDefEqProofs only [↓eqD,eqU,eqV,eqW,vbuiltinQ,vlen,vslice,vindex,vstore,Array.toList,simprocAttr,lt6 hj]
  have k1 : ¬(T.length = 1 ∧ signAt T 0 [45] = true) := fun h => l1 h.1
  rw [if_neg k1]
  have i1 : ¬(T.length : Int) = 1 := by omega
  have i2 : (2 : Int) ≤ (T.length : Int) := by omega
  have hx1 := toks_at (l := T) (i := 1) (by omega)
  have hTb : T.getD 1 ⟨0, [], 0⟩ = T[1] := by rw [List.getD, List.getElem?_eq_getElem]; rfl
  have hsb : signAt T 1 [40] = (decide (T[1].kind = 4) && decide (T[1].text = [40])) := by unfold signAt; rw [hTb]; simp; omega
  generalize T[1] = t1 at *
  by_cases q1 : t.kind = 1
  case neg =>
    have k2 : ¬(t.kind = 1 ∧ t.text = [110, 111, 116] ∧ signAt T 1 [40] = true) := fun h => q1 h.1
    rw [if_neg k2]
    simp (maxSteps:=999999) -dsimp -implicitDefEqProofs only [↓eqD,eqU,eqV,eqW,vbuiltinQ,vlen,vslice,vindex,vstore,Array.toList,simprocAttr,fnWp_some Tryz.func11,Tryz.f11,T_rparse_ord,T_rparse_ghost,FB,FC,none_at,YS3_at,add_at,addH_at,g16L,hl,Lexed.v,hne0,i1,i2,hx,Tok.cells,q1]; (repeat ((with_reducible (refine And.intro ?_ ?_)); (focus (first | omega | exact ⟨by omega, by omega⟩))))
    refine (rtests_walk hT (en := s.length) (id := G.next) (s := ⟨0, 0, 0⟩) ⟨by simp (maxSteps:=999999) -dsimp -implicitDefEqProofs only [↓eqD,eqU,eqV,eqW,vbuiltinQ,vlen,vslice,vindex,vstore,Array.toList,simprocAttr,FB,FC,rcells_mk,z64], by omega, Nat.zero_le _⟩ rfl).mono ?_
    rintro _ _ ⟨rfl, rfl⟩
    have m := testsT_goes (z := z1) (T := T) (en := s.length) 6 [] ⟨0, 0, 0⟩ (Nat.zero_le _)
    generalize testsT z1 T s.length 6 [] ⟨0, 0, 0⟩ = ks at *
    obtain ⟨ts, s3⟩ := ks
    simp only at m ⊢
    have m3 := m.2
    by_cases hl : s3.at_ < T.length
    · have c1 : (s3.at_ : Int) < (T.length : Int) := by omega
      have hd : decide (T.length ≤ s3.at_) = false := by simp; omega
      rw [hd, mustT_false]
      have hne := errsT_ne (T := T) (en := s.length) (s := s3) (e := 2) (by decide)
      rw [if_neg hne]
      have hrm : ∀ M : St, rcells T s.length M = [.sl 3 T.length (toksC T), .int .i64 M.at_, .int .i64 s.length, .int .i64 M.err, .int .i64 M.pos] := fun _ => rfl
      simp (maxSteps:=999999) -dsimp -implicitDefEqProofs only [↓eqD,eqU,eqV,eqW,vbuiltinQ,vlen,vslice,vindex,vstore,Array.toList,simprocAttr,T_rparse_ord,T_rparse_ghost,FB,FC,none_at,YS3_at,add_at,addH_at,g27,gR,r51,rOf_lit,St_eta,hrm,ReaderAt,m3,aT,c1,hne,ne_eq]; (repeat ((with_reducible (refine And.intro ?_ ?_)); (focus (first | omega | exact ⟨by omega, by omega⟩))))
      refine .weak vle_res (VDone.back hG ?_ rfl rfl)
      intro j hj; simp (maxSteps:=999999) -dsimp -implicitDefEqProofs only [↓eqD,eqU,eqV,eqW,vbuiltinQ,vlen,vslice,vindex,vstore,Array.toList,simprocAttr,lt6 hj]
    · have c1 : ¬(s3.at_ : Int) < (T.length : Int) := by omega
      have hd : decide (T.length ≤ s3.at_) = true := by simp; omega
      rw [hd, mustT_true]
      have hrm : ∀ M : St, rcells T s.length M = [.sl 3 T.length (toksC T), .int .i64 M.at_, .int .i64 s.length, .int .i64 M.err, .int .i64 M.pos] := fun _ => rfl
      by_cases h3 : s3.err = 0
      · rw [if_pos h3]
        simp (maxSteps:=999999) -dsimp -implicitDefEqProofs only [↓eqD,eqU,eqV,eqW,vbuiltinQ,vlen,vslice,vindex,vstore,Array.toList,simprocAttr,T_rparse_ord,T_rparse_ghost,FB,FC,none_at,YS3_at,add_at,addH_at,g27,gR,r51,rOf_lit,St_eta,hrm,ReaderAt,m3,aT,c1,h3,ne_eq]; (repeat ((with_reducible (refine And.intro ?_ ?_)); (focus (first | omega | exact ⟨by omega, by omega⟩))))
        first | refine VDone.back hG ?_ rfl rfl | refine .weak (vle_res2 (by simp [V.closedL, V.closed, V.scalar, d1])) (VDone.back hG ?_ rfl (by simp [Tests.v, tesC, Te.cells_eq, Ex.zero, Ex.cells, exsC]))
        intro j hj; simp (maxSteps:=999999) -dsimp -implicitDefEqProofs only [↓eqD,eqU,eqV,eqW,vbuiltinQ,vlen,vslice,vindex,vstore,Array.toList,simprocAttr,lt6 hj]
      · rw [if_neg h3]
        simp (maxSteps:=999999) -dsimp -implicitDefEqProofs only [↓eqD,eqU,eqV,eqW,vbuiltinQ,vlen,vslice,vindex,vstore,Array.toList,simprocAttr,T_rparse_ord,T_rparse_ghost,FB,FC,none_at,YS3_at,add_at,addH_at,g27,gR,r51,rOf_lit,St_eta,hrm,ReaderAt,m3,aT,c1,h3,ne_eq]; (repeat ((with_reducible (refine And.intro ?_ ?_)); (focus (first | omega | exact ⟨by omega, by omega⟩))))
        refine .weak vle_res (VDone.back hG ?_ rfl rfl)
        intro j hj; simp (maxSteps:=999999) -dsimp -implicitDefEqProofs only [↓eqD,eqU,eqV,eqW,vbuiltinQ,vlen,vslice,vindex,vstore,Array.toList,simprocAttr,lt6 hj]
  by_cases q2 : t.text = [110, 111, 116]
  case neg =>
    have k2 : ¬(t.kind = 1 ∧ t.text = [110, 111, 116] ∧ signAt T 1 [40] = true) := fun h => q2 h.2.1
    rw [if_neg k2]
    simp (maxSteps:=999999) -dsimp -implicitDefEqProofs only [↓eqD,eqU,eqV,eqW,vbuiltinQ,vlen,vslice,vindex,vstore,Array.toList,simprocAttr,fnWp_some Tryz.func11,Tryz.f11,T_rparse_ord,T_rparse_ghost,FB,FC,none_at,YS3_at,add_at,addH_at,g16L,hl,Lexed.v,hne0,i1,i2,hx,Tok.cells,q1,q2]; (repeat ((with_reducible (refine And.intro ?_ ?_)); (focus (first | omega | exact ⟨by omega, by omega⟩))))
    refine (rtests_walk hT (en := s.length) (id := G.next) (s := ⟨0, 0, 0⟩) ⟨by simp (maxSteps:=999999) -dsimp -implicitDefEqProofs only [↓eqD,eqU,eqV,eqW,vbuiltinQ,vlen,vslice,vindex,vstore,Array.toList,simprocAttr,FB,FC,rcells_mk,z64], by omega, Nat.zero_le _⟩ rfl).mono ?_
    rintro _ _ ⟨rfl, rfl⟩
    have m := testsT_goes (z := z1) (T := T) (en := s.length) 6 [] ⟨0, 0, 0⟩ (Nat.zero_le _)
    generalize testsT z1 T s.length 6 [] ⟨0, 0, 0⟩ = ks at *
    obtain ⟨ts, s3⟩ := ks
    simp only at m ⊢
    have m3 := m.2
    by_cases hl : s3.at_ < T.length
    · have c1 : (s3.at_ : Int) < (T.length : Int) := by omega
      have hd : decide (T.length ≤ s3.at_) = false := by simp; omega
      rw [hd, mustT_false]
      have hne := errsT_ne (T := T) (en := s.length) (s := s3) (e := 2) (by decide)
      rw [if_neg hne]
      have hrm : ∀ M : St, rcells T s.length M = [.sl 3 T.length (toksC T), .int .i64 M.at_, .int .i64 s.length, .int .i64 M.err, .int .i64 M.pos] := fun _ => rfl
      simp (maxSteps:=999999) -dsimp -implicitDefEqProofs only [↓eqD,eqU,eqV,eqW,vbuiltinQ,vlen,vslice,vindex,vstore,Array.toList,simprocAttr,T_rparse_ord,T_rparse_ghost,FB,FC,none_at,YS3_at,add_at,addH_at,g27,gR,r51,rOf_lit,St_eta,hrm,ReaderAt,m3,aT,c1,hne,ne_eq]; (repeat ((with_reducible (refine And.intro ?_ ?_)); (focus (first | omega | exact ⟨by omega, by omega⟩))))
      refine .weak vle_res (VDone.back hG ?_ rfl rfl)
      intro j hj; simp (maxSteps:=999999) -dsimp -implicitDefEqProofs only [↓eqD,eqU,eqV,eqW,vbuiltinQ,vlen,vslice,vindex,vstore,Array.toList,simprocAttr,lt6 hj]
    · have c1 : ¬(s3.at_ : Int) < (T.length : Int) := by omega
      have hd : decide (T.length ≤ s3.at_) = true := by simp; omega
      rw [hd, mustT_true]
      have hrm : ∀ M : St, rcells T s.length M = [.sl 3 T.length (toksC T), .int .i64 M.at_, .int .i64 s.length, .int .i64 M.err, .int .i64 M.pos] := fun _ => rfl
      by_cases h3 : s3.err = 0
      · rw [if_pos h3]
        simp (maxSteps:=999999) -dsimp -implicitDefEqProofs only [↓eqD,eqU,eqV,eqW,vbuiltinQ,vlen,vslice,vindex,vstore,Array.toList,simprocAttr,T_rparse_ord,T_rparse_ghost,FB,FC,none_at,YS3_at,add_at,addH_at,g27,gR,r51,rOf_lit,St_eta,hrm,ReaderAt,m3,aT,c1,h3,ne_eq]; (repeat ((with_reducible (refine And.intro ?_ ?_)); (focus (first | omega | exact ⟨by omega, by omega⟩))))
        first | refine VDone.back hG ?_ rfl rfl | refine .weak (vle_res2 (by simp [V.closedL, V.closed, V.scalar, d1])) (VDone.back hG ?_ rfl (by simp [Tests.v, tesC, Te.cells_eq, Ex.zero, Ex.cells, exsC]))
        intro j hj; simp (maxSteps:=999999) -dsimp -implicitDefEqProofs only [↓eqD,eqU,eqV,eqW,vbuiltinQ,vlen,vslice,vindex,vstore,Array.toList,simprocAttr,lt6 hj]
      · rw [if_neg h3]
        simp (maxSteps:=999999) -dsimp -implicitDefEqProofs only [↓eqD,eqU,eqV,eqW,vbuiltinQ,vlen,vslice,vindex,vstore,Array.toList,simprocAttr,T_rparse_ord,T_rparse_ghost,FB,FC,none_at,YS3_at,add_at,addH_at,g27,gR,r51,rOf_lit,St_eta,hrm,ReaderAt,m3,aT,c1,h3,ne_eq]; (repeat ((with_reducible (refine And.intro ?_ ?_)); (focus (first | omega | exact ⟨by omega, by omega⟩))))
        refine .weak vle_res (VDone.back hG ?_ rfl rfl)
        intro j hj; simp (maxSteps:=999999) -dsimp -implicitDefEqProofs only [↓eqD,eqU,eqV,eqW,vbuiltinQ,vlen,vslice,vindex,vstore,Array.toList,simprocAttr,lt6 hj]
  by_cases q3 : t1.kind = 4
  case neg =>
    have k2 : ¬(t.kind = 1 ∧ t.text = [110, 111, 116] ∧ signAt T 1 [40] = true) := fun h => by have := h.2.2; rw [hsb] at this; simp [q3] at this
    rw [if_neg k2]
    simp (maxSteps:=999999) -dsimp -implicitDefEqProofs only [↓eqD,eqU,eqV,eqW,vbuiltinQ,vlen,vslice,vindex,vstore,Array.toList,simprocAttr,fnWp_some Tryz.func11,Tryz.f11,T_rparse_ord,T_rparse_ghost,FB,FC,none_at,YS3_at,add_at,addH_at,g16L,hl,Lexed.v,hne0,i1,i2,hx,hx1,Tok.cells,q1,q2,q3]; (repeat ((with_reducible (refine And.intro ?_ ?_)); (focus (first | omega | exact ⟨by omega, by omega⟩))))
    refine (rtests_walk hT (en := s.length) (id := G.next) (s := ⟨0, 0, 0⟩) ⟨by simp (maxSteps:=999999) -dsimp -implicitDefEqProofs only [↓eqD,eqU,eqV,eqW,vbuiltinQ,vlen,vslice,vindex,vstore,Array.toList,simprocAttr,FB,FC,rcells_mk,z64], by omega, Nat.zero_le _⟩ rfl).mono ?_
    rintro _ _ ⟨rfl, rfl⟩
    have m := testsT_goes (z := z1) (T := T) (en := s.length) 6 [] ⟨0, 0, 0⟩ (Nat.zero_le _)
    generalize testsT z1 T s.length 6 [] ⟨0, 0, 0⟩ = ks at *
    obtain ⟨ts, s3⟩ := ks
    simp only at m ⊢
    have m3 := m.2
    by_cases hl : s3.at_ < T.length
    · have c1 : (s3.at_ : Int) < (T.length : Int) := by omega
      have hd : decide (T.length ≤ s3.at_) = false := by simp; omega
      rw [hd, mustT_false]
      have hne := errsT_ne (T := T) (en := s.length) (s := s3) (e := 2) (by decide)
      rw [if_neg hne]
      have hrm : ∀ M : St, rcells T s.length M = [.sl 3 T.length (toksC T), .int .i64 M.at_, .int .i64 s.length, .int .i64 M.err, .int .i64 M.pos] := fun _ => rfl
      simp (maxSteps:=999999) -dsimp -implicitDefEqProofs only [↓eqD,eqU,eqV,eqW,vbuiltinQ,vlen,vslice,vindex,vstore,Array.toList,simprocAttr,T_rparse_ord,T_rparse_ghost,FB,FC,none_at,YS3_at,add_at,addH_at,g27,gR,r51,rOf_lit,St_eta,hrm,ReaderAt,m3,aT,c1,hne,ne_eq]; (repeat ((with_reducible (refine And.intro ?_ ?_)); (focus (first | omega | exact ⟨by omega, by omega⟩))))
      refine .weak vle_res (VDone.back hG ?_ rfl rfl)
      intro j hj; simp (maxSteps:=999999) -dsimp -implicitDefEqProofs only [↓eqD,eqU,eqV,eqW,vbuiltinQ,vlen,vslice,vindex,vstore,Array.toList,simprocAttr,lt6 hj]
    · have c1 : ¬(s3.at_ : Int) < (T.length : Int) := by omega
      have hd : decide (T.length ≤ s3.at_) = true := by simp; omega
      rw [hd, mustT_true]
      have hrm : ∀ M : St, rcells T s.length M = [.sl 3 T.length (toksC T), .int .i64 M.at_, .int .i64 s.length, .int .i64 M.err, .int .i64 M.pos] := fun _ => rfl
      by_cases h3 : s3.err = 0
      · rw [if_pos h3]
        simp (maxSteps:=999999) -dsimp -implicitDefEqProofs only [↓eqD,eqU,eqV,eqW,vbuiltinQ,vlen,vslice,vindex,vstore,Array.toList,simprocAttr,T_rparse_ord,T_rparse_ghost,FB,FC,none_at,YS3_at,add_at,addH_at,g27,gR,r51,rOf_lit,St_eta,hrm,ReaderAt,m3,aT,c1,h3,ne_eq]; (repeat ((with_reducible (refine And.intro ?_ ?_)); (focus (first | omega | exact ⟨by omega, by omega⟩))))
        first | refine VDone.back hG ?_ rfl rfl | refine .weak (vle_res2 (by simp [V.closedL, V.closed, V.scalar, d1])) (VDone.back hG ?_ rfl (by simp [Tests.v, tesC, Te.cells_eq, Ex.zero, Ex.cells, exsC]))
        intro j hj; simp (maxSteps:=999999) -dsimp -implicitDefEqProofs only [↓eqD,eqU,eqV,eqW,vbuiltinQ,vlen,vslice,vindex,vstore,Array.toList,simprocAttr,lt6 hj]
      · rw [if_neg h3]
        simp (maxSteps:=999999) -dsimp -implicitDefEqProofs only [↓eqD,eqU,eqV,eqW,vbuiltinQ,vlen,vslice,vindex,vstore,Array.toList,simprocAttr,T_rparse_ord,T_rparse_ghost,FB,FC,none_at,YS3_at,add_at,addH_at,g27,gR,r51,rOf_lit,St_eta,hrm,ReaderAt,m3,aT,c1,h3,ne_eq]; (repeat ((with_reducible (refine And.intro ?_ ?_)); (focus (first | omega | exact ⟨by omega, by omega⟩))))
        refine .weak vle_res (VDone.back hG ?_ rfl rfl)
        intro j hj; simp (maxSteps:=999999) -dsimp -implicitDefEqProofs only [↓eqD,eqU,eqV,eqW,vbuiltinQ,vlen,vslice,vindex,vstore,Array.toList,simprocAttr,lt6 hj]
  by_cases q4 : t1.text = [40]
  case neg =>
    have k2 : ¬(t.kind = 1 ∧ t.text = [110, 111, 116] ∧ signAt T 1 [40] = true) := fun h => by have := h.2.2; rw [hsb] at this; simp [q4] at this
    rw [if_neg k2]
    simp (maxSteps:=999999) -dsimp -implicitDefEqProofs only [↓eqD,eqU,eqV,eqW,vbuiltinQ,vlen,vslice,vindex,vstore,Array.toList,simprocAttr,fnWp_some Tryz.func11,Tryz.f11,T_rparse_ord,T_rparse_ghost,FB,FC,none_at,YS3_at,add_at,addH_at,g16L,hl,Lexed.v,hne0,i1,i2,hx,hx1,Tok.cells,q1,q2,q3,q4]; (repeat ((with_reducible (refine And.intro ?_ ?_)); (focus (first | omega | exact ⟨by omega, by omega⟩))))
    refine (rtests_walk hT (en := s.length) (id := G.next) (s := ⟨0, 0, 0⟩) ⟨by simp (maxSteps:=999999) -dsimp -implicitDefEqProofs only [↓eqD,eqU,eqV,eqW,vbuiltinQ,vlen,vslice,vindex,vstore,Array.toList,simprocAttr,FB,FC,rcells_mk,z64], by omega, Nat.zero_le _⟩ rfl).mono ?_
    rintro _ _ ⟨rfl, rfl⟩
    have m := testsT_goes (z := z1) (T := T) (en := s.length) 6 [] ⟨0, 0, 0⟩ (Nat.zero_le _)
    generalize testsT z1 T s.length 6 [] ⟨0, 0, 0⟩ = ks at *
    obtain ⟨ts, s3⟩ := ks
    simp only at m ⊢
    have m3 := m.2
    by_cases hl : s3.at_ < T.length
    · have c1 : (s3.at_ : Int) < (T.length : Int) := by omega
      have hd : decide (T.length ≤ s3.at_) = false := by simp; omega
      rw [hd, mustT_false]
      have hne := errsT_ne (T := T) (en := s.length) (s := s3) (e := 2) (by decide)
      rw [if_neg hne]
      have hrm : ∀ M : St, rcells T s.length M = [.sl 3 T.length (toksC T), .int .i64 M.at_, .int .i64 s.length, .int .i64 M.err, .int .i64 M.pos] := fun _ => rfl
      simp (maxSteps:=999999) -dsimp -implicitDefEqProofs only [↓eqD,eqU,eqV,eqW,vbuiltinQ,vlen,vslice,vindex,vstore,Array.toList,simprocAttr,T_rparse_ord,T_rparse_ghost,FB,FC,none_at,YS3_at,add_at,addH_at,g27,gR,r51,rOf_lit,St_eta,hrm,ReaderAt,m3,aT,c1,hne,ne_eq]; (repeat ((with_reducible (refine And.intro ?_ ?_)); (focus (first | omega | exact ⟨by omega, by omega⟩))))
      refine .weak vle_res (VDone.back hG ?_ rfl rfl)
      intro j hj; simp (maxSteps:=999999) -dsimp -implicitDefEqProofs only [↓eqD,eqU,eqV,eqW,vbuiltinQ,vlen,vslice,vindex,vstore,Array.toList,simprocAttr,lt6 hj]
    · have c1 : ¬(s3.at_ : Int) < (T.length : Int) := by omega
      have hd : decide (T.length ≤ s3.at_) = true := by simp; omega
      rw [hd, mustT_true]
      have hrm : ∀ M : St, rcells T s.length M = [.sl 3 T.length (toksC T), .int .i64 M.at_, .int .i64 s.length, .int .i64 M.err, .int .i64 M.pos] := fun _ => rfl
      by_cases h3 : s3.err = 0
      · rw [if_pos h3]
        simp (maxSteps:=999999) -dsimp -implicitDefEqProofs only [↓eqD,eqU,eqV,eqW,vbuiltinQ,vlen,vslice,vindex,vstore,Array.toList,simprocAttr,T_rparse_ord,T_rparse_ghost,FB,FC,none_at,YS3_at,add_at,addH_at,g27,gR,r51,rOf_lit,St_eta,hrm,ReaderAt,m3,aT,c1,h3,ne_eq]; (repeat ((with_reducible (refine And.intro ?_ ?_)); (focus (first | omega | exact ⟨by omega, by omega⟩))))
        first | refine VDone.back hG ?_ rfl rfl | refine .weak (vle_res2 (by simp [V.closedL, V.closed, V.scalar, d1])) (VDone.back hG ?_ rfl (by simp [Tests.v, tesC, Te.cells_eq, Ex.zero, Ex.cells, exsC]))
        intro j hj; simp (maxSteps:=999999) -dsimp -implicitDefEqProofs only [↓eqD,eqU,eqV,eqW,vbuiltinQ,vlen,vslice,vindex,vstore,Array.toList,simprocAttr,lt6 hj]
      · rw [if_neg h3]
        simp (maxSteps:=999999) -dsimp -implicitDefEqProofs only [↓eqD,eqU,eqV,eqW,vbuiltinQ,vlen,vslice,vindex,vstore,Array.toList,simprocAttr,T_rparse_ord,T_rparse_ghost,FB,FC,none_at,YS3_at,add_at,addH_at,g27,gR,r51,rOf_lit,St_eta,hrm,ReaderAt,m3,aT,c1,h3,ne_eq]; (repeat ((with_reducible (refine And.intro ?_ ?_)); (focus (first | omega | exact ⟨by omega, by omega⟩))))
        refine .weak vle_res (VDone.back hG ?_ rfl rfl)
        intro j hj; simp (maxSteps:=999999) -dsimp -implicitDefEqProofs only [↓eqD,eqU,eqV,eqW,vbuiltinQ,vlen,vslice,vindex,vstore,Array.toList,simprocAttr,lt6 hj]
  have k2 : (t.kind = 1 ∧ t.text = [110, 111, 116] ∧ signAt T 1 [40] = true) := ⟨q1, q2, by rw [hsb]; simp [q3, q4]⟩
  rw [if_pos k2]
  simp (maxSteps:=999999) -dsimp -implicitDefEqProofs only [↓eqD,eqU,eqV,eqW,vbuiltinQ,vlen,vslice,vindex,vstore,Array.toList,simprocAttr,fnWp_some Tryz.func11,Tryz.f11,T_rparse_ord,T_rparse_ghost,FB,FC,none_at,YS3_at,add_at,addH_at,g16L,hl,Lexed.v,hne0,i1,i2,hx,hx1,Tok.cells,q1,q2,q3,q4]; (repeat ((with_reducible (refine And.intro ?_ ?_)); (focus (first | omega | exact ⟨by omega, by omega⟩))))
  refine (rtests_walk hT (en := s.length) (id := G.next) (s := ⟨2, 0, 0⟩) ⟨by simp (maxSteps:=999999) -dsimp -implicitDefEqProofs only [↓eqD,eqU,eqV,eqW,vbuiltinQ,vlen,vslice,vindex,vstore,Array.toList,simprocAttr,FB,FC,rcells_mk,z64], by omega, by simp only; omega⟩ rfl).mono ?_
  rintro _ _ ⟨rfl, rfl⟩
  have m := testsT_goes (z := z1) (T := T) (en := s.length) 6 [] ⟨2, 0, 0⟩ (by simp only; omega)
  generalize testsT z1 T s.length 6 [] ⟨2, 0, 0⟩ = ks at *
  obtain ⟨ts, s2⟩ := ks
  simp only at m ⊢
  have m2 := m.2
  have d1 := tesC_closed ts
  have hts := takeS_one T s2 [41]
  cases hc : isT T s2 4 [41] with
  | true =>
    rw [if_pos hc] at hts
    rw [mustT_true]
    have m3 := (takeT_goes (T := T) (s := s2) (k := 4) (w := [41]) (by decide) m2).2
    generalize hs3 : takeT T s2 4 [41] = s3 at *
    simp (maxSteps:=999999) -dsimp -implicitDefEqProofs only [↓eqD,eqU,eqV,eqW,vbuiltinQ,vlen,vslice,vindex,vstore,Array.toList,simprocAttr,T_rparse_ord,T_rparse_ghost,FB,FC,none_at,YS3_at,add_at,addH_at,g27,gR,r51,vreps,vfill,unstr_cons,unstr_nil,map_str_cons,map_str_nil,rOf_rcells,ReaderAt,m2,aT,hts,d1]; (repeat ((with_reducible (refine And.intro ?_ ?_)); (focus (first | omega | exact ⟨by omega, by omega⟩))))
    by_cases hl : s3.at_ < T.length
    · have c1 : (s3.at_ : Int) < (T.length : Int) := by omega
      have hd : decide (T.length ≤ s3.at_) = false := by simp; omega
      rw [hd, mustT_false]
      have hne := errsT_ne (T := T) (en := s.length) (s := s3) (e := 2) (by decide)
      rw [if_neg hne]
      have hrm : ∀ M : St, rcells T s.length M = [.sl 3 T.length (toksC T), .int .i64 M.at_, .int .i64 s.length, .int .i64 M.err, .int .i64 M.pos] := fun _ => rfl
      simp (maxSteps:=999999) -dsimp -implicitDefEqProofs only [↓eqD,eqU,eqV,eqW,vbuiltinQ,vlen,vslice,vindex,vstore,Array.toList,simprocAttr,T_rparse_ord,T_rparse_ghost,FB,FC,none_at,YS3_at,add_at,addH_at,g27,gR,r51,rOf_lit,St_eta,hrm,ReaderAt,m3,aT,c1,hne,ne_eq]; (repeat ((with_reducible (refine And.intro ?_ ?_)); (focus (first | omega | exact ⟨by omega, by omega⟩))))
      refine .weak vle_res (VDone.back hG ?_ rfl rfl)
      intro j hj; simp (maxSteps:=999999) -dsimp -implicitDefEqProofs only [↓eqD,eqU,eqV,eqW,vbuiltinQ,vlen,vslice,vindex,vstore,Array.toList,simprocAttr,lt6 hj]
    · have c1 : ¬(s3.at_ : Int) < (T.length : Int) := by omega
      have hd : decide (T.length ≤ s3.at_) = true := by simp; omega
      rw [hd, mustT_true]
      have hrm : ∀ M : St, rcells T s.length M = [.sl 3 T.length (toksC T), .int .i64 M.at_, .int .i64 s.length, .int .i64 M.err, .int .i64 M.pos] := fun _ => rfl
      by_cases h3 : s3.err = 0
      · rw [if_pos h3]
        simp (maxSteps:=999999) -dsimp -implicitDefEqProofs only [↓eqD,eqU,eqV,eqW,vbuiltinQ,vlen,vslice,vindex,vstore,Array.toList,simprocAttr,T_rparse_ord,T_rparse_ghost,FB,FC,none_at,YS3_at,add_at,addH_at,g27,gR,r51,rOf_lit,St_eta,hrm,ReaderAt,m3,aT,c1,h3,ne_eq]; (repeat ((with_reducible (refine And.intro ?_ ?_)); (focus (first | omega | exact ⟨by omega, by omega⟩))))
        first | refine VDone.back hG ?_ rfl rfl | refine .weak (vle_res2 (by simp [V.closedL, V.closed, V.scalar, d1])) (VDone.back hG ?_ rfl (by simp [Tests.v, tesC, Te.cells_eq, Ex.zero, Ex.cells, exsC]))
        intro j hj; simp (maxSteps:=999999) -dsimp -implicitDefEqProofs only [↓eqD,eqU,eqV,eqW,vbuiltinQ,vlen,vslice,vindex,vstore,Array.toList,simprocAttr,lt6 hj]
      · rw [if_neg h3]
        simp (maxSteps:=999999) -dsimp -implicitDefEqProofs only [↓eqD,eqU,eqV,eqW,vbuiltinQ,vlen,vslice,vindex,vstore,Array.toList,simprocAttr,T_rparse_ord,T_rparse_ghost,FB,FC,none_at,YS3_at,add_at,addH_at,g27,gR,r51,rOf_lit,St_eta,hrm,ReaderAt,m3,aT,c1,h3,ne_eq]; (repeat ((with_reducible (refine And.intro ?_ ?_)); (focus (first | omega | exact ⟨by omega, by omega⟩))))
        refine .weak vle_res (VDone.back hG ?_ rfl rfl)
        intro j hj; simp (maxSteps:=999999) -dsimp -implicitDefEqProofs only [↓eqD,eqU,eqV,eqW,vbuiltinQ,vlen,vslice,vindex,vstore,Array.toList,simprocAttr,lt6 hj]
  | false =>
    rw [if_neg (by rw [hc]; decide)] at hts
    rw [takeT_no hc, mustT_false]
    have m3 : (errsT T s.length s2 2).at_ ≤ T.length := by rw [errsT_at0]; exact m2
    simp (maxSteps:=999999) -dsimp -implicitDefEqProofs only [↓eqD,eqU,eqV,eqW,vbuiltinQ,vlen,vslice,vindex,vstore,Array.toList,simprocAttr,T_rparse_ord,T_rparse_ghost,FB,FC,none_at,YS3_at,add_at,addH_at,g27,gR,r51,vreps,vfill,unstr_cons,unstr_nil,map_str_cons,map_str_nil,rOf_rcells,ReaderAt,m2,aT,hts,d1]; (repeat ((with_reducible (refine And.intro ?_ ?_)); (focus (first | omega | exact ⟨by omega, by omega⟩))))
    generalize hs3 : errsT T s.length s2 2 = s3 at *
    by_cases hl : s3.at_ < T.length
    · have c1 : (s3.at_ : Int) < (T.length : Int) := by omega
      have hd : decide (T.length ≤ s3.at_) = false := by simp; omega
      rw [hd, mustT_false]
      have hne := errsT_ne (T := T) (en := s.length) (s := s3) (e := 2) (by decide)
      rw [if_neg hne]
      have hrm : ∀ M : St, rcells T s.length M = [.sl 3 T.length (toksC T), .int .i64 M.at_, .int .i64 s.length, .int .i64 M.err, .int .i64 M.pos] := fun _ => rfl
      simp (maxSteps:=999999) -dsimp -implicitDefEqProofs only [↓eqD,eqU,eqV,eqW,vbuiltinQ,vlen,vslice,vindex,vstore,Array.toList,simprocAttr,T_rparse_ord,T_rparse_ghost,FB,FC,none_at,YS3_at,add_at,addH_at,g27,gR,r51,rOf_lit,St_eta,hrm,ReaderAt,m3,aT,c1,hne,ne_eq]; (repeat ((with_reducible (refine And.intro ?_ ?_)); (focus (first | omega | exact ⟨by omega, by omega⟩))))
      refine .weak vle_res (VDone.back hG ?_ rfl rfl)
      intro j hj; simp (maxSteps:=999999) -dsimp -implicitDefEqProofs only [↓eqD,eqU,eqV,eqW,vbuiltinQ,vlen,vslice,vindex,vstore,Array.toList,simprocAttr,lt6 hj]
    · have c1 : ¬(s3.at_ : Int) < (T.length : Int) := by omega
      have hd : decide (T.length ≤ s3.at_) = true := by simp; omega
      rw [hd, mustT_true]
      have hrm : ∀ M : St, rcells T s.length M = [.sl 3 T.length (toksC T), .int .i64 M.at_, .int .i64 s.length, .int .i64 M.err, .int .i64 M.pos] := fun _ => rfl
      by_cases h3 : s3.err = 0
      · rw [if_pos h3]
        simp (maxSteps:=999999) -dsimp -implicitDefEqProofs only [↓eqD,eqU,eqV,eqW,vbuiltinQ,vlen,vslice,vindex,vstore,Array.toList,simprocAttr,T_rparse_ord,T_rparse_ghost,FB,FC,none_at,YS3_at,add_at,addH_at,g27,gR,r51,rOf_lit,St_eta,hrm,ReaderAt,m3,aT,c1,h3,ne_eq]; (repeat ((with_reducible (refine And.intro ?_ ?_)); (focus (first | omega | exact ⟨by omega, by omega⟩))))
        first | refine VDone.back hG ?_ rfl rfl | refine .weak (vle_res2 (by simp [V.closedL, V.closed, V.scalar, d1])) (VDone.back hG ?_ rfl (by simp [Tests.v, tesC, Te.cells_eq, Ex.zero, Ex.cells, exsC]))
        intro j hj; simp (maxSteps:=999999) -dsimp -implicitDefEqProofs only [↓eqD,eqU,eqV,eqW,vbuiltinQ,vlen,vslice,vindex,vstore,Array.toList,simprocAttr,lt6 hj]
      · rw [if_neg h3]
        simp (maxSteps:=999999) -dsimp -implicitDefEqProofs only [↓eqD,eqU,eqV,eqW,vbuiltinQ,vlen,vslice,vindex,vstore,Array.toList,simprocAttr,T_rparse_ord,T_rparse_ghost,FB,FC,none_at,YS3_at,add_at,addH_at,g27,gR,r51,rOf_lit,St_eta,hrm,ReaderAt,m3,aT,c1,h3,ne_eq]; (repeat ((with_reducible (refine And.intro ?_ ?_)); (focus (first | omega | exact ⟨by omega, by omega⟩))))
        refine .weak vle_res (VDone.back hG ?_ rfl rfl)
        intro j hj; simp (maxSteps:=999999) -dsimp -implicitDefEqProofs only [↓eqD,eqU,eqV,eqW,vbuiltinQ,vlen,vslice,vindex,vstore,Array.toList,simprocAttr,lt6 hj]
end Go.Vf
