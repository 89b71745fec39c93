/- A part of the proof: Oh. -/
import Derived.Test.YtkcdhmplinjldaaGreatDoorPAOe
set_option linter.unusedVariables false
set_option linter.unusedSimpArgs false
namespace Go.Vf
open Go.Proofs Go.RowKit
def rD (s : List UInt8) (a : Int) : Int := (runN (s.drop a.toNat) digitsL : Nat)
def g101 : List V → Option (Prop × V)
  | [.str s, .int .i64 a] => some (s.length ≤ 1000 ∧ (0 ≤ a ∧ a ≤ (s.length : Int)), .int .i64 (rD s a))
  | _ => none
def SOQ : Specs := (Specs.none.add 233 g101).add 180 g99
theorem SOQ_at (f : FuncId) (xs : List V) (G : Heap) : SOQ f xs G = ((Specs.none.add 233 g101).add 180 g99) f xs G := rfl
theorem okSOQ : SOk Tryz.prog SOQ := by
  refine ((SOk.none _).add ?_).add ?_
  · intro xs G p v e hp
    unfold g101 at e
    split at e
    · cases e; exact digits_walk _ hp.1 _ hp.2.1 hp.2.2 G
    · cases e
  · intro xs G p v e hp
    unfold g99 at e
    split at e
    · cases e; exact rfit_walk hp.1.1 hp.1.2 hp.2.1 hp.2.2 G
    · cases e
theorem okn93 : fnOk Tryz.prog 228 T0 1 = true := by kernel_rfl
theorem u5k : Tryz.prog.underlying 5 = some (.int .u8) := by kernel_rfl
theorem u3k : Tryz.prog.underlying 3 = some (.int .i64) := by kernel_rfl
theorem take_next {s : List UInt8} {k : Nat} (h : k < s.length) : s.take (k + 1) = s.take k ++ [s.getD k 0] := by
  rw [List.getD, List.getElem?_eq_getElem h]; exact List.take_succ_eq_append_getElem h
theorem keep_snoc (l : List UInt8) (y : UInt8) : keepB (l ++ [y]) = if y = 46 then keepB l else keepB l ++ [y] := by
  unfold keepB
  rw [List.filter_append, List.filter_cons]
  by_cases h : y = 46
  · rw [if_neg (by rw [h]; decide), if_pos h]; simp
  · rw [if_pos (by rw [bne_iff_ne]; exact h), if_neg h]; simp
theorem num_snoc (l : List UInt8) (y : UInt8) : numOf (l ++ [y]) = numOf l * 10 + (y.toNat - 48) := by
  unfold numOf; rw [List.foldl_append]; rfl
theorem dg_at {s : List UInt8} (h : Dg s) {k : Nat} (hk : k < s.length) : digitsL.contains (s.getD k 0) = true := by
  rw [List.getD, List.getElem?_eq_getElem hk]; exact List.all_eq_true.1 h _ (List.getElem_mem hk)
theorem num_bound {s : List UInt8} (h : Dg (keepB s)) (hl : (keepB s).length ≤ 18) (k : Nat) : numOf (keepB (s.take k)) < 1000000000000000000 := by
  have e : keepB s = keepB (s.take k) ++ keepB (s.drop k) := by unfold keepB; rw [← List.filter_append, List.take_append_drop]
  rw [e] at h hl
  unfold Dg at h
  rw [List.all_append, Bool.and_eq_true] at h
  rw [List.length_append] at hl
  exact Lib.decFrom_lt18 (decFrom_fold _ 0 h.1) (by omega)
theorem dot_shape {s : List UInt8} (h46 : s.getD (runN s digitsL) 0 = 46) (he : runN s digitsL + 1 + runN (s.drop (runN s digitsL + 1)) digitsL = s.length) (hlt : runN s digitsL < s.length) :
    (∀ k, k < s.length → s.getD k 0 ≠ 46 → digitsL.contains (s.getD k 0) = true) ∧ Dg (keepB s) ∧ (keepB s).length = runN s digitsL + runN (s.drop (runN s digitsL + 1)) digitsL := by
  obtain ⟨d, r, rfl, hd, h⟩ := rest_split s
  have no : ∀ y r', digitsL.contains y = false → y ≠ 46 → r = y :: r' → False := by
    intro y r' hy hy' e
    subst e
    rw [runN_app hd, runN_stop hy, Nat.add_zero, getD_app] at h46
    exact hy' h46
  rcases h with rfl | ⟨r', rfl⟩ | ⟨y, r', rfl, hy, hy'⟩
  · rw [List.append_nil, runN_dg hd] at hlt; omega
  · have hr : runN (d ++ 46 :: r') digitsL = d.length := by rw [runN_app hd, runN_stop dot_no]; rfl
    rw [hr, drop_app] at he ⊢
    rw [List.length_append, List.length_cons] at he
    have hr' := runN_full (r := r') (by omega)
    rw [keep_dot hd hr']
    refine ⟨fun k hk hn => ?_, ?_, by rw [List.length_append]; omega⟩
    · rw [List.getD, List.getElem?_eq_getElem hk] at hn ⊢
      have hm := List.getElem_mem hk
      simp only [Option.getD_some] at hn ⊢
      generalize (d ++ 46 :: r')[k] = z at *
      rcases List.mem_append.1 hm with hm | hm
      · exact List.all_eq_true.1 hd _ hm
      · rcases List.mem_cons.1 hm with rfl | hm
        · exact (hn rfl).elim
        · exact List.all_eq_true.1 hr' _ hm
    · unfold Dg at *; rw [List.all_append, hd, hr']; rfl
  · exact (no y r' hy hy' rfl).elim
set_option maxRecDepth 100000 in
set_option maxHeartbeats 2000000 in
theorem refdec_walk0 (t s : List UInt8) (ht : t.length ≤ 1000) (c0 : 0 < (t.length : Int)) (cx : ¬((t.getD 0 0).toNat : Int) = 45)
    (tg : ∀ k : Nat, t.getD ((0 : Int) + (k : Int)).toNat 0 = s.getD k 0) (td : t.drop ((0 : Int)).toNat = s) (td2 : ∀ k : Nat, t.drop ((0 : Int) + (k : Int) + 1).toNat = s.drop (k + 1)) (tl : (t.length : Int) = (0 : Int) + (s.length : Int)) (G : Heap) :
    VPure Tryz.prog 228 [.str t] G (valB false s).v := by
  refine VCalls.of okSOQ mixed T0 okn93 fun hG => ?_
  have ht0 : 0 ≤ (0 : Int) ∧ (0 : Int) ≤ (t.length : Int) := by omega
  obtain ⟨d, r, hs, hd, h⟩ := rest_split s
  have hA : rD t (0 : Int) = ((runN s digitsL : Nat) : Int) := by unfold rD; rw [td]
  have hAl := runN_le s digitsL
  unfold valB
  by_cases a0 : runN s digitsL = 0
  · rw [if_pos a0]
    rw [a0] at hA
    have hA : rD t (0 : Int) = 0 := hA
    have wA : IntKind.wrap .i64 ((0 : Int) + 0) = (0 : Int) + 0 := by rw [w64 (by decide) (by decide)]
    simp (maxSteps:=999999) -dsimp -implicitDefEqProofs only [↓eqD,eqU,eqV,eqW,vbuiltinQ,vlen,vslice,vindex,vstore,Array.toList,simprocAttr,fnWp_some Tryz.func228,Tryz.f228,T0,FB,SOQ_at,add_at,none_at,g101,g99,f23_0,f23_1,ag23,z23,c23,i23,p23_0,p23_1,st23,DecR.v,ht,ne_eq,Int.lt_irrefl,Int.reduceEq,c0,cx,ht0,hA,wA]
    refine VDone.back hG ?_ rfl rfl
    intro j hj; simp (maxSteps:=999999) -dsimp -implicitDefEqProofs only [↓eqD,eqU,eqV,eqW,vbuiltinQ,vlen,vslice,vindex,vstore,Array.toList,simprocAttr,lt6 hj]
  try rw [if_neg a0]
  have cA : 0 < ((runN s digitsL : Nat) : Int) := by omega
  have cA0 : ¬((runN s digitsL : Nat) : Int) = 0 := by omega
  generalize hAe : runN s digitsL = A at *
  have wA : IntKind.wrap .i64 ((0 : Int) + (A : Int)) = (0 : Int) + (A : Int) := by rw [w64 (by omega) (by omega)]
  have nA : 0 ≤ (0 : Int) + (A : Int) := by omega
  have tgA := tg A
  by_cases eA : A = s.length
  · rw [if_pos eA]
    have tlA : (t.length : Int) = (0 : Int) + (A : Int) := by omega
    have wAB : IntKind.wrap .i64 ((A : Int) + 0) = (A : Int) := by rw [w64 (by omega) (by omega)]; omega
    have cz : 0 < (0 : Int) + (A : Int) := by omega
    have hz : (0 : Int) ≤ (0 : Int) + (A : Int) := by omega
    have hsd : Dg s := runN_full (by rw [hAe, eA])
    by_cases q1 : 18 < s.length
    · rw [if_pos q1]
      have q1' : 18 < (A : Int) := by omega
      simp (maxSteps:=999999) -dsimp -implicitDefEqProofs only [↓eqD,eqU,eqV,eqW,vbuiltinQ,vlen,vslice,vindex,vstore,Array.toList,simprocAttr,fnWp_some Tryz.func228,Tryz.f228,T0,FB,SOQ_at,add_at,none_at,g101,g99,f23_0,f23_1,ag23,z23,c23,i23,p23_0,p23_1,st23,DecR.v,ht,ne_eq,Int.lt_irrefl,Int.reduceEq,c0,cx,ht0,hA,cA,cA0,wA,tlA,cz,hz,nA,wAB,q1']
      refine VDone.back hG ?_ rfl rfl
      intro j hj; simp (maxSteps:=999999) -dsimp -implicitDefEqProofs only [↓eqD,eqU,eqV,eqW,vbuiltinQ,vlen,vslice,vindex,vstore,Array.toList,simprocAttr,lt6 hj]
    try rw [if_neg q1]
    have q1' : ¬18 < (A : Int) := by omega
    have hkd : ∀ k, k < s.length → s.getD k 0 ≠ 46 → digitsL.contains (s.getD k 0) = true := fun k hk _ => dg_at hsd hk
    have hkb : ∀ k, k ≤ s.length → numOf (keepB (s.take k)) < 1000000000000000000 := fun k hk => num_bound (by rw [keep_dg hsd]; exact hsd) (by rw [keep_dg hsd]; omega) k
    have e00 : ((0 : Nat) : Int) = 0 := rfl
    rw [e00]
    simp (maxSteps:=999999) -dsimp -implicitDefEqProofs only [↓eqD,eqU,eqV,eqW,vbuiltinQ,vlen,vslice,vindex,vstore,Array.toList,simprocAttr,fnWp_some Tryz.func228,Tryz.f228,T0,FB,SOQ_at,add_at,none_at,g101,g99,f23_0,f23_1,ag23,z23,c23,i23,p23_0,p23_1,st23,DecR.v,ht,ne_eq,Int.lt_irrefl,Int.reduceEq,c0,cx,ht0,hA,cA,cA0,wA,tlA,cz,hz,nA,wAB,q1']
    refine vloop_by (fun k : Nat => k ≤ s.length) (fun k => Env.of [(0, .str t), (2, .ptr G.next 0 0), (4, .int .i64 (0 : Int)), (6, .int .i64 0), (8, .int .i64 (numOf (keepB (s.take k)) : Int)), (9, .int .i64 ((0 : Int) + (k : Int)))]) (fun _ => G.over (G.next + 1) [(G.next, .cells 0 [.int .i64 0, .int .i64 0])]) (fun k => s.length - k) 0 ?_ ?_ ?_
    · refine .of ?_ (.over hG ?_ ?_ ?_)
      · simp (maxSteps:=999999) -dsimp -implicitDefEqProofs only [↓eqD,eqU,eqV,eqW,vbuiltinQ,vlen,vslice,vindex,vstore,Array.toList,simprocAttr]
        (repeat' apply And.intro) <;> first | exact .refl _ | (simp [numOf, keepB]; exact .refl _)
      · simp (maxSteps:=999999) -dsimp -implicitDefEqProofs only [↓eqD,eqU,eqV,eqW,vbuiltinQ,vlen,vslice,vindex,vstore,Array.toList,simprocAttr]
      · simp (maxSteps:=999999) -dsimp -implicitDefEqProofs only [↓eqD,eqU,eqV,eqW,vbuiltinQ,vlen,vslice,vindex,vstore,Array.toList,simprocAttr,FB]
      · intro j hj
        have hj : j < G.next := hj
        simp (maxSteps:=999999) -dsimp -implicitDefEqProofs only [↓eqD,eqU,eqV,eqW,vbuiltinQ,vlen,vslice,vindex,vstore,Array.toList,simprocAttr,lt6 hj]
    · exact Nat.zero_le _
    · intro k hk
      by_cases hlt : k < s.length
      · have k1 : (0 : Int) + (k : Int) < (t.length : Int) := by omega
        have k2 : 0 ≤ (0 : Int) + (k : Int) := by omega
        have kw : IntKind.wrap .i64 ((0 : Int) + (k : Int) + 1) = (0 : Int) + ((k + 1 : Nat) : Int) := by rw [w64 (by omega) (by omega)]; omega
        have kg := tg k
        have kt := take_next hlt
        have kd := hkd k hlt
        have kb := hkb (k + 1) (by omega)
        have kb0 := hkb k hk
        generalize hy : s.getD k 0 = y at *
        have yl := y.toNat_lt
        by_cases y46 : y = 46
        · have y46' : (y.toNat : Int) = 46 := by rw [y46]; rfl
          rw [kt, keep_snoc, if_pos y46] at kb
          simp (maxSteps:=999999) -dsimp -implicitDefEqProofs only [↓eqD,eqU,eqV,eqW,vbuiltinQ,vlen,vslice,vindex,vstore,Array.toList,simprocAttr,T0,FB,SOQ_at,add_at,none_at,g101,g99,f23_0,f23_1,ag23,z23,c23,i23,p23_0,p23_1,st23,DecR.v,ht,ne_eq,Int.lt_irrefl,Int.reduceEq,k1,k2,kw,kg,y46']
          refine ⟨k + 1, by omega, by omega, .of ?_ (.over hG ?_ ?_ ?_)⟩
          · simp (maxSteps:=999999) -dsimp -implicitDefEqProofs only [↓eqD,eqU,eqV,eqW,vbuiltinQ,vlen,vslice,vindex,vstore,Array.toList,simprocAttr,kt,keep_snoc,y46]
            (repeat' apply And.intro) <;> exact .refl _
          · simp (maxSteps:=999999) -dsimp -implicitDefEqProofs only [↓eqD,eqU,eqV,eqW,vbuiltinQ,vlen,vslice,vindex,vstore,Array.toList,simprocAttr]
          · simp (maxSteps:=999999) -dsimp -implicitDefEqProofs only [↓eqD,eqU,eqV,eqW,vbuiltinQ,vlen,vslice,vindex,vstore,Array.toList,simprocAttr,FB]
          · intro j hj
            have hj : j < G.next := hj
            simp (maxSteps:=999999) -dsimp -implicitDefEqProofs only [↓eqD,eqU,eqV,eqW,vbuiltinQ,vlen,vslice,vindex,vstore,Array.toList,simprocAttr,lt6 hj]
        · have y46' : ¬(y.toNat : Int) = 46 := fun e => y46 (by apply UInt8.toNat_inj.1; show y.toNat = 46; omega)
          have yd := digit_in (kd y46)
          rw [kt, keep_snoc, if_neg y46, num_snoc] at kb
          have v1 : IntKind.wrap .u8 ((y.toNat : Int) - 48) = (y.toNat : Int) - 48 := by rw [IntKind.wrap_u8]; omega
          have v2 : IntKind.wrap .i64 ((y.toNat : Int) - 48) = (y.toNat : Int) - 48 := by rw [w64 (by omega) (by omega)]
          have v3 : IntKind.wrap .i64 ((numOf (keepB (s.take k)) : Int) * 10) = (numOf (keepB (s.take k)) : Int) * 10 := by rw [w64 (by omega) (by omega)]
          have v4 : IntKind.wrap .i64 ((numOf (keepB (s.take k)) : Int) * 10 + ((y.toNat : Int) - 48)) = ((numOf (keepB (s.take k)) * 10 + (y.toNat - 48) : Nat) : Int) := by rw [w64 (by omega) (by omega)]; omega
          simp (maxSteps:=999999) -dsimp -implicitDefEqProofs only [↓eqD,eqU,eqV,eqW,vbuiltinQ,vlen,vslice,vindex,vstore,Array.toList,simprocAttr,T0,FB,SOQ_at,add_at,none_at,g101,g99,f23_0,f23_1,ag23,z23,c23,i23,p23_0,p23_1,st23,DecR.v,ht,ne_eq,Int.lt_irrefl,Int.reduceEq,k1,k2,kw,kg,y46',v1,v2,v3,v4,u5k,u3k]
          refine ⟨k + 1, by omega, by omega, .of ?_ (.over hG ?_ ?_ ?_)⟩
          · simp (maxSteps:=999999) -dsimp -implicitDefEqProofs only [↓eqD,eqU,eqV,eqW,vbuiltinQ,vlen,vslice,vindex,vstore,Array.toList,simprocAttr,kt,keep_snoc,y46,num_snoc]
            (repeat' apply And.intro) <;> exact .refl _
          · simp (maxSteps:=999999) -dsimp -implicitDefEqProofs only [↓eqD,eqU,eqV,eqW,vbuiltinQ,vlen,vslice,vindex,vstore,Array.toList,simprocAttr]
          · simp (maxSteps:=999999) -dsimp -implicitDefEqProofs only [↓eqD,eqU,eqV,eqW,vbuiltinQ,vlen,vslice,vindex,vstore,Array.toList,simprocAttr,FB]
          · intro j hj
            have hj : j < G.next := hj
            simp (maxSteps:=999999) -dsimp -implicitDefEqProofs only [↓eqD,eqU,eqV,eqW,vbuiltinQ,vlen,vslice,vindex,vstore,Array.toList,simprocAttr,lt6 hj]
      · have k1 : ¬(0 : Int) + (k : Int) < (t.length : Int) := by omega
        have kk : k = s.length := by omega
        have kb0 := hkb k hk
        subst kk
        rw [List.take_length] at *
        have n1 : -1000000000000000000 ≤ (numOf (keepB s) : Int) ∧ (numOf (keepB s) : Int) ≤ 1000000000000000000 := by omega
        have n2 : -1000000000000000000 ≤ 0 - (numOf (keepB s) : Int) ∧ 0 - (numOf (keepB s) : Int) ≤ 1000000000000000000 := by omega
        have n3 : 0 ≤ (0 : Int) ∧ (0 : Int) ≤ 8 := by omega
        have n4 : IntKind.wrap .i64 (0 - (numOf (keepB s) : Int)) = 0 - (numOf (keepB s) : Int) := by rw [w64 (by omega) (by omega)]
        simp (maxSteps:=999999) -dsimp -implicitDefEqProofs only [↓eqD,eqU,eqV,eqW,vbuiltinQ,vlen,vslice,vindex,vstore,Array.toList,simprocAttr,T0,FB,SOQ_at,add_at,none_at,g101,g99,f23_0,f23_1,ag23,z23,c23,i23,p23_0,p23_1,st23,DecR.v,ht,ne_eq,Int.lt_irrefl,Int.reduceEq,k1,n1,n2,n3,n4,List.take_length]
        refine VDone.back hG ?_ rfl rfl
        intro j hj; simp (maxSteps:=999999) -dsimp -implicitDefEqProofs only [↓eqD,eqU,eqV,eqW,vbuiltinQ,vlen,vslice,vindex,vstore,Array.toList,simprocAttr,lt6 hj]
  try rw [if_neg eA]
  have cl : (0 : Int) + (A : Int) < (t.length : Int) := by omega
  by_cases y46 : s.getD A 0 = 46
  case neg =>
    rw [if_neg y46]
    have y46' : ¬((s.getD A 0).toNat : Int) = 46 := fun e => y46 (by apply UInt8.toNat_inj.1; show (s.getD A 0).toNat = 46; omega)
    have cne : ¬(0 : Int) + (A : Int) = (t.length : Int) := by omega
    simp (maxSteps:=999999) -dsimp -implicitDefEqProofs only [↓eqD,eqU,eqV,eqW,vbuiltinQ,vlen,vslice,vindex,vstore,Array.toList,simprocAttr,fnWp_some Tryz.func228,Tryz.f228,T0,FB,SOQ_at,add_at,none_at,g101,g99,f23_0,f23_1,ag23,z23,c23,i23,p23_0,p23_1,st23,DecR.v,ht,ne_eq,Int.lt_irrefl,Int.reduceEq,c0,cx,ht0,hA,cA,cA0,wA,cl,nA,tgA,y46',cne]
    refine VDone.back hG ?_ rfl rfl
    intro j hj; simp (maxSteps:=999999) -dsimp -implicitDefEqProofs only [↓eqD,eqU,eqV,eqW,vbuiltinQ,vlen,vslice,vindex,vstore,Array.toList,simprocAttr,lt6 hj]
  try rw [if_pos y46]
  have y46' : ((s.getD A 0).toNat : Int) = 46 := by rw [y46]; rfl
  have hB : rD t ((0 : Int) + (A : Int) + 1) = ((runN (s.drop (A + 1)) digitsL : Nat) : Int) := by unfold rD; rw [td2]
  have hBl := runN_le (s.drop (A + 1)) digitsL
  rw [List.length_drop] at hBl
  have wA1 : IntKind.wrap .i64 ((0 : Int) + (A : Int) + 1) = (0 : Int) + (A : Int) + 1 := by rw [w64 (by omega) (by omega)]
  have nA1 : 0 ≤ (0 : Int) + (A : Int) + 1 ∧ (0 : Int) + (A : Int) + 1 ≤ (t.length : Int) := by omega
  generalize hBe : runN (s.drop (A + 1)) digitsL = B at *
  have wA1B : IntKind.wrap .i64 ((0 : Int) + (A : Int) + 1 + (B : Int)) = (0 : Int) + (A : Int) + 1 + (B : Int) := by rw [w64 (by omega) (by omega)]
  by_cases eB : A + 1 + B = s.length
  case neg =>
    rw [if_neg eB]
    have cne : ¬(0 : Int) + (A : Int) + 1 + (B : Int) = (t.length : Int) := by omega
    simp (maxSteps:=999999) -dsimp -implicitDefEqProofs only [↓eqD,eqU,eqV,eqW,vbuiltinQ,vlen,vslice,vindex,vstore,Array.toList,simprocAttr,fnWp_some Tryz.func228,Tryz.f228,T0,FB,SOQ_at,add_at,none_at,g101,g99,f23_0,f23_1,ag23,z23,c23,i23,p23_0,p23_1,st23,DecR.v,ht,ne_eq,Int.lt_irrefl,Int.reduceEq,c0,cx,ht0,hA,cA,cA0,wA,cl,nA,tgA,y46',wA1,nA1,hB,wA1B,cne]
    refine VDone.back hG ?_ rfl rfl
    intro j hj; simp (maxSteps:=999999) -dsimp -implicitDefEqProofs only [↓eqD,eqU,eqV,eqW,vbuiltinQ,vlen,vslice,vindex,vstore,Array.toList,simprocAttr,lt6 hj]
  try rw [if_pos eB]
  have ceq : (0 : Int) + (A : Int) + 1 + (B : Int) = (t.length : Int) := by omega
  have cg : (0 : Int) + (A : Int) < (t.length : Int) := by omega
  by_cases b0 : B = 0
  · rw [if_pos b0]
    subst b0
    have hB : rD t ((0 : Int) + (A : Int) + 1) = 0 := hB
    have wA1B : IntKind.wrap .i64 ((0 : Int) + (A : Int) + 1 + 0) = (t.length : Int) := by rw [w64 (by omega) (by omega)]; omega
    simp (maxSteps:=999999) -dsimp -implicitDefEqProofs only [↓eqD,eqU,eqV,eqW,vbuiltinQ,vlen,vslice,vindex,vstore,Array.toList,simprocAttr,fnWp_some Tryz.func228,Tryz.f228,T0,FB,SOQ_at,add_at,none_at,g101,g99,f23_0,f23_1,ag23,z23,c23,i23,p23_0,p23_1,st23,DecR.v,ht,ne_eq,Int.lt_irrefl,Int.reduceEq,c0,cx,ht0,hA,cA,cA0,wA,cl,nA,tgA,y46',wA1,nA1,hB,wA1B,cg]
    refine VDone.back hG ?_ rfl rfl
    intro j hj; simp (maxSteps:=999999) -dsimp -implicitDefEqProofs only [↓eqD,eqU,eqV,eqW,vbuiltinQ,vlen,vslice,vindex,vstore,Array.toList,simprocAttr,lt6 hj]
  try rw [if_neg b0]
  have b0' : ¬(B : Int) = 0 := by omega
  have wA1B : IntKind.wrap .i64 ((0 : Int) + (A : Int) + 1 + (B : Int)) = (t.length : Int) := by rw [w64 (by omega) (by omega)]; omega
  have wAB : IntKind.wrap .i64 ((A : Int) + (B : Int)) = (A : Int) + (B : Int) := by rw [w64 (by omega) (by omega)]
  by_cases q1 : 18 < A + B
  · rw [if_pos q1]
    have q1' : 18 < (A : Int) + (B : Int) := by omega
    simp (maxSteps:=999999) -dsimp -implicitDefEqProofs only [↓eqD,eqU,eqV,eqW,vbuiltinQ,vlen,vslice,vindex,vstore,Array.toList,simprocAttr,fnWp_some Tryz.func228,Tryz.f228,T0,FB,SOQ_at,add_at,none_at,g101,g99,f23_0,f23_1,ag23,z23,c23,i23,p23_0,p23_1,st23,DecR.v,ht,ne_eq,Int.lt_irrefl,Int.reduceEq,c0,cx,ht0,hA,cA,cA0,wA,cl,nA,tgA,y46',wA1,nA1,hB,wA1B,cg,b0',wAB,q1']
    refine VDone.back hG ?_ rfl rfl
    intro j hj; simp (maxSteps:=999999) -dsimp -implicitDefEqProofs only [↓eqD,eqU,eqV,eqW,vbuiltinQ,vlen,vslice,vindex,vstore,Array.toList,simprocAttr,lt6 hj]
  try rw [if_neg q1]
  have q1' : ¬18 < (A : Int) + (B : Int) := by omega
  by_cases q2 : 8 < B
  · rw [if_pos q2]
    have q2' : 8 < (B : Int) := by omega
    simp (maxSteps:=999999) -dsimp -implicitDefEqProofs only [↓eqD,eqU,eqV,eqW,vbuiltinQ,vlen,vslice,vindex,vstore,Array.toList,simprocAttr,fnWp_some Tryz.func228,Tryz.f228,T0,FB,SOQ_at,add_at,none_at,g101,g99,f23_0,f23_1,ag23,z23,c23,i23,p23_0,p23_1,st23,DecR.v,ht,ne_eq,Int.lt_irrefl,Int.reduceEq,c0,cx,ht0,hA,cA,cA0,wA,cl,nA,tgA,y46',wA1,nA1,hB,wA1B,cg,b0',wAB,q1',q2']
    refine VDone.back hG ?_ rfl rfl
    intro j hj; simp (maxSteps:=999999) -dsimp -implicitDefEqProofs only [↓eqD,eqU,eqV,eqW,vbuiltinQ,vlen,vslice,vindex,vstore,Array.toList,simprocAttr,lt6 hj]
  try rw [if_neg q2]
  have q2' : ¬8 < (B : Int) := by omega
  have hsh := dot_shape (s := s) (by rw [hAe]; exact y46) (by rw [hAe, hBe]; exact eB) (by rw [hAe]; omega)
  rw [hAe, hBe] at hsh
  have hkd : ∀ k, k < s.length → s.getD k 0 ≠ 46 → digitsL.contains (s.getD k 0) = true := hsh.1
  have hkb : ∀ k, k ≤ s.length → numOf (keepB (s.take k)) < 1000000000000000000 := fun k hk => num_bound hsh.2.1 (by omega) k
  simp (maxSteps:=999999) -dsimp -implicitDefEqProofs only [↓eqD,eqU,eqV,eqW,vbuiltinQ,vlen,vslice,vindex,vstore,Array.toList,simprocAttr,fnWp_some Tryz.func228,Tryz.f228,T0,FB,SOQ_at,add_at,none_at,g101,g99,f23_0,f23_1,ag23,z23,c23,i23,p23_0,p23_1,st23,DecR.v,ht,ne_eq,Int.lt_irrefl,Int.reduceEq,c0,cx,ht0,hA,cA,cA0,wA,cl,nA,tgA,y46',wA1,nA1,hB,wA1B,cg,b0',wAB,q1',q2']
  refine vloop_by (fun k : Nat => k ≤ s.length) (fun k => Env.of [(0, .str t), (2, .ptr G.next 0 0), (4, .int .i64 (0 : Int)), (6, .int .i64 (B : Nat)), (8, .int .i64 (numOf (keepB (s.take k)) : Int)), (9, .int .i64 ((0 : Int) + (k : Int)))]) (fun _ => G.over (G.next + 1) [(G.next, .cells 0 [.int .i64 0, .int .i64 0])]) (fun k => s.length - k) 0 ?_ ?_ ?_
  · refine .of ?_ (.over hG ?_ ?_ ?_)
    · simp (maxSteps:=999999) -dsimp -implicitDefEqProofs only [↓eqD,eqU,eqV,eqW,vbuiltinQ,vlen,vslice,vindex,vstore,Array.toList,simprocAttr]
      (repeat' apply And.intro) <;> first | exact .refl _ | (simp [numOf, keepB]; exact .refl _)
    · simp (maxSteps:=999999) -dsimp -implicitDefEqProofs only [↓eqD,eqU,eqV,eqW,vbuiltinQ,vlen,vslice,vindex,vstore,Array.toList,simprocAttr]
    · simp (maxSteps:=999999) -dsimp -implicitDefEqProofs only [↓eqD,eqU,eqV,eqW,vbuiltinQ,vlen,vslice,vindex,vstore,Array.toList,simprocAttr,FB]
    · intro j hj
      have hj : j < G.next := hj
      simp (maxSteps:=999999) -dsimp -implicitDefEqProofs only [↓eqD,eqU,eqV,eqW,vbuiltinQ,vlen,vslice,vindex,vstore,Array.toList,simprocAttr,lt6 hj]
  · exact Nat.zero_le _
  · intro k hk
    by_cases hlt : k < s.length
    · have k1 : (0 : Int) + (k : Int) < (t.length : Int) := by omega
      have k2 : 0 ≤ (0 : Int) + (k : Int) := by omega
      have kw : IntKind.wrap .i64 ((0 : Int) + (k : Int) + 1) = (0 : Int) + ((k + 1 : Nat) : Int) := by rw [w64 (by omega) (by omega)]; omega
      have kg := tg k
      have kt := take_next hlt
      have kd := hkd k hlt
      have kb := hkb (k + 1) (by omega)
      have kb0 := hkb k hk
      generalize hy : s.getD k 0 = y at *
      have yl := y.toNat_lt
      by_cases y46 : y = 46
      · have y46' : (y.toNat : Int) = 46 := by rw [y46]; rfl
        rw [kt, keep_snoc, if_pos y46] at kb
        simp (maxSteps:=999999) -dsimp -implicitDefEqProofs only [↓eqD,eqU,eqV,eqW,vbuiltinQ,vlen,vslice,vindex,vstore,Array.toList,simprocAttr,T0,FB,SOQ_at,add_at,none_at,g101,g99,f23_0,f23_1,ag23,z23,c23,i23,p23_0,p23_1,st23,DecR.v,ht,ne_eq,Int.lt_irrefl,Int.reduceEq,k1,k2,kw,kg,y46']
        refine ⟨k + 1, by omega, by omega, .of ?_ (.over hG ?_ ?_ ?_)⟩
        · simp (maxSteps:=999999) -dsimp -implicitDefEqProofs only [↓eqD,eqU,eqV,eqW,vbuiltinQ,vlen,vslice,vindex,vstore,Array.toList,simprocAttr,kt,keep_snoc,y46]
          (repeat' apply And.intro) <;> exact .refl _
        · simp (maxSteps:=999999) -dsimp -implicitDefEqProofs only [↓eqD,eqU,eqV,eqW,vbuiltinQ,vlen,vslice,vindex,vstore,Array.toList,simprocAttr]
        · simp (maxSteps:=999999) -dsimp -implicitDefEqProofs only [↓eqD,eqU,eqV,eqW,vbuiltinQ,vlen,vslice,vindex,vstore,Array.toList,simprocAttr,FB]
        · intro j hj
          have hj : j < G.next := hj
          simp (maxSteps:=999999) -dsimp -implicitDefEqProofs only [↓eqD,eqU,eqV,eqW,vbuiltinQ,vlen,vslice,vindex,vstore,Array.toList,simprocAttr,lt6 hj]
      · have y46' : ¬(y.toNat : Int) = 46 := fun e => y46 (by apply UInt8.toNat_inj.1; show y.toNat = 46; omega)
        have yd := digit_in (kd y46)
        rw [kt, keep_snoc, if_neg y46, num_snoc] at kb
        have v1 : IntKind.wrap .u8 ((y.toNat : Int) - 48) = (y.toNat : Int) - 48 := by rw [IntKind.wrap_u8]; omega
        have v2 : IntKind.wrap .i64 ((y.toNat : Int) - 48) = (y.toNat : Int) - 48 := by rw [w64 (by omega) (by omega)]
        have v3 : IntKind.wrap .i64 ((numOf (keepB (s.take k)) : Int) * 10) = (numOf (keepB (s.take k)) : Int) * 10 := by rw [w64 (by omega) (by omega)]
        have v4 : IntKind.wrap .i64 ((numOf (keepB (s.take k)) : Int) * 10 + ((y.toNat : Int) - 48)) = ((numOf (keepB (s.take k)) * 10 + (y.toNat - 48) : Nat) : Int) := by rw [w64 (by omega) (by omega)]; omega
        simp (maxSteps:=999999) -dsimp -implicitDefEqProofs only [↓eqD,eqU,eqV,eqW,vbuiltinQ,vlen,vslice,vindex,vstore,Array.toList,simprocAttr,T0,FB,SOQ_at,add_at,none_at,g101,g99,f23_0,f23_1,ag23,z23,c23,i23,p23_0,p23_1,st23,DecR.v,ht,ne_eq,Int.lt_irrefl,Int.reduceEq,k1,k2,kw,kg,y46',v1,v2,v3,v4,u5k,u3k]
        refine ⟨k + 1, by omega, by omega, .of ?_ (.over hG ?_ ?_ ?_)⟩
        · simp (maxSteps:=999999) -dsimp -implicitDefEqProofs only [↓eqD,eqU,eqV,eqW,vbuiltinQ,vlen,vslice,vindex,vstore,Array.toList,simprocAttr,kt,keep_snoc,y46,num_snoc]
          (repeat' apply And.intro) <;> exact .refl _
        · simp (maxSteps:=999999) -dsimp -implicitDefEqProofs only [↓eqD,eqU,eqV,eqW,vbuiltinQ,vlen,vslice,vindex,vstore,Array.toList,simprocAttr]
        · simp (maxSteps:=999999) -dsimp -implicitDefEqProofs only [↓eqD,eqU,eqV,eqW,vbuiltinQ,vlen,vslice,vindex,vstore,Array.toList,simprocAttr,FB]
        · intro j hj
          have hj : j < G.next := hj
          simp (maxSteps:=999999) -dsimp -implicitDefEqProofs only [↓eqD,eqU,eqV,eqW,vbuiltinQ,vlen,vslice,vindex,vstore,Array.toList,simprocAttr,lt6 hj]
    · have k1 : ¬(0 : Int) + (k : Int) < (t.length : Int) := by omega
      have kk : k = s.length := by omega
      have kb0 := hkb k hk
      subst kk
      rw [List.take_length] at *
      have n1 : -1000000000000000000 ≤ (numOf (keepB s) : Int) ∧ (numOf (keepB s) : Int) ≤ 1000000000000000000 := by omega
      have n2 : -1000000000000000000 ≤ 0 - (numOf (keepB s) : Int) ∧ 0 - (numOf (keepB s) : Int) ≤ 1000000000000000000 := by omega
      have n3 : 0 ≤ ((B : Int) : Int) ∧ ((B : Int) : Int) ≤ 8 := by omega
      have n4 : IntKind.wrap .i64 (0 - (numOf (keepB s) : Int)) = 0 - (numOf (keepB s) : Int) := by rw [w64 (by omega) (by omega)]
      simp (maxSteps:=999999) -dsimp -implicitDefEqProofs only [↓eqD,eqU,eqV,eqW,vbuiltinQ,vlen,vslice,vindex,vstore,Array.toList,simprocAttr,T0,FB,SOQ_at,add_at,none_at,g101,g99,f23_0,f23_1,ag23,z23,c23,i23,p23_0,p23_1,st23,DecR.v,ht,ne_eq,Int.lt_irrefl,Int.reduceEq,k1,n1,n2,n3,n4,List.take_length]
      refine VDone.back hG ?_ rfl rfl
      intro j hj; simp (maxSteps:=999999) -dsimp -implicitDefEqProofs only [↓eqD,eqU,eqV,eqW,vbuiltinQ,vlen,vslice,vindex,vstore,Array.toList,simprocAttr,lt6 hj]
set_option maxRecDepth 100000 in
set_option maxHeartbeats 2000000 in
theorem refdec_walk1 (t s : List UInt8) (ht : t.length ≤ 1000) (c0 : 0 < (t.length : Int)) (cx : ((t.getD 0 0).toNat : Int) = 45)
    (tg : ∀ k : Nat, t.getD ((1 : Int) + (k : Int)).toNat 0 = s.getD k 0) (td : t.drop ((1 : Int)).toNat = s) (td2 : ∀ k : Nat, t.drop ((1 : Int) + (k : Int) + 1).toNat = s.drop (k + 1)) (tl : (t.length : Int) = (1 : Int) + (s.length : Int)) (G : Heap) :
    VPure Tryz.prog 228 [.str t] G (valB true s).v := by
  refine VCalls.of okSOQ mixed T0 okn93 fun hG => ?_
  have ht0 : 0 ≤ (1 : Int) ∧ (1 : Int) ≤ (t.length : Int) := by omega
  obtain ⟨d, r, hs, hd, h⟩ := rest_split s
  have hA : rD t (1 : Int) = ((runN s digitsL : Nat) : Int) := by unfold rD; rw [td]
  have hAl := runN_le s digitsL
  unfold valB
  by_cases a0 : runN s digitsL = 0
  · rw [if_pos a0]
    rw [a0] at hA
    have hA : rD t (1 : Int) = 0 := hA
    have wA : IntKind.wrap .i64 ((1 : Int) + 0) = (1 : Int) + 0 := by rw [w64 (by decide) (by decide)]
    simp (maxSteps:=999999) -dsimp -implicitDefEqProofs only [↓eqD,eqU,eqV,eqW,vbuiltinQ,vlen,vslice,vindex,vstore,Array.toList,simprocAttr,fnWp_some Tryz.func228,Tryz.f228,T0,FB,SOQ_at,add_at,none_at,g101,g99,f23_0,f23_1,ag23,z23,c23,i23,p23_0,p23_1,st23,DecR.v,ht,ne_eq,Int.lt_irrefl,Int.reduceEq,c0,cx,ht0,hA,wA]
    refine VDone.back hG ?_ rfl rfl
    intro j hj; simp (maxSteps:=999999) -dsimp -implicitDefEqProofs only [↓eqD,eqU,eqV,eqW,vbuiltinQ,vlen,vslice,vindex,vstore,Array.toList,simprocAttr,lt6 hj]
  try rw [if_neg a0]
  have cA : 0 < ((runN s digitsL : Nat) : Int) := by omega
  have cA0 : ¬((runN s digitsL : Nat) : Int) = 0 := by omega
  generalize hAe : runN s digitsL = A at *
  have wA : IntKind.wrap .i64 ((1 : Int) + (A : Int)) = (1 : Int) + (A : Int) := by rw [w64 (by omega) (by omega)]
  have nA : 0 ≤ (1 : Int) + (A : Int) := by omega
  have tgA := tg A
  by_cases eA : A = s.length
  · rw [if_pos eA]
    have tlA : (t.length : Int) = (1 : Int) + (A : Int) := by omega
    have wAB : IntKind.wrap .i64 ((A : Int) + 0) = (A : Int) := by rw [w64 (by omega) (by omega)]; omega
    have cz : 0 < (1 : Int) + (A : Int) := by omega
    have hz : (1 : Int) ≤ (1 : Int) + (A : Int) := by omega
    have hsd : Dg s := runN_full (by rw [hAe, eA])
    by_cases q1 : 18 < s.length
    · rw [if_pos q1]
      have q1' : 18 < (A : Int) := by omega
      simp (maxSteps:=999999) -dsimp -implicitDefEqProofs only [↓eqD,eqU,eqV,eqW,vbuiltinQ,vlen,vslice,vindex,vstore,Array.toList,simprocAttr,fnWp_some Tryz.func228,Tryz.f228,T0,FB,SOQ_at,add_at,none_at,g101,g99,f23_0,f23_1,ag23,z23,c23,i23,p23_0,p23_1,st23,DecR.v,ht,ne_eq,Int.lt_irrefl,Int.reduceEq,c0,cx,ht0,hA,cA,cA0,wA,tlA,cz,hz,nA,wAB,q1']
      refine VDone.back hG ?_ rfl rfl
      intro j hj; simp (maxSteps:=999999) -dsimp -implicitDefEqProofs only [↓eqD,eqU,eqV,eqW,vbuiltinQ,vlen,vslice,vindex,vstore,Array.toList,simprocAttr,lt6 hj]
    try rw [if_neg q1]
    have q1' : ¬18 < (A : Int) := by omega
    have hkd : ∀ k, k < s.length → s.getD k 0 ≠ 46 → digitsL.contains (s.getD k 0) = true := fun k hk _ => dg_at hsd hk
    have hkb : ∀ k, k ≤ s.length → numOf (keepB (s.take k)) < 1000000000000000000 := fun k hk => num_bound (by rw [keep_dg hsd]; exact hsd) (by rw [keep_dg hsd]; omega) k
    have e00 : ((0 : Nat) : Int) = 0 := rfl
    rw [e00]
    simp (maxSteps:=999999) -dsimp -implicitDefEqProofs only [↓eqD,eqU,eqV,eqW,vbuiltinQ,vlen,vslice,vindex,vstore,Array.toList,simprocAttr,fnWp_some Tryz.func228,Tryz.f228,T0,FB,SOQ_at,add_at,none_at,g101,g99,f23_0,f23_1,ag23,z23,c23,i23,p23_0,p23_1,st23,DecR.v,ht,ne_eq,Int.lt_irrefl,Int.reduceEq,c0,cx,ht0,hA,cA,cA0,wA,tlA,cz,hz,nA,wAB,q1']
    refine vloop_by (fun k : Nat => k ≤ s.length) (fun k => Env.of [(0, .str t), (2, .ptr G.next 0 0), (4, .int .i64 (1 : Int)), (6, .int .i64 0), (8, .int .i64 (numOf (keepB (s.take k)) : Int)), (9, .int .i64 ((1 : Int) + (k : Int)))]) (fun _ => G.over (G.next + 1) [(G.next, .cells 0 [.int .i64 0, .int .i64 0])]) (fun k => s.length - k) 0 ?_ ?_ ?_
    · refine .of ?_ (.over hG ?_ ?_ ?_)
      · simp (maxSteps:=999999) -dsimp -implicitDefEqProofs only [↓eqD,eqU,eqV,eqW,vbuiltinQ,vlen,vslice,vindex,vstore,Array.toList,simprocAttr]
        (repeat' apply And.intro) <;> first | exact .refl _ | (simp [numOf, keepB]; exact .refl _)
      · simp (maxSteps:=999999) -dsimp -implicitDefEqProofs only [↓eqD,eqU,eqV,eqW,vbuiltinQ,vlen,vslice,vindex,vstore,Array.toList,simprocAttr]
      · simp (maxSteps:=999999) -dsimp -implicitDefEqProofs only [↓eqD,eqU,eqV,eqW,vbuiltinQ,vlen,vslice,vindex,vstore,Array.toList,simprocAttr,FB]
      · intro j hj
        have hj : j < G.next := hj
        simp (maxSteps:=999999) -dsimp -implicitDefEqProofs only [↓eqD,eqU,eqV,eqW,vbuiltinQ,vlen,vslice,vindex,vstore,Array.toList,simprocAttr,lt6 hj]
    · exact Nat.zero_le _
    · intro k hk
      by_cases hlt : k < s.length
      · have k1 : (1 : Int) + (k : Int) < (t.length : Int) := by omega
        have k2 : 0 ≤ (1 : Int) + (k : Int) := by omega
        have kw : IntKind.wrap .i64 ((1 : Int) + (k : Int) + 1) = (1 : Int) + ((k + 1 : Nat) : Int) := by rw [w64 (by omega) (by omega)]; omega
        have kg := tg k
        have kt := take_next hlt
        have kd := hkd k hlt
        have kb := hkb (k + 1) (by omega)
        have kb0 := hkb k hk
        generalize hy : s.getD k 0 = y at *
        have yl := y.toNat_lt
        by_cases y46 : y = 46
        · have y46' : (y.toNat : Int) = 46 := by rw [y46]; rfl
          rw [kt, keep_snoc, if_pos y46] at kb
          simp (maxSteps:=999999) -dsimp -implicitDefEqProofs only [↓eqD,eqU,eqV,eqW,vbuiltinQ,vlen,vslice,vindex,vstore,Array.toList,simprocAttr,T0,FB,SOQ_at,add_at,none_at,g101,g99,f23_0,f23_1,ag23,z23,c23,i23,p23_0,p23_1,st23,DecR.v,ht,ne_eq,Int.lt_irrefl,Int.reduceEq,k1,k2,kw,kg,y46']
          refine ⟨k + 1, by omega, by omega, .of ?_ (.over hG ?_ ?_ ?_)⟩
          · simp (maxSteps:=999999) -dsimp -implicitDefEqProofs only [↓eqD,eqU,eqV,eqW,vbuiltinQ,vlen,vslice,vindex,vstore,Array.toList,simprocAttr,kt,keep_snoc,y46]
            (repeat' apply And.intro) <;> exact .refl _
          · simp (maxSteps:=999999) -dsimp -implicitDefEqProofs only [↓eqD,eqU,eqV,eqW,vbuiltinQ,vlen,vslice,vindex,vstore,Array.toList,simprocAttr]
          · simp (maxSteps:=999999) -dsimp -implicitDefEqProofs only [↓eqD,eqU,eqV,eqW,vbuiltinQ,vlen,vslice,vindex,vstore,Array.toList,simprocAttr,FB]
          · intro j hj
            have hj : j < G.next := hj
            simp (maxSteps:=999999) -dsimp -implicitDefEqProofs only [↓eqD,eqU,eqV,eqW,vbuiltinQ,vlen,vslice,vindex,vstore,Array.toList,simprocAttr,lt6 hj]
        · have y46' : ¬(y.toNat : Int) = 46 := fun e => y46 (by apply UInt8.toNat_inj.1; show y.toNat = 46; omega)
          have yd := digit_in (kd y46)
          rw [kt, keep_snoc, if_neg y46, num_snoc] at kb
          have v1 : IntKind.wrap .u8 ((y.toNat : Int) - 48) = (y.toNat : Int) - 48 := by rw [IntKind.wrap_u8]; omega
          have v2 : IntKind.wrap .i64 ((y.toNat : Int) - 48) = (y.toNat : Int) - 48 := by rw [w64 (by omega) (by omega)]
          have v3 : IntKind.wrap .i64 ((numOf (keepB (s.take k)) : Int) * 10) = (numOf (keepB (s.take k)) : Int) * 10 := by rw [w64 (by omega) (by omega)]
          have v4 : IntKind.wrap .i64 ((numOf (keepB (s.take k)) : Int) * 10 + ((y.toNat : Int) - 48)) = ((numOf (keepB (s.take k)) * 10 + (y.toNat - 48) : Nat) : Int) := by rw [w64 (by omega) (by omega)]; omega
          simp (maxSteps:=999999) -dsimp -implicitDefEqProofs only [↓eqD,eqU,eqV,eqW,vbuiltinQ,vlen,vslice,vindex,vstore,Array.toList,simprocAttr,T0,FB,SOQ_at,add_at,none_at,g101,g99,f23_0,f23_1,ag23,z23,c23,i23,p23_0,p23_1,st23,DecR.v,ht,ne_eq,Int.lt_irrefl,Int.reduceEq,k1,k2,kw,kg,y46',v1,v2,v3,v4,u5k,u3k]
          refine ⟨k + 1, by omega, by omega, .of ?_ (.over hG ?_ ?_ ?_)⟩
          · simp (maxSteps:=999999) -dsimp -implicitDefEqProofs only [↓eqD,eqU,eqV,eqW,vbuiltinQ,vlen,vslice,vindex,vstore,Array.toList,simprocAttr,kt,keep_snoc,y46,num_snoc]
            (repeat' apply And.intro) <;> exact .refl _
          · simp (maxSteps:=999999) -dsimp -implicitDefEqProofs only [↓eqD,eqU,eqV,eqW,vbuiltinQ,vlen,vslice,vindex,vstore,Array.toList,simprocAttr]
          · simp (maxSteps:=999999) -dsimp -implicitDefEqProofs only [↓eqD,eqU,eqV,eqW,vbuiltinQ,vlen,vslice,vindex,vstore,Array.toList,simprocAttr,FB]
          · intro j hj
            have hj : j < G.next := hj
            simp (maxSteps:=999999) -dsimp -implicitDefEqProofs only [↓eqD,eqU,eqV,eqW,vbuiltinQ,vlen,vslice,vindex,vstore,Array.toList,simprocAttr,lt6 hj]
      · have k1 : ¬(1 : Int) + (k : Int) < (t.length : Int) := by omega
        have kk : k = s.length := by omega
        have kb0 := hkb k hk
        subst kk
        rw [List.take_length] at *
        have n1 : -1000000000000000000 ≤ (numOf (keepB s) : Int) ∧ (numOf (keepB s) : Int) ≤ 1000000000000000000 := by omega
        have n2 : -1000000000000000000 ≤ 0 - (numOf (keepB s) : Int) ∧ 0 - (numOf (keepB s) : Int) ≤ 1000000000000000000 := by omega
        have n3 : 0 ≤ (0 : Int) ∧ (0 : Int) ≤ 8 := by omega
        have n4 : IntKind.wrap .i64 (0 - (numOf (keepB s) : Int)) = 0 - (numOf (keepB s) : Int) := by rw [w64 (by omega) (by omega)]
        simp (maxSteps:=999999) -dsimp -implicitDefEqProofs only [↓eqD,eqU,eqV,eqW,vbuiltinQ,vlen,vslice,vindex,vstore,Array.toList,simprocAttr,T0,FB,SOQ_at,add_at,none_at,g101,g99,f23_0,f23_1,ag23,z23,c23,i23,p23_0,p23_1,st23,DecR.v,ht,ne_eq,Int.lt_irrefl,Int.reduceEq,k1,n1,n2,n3,n4,List.take_length]
        refine VDone.back hG ?_ rfl rfl
        intro j hj; simp (maxSteps:=999999) -dsimp -implicitDefEqProofs only [↓eqD,eqU,eqV,eqW,vbuiltinQ,vlen,vslice,vindex,vstore,Array.toList,simprocAttr,lt6 hj]
  try rw [if_neg eA]
  have cl : (1 : Int) + (A : Int) < (t.length : Int) := by omega
  by_cases y46 : s.getD A 0 = 46
  case neg =>
    rw [if_neg y46]
    have y46' : ¬((s.getD A 0).toNat : Int) = 46 := fun e => y46 (by apply UInt8.toNat_inj.1; show (s.getD A 0).toNat = 46; omega)
    have cne : ¬(1 : Int) + (A : Int) = (t.length : Int) := by omega
    simp (maxSteps:=999999) -dsimp -implicitDefEqProofs only [↓eqD,eqU,eqV,eqW,vbuiltinQ,vlen,vslice,vindex,vstore,Array.toList,simprocAttr,fnWp_some Tryz.func228,Tryz.f228,T0,FB,SOQ_at,add_at,none_at,g101,g99,f23_0,f23_1,ag23,z23,c23,i23,p23_0,p23_1,st23,DecR.v,ht,ne_eq,Int.lt_irrefl,Int.reduceEq,c0,cx,ht0,hA,cA,cA0,wA,cl,nA,tgA,y46',cne]
    refine VDone.back hG ?_ rfl rfl
    intro j hj; simp (maxSteps:=999999) -dsimp -implicitDefEqProofs only [↓eqD,eqU,eqV,eqW,vbuiltinQ,vlen,vslice,vindex,vstore,Array.toList,simprocAttr,lt6 hj]
  try rw [if_pos y46]
  have y46' : ((s.getD A 0).toNat : Int) = 46 := by rw [y46]; rfl
  have hB : rD t ((1 : Int) + (A : Int) + 1) = ((runN (s.drop (A + 1)) digitsL : Nat) : Int) := by unfold rD; rw [td2]
  have hBl := runN_le (s.drop (A + 1)) digitsL
  rw [List.length_drop] at hBl
  have wA1 : IntKind.wrap .i64 ((1 : Int) + (A : Int) + 1) = (1 : Int) + (A : Int) + 1 := by rw [w64 (by omega) (by omega)]
  have nA1 : 0 ≤ (1 : Int) + (A : Int) + 1 ∧ (1 : Int) + (A : Int) + 1 ≤ (t.length : Int) := by omega
  generalize hBe : runN (s.drop (A + 1)) digitsL = B at *
  have wA1B : IntKind.wrap .i64 ((1 : Int) + (A : Int) + 1 + (B : Int)) = (1 : Int) + (A : Int) + 1 + (B : Int) := by rw [w64 (by omega) (by omega)]
  by_cases eB : A + 1 + B = s.length
  case neg =>
    rw [if_neg eB]
    have cne : ¬(1 : Int) + (A : Int) + 1 + (B : Int) = (t.length : Int) := by omega
    simp (maxSteps:=999999) -dsimp -implicitDefEqProofs only [↓eqD,eqU,eqV,eqW,vbuiltinQ,vlen,vslice,vindex,vstore,Array.toList,simprocAttr,fnWp_some Tryz.func228,Tryz.f228,T0,FB,SOQ_at,add_at,none_at,g101,g99,f23_0,f23_1,ag23,z23,c23,i23,p23_0,p23_1,st23,DecR.v,ht,ne_eq,Int.lt_irrefl,Int.reduceEq,c0,cx,ht0,hA,cA,cA0,wA,cl,nA,tgA,y46',wA1,nA1,hB,wA1B,cne]
    refine VDone.back hG ?_ rfl rfl
    intro j hj; simp (maxSteps:=999999) -dsimp -implicitDefEqProofs only [↓eqD,eqU,eqV,eqW,vbuiltinQ,vlen,vslice,vindex,vstore,Array.toList,simprocAttr,lt6 hj]
  try rw [if_pos eB]
  have ceq : (1 : Int) + (A : Int) + 1 + (B : Int) = (t.length : Int) := by omega
  have cg : (1 : Int) + (A : Int) < (t.length : Int) := by omega
  by_cases b0 : B = 0
  · rw [if_pos b0]
    subst b0
    have hB : rD t ((1 : Int) + (A : Int) + 1) = 0 := hB
    have wA1B : IntKind.wrap .i64 ((1 : Int) + (A : Int) + 1 + 0) = (t.length : Int) := by rw [w64 (by omega) (by omega)]; omega
    simp (maxSteps:=999999) -dsimp -implicitDefEqProofs only [↓eqD,eqU,eqV,eqW,vbuiltinQ,vlen,vslice,vindex,vstore,Array.toList,simprocAttr,fnWp_some Tryz.func228,Tryz.f228,T0,FB,SOQ_at,add_at,none_at,g101,g99,f23_0,f23_1,ag23,z23,c23,i23,p23_0,p23_1,st23,DecR.v,ht,ne_eq,Int.lt_irrefl,Int.reduceEq,c0,cx,ht0,hA,cA,cA0,wA,cl,nA,tgA,y46',wA1,nA1,hB,wA1B,cg]
    refine VDone.back hG ?_ rfl rfl
    intro j hj; simp (maxSteps:=999999) -dsimp -implicitDefEqProofs only [↓eqD,eqU,eqV,eqW,vbuiltinQ,vlen,vslice,vindex,vstore,Array.toList,simprocAttr,lt6 hj]
  try rw [if_neg b0]
  have b0' : ¬(B : Int) = 0 := by omega
  have wA1B : IntKind.wrap .i64 ((1 : Int) + (A : Int) + 1 + (B : Int)) = (t.length : Int) := by rw [w64 (by omega) (by omega)]; omega
  have wAB : IntKind.wrap .i64 ((A : Int) + (B : Int)) = (A : Int) + (B : Int) := by rw [w64 (by omega) (by omega)]
  by_cases q1 : 18 < A + B
  · rw [if_pos q1]
    have q1' : 18 < (A : Int) + (B : Int) := by omega
    simp (maxSteps:=999999) -dsimp -implicitDefEqProofs only [↓eqD,eqU,eqV,eqW,vbuiltinQ,vlen,vslice,vindex,vstore,Array.toList,simprocAttr,fnWp_some Tryz.func228,Tryz.f228,T0,FB,SOQ_at,add_at,none_at,g101,g99,f23_0,f23_1,ag23,z23,c23,i23,p23_0,p23_1,st23,DecR.v,ht,ne_eq,Int.lt_irrefl,Int.reduceEq,c0,cx,ht0,hA,cA,cA0,wA,cl,nA,tgA,y46',wA1,nA1,hB,wA1B,cg,b0',wAB,q1']
    refine VDone.back hG ?_ rfl rfl
    intro j hj; simp (maxSteps:=999999) -dsimp -implicitDefEqProofs only [↓eqD,eqU,eqV,eqW,vbuiltinQ,vlen,vslice,vindex,vstore,Array.toList,simprocAttr,lt6 hj]
  try rw [if_neg q1]
  have q1' : ¬18 < (A : Int) + (B : Int) := by omega
  by_cases q2 : 8 < B
  · rw [if_pos q2]
    have q2' : 8 < (B : Int) := by omega
    simp (maxSteps:=999999) -dsimp -implicitDefEqProofs only [↓eqD,eqU,eqV,eqW,vbuiltinQ,vlen,vslice,vindex,vstore,Array.toList,simprocAttr,fnWp_some Tryz.func228,Tryz.f228,T0,FB,SOQ_at,add_at,none_at,g101,g99,f23_0,f23_1,ag23,z23,c23,i23,p23_0,p23_1,st23,DecR.v,ht,ne_eq,Int.lt_irrefl,Int.reduceEq,c0,cx,ht0,hA,cA,cA0,wA,cl,nA,tgA,y46',wA1,nA1,hB,wA1B,cg,b0',wAB,q1',q2']
    refine VDone.back hG ?_ rfl rfl
    intro j hj; simp (maxSteps:=999999) -dsimp -implicitDefEqProofs only [↓eqD,eqU,eqV,eqW,vbuiltinQ,vlen,vslice,vindex,vstore,Array.toList,simprocAttr,lt6 hj]
  try rw [if_neg q2]
  have q2' : ¬8 < (B : Int) := by omega
  have hsh := dot_shape (s := s) (by rw [hAe]; exact y46) (by rw [hAe, hBe]; exact eB) (by rw [hAe]; omega)
  rw [hAe, hBe] at hsh
  have hkd : ∀ k, k < s.length → s.getD k 0 ≠ 46 → digitsL.contains (s.getD k 0) = true := hsh.1
  have hkb : ∀ k, k ≤ s.length → numOf (keepB (s.take k)) < 1000000000000000000 := fun k hk => num_bound hsh.2.1 (by omega) k
  simp (maxSteps:=999999) -dsimp -implicitDefEqProofs only [↓eqD,eqU,eqV,eqW,vbuiltinQ,vlen,vslice,vindex,vstore,Array.toList,simprocAttr,fnWp_some Tryz.func228,Tryz.f228,T0,FB,SOQ_at,add_at,none_at,g101,g99,f23_0,f23_1,ag23,z23,c23,i23,p23_0,p23_1,st23,DecR.v,ht,ne_eq,Int.lt_irrefl,Int.reduceEq,c0,cx,ht0,hA,cA,cA0,wA,cl,nA,tgA,y46',wA1,nA1,hB,wA1B,cg,b0',wAB,q1',q2']
  refine vloop_by (fun k : Nat => k ≤ s.length) (fun k => Env.of [(0, .str t), (2, .ptr G.next 0 0), (4, .int .i64 (1 : Int)), (6, .int .i64 (B : Nat)), (8, .int .i64 (numOf (keepB (s.take k)) : Int)), (9, .int .i64 ((1 : Int) + (k : Int)))]) (fun _ => G.over (G.next + 1) [(G.next, .cells 0 [.int .i64 0, .int .i64 0])]) (fun k => s.length - k) 0 ?_ ?_ ?_
  · refine .of ?_ (.over hG ?_ ?_ ?_)
    · simp (maxSteps:=999999) -dsimp -implicitDefEqProofs only [↓eqD,eqU,eqV,eqW,vbuiltinQ,vlen,vslice,vindex,vstore,Array.toList,simprocAttr]
      (repeat' apply And.intro) <;> first | exact .refl _ | (simp [numOf, keepB]; exact .refl _)
    · simp (maxSteps:=999999) -dsimp -implicitDefEqProofs only [↓eqD,eqU,eqV,eqW,vbuiltinQ,vlen,vslice,vindex,vstore,Array.toList,simprocAttr]
    · simp (maxSteps:=999999) -dsimp -implicitDefEqProofs only [↓eqD,eqU,eqV,eqW,vbuiltinQ,vlen,vslice,vindex,vstore,Array.toList,simprocAttr,FB]
    · intro j hj
      have hj : j < G.next := hj
      simp (maxSteps:=999999) -dsimp -implicitDefEqProofs only [↓eqD,eqU,eqV,eqW,vbuiltinQ,vlen,vslice,vindex,vstore,Array.toList,simprocAttr,lt6 hj]
  · exact Nat.zero_le _
  · intro k hk
    by_cases hlt : k < s.length
    · have k1 : (1 : Int) + (k : Int) < (t.length : Int) := by omega
      have k2 : 0 ≤ (1 : Int) + (k : Int) := by omega
      have kw : IntKind.wrap .i64 ((1 : Int) + (k : Int) + 1) = (1 : Int) + ((k + 1 : Nat) : Int) := by rw [w64 (by omega) (by omega)]; omega
      have kg := tg k
      have kt := take_next hlt
      have kd := hkd k hlt
      have kb := hkb (k + 1) (by omega)
      have kb0 := hkb k hk
      generalize hy : s.getD k 0 = y at *
      have yl := y.toNat_lt
      by_cases y46 : y = 46
      · have y46' : (y.toNat : Int) = 46 := by rw [y46]; rfl
        rw [kt, keep_snoc, if_pos y46] at kb
        simp (maxSteps:=999999) -dsimp -implicitDefEqProofs only [↓eqD,eqU,eqV,eqW,vbuiltinQ,vlen,vslice,vindex,vstore,Array.toList,simprocAttr,T0,FB,SOQ_at,add_at,none_at,g101,g99,f23_0,f23_1,ag23,z23,c23,i23,p23_0,p23_1,st23,DecR.v,ht,ne_eq,Int.lt_irrefl,Int.reduceEq,k1,k2,kw,kg,y46']
        refine ⟨k + 1, by omega, by omega, .of ?_ (.over hG ?_ ?_ ?_)⟩
        · simp (maxSteps:=999999) -dsimp -implicitDefEqProofs only [↓eqD,eqU,eqV,eqW,vbuiltinQ,vlen,vslice,vindex,vstore,Array.toList,simprocAttr,kt,keep_snoc,y46]
          (repeat' apply And.intro) <;> exact .refl _
        · simp (maxSteps:=999999) -dsimp -implicitDefEqProofs only [↓eqD,eqU,eqV,eqW,vbuiltinQ,vlen,vslice,vindex,vstore,Array.toList,simprocAttr]
        · simp (maxSteps:=999999) -dsimp -implicitDefEqProofs only [↓eqD,eqU,eqV,eqW,vbuiltinQ,vlen,vslice,vindex,vstore,Array.toList,simprocAttr,FB]
        · intro j hj
          have hj : j < G.next := hj
          simp (maxSteps:=999999) -dsimp -implicitDefEqProofs only [↓eqD,eqU,eqV,eqW,vbuiltinQ,vlen,vslice,vindex,vstore,Array.toList,simprocAttr,lt6 hj]
      · have y46' : ¬(y.toNat : Int) = 46 := fun e => y46 (by apply UInt8.toNat_inj.1; show y.toNat = 46; omega)
        have yd := digit_in (kd y46)
        rw [kt, keep_snoc, if_neg y46, num_snoc] at kb
        have v1 : IntKind.wrap .u8 ((y.toNat : Int) - 48) = (y.toNat : Int) - 48 := by rw [IntKind.wrap_u8]; omega
        have v2 : IntKind.wrap .i64 ((y.toNat : Int) - 48) = (y.toNat : Int) - 48 := by rw [w64 (by omega) (by omega)]
        have v3 : IntKind.wrap .i64 ((numOf (keepB (s.take k)) : Int) * 10) = (numOf (keepB (s.take k)) : Int) * 10 := by rw [w64 (by omega) (by omega)]
        have v4 : IntKind.wrap .i64 ((numOf (keepB (s.take k)) : Int) * 10 + ((y.toNat : Int) - 48)) = ((numOf (keepB (s.take k)) * 10 + (y.toNat - 48) : Nat) : Int) := by rw [w64 (by omega) (by omega)]; omega
        simp (maxSteps:=999999) -dsimp -implicitDefEqProofs only [↓eqD,eqU,eqV,eqW,vbuiltinQ,vlen,vslice,vindex,vstore,Array.toList,simprocAttr,T0,FB,SOQ_at,add_at,none_at,g101,g99,f23_0,f23_1,ag23,z23,c23,i23,p23_0,p23_1,st23,DecR.v,ht,ne_eq,Int.lt_irrefl,Int.reduceEq,k1,k2,kw,kg,y46',v1,v2,v3,v4,u5k,u3k]
        refine ⟨k + 1, by omega, by omega, .of ?_ (.over hG ?_ ?_ ?_)⟩
        · simp (maxSteps:=999999) -dsimp -implicitDefEqProofs only [↓eqD,eqU,eqV,eqW,vbuiltinQ,vlen,vslice,vindex,vstore,Array.toList,simprocAttr,kt,keep_snoc,y46,num_snoc]
          (repeat' apply And.intro) <;> exact .refl _
        · simp (maxSteps:=999999) -dsimp -implicitDefEqProofs only [↓eqD,eqU,eqV,eqW,vbuiltinQ,vlen,vslice,vindex,vstore,Array.toList,simprocAttr]
        · simp (maxSteps:=999999) -dsimp -implicitDefEqProofs only [↓eqD,eqU,eqV,eqW,vbuiltinQ,vlen,vslice,vindex,vstore,Array.toList,simprocAttr,FB]
        · intro j hj
          have hj : j < G.next := hj
          simp (maxSteps:=999999) -dsimp -implicitDefEqProofs only [↓eqD,eqU,eqV,eqW,vbuiltinQ,vlen,vslice,vindex,vstore,Array.toList,simprocAttr,lt6 hj]
    · have k1 : ¬(1 : Int) + (k : Int) < (t.length : Int) := by omega
      have kk : k = s.length := by omega
      have kb0 := hkb k hk
      subst kk
      rw [List.take_length] at *
      have n1 : -1000000000000000000 ≤ (numOf (keepB s) : Int) ∧ (numOf (keepB s) : Int) ≤ 1000000000000000000 := by omega
      have n2 : -1000000000000000000 ≤ 0 - (numOf (keepB s) : Int) ∧ 0 - (numOf (keepB s) : Int) ≤ 1000000000000000000 := by omega
      have n3 : 0 ≤ ((B : Int) : Int) ∧ ((B : Int) : Int) ≤ 8 := by omega
      have n4 : IntKind.wrap .i64 (0 - (numOf (keepB s) : Int)) = 0 - (numOf (keepB s) : Int) := by rw [w64 (by omega) (by omega)]
      simp (maxSteps:=999999) -dsimp -implicitDefEqProofs only [↓eqD,eqU,eqV,eqW,vbuiltinQ,vlen,vslice,vindex,vstore,Array.toList,simprocAttr,T0,FB,SOQ_at,add_at,none_at,g101,g99,f23_0,f23_1,ag23,z23,c23,i23,p23_0,p23_1,st23,DecR.v,ht,ne_eq,Int.lt_irrefl,Int.reduceEq,k1,n1,n2,n3,n4,List.take_length]
      refine VDone.back hG ?_ rfl rfl
      intro j hj; simp (maxSteps:=999999) -dsimp -implicitDefEqProofs only [↓eqD,eqU,eqV,eqW,vbuiltinQ,vlen,vslice,vindex,vstore,Array.toList,simprocAttr,lt6 hj]
set_option maxRecDepth 100000 in
theorem refdec_nil (t : List UInt8) (h : t = []) (G : Heap) : VPure Tryz.prog 228 [.str t] G (valB false []).v := by
  refine VCalls.of okSOQ mixed T0 okn93 fun hG => ?_
  have hA : rD t 0 = 0 := by rw [h]; rfl
  have ht : t.length ≤ 1000 := by rw [h]; decide
  have wA : IntKind.wrap .i64 ((0 : Int) + 0) = 0 := by rw [w64 (by decide) (by decide)]; rfl
  have c0 : ¬0 < (t.length : Int) := by rw [h]; decide
  have n0 : 0 ≤ (t.length : Int) := by omega
  have hv : valB false [] = ⟨0, 0, 2⟩ := rfl
  rw [hv]
  simp (maxSteps:=999999) -dsimp -implicitDefEqProofs only [↓eqD,eqU,eqV,eqW,vbuiltinQ,vlen,vslice,vindex,vstore,Array.toList,simprocAttr,fnWp_some Tryz.func228,Tryz.f228,T0,FB,SOQ_at,add_at,none_at,g101,g99,f23_0,f23_1,ag23,z23,c23,i23,p23_0,p23_1,st23,DecR.v,ht,ne_eq,Int.lt_irrefl,Int.reduceEq,hA,wA,n0,c0]
  refine VDone.back hG ?_ rfl rfl
  intro j hj; simp (maxSteps:=999999) -dsimp -implicitDefEqProofs only [↓eqD,eqU,eqV,eqW,vbuiltinQ,vlen,vslice,vindex,vstore,Array.toList,simprocAttr,lt6 hj]
theorem refdec_walk (t : List UInt8) (ht : t.length ≤ 1000) (G : Heap) : VPure Tryz.prog 228 [.str t] G (decB t).v := by
  unfold decB
  cases t with
  | nil => exact refdec_nil [] rfl G
  | cons x r =>
    by_cases hx : x = 45
    · subst hx
      have h1 : Lib.hasPrefix (45 :: r) [45] = true := by simp [Lib.hasPrefix, List.isPrefixOf]
      have h2 : Lib.trimPrefix (45 :: r) [45] = r := by unfold Lib.trimPrefix; rw [if_pos h1]; rfl
      rw [h1, h2]
      refine refdec_walk1 (45 :: r) r ht (by rw [List.length_cons]; omega) rfl (fun k => ?_) rfl (fun k => ?_) (by rw [List.length_cons]; omega) G
      · have : ((1 : Int) + (k : Int)).toNat = k + 1 := by omega
        rw [this]; rfl
      · have : ((1 : Int) + (k : Int) + 1).toNat = (k + 1) + 1 := by omega
        rw [this]; rfl
    · have h1 : Lib.hasPrefix (x :: r) [45] = false := by
        simp only [Lib.hasPrefix, List.isPrefixOf, Bool.and_true]
        exact beq_eq_false_iff_ne.2 fun e => hx e.symm
      have h2 : Lib.trimPrefix (x :: r) [45] = x :: r := by unfold Lib.trimPrefix; rw [if_neg (by rw [h1]; decide)]
      rw [h1, h2]
      refine refdec_walk0 (x :: r) (x :: r) ht (by rw [List.length_cons]; omega) (fun e => hx (by apply UInt8.toNat_inj.1; show x.toNat = 45; have e : (x.toNat : Int) = 45 := e; omega)) (fun k => ?_) rfl (fun k => ?_) (by omega) G
      · have : ((0 : Int) + (k : Int)).toNat = k := by omega
        rw [this]
      · have : ((0 : Int) + (k : Int) + 1).toNat = k + 1 := by omega
        rw [this]
end Go.Vf
