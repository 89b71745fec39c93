/- A part of the proof: Ne, Nf. -/
import Derived.Test.YtkcdhmplinjldaaGreatDoorPANa
set_option linter.unusedVariables false
set_option linter.unusedSimpArgs false
namespace Go.Vf
open Go.Proofs Go.RowKit
def g63 : List V → Heap → Option (Prop × V × Heap)
  | [.ptr id 0 0, .slc 1 n x], G => match rOf (G.get id), unstr x with
    | some (T, en, s), some ws => some ((ReaderAt G id T en s ∧ ws.length ≤ 100) ∧ n = ws.length ∧ x = ws.map .str, .str (mustR T en s ws).1, G.put id (.cells 0 (rcells T en (mustR T en s ws).2)))
    | _, _ => none
  | _, _ => none
theorem ok63 {P : Specs} (hP : SOk Tryz.prog P) : SOk Tryz.prog (P.addH 209 g63) := by
  refine hP.addH ?_
  intro xs G p v G' e hp
  unfold g63 at e
  split at e
  · split at e
    · cases e
      obtain ⟨⟨h1, h2⟩, h3, h4⟩ := hp
      rw [h3, h4]
      exact mustr_walk h1 _ h2
    · cases e
  · cases e
theorem mustR_at (T : List Tok) (en : Int) (s : St) (ws : List (List UInt8)) : (mustR T en s ws).2.at_ = (takeR T s ws).2.at_ := by
  unfold mustR; split
  · unfold errsT; split <;> rfl
  · rfl
theorem mustR_goes {T : List Tok} {en : Int} {s : St} (h : s.at_ ≤ T.length) (ws : List (List UInt8)) : s.at_ ≤ (mustR T en s ws).2.at_ ∧ (mustR T en s ws).2.at_ ≤ T.length := by
  rw [mustR_at]; exact takeR_goes h ws
def relW : List (List UInt8) := [[60], [60, 61], [62], [62, 61], [61], [33, 61]]
def inW : List UInt8 := [105, 110]
def opW : List (List UInt8) := [[91], [40]]
def clW : List (List UInt8) := [[93], [41]]
def ddW : List (List UInt8) := [[46, 46]]
def SRC : Specs := ((Specs.none.addH 209 g63).addH 161 g39).add 162 g47
theorem SRC_at (f : FuncId) (xs : List V) (G : Heap) : SRC f xs G = (((Specs.none.addH 209 g63).addH 161 g39).add 162 g47) f xs G := rfl
theorem okSRC : SOk Tryz.prog SRC := ok40 (ok39 (ok63 (SOk.none _)))
def inR (T : List Tok) (en : Int) (ex : Kid) (x : Ex) : Kid := fun s =>
  (Ex.mk 11 false 0 0 [] (decide ((mustR T en s opW).1 = [91])) (decide ((mustR T en (ex (mustR T en (ex (mustR T en s opW).2).2 ddW).2).2 clW).1 = [93]))
    [x, (ex (mustR T en s opW).2).1, (ex (mustR T en (ex (mustR T en s opW).2).2 ddW).2).1],
   (mustR T en (ex (mustR T en (ex (mustR T en s opW).2).2 ddW).2).2 clW).2)
theorem inR_goes {T : List Tok} {en : Int} {ex : Kid} (me : Goes T ex) (x : Ex) : Goes T (inR T en ex x) := fun s h => by
  unfold inR
  simp only
  have h1 := mustR_goes (T := T) (en := en) h opW
  have h2 := me _ h1.2
  have h3 := mustR_goes (T := T) (en := en) h2.2 ddW
  have h4 := me _ h3.2
  have h5 := mustR_goes (T := T) (en := en) h4.2 clW
  omega
def cmpR (T : List Tok) (en : Int) (add ex : Kid) : Kid := fun s =>
  if (takeR T (add s).2 relW).1 = [] then
    (if isR T (takeR T (add s).2 relW).2 inW = true then inR T en ex (add s).1 (nextS (takeR T (add s).2 relW).2)
    else ((add s).1, (takeR T (add s).2 relW).2))
  else (Ex.bin (takeR T (add s).2 relW).1 (add s).1 (add (takeR T (add s).2 relW).2).1, (add (takeR T (add s).2 relW).2).2)
theorem nextS_goes {T : List Tok} {s : St} {w : List UInt8} (h : isR T s w = true) : (nextS s).at_ ≤ T.length := (isR_lt h).2
theorem cmpR_goes {T : List Tok} {en : Int} {add ex : Kid} (ma : Goes T add) (me : Goes T ex) : Goes T (cmpR T en add ex) := fun s h => by
  have h1 := ma s h
  have h2 := takeR_goes (T := T) h1.2 relW
  have h4 := ma _ h2.2
  have hn : ∀ s : St, (nextS s).at_ = s.at_ + 1 := fun _ => rfl
  unfold cmpR
  split
  · split
    · rename_i c
      have hn' := hn (takeR T (add s).2 relW).2
      have := inR_goes (en := en) me (add s).1 _ (nextS_goes c)
      omega
    · simp only; omega
  · simp only; omega
theorem rel_lit (T : List Tok) (s : St) : takeR T s [[60], [60, 61], [62], [62, 61], [61], [33, 61]] = takeR T s relW := rfl
theorem in_lit (T : List Tok) (s : St) : takeR T s [[105, 110]] = takeR T s [inW] := rfl
theorem opW_lit (T : List Tok) (en : Int) (s : St) : mustR T en s [[91], [40]] = mustR T en s opW := rfl
theorem clW_lit (T : List Tok) (en : Int) (s : St) : mustR T en s [[93], [41]] = mustR T en s clW := rfl
theorem ddW_lit (T : List Tok) (en : Int) (s : St) : mustR T en s [[46, 46]] = mustR T en s ddW := rfl
theorem inW_ne : ¬inW = [] := by decide
theorem take1_no {T : List Tok} {s : St} {w : List UInt8} (h : ¬isR T s w = true) : takeR T s [w] = ([], s) := by rw [take1, if_neg h]
theorem take1_yes {T : List Tok} {s : St} {w : List UInt8} (h : isR T s w = true) : takeR T s [w] = (w, nextS s) := by rw [take1, if_pos h]
def T52 : Tab := ⟨fun id => if id = 4 then ([0, 1, 2, 3, 4, 5, 6], [(1, 4)]) else ([], []), fun _ => false⟩
theorem T52_ord (id : Nat) : T52.ord id = if id = 4 then ([0, 1, 2, 3, 4, 5, 6], [(1, 4)]) else ([], []) := rfl
theorem T52_ghost (id : Nat) : T52.ghost id = false := rfl
theorem okn52 : fnOk Tryz.prog 193 T52 2 = true := by kernel_rfl
set_option maxRecDepth 100000 in
theorem cmpr_walk {T : List Tok} {en : Int} {id : Nat} {d : Nat} {add ex : Kid} (hd : d ≤ 100) (hk : RKidAt T en id 208 d add) (ma : Goes T add) (hx : RKidAt T en id 132 ((d + 1 : Nat) : Int) ex) (me : Goes T ex) : RKidAt T en id 193 d (cmpR T en add ex) := fun s G h => by
  refine VCalls.of okSRC mixed T52 okn52 fun hG => ?_
  have hid := hG.lt h.1
  have hu := fun s' => rcells_under T en s' G.next
  have h12 := h.2.1
  have w1 : IntKind.wrap .i64 ((d : Int) + 1) = ((d + 1 : Nat) : Int) := by rw [w64 (by omega) (by omega)]; rfl
  simp (maxSteps:=999999) -dsimp -implicitDefEqProofs only [↓eqD,eqU,eqV,eqW,vbuiltinQ,vlen,vslice,vindex,vstore,Array.toList,simprocAttr,fnWp_some Tryz.func193,Tryz.f193,T52_ord,T52_ghost,FB,SRC_at,addH_at,add_at,none_at,lt6 hid]
  refine (hk s _ ⟨by simp (maxSteps:=999999) -dsimp -implicitDefEqProofs only [↓eqD,eqU,eqV,eqW,vbuiltinQ,vlen,vslice,vindex,vstore,Array.toList,simprocAttr,lt6 hid]; exact h.1, h.2.1, h.2.2⟩).mono ?_
  rintro _ _ ⟨rfl, rfl⟩
  have h1 := ma s h.2.2
  unfold cmpR
  generalize add s = ks at *
  obtain ⟨⟨k1, b1, m1, c1, t1, lo1, hi1, kids1⟩, s1⟩ := ks
  simp only at h1 ⊢
  have h13 := h1.2
  have h2 := takeR_goes (T := T) h1.2 relW
  have h23 := h2.2
  by_cases ho : (takeR T s1 relW).1 = []
  · rw [if_pos ho]
    by_cases hi : isR T (takeR T s1 relW).2 inW = true
    · rw [if_pos hi]
      have hy := take1_yes hi
      have hnx := nextS_goes hi
      have g1 := mustR_goes (T := T) (en := en) (s := nextS (takeR T s1 relW).2) hnx opW
      simp (maxSteps:=999999) -dsimp -implicitDefEqProofs only [↓eqD,eqU,eqV,eqW,vbuiltinQ,vlen,vslice,vindex,vstore,Array.toList,simprocAttr,T52_ord,T52_ghost,FB,SRC_at,addH_at,add_at,none_at,vreps,vfill,g39,g63,unstr_cons,unstr_nil,map_str_cons,map_str_nil,rOf_rcells,ReaderAt,h12,h13,h23,hnx,Ex.cells,lt6 hid,rel_lit,in_lit,opW_lit,ho,hy,inW_ne,ne_eq,w1]
      unfold inR
      refine (hx (mustR T en (nextS (takeR T s1 relW).2) opW).2 _ ⟨by simp (maxSteps:=999999) -dsimp -implicitDefEqProofs only [↓eqD,eqU,eqV,eqW,vbuiltinQ,vlen,vslice,vindex,vstore,Array.toList,simprocAttr,lt6 hid], h.2.1, g1.2⟩).mono ?_
      rintro _ _ ⟨rfl, rfl⟩
      generalize mustR T en (nextS (takeR T s1 relW).2) opW = R1 at *
      have h3 := me R1.2 g1.2
      generalize ex R1.2 = ks at *
      obtain ⟨⟨k2, b2, m2, c2, t2, lo2, hi2, kids2⟩, s2⟩ := ks
      simp only at h3 ⊢
      have g2 := mustR_goes (T := T) (en := en) (s := s2) h3.2 ddW
      have h33 := h3.2
      simp (maxSteps:=999999) -dsimp -implicitDefEqProofs only [↓eqD,eqU,eqV,eqW,vbuiltinQ,vlen,vslice,vindex,vstore,Array.toList,simprocAttr,T52_ord,T52_ghost,FB,SRC_at,addH_at,add_at,none_at,vreps,vfill,g39,g63,unstr_cons,unstr_nil,map_str_cons,map_str_nil,rOf_rcells,ReaderAt,h12,h33,Ex.cells,lt6 hid,ddW_lit,w1]
      refine (hx (mustR T en s2 ddW).2 _ ⟨by simp (maxSteps:=999999) -dsimp -implicitDefEqProofs only [↓eqD,eqU,eqV,eqW,vbuiltinQ,vlen,vslice,vindex,vstore,Array.toList,simprocAttr,lt6 hid], h.2.1, g2.2⟩).mono ?_
      rintro _ _ ⟨rfl, rfl⟩
      generalize mustR T en s2 ddW = R2 at *
      have h4 := me R2.2 g2.2
      generalize ex R2.2 = ks at *
      obtain ⟨⟨k3, b3, m3, n3, t3, lo3, hi3, kids3⟩, s3⟩ := ks
      simp only at h4 ⊢
      have h43 := h4.2
      have d1 := exsC_closed kids1
      have d2 := exsC_closed kids2
      have d3 := exsC_closed kids3
      simp (maxSteps:=999999) -dsimp -implicitDefEqProofs only [↓eqD,eqU,eqV,eqW,vbuiltinQ,vlen,vslice,vindex,vstore,Array.toList,simprocAttr,T52_ord,T52_ghost,FB,SRC_at,addH_at,add_at,none_at,vreps,vfill,g39,g63,unstr_cons,unstr_nil,map_str_cons,map_str_nil,rOf_rcells,ReaderAt,h12,h43,Ex.cells,lt6 hid,clW_lit,w1,d1,d2,d3]
      have e3 : exsC [Ex.mk k1 b1 m1 c1 t1 lo1 hi1 kids1, Ex.mk k2 b2 m2 c2 t2 lo2 hi2 kids2, Ex.mk k3 b3 m3 n3 t3 lo3 hi3 kids3] = [.int .i64 k1, .bool b1, .int .i64 m1, .int .i64 c1, .str t1, .bool lo1, .bool hi1, .sl 8 kids1.length (exsC kids1), .int .i64 k2, .bool b2, .int .i64 m2, .int .i64 c2, .str t2, .bool lo2, .bool hi2, .sl 8 kids2.length (exsC kids2), .int .i64 k3, .bool b3, .int .i64 m3, .int .i64 n3, .str t3, .bool lo3, .bool hi3, .sl 8 kids3.length (exsC kids3)] := by simp [exsC, Ex.cells]
      have hle := vle_kids 11 false 0 0 [] (decide (R1.1 = [91])) (decide ((mustR T en s3 clW).1 = [93])) [Ex.mk k1 b1 m1 c1 t1 lo1 hi1 kids1, Ex.mk k2 b2 m2 c2 t2 lo2 hi2 kids2, Ex.mk k3 b3 m3 n3 t3 lo3 hi3 kids3]
      rw [e3] at hle
      refine .weak hle (VDone.turned hG hid (hu _) ?_ ?_ ?_ ?_)
      · simp (maxSteps:=999999) -dsimp -implicitDefEqProofs only [↓eqD,eqU,eqV,eqW,vbuiltinQ,vlen,vslice,vindex,vstore,Array.toList,simprocAttr,lt6 hid]
      · intro j hj hji; simp (maxSteps:=999999) -dsimp -implicitDefEqProofs only [↓eqD,eqU,eqV,eqW,vbuiltinQ,vlen,vslice,vindex,vstore,Array.toList,simprocAttr,lt6 hj,hji]
      · rfl
      · simp (maxSteps:=999999) -dsimp -implicitDefEqProofs only [↓eqD,eqU,eqV,eqW,vbuiltinQ,vlen,vslice,vindex,vstore,Array.toList,simprocAttr,Ex.cells,e3]
    · try rw [if_neg hi]
      have hn := take1_no hi
      simp (maxSteps:=999999) -dsimp -implicitDefEqProofs only [↓eqD,eqU,eqV,eqW,vbuiltinQ,vlen,vslice,vindex,vstore,Array.toList,simprocAttr,T52_ord,T52_ghost,FB,SRC_at,addH_at,add_at,none_at,vreps,vfill,g39,g63,unstr_cons,unstr_nil,map_str_cons,map_str_nil,rOf_rcells,ReaderAt,h12,h13,h23,Ex.cells,lt6 hid,rel_lit,in_lit,ho,hn,ne_eq,w1]
      refine VDone.turned hG hid (hu _) ?_ ?_ rfl rfl
      · simp (maxSteps:=999999) -dsimp -implicitDefEqProofs only [↓eqD,eqU,eqV,eqW,vbuiltinQ,vlen,vslice,vindex,vstore,Array.toList,simprocAttr,lt6 hid]
      · intro j hj hji; simp (maxSteps:=999999) -dsimp -implicitDefEqProofs only [↓eqD,eqU,eqV,eqW,vbuiltinQ,vlen,vslice,vindex,vstore,Array.toList,simprocAttr,lt6 hj,hji]
  · try rw [if_neg ho]
    simp (maxSteps:=999999) -dsimp -implicitDefEqProofs only [↓eqD,eqU,eqV,eqW,vbuiltinQ,vlen,vslice,vindex,vstore,Array.toList,simprocAttr,T52_ord,T52_ghost,FB,SRC_at,addH_at,add_at,none_at,vreps,vfill,g39,g63,unstr_cons,unstr_nil,map_str_cons,map_str_nil,rOf_rcells,ReaderAt,h12,h13,h23,Ex.cells,lt6 hid,rel_lit,ho,ne_eq,w1]
    refine (hk (takeR T s1 relW).2 _ ⟨by simp (maxSteps:=999999) -dsimp -implicitDefEqProofs only [↓eqD,eqU,eqV,eqW,vbuiltinQ,vlen,vslice,vindex,vstore,Array.toList,simprocAttr,lt6 hid], h.2.1, h23⟩).mono ?_
    rintro _ _ ⟨rfl, rfl⟩
    generalize add (takeR T s1 relW).2 = ks at *
    obtain ⟨⟨k2, b2, m2, c2, t2, lo2, hi2, kids2⟩, s2⟩ := ks
    have d1 := exsC_closed kids1
    have d2 := exsC_closed kids2
    simp (maxSteps:=999999) -dsimp -implicitDefEqProofs only [↓eqD,eqU,eqV,eqW,vbuiltinQ,vlen,vslice,vindex,vstore,Array.toList,simprocAttr,T52_ord,T52_ghost,FB,SRC_at,addH_at,add_at,none_at,g47,Ex.cells,lt6 hid,d1,d2]
    refine VDone.turned hG hid (hu _) ?_ ?_ rfl (by simp [Ex.bin, Ex.cells, exsC])
    · simp (maxSteps:=999999) -dsimp -implicitDefEqProofs only [↓eqD,eqU,eqV,eqW,vbuiltinQ,vlen,vslice,vindex,vstore,Array.toList,simprocAttr,lt6 hid]
    · intro j hj hji; simp (maxSteps:=999999) -dsimp -implicitDefEqProofs only [↓eqD,eqU,eqV,eqW,vbuiltinQ,vlen,vslice,vindex,vstore,Array.toList,simprocAttr,lt6 hj,hji]
def unaryR (T : List Tok) (en : Int) (d : Int) (un atom : Kid) : Kid := fun s =>
  if (deepI T en s d).err = 0 then
    (if isR T s [45] = true then (Ex.neg (un (nextS s)).1, (un (nextS s)).2) else atom s)
  else (Ex.zero, deepI T en s d)
theorem unaryR_goes {T : List Tok} {en : Int} {d : Int} {un atom : Kid} (mu : Goes T un) (ma : Goes T atom) : Goes T (unaryR T en d un atom) := fun s h => by
  unfold unaryR
  split
  · split
    · rename_i c
      have h1 : (nextS s).at_ = s.at_ + 1 := rfl
      have h2 := mu _ (nextS_goes c)
      simp only; omega
    · exact ma s h
  · simp only [deepI_at]; exact ⟨Nat.le_refl _, h⟩
theorem exprR_goes {T : List Tok} {en : Int} {d : Int} {kid : Kid} (mk : Goes T kid) : Goes T (exprR T en d kid) := fun s h => by
  unfold exprR
  split
  · exact rowP_goes mk (steps_take _ _) s h
  · simp only [deepI_at]; exact ⟨Nat.le_refl _, h⟩
theorem okn79 : fnOk Tryz.prog 223 T0 2 = true := by kernel_rfl
set_option maxRecDepth 100000 in
theorem unaryr_walk {T : List Tok} {en : Int} {id : Nat} {d : Nat} {un atom : Kid} (hn : d ≤ 8 → RKidAt T en id 223 ((d + 1 : Nat) : Int) un) (ha : d ≤ 8 → RKidAt T en id 226 d atom) : RKidAt T en id 223 d (unaryR T en d un atom) := fun s G h => by
  refine VCalls.of okSRE mixed T0 okn79 fun hG => ?_
  have hid := hG.lt h.1
  have hu := fun s' => rcells_under T en s' G.next
  have h12 := h.2.1
  have h11 := h.1
  have h13 := h.2.2
  unfold unaryR
  by_cases hd : (deepI T en s d).err = 0
  case neg =>
    rw [if_neg hd]
    simp (maxSteps:=999999) -dsimp -implicitDefEqProofs only [↓eqD,eqU,eqV,eqW,vbuiltinQ,vlen,vslice,vindex,vstore,Array.toList,simprocAttr,fnWp_some Tryz.func223,Tryz.f223,T0,FB,SRE_at,add_at,addH_at,none_at,gR,r37,rOf_rcells,ReaderAt,h11,h12,h13,lt6 hid,hd,ne_eq]
    refine .weak (vle_nil _ _ _ _ _ _ _) (VDone.turned hG hid (hu _) ?_ ?_ rfl rfl)
    · simp (maxSteps:=999999) -dsimp -implicitDefEqProofs only [↓eqD,eqU,eqV,eqW,vbuiltinQ,vlen,vslice,vindex,vstore,Array.toList,simprocAttr,lt6 hid]
    · intro j hj hji; simp (maxSteps:=999999) -dsimp -implicitDefEqProofs only [↓eqD,eqU,eqV,eqW,vbuiltinQ,vlen,vslice,vindex,vstore,Array.toList,simprocAttr,lt6 hj,hji]
  have hdd := deepI_cases T en s d hd
  have hds := hdd.1
  have hd0 := hdd.2.2
  have hd8 : d ≤ 8 := by have := hdd.2.1; omega
  have w1 : IntKind.wrap .i64 ((d : Int) + 1) = ((d + 1 : Nat) : Int) := by rw [w64 (by omega) (by omega)]; rfl
  rw [if_pos hd]
  by_cases hi : isR T s [45] = true
  · rw [if_pos hi]
    have hy := take1_yes hi
    have hnx := nextS_goes hi
    simp (maxSteps:=999999) -dsimp -implicitDefEqProofs only [↓eqD,eqU,eqV,eqW,vbuiltinQ,vlen,vslice,vindex,vstore,Array.toList,simprocAttr,fnWp_some Tryz.func223,Tryz.f223,T0,FB,SRE_at,add_at,addH_at,none_at,gR,r37,vreps,vfill,g39,unstr_cons,unstr_nil,map_str_cons,map_str_nil,rOf_rcells,ReaderAt,h11,h12,h13,lt6 hid,hds,hd0,ne_eq,hy,w1]
    refine (hn hd8 (nextS s) _ ⟨by simp (maxSteps:=999999) -dsimp -implicitDefEqProofs only [↓eqD,eqU,eqV,eqW,vbuiltinQ,vlen,vslice,vindex,vstore,Array.toList,simprocAttr,lt6 hid], h.2.1, hnx⟩).mono ?_
    rintro _ _ ⟨rfl, rfl⟩
    generalize un (nextS s) = ks at *
    obtain ⟨⟨k2, b2, m2, c2, t2, lo2, hi2, kids2⟩, s2⟩ := ks
    have d2 := exsC_closed kids2
    simp (maxSteps:=999999) -dsimp -implicitDefEqProofs only [↓eqD,eqU,eqV,eqW,vbuiltinQ,vlen,vslice,vindex,vstore,Array.toList,simprocAttr,T0,FB,SRE_at,add_at,addH_at,none_at,Ex.cells,lt6 hid,vreps,vfill,d2]
    have hle := vle_kids 7 false 0 0 [] false false [Ex.mk k2 b2 m2 c2 t2 lo2 hi2 kids2]
    have e1 : exsC [Ex.mk k2 b2 m2 c2 t2 lo2 hi2 kids2] = [.int .i64 k2, .bool b2, .int .i64 m2, .int .i64 c2, .str t2, .bool lo2, .bool hi2, .sl 8 kids2.length (exsC kids2)] := by simp [exsC, Ex.cells]
    rw [e1] at hle
    refine .weak hle (VDone.turned hG hid (hu _) ?_ ?_ rfl ?_)
    · simp (maxSteps:=999999) -dsimp -implicitDefEqProofs only [↓eqD,eqU,eqV,eqW,vbuiltinQ,vlen,vslice,vindex,vstore,Array.toList,simprocAttr,lt6 hid]
    · intro j hj hji; simp (maxSteps:=999999) -dsimp -implicitDefEqProofs only [↓eqD,eqU,eqV,eqW,vbuiltinQ,vlen,vslice,vindex,vstore,Array.toList,simprocAttr,lt6 hj,hji]
    · simp (maxSteps:=999999) -dsimp -implicitDefEqProofs only [↓eqD,eqU,eqV,eqW,vbuiltinQ,vlen,vslice,vindex,vstore,Array.toList,simprocAttr,Ex.cells,e1,Ex.neg]
  · try rw [if_neg hi]
    have hno := take1_no hi
    simp (maxSteps:=999999) -dsimp -implicitDefEqProofs only [↓eqD,eqU,eqV,eqW,vbuiltinQ,vlen,vslice,vindex,vstore,Array.toList,simprocAttr,fnWp_some Tryz.func223,Tryz.f223,T0,FB,SRE_at,add_at,addH_at,none_at,gR,r37,vreps,vfill,g39,unstr_cons,unstr_nil,map_str_cons,map_str_nil,rOf_rcells,ReaderAt,h11,h12,h13,lt6 hid,hds,hd0,ne_eq,hno,w1]
    refine (ha hd8 s _ ⟨by simp (maxSteps:=999999) -dsimp -implicitDefEqProofs only [↓eqD,eqU,eqV,eqW,vbuiltinQ,vlen,vslice,vindex,vstore,Array.toList,simprocAttr,lt6 hid], h.2.1, h.2.2⟩).mono ?_
    rintro _ _ ⟨rfl, rfl⟩
    generalize atom s = ks at *
    obtain ⟨⟨k2, b2, m2, c2, t2, lo2, hi2, kids2⟩, s2⟩ := ks
    simp (maxSteps:=999999) -dsimp -implicitDefEqProofs only [↓eqD,eqU,eqV,eqW,vbuiltinQ,vlen,vslice,vindex,vstore,Array.toList,simprocAttr,T0,FB,SRE_at,add_at,addH_at,none_at,Ex.cells,lt6 hid]
    refine VDone.turned hG hid (hu _) ?_ ?_ rfl rfl
    · simp (maxSteps:=999999) -dsimp -implicitDefEqProofs only [↓eqD,eqU,eqV,eqW,vbuiltinQ,vlen,vslice,vindex,vstore,Array.toList,simprocAttr,lt6 hid]
    · intro j hj hji; simp (maxSteps:=999999) -dsimp -implicitDefEqProofs only [↓eqD,eqU,eqV,eqW,vbuiltinQ,vlen,vslice,vindex,vstore,Array.toList,simprocAttr,lt6 hj,hji]
end Go.Vf
set_option linter.unusedVariables false
set_option linter.unusedSimpArgs false
namespace Go.Vf
open Go.Proofs Go.RowKit
def rowGoR (T : List Tok) (en : Int) (ex : Kid) (cl : List UInt8) : Nat → List Ex → St → List Ex × St
  | 0, acc, s => (acc, s)
  | f + 1, acc, s => if (mustR T en (ex s).2 [[44], cl]).1 = [44] then rowGoR T en ex cl f (acc ++ [(ex s).1]) (mustR T en (ex s).2 [[44], cl]).2 else (acc ++ [(ex s).1], (mustR T en (ex s).2 [[44], cl]).2)
def rowR (T : List Tok) (en : Int) (ex : Kid) (cl : List UInt8) (s : St) : List Ex × St :=
  if isR T s cl = true then ([], nextS s) else rowGoR T en ex cl (T.length + 1) [] s
theorem rowGoR_goes {T : List Tok} {en : Int} {ex : Kid} (me : Goes T ex) (cl : List UInt8) : ∀ (f : Nat) (acc : List Ex) (s : St), s.at_ ≤ T.length → s.at_ ≤ (rowGoR T en ex cl f acc s).2.at_ ∧ (rowGoR T en ex cl f acc s).2.at_ ≤ T.length
  | 0, _, s, h => ⟨Nat.le_refl _, h⟩
  | f + 1, acc, s, h => by
    unfold rowGoR
    have h1 := me s h
    have h2 := mustR_goes (T := T) (en := en) (s := (ex s).2) h1.2 [[44], cl]
    split
    · have := rowGoR_goes (en := en) me cl f (acc ++ [(ex s).1]) _ h2.2
      omega
    · simp only; omega
theorem rowR_goes {T : List Tok} {en : Int} {ex : Kid} (me : Goes T ex) (cl : List UInt8) (s : St) (h : s.at_ ≤ T.length) : s.at_ ≤ (rowR T en ex cl s).2.at_ ∧ (rowR T en ex cl s).2.at_ ≤ T.length := by
  unfold rowR
  split
  · rename_i c
    have h1 : (nextS s).at_ = s.at_ + 1 := rfl
    have h2 := nextS_goes c
    simp only; omega
  · exact rowGoR_goes me cl _ _ _ h
theorem mustR_adv {T : List Tok} {en : Int} {s : St} {ws : List (List UInt8)} (h : (mustR T en s ws).1 ≠ []) : s.at_ < (mustR T en s ws).2.at_ := by
  rw [mustR_at]
  unfold mustR at h
  split at h
  · rename_i c; exact (h c).elim
  · exact takeR_adv ws h
theorem okn94 : fnOk Tryz.prog 229 T0 3 = true := by kernel_rfl
set_option maxRecDepth 100000 in
theorem rowr_walk {T : List Tok} {en : Int} {id : Nat} {d : Nat} {ex : Kid} (hd : d ≤ 100) (hk : RKidAt T en id 132 ((d + 1 : Nat) : Int) ex) (me : Goes T ex) (cl : List UInt8) (hcl : cl ≠ []) (s : St) (G : Heap) (h : ReaderAt G id T en s) :
    VCalls Tryz.prog 229 [.ptr id 0 0, .int .i64 d, .str cl] G fun u H => u = .sl 8 (rowR T en ex cl s).1.length (exsC (rowR T en ex cl s).1) ∧ H = G.put id (.cells 0 (rcells T en (rowR T en ex cl s).2)) := by
  refine VCalls.of okSRC mixed T0 okn94 fun hG => ?_
  have hid := hG.lt h.1
  have hu := fun s' => rcells_under T en s' G.next
  have h12 := h.2.1
  have h11 := h.1
  have h13 := h.2.2
  have wd : IntKind.wrap .i64 ((d : Int) + 1) = ((d + 1 : Nat) : Int) := by rw [w64 (by omega) (by omega)]; rfl
  unfold rowR
  by_cases hi : isR T s cl = true
  · rw [if_pos hi]
    have hy := take1_yes hi
    simp (maxSteps:=999999) -dsimp -implicitDefEqProofs only [↓eqD,eqU,eqV,eqW,vbuiltinQ,vlen,vslice,vindex,vstore,Array.toList,simprocAttr,fnWp_some Tryz.func229,Tryz.f229,T0,FB,SRC_at,addH_at,add_at,none_at,vreps,vfill,g39,unstr_cons,unstr_nil,map_str_cons,map_str_nil,rOf_rcells,ReaderAt,h11,h12,h13,lt6 hid,hy,hcl,ne_eq]
    refine .weak (.nil_sl 8) (VDone.turned hG hid (hu _) ?_ ?_ rfl rfl)
    · simp (maxSteps:=999999) -dsimp -implicitDefEqProofs only [↓eqD,eqU,eqV,eqW,vbuiltinQ,vlen,vslice,vindex,vstore,Array.toList,simprocAttr,lt6 hid]
    · intro j hj hji; simp (maxSteps:=999999) -dsimp -implicitDefEqProofs only [↓eqD,eqU,eqV,eqW,vbuiltinQ,vlen,vslice,vindex,vstore,Array.toList,simprocAttr,lt6 hj,hji]
  · try rw [if_neg hi]
    have hno := take1_no hi
    simp (maxSteps:=999999) -dsimp -implicitDefEqProofs only [↓eqD,eqU,eqV,eqW,vbuiltinQ,vlen,vslice,vindex,vstore,Array.toList,simprocAttr,fnWp_some Tryz.func229,Tryz.f229,T0,FB,SRC_at,addH_at,add_at,none_at,vreps,vfill,g39,unstr_cons,unstr_nil,map_str_cons,map_str_nil,rOf_rcells,ReaderAt,h11,h12,h13,lt6 hid,hno,ne_eq]
    generalize hR : rowGoR T en ex cl (T.length + 1) [] s = R at *
    refine vloop_by (fun x : Nat × List Ex × St × Nat × Nat => x.2.2.1.at_ ≤ T.length ∧ x.2.1.length ≤ x.2.2.1.at_ ∧ G.next < x.2.2.2.2 ∧ T.length < x.2.2.1.at_ + x.1 ∧ rowGoR T en ex cl x.1 x.2.1 x.2.2.1 = R)
      (fun x => Env.of [(0, .ptr id 0 0), (1, .int .i64 d), (2, .str cl), (7, .arr 8 G.next x.2.2.2.1 0 x.2.1.length)])
      (fun x => (G.put id (.cells 0 (rcells T en x.2.2.1))).over x.2.2.2.2 [(G.next, .cells x.2.2.2.1 (exsC x.2.1))]) (fun x => x.1) (T.length + 1, [], s, 0, G.next + 1) ?_ ?_ ?_
    · refine .trans (.own 7 8 (by simp (maxSteps:=999999) -dsimp -implicitDefEqProofs only [↓eqD,eqU,eqV,eqW,vbuiltinQ,vlen,vslice,vindex,vstore,Array.toList,simprocAttr])) (.of ?_ (.over (hG.put hid (hu _)) ?_ ?_ ?_))
      · simp (maxSteps:=999999) -dsimp -implicitDefEqProofs only [↓eqD,eqU,eqV,eqW,vbuiltinQ,vlen,vslice,vindex,vstore,Array.toList,simprocAttr]
        (repeat' apply And.intro) <;> exact .refl _
      · simp (maxSteps:=999999) -dsimp -implicitDefEqProofs only [↓eqD,eqU,eqV,eqW,vbuiltinQ,vlen,vslice,vindex,vstore,Array.toList,simprocAttr]
      · simp (maxSteps:=999999) -dsimp -implicitDefEqProofs only [↓eqD,eqU,eqV,eqW,vbuiltinQ,vlen,vslice,vindex,vstore,Array.toList,simprocAttr,FB,lt6 hid,exsC]
      · intro j hj
        have hj : j < G.next := hj
        by_cases hji : j = id <;> simp (maxSteps:=999999) -dsimp -implicitDefEqProofs only [↓eqD,eqU,eqV,eqW,vbuiltinQ,vlen,vslice,vindex,vstore,Array.toList,simprocAttr,lt6 hj,hji,lt6 hid]
    · exact ⟨h.2.2, by simp, Nat.lt_succ_self _, by simp only; omega, hR⟩
    · rintro ⟨f, acc, s1, g, m⟩ ⟨a1, a2, a3, a4, a5⟩
      simp only at a1 a2 a3 a4 a5
      have hm1 := Nat.ne_of_lt a3
      have hm2 := Nat.ne_of_gt a3
      have hidm : id < m := by omega
      obtain ⟨f', rfl⟩ : ∃ f', f = f' + 1 := ⟨f - 1, by omega⟩
      rw [rowGoR] at a5
      have hat : ReaderAt ((G.put id (.cells 0 (rcells T en s1))).over m [(G.next, .cells g (exsC acc))]) id T en s1 := ⟨by simp (maxSteps:=999999) -dsimp -implicitDefEqProofs only [↓eqD,eqU,eqV,eqW,vbuiltinQ,vlen,vslice,vindex,vstore,Array.toList,simprocAttr,lt6 hid], h.2.1, a1⟩
      simp (maxSteps:=999999) -dsimp -implicitDefEqProofs only [↓eqD,eqU,eqV,eqW,vbuiltinQ,vlen,vslice,vindex,vstore,Array.toList,simprocAttr,T0,FB,SRC_at,addH_at,add_at,none_at,h12,lt6 hid,hm1,hm2,wd]
      refine (hk s1 _ hat).mono ?_
      rintro _ _ ⟨rfl, rfl⟩
      have h1 := me s1 a1
      generalize ex s1 = ks at *
      obtain ⟨⟨k1, v1, m1, n1, t1, lo1, hi1, kids1⟩, s2⟩ := ks
      simp only at h1 a5
      have d1 := exsC_closed kids1
      have a22 := h1.2
      have h2 := mustR_goes (T := T) (en := en) (s := s2) h1.2 [[44], cl]
      have el := exsC_len acc
      have hb : (acc.length + 1) * 80 ≤ roomB := by unfold roomB; omega
      have en1 : exsC (acc ++ [Ex.mk k1 v1 m1 n1 t1 lo1 hi1 kids1]) = exsC acc ++ [.int .i64 k1, .bool v1, .int .i64 m1, .int .i64 n1, .str t1, .bool lo1, .bool hi1, .sl 8 kids1.length (exsC kids1)] := by rw [exsC_snoc]; simp [Ex.cells]
      by_cases hc : (mustR T en s2 [[44], cl]).1 = [44]
      · rw [if_pos hc] at a5
        have hadv := mustR_adv (T := T) (en := en) (s := s2) (ws := [[44], cl]) (by rw [hc]; decide)
        simp (maxSteps:=999999) -dsimp -implicitDefEqProofs only [↓eqD,eqU,eqV,eqW,vbuiltinQ,vlen,vslice,vindex,vstore,Array.toList,simprocAttr,T0,FB,SRC_at,addH_at,add_at,none_at,g63,unstr_cons,unstr_nil,map_str_cons,map_str_nil,rOf_rcells,ReaderAt,Ex.cells,h12,lt6 hid,hm1,hm2,vreps,vfill,vrow,d1,a22,el,hb,hc,ne_eq]
        refine ⟨(f', acc ++ [.mk k1 v1 m1 n1 t1 lo1 hi1 kids1], (mustR T en s2 [[44], cl]).2, g + 1, m), ⟨h2.2, by simp; omega, a3, by simp only; omega, a5⟩, by simp only; omega, .of ?_ (.over (hG.put hid (hu _)) ?_ ?_ ?_)⟩
        · simp (maxSteps:=999999) -dsimp -implicitDefEqProofs only [↓eqD,eqU,eqV,eqW,vbuiltinQ,vlen,vslice,vindex,vstore,Array.toList,simprocAttr,List.length_append]
          (repeat' apply And.intro) <;> exact .refl _
        · simp (maxSteps:=999999) -dsimp -implicitDefEqProofs only [↓eqD,eqU,eqV,eqW,vbuiltinQ,vlen,vslice,vindex,vstore,Array.toList,simprocAttr]
        · simp (maxSteps:=999999) -dsimp -implicitDefEqProofs only [↓eqD,eqU,eqV,eqW,vbuiltinQ,vlen,vslice,vindex,vstore,Array.toList,simprocAttr,FB,lt6 hid,en1]
        · intro j hj
          have hj : j < G.next := hj
          by_cases hji : j = id <;> simp (maxSteps:=999999) -dsimp -implicitDefEqProofs only [↓eqD,eqU,eqV,eqW,vbuiltinQ,vlen,vslice,vindex,vstore,Array.toList,simprocAttr,lt6 hj,hji,lt6 hid]
      · try rw [if_neg hc] at a5
        rw [← a5]
        simp (maxSteps:=999999) -dsimp -implicitDefEqProofs only [↓eqD,eqU,eqV,eqW,vbuiltinQ,vlen,vslice,vindex,vstore,Array.toList,simprocAttr,T0,FB,SRC_at,addH_at,add_at,none_at,g63,unstr_cons,unstr_nil,map_str_cons,map_str_nil,rOf_rcells,ReaderAt,Ex.cells,h12,lt6 hid,hm1,hm2,vreps,vfill,vrow,d1,a22,el,hb,hc,ne_eq]
        have el2 := exsC_len (acc ++ [Ex.mk k1 v1 m1 n1 t1 lo1 hi1 kids1])
        refine .pub (id := G.next) (g := g + 1) (cs := exsC (acc ++ [Ex.mk k1 v1 m1 n1 t1 lo1 hi1 kids1])) (by simp (maxSteps:=999999) -dsimp -implicitDefEqProofs only [↓eqD,eqU,eqV,eqW,vbuiltinQ,vlen,vslice,vindex,vstore,Array.toList,simprocAttr,lt6 hid,hm1,hm2,en1]) (exsC_closed _) ?_
        have hpv : pubV G.next (g + 1) (exsC (acc ++ [Ex.mk k1 v1 m1 n1 t1 lo1 hi1 kids1])) (.arr 8 G.next (g + 1) 0 (acc.length + 1)) = .sl 8 (acc ++ [Ex.mk k1 v1 m1 n1 t1 lo1 hi1 kids1]).length (exsC (acc ++ [Ex.mk k1 v1 m1 n1 t1 lo1 hi1 kids1])) := by
          have e1 : acc.length + 1 = (acc ++ [Ex.mk k1 v1 m1 n1 t1 lo1 hi1 kids1]).length := by simp
          rw [e1]
          simp only [pubV, pub1]
          rw [if_pos ⟨trivial, trivial, by rw [el2]; omega⟩, ← el2, List.drop_zero, List.take_length]
        rw [hpv]
        refine VDone.turned hG hid (hu _) ?_ ?_ rfl rfl
        · simp (maxSteps:=999999) -dsimp -implicitDefEqProofs only [↓eqD,eqU,eqV,eqW,vbuiltinQ,vlen,vslice,vindex,vstore,Array.toList,simprocAttr,lt6 hid]
        · intro j hj hji; simp (maxSteps:=999999) -dsimp -implicitDefEqProofs only [↓eqD,eqU,eqV,eqW,vbuiltinQ,vlen,vslice,vindex,vstore,Array.toList,simprocAttr,lt6 hj,hji]
end Go.Vf
