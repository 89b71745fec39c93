/- A part of the proof: Ng, Nh, Ni. -/
import Derived.Test.YtkcdhmplinjldaaGreatDoorPANe
set_option linter.unusedVariables false
set_option linter.unusedSimpArgs false
namespace Go.Vf
open Go.Proofs Go.RowKit
def parB : List UInt8 := [40]
def braB : List UInt8 := [91]
theorem par_fold : ([40] : List UInt8) = parB := rfl
theorem bra_fold : ([91] : List UInt8) = braB := rfl
theorem ne_falseB_trueB : ¬falseB = trueB := by decide
theorem ne_nullB_trueB : ¬nullB = trueB := by decide
theorem ne_nullB_falseB : ¬nullB = falseB := by decide
theorem ne_parB_trueB : ¬parB = trueB := by decide
theorem ne_parB_falseB : ¬parB = falseB := by decide
theorem ne_parB_nullB : ¬parB = nullB := by decide
theorem ne_braB_trueB : ¬braB = trueB := by decide
theorem ne_braB_falseB : ¬braB = falseB := by decide
theorem ne_braB_nullB : ¬braB = nullB := by decide
theorem ne_braB_parB : ¬braB = parB := by decide
theorem ne_ifB_trueB : ¬ifB = trueB := by decide
theorem ne_ifB_falseB : ¬ifB = falseB := by decide
theorem ne_ifB_nullB : ¬ifB = nullB := by decide
theorem ne_ifB_parB : ¬ifB = parB := by decide
theorem ne_ifB_braB : ¬ifB = braB := by decide
def atW : List (List UInt8) := [trueB, falseB, nullB, parB, braB, ifB]
theorem at_lit (T : List Tok) (en : Int) (s : St) : mustR T en s [trueB, falseB, nullB, parB, braB, ifB] = mustR T en s atW := rfl
def ifR (T : List Tok) (en : Int) (ex : Kid) : Kid := fun s =>
  (Ex.mk 8 false 0 0 [] false false [(ex s).1, (ex (mustR T en (ex s).2 [thenB]).2).1, (ex (mustR T en (ex (mustR T en (ex s).2 [thenB]).2).2 [elseB]).2).1], (ex (mustR T en (ex (mustR T en (ex s).2 [thenB]).2).2 [elseB]).2).2)
def atom2R (T : List Tok) (en : Int) (ex : Kid) (w : List UInt8) : Kid := fun s =>
  if w = trueB then (.mk 2 true 0 0 [] false false [], s)
  else if w = falseB then (.mk 2 false 0 0 [] false false [], s)
  else if w = nullB then (.mk 1 false 0 0 [] false false [], s)
  else if w = parB then ((ex s).1, (mustR T en (ex s).2 [[41]]).2)
  else if w = braB then (.mk 9 false 0 0 [] false false (rowR T en ex [93] s).1, (rowR T en ex [93] s).2)
  else if w = ifB then ifR T en ex s
  else (Ex.zero, s)
def numR (T : List Tok) (en : Int) (decR : List UInt8 → DecR) (w : List UInt8) : Kid := fun s =>
  if (decR w).err = 0 then (.mk 3 false (decR w).m (decR w).s [] false false [], nextS s)
  else (.mk 3 false (decR w).m (decR w).s [] false false [], nextS (errsT T en s (decR w).err))
def nameR (T : List Tok) (en : Int) (ex : Kid) (w : List UInt8) : Kid := fun s =>
  if isR T (nextS s) [40] = true then (.mk 10 false 0 0 w false false (rowR T en ex [41] (nextS (nextS s))).1, (rowR T en ex [41] (nextS (nextS s))).2)
  else (.mk 5 false 0 0 w false false [], nextS s)
def atom1R (T : List Tok) (en : Int) (decR : List UInt8 → DecR) (ex : Kid) (t : Tok) : Kid := fun s =>
  if t.kind = 2 then numR T en decR t.text s
  else if t.kind = 3 then (.mk 4 false 0 0 t.text false false [], nextS s)
  else if t.kind = 1 ∧ wordR t.text = false then nameR T en ex t.text s
  else atom2R T en ex (mustR T en s atW).1 (mustR T en s atW).2
def atomR (T : List Tok) (en : Int) (decR : List UInt8 → DecR) (ex : Kid) : Kid := fun s =>
  if s.err = 0 then (if s.at_ < T.length then atom1R T en decR ex (T.getD s.at_ ⟨0, [], 0⟩) s else (Ex.zero, errsT T en s 2)) else (Ex.zero, errsT T en s 2)
theorem errsT_at (T : List Tok) (en : Int) (s : St) (e : Int) : (errsT T en s e).at_ = s.at_ := by unfold errsT; split <;> rfl
theorem ifR_goes {T : List Tok} {en : Int} {ex : Kid} (me : Goes T ex) : Goes T (ifR T en ex) := fun s h => by
  unfold ifR
  have h1 := me s h
  have h2 := mustR_goes (T := T) (en := en) h1.2 [thenB]
  have h3 := me _ h2.2
  have h4 := mustR_goes (T := T) (en := en) h3.2 [elseB]
  have h5 := me _ h4.2
  simp only; omega
theorem atom2R_goes {T : List Tok} {en : Int} {ex : Kid} (me : Goes T ex) (w : List UInt8) : Goes T (atom2R T en ex w) := fun s h => by
  unfold atom2R
  have h1 := me s h
  have h2 := mustR_goes (T := T) (en := en) h1.2 [[41]]
  have h3 := rowR_goes (en := en) me [93] s h
  have h4 := ifR_goes (en := en) me s h
  split
  · exact ⟨Nat.le_refl _, h⟩
  · split
    · exact ⟨Nat.le_refl _, h⟩
    · split
      · exact ⟨Nat.le_refl _, h⟩
      · split
        · simp only; omega
        · split
          · exact h3
          · split
            · exact h4
            · exact ⟨Nat.le_refl _, h⟩
theorem atomR_goes {T : List Tok} {en : Int} {decR : List UInt8 → DecR} {ex : Kid} (me : Goes T ex) : Goes T (atomR T en decR ex) := fun s h => by
  have hn : ∀ s : St, (nextS s).at_ = s.at_ + 1 := fun _ => rfl
  have he := errsT_at T en s
  unfold atomR
  split
  · split
    · rename_i h0
      unfold atom1R
      split
      · unfold numR
        split
        · have := hn s; simp only; omega
        · have h1 := hn (errsT T en s (decR (T.getD s.at_ ⟨0, [], 0⟩).text).err)
          rw [he] at h1
          simp only; omega
      · split
        · have := hn s; simp only; omega
        · split
          · unfold nameR
            split
            · rename_i c
              have h1 := hn s
              have h2 := nextS_goes c
              have h3 := rowR_goes (en := en) me [41] _ h2
              have h4 := hn (nextS s)
              simp only; omega
            · have := hn s; simp only; omega
          · have h1 := mustR_goes (T := T) (en := en) h atW
            have h2 := atom2R_goes (en := en) me (mustR T en s atW).1 _ h1.2
            omega
    · simp only [he]; exact ⟨Nat.le_refl _, h⟩
  · simp only [he]; exact ⟨Nat.le_refl _, h⟩
def RDecAt (decR : List UInt8 → DecR) : Prop := ∀ t G, t.length ≤ 1000 → VPure Tryz.prog 228 [.str t] G (.tup [.agg [.int .i64 (decR t).m, .int .i64 (decR t).s], .int .i64 (decR t).err])
def RowAt (T : List Tok) (en : Int) (id : Nat) (d : Int) (ex : Kid) : Prop :=
  ∀ cl s G, cl ≠ [] → ReaderAt G id T en s → VCalls Tryz.prog 229 [.ptr id 0 0, .int .i64 d, .str cl] G fun u H => u = .sl 8 (rowR T en ex cl s).1.length (exsC (rowR T en ex cl s).1) ∧ H = G.put id (.cells 0 (rcells T en (rowR T en ex cl s).2))
theorem ok51 {P : Specs} (hP : SOk Tryz.prog P) : SOk Tryz.prog (P.addH 192 (gR r51)) := okR hP fun T en s id G xs v s' h e => by
  unfold r51 at e
  split at e
  · cases e; exact fail_walk h _
  · cases e
theorem ok36 {P : Specs} (hP : SOk Tryz.prog P) : SOk Tryz.prog (P.add 59 g13) := hP.add fun xs G p v e hp => by
  unfold g13 at e
  split at e
  · cases e; exact wordR_walk _ G
  · cases e
def SRA : Specs := (((Specs.none.addH 209 g63).addH 161 g39).addH 192 (gR r51)).add 59 g13
theorem SRA_at (f : FuncId) (xs : List V) (G : Heap) : SRA f xs G = ((((Specs.none.addH 209 g63).addH 161 g39).addH 192 (gR r51)).add 59 g13) f xs G := rfl
theorem okSRA : SOk Tryz.prog SRA := ok36 (ok51 (ok39 (ok63 (SOk.none _))))
def T87 : Tab := ⟨fun id => if id = 1 then ([0, 1, 2, 3, 4, 5, 6, 7, 8, 9, 10, 11, 12, 13, 14, 15, 16], []) else if id = 4 then ([0, 1, 2, 3, 4, 5, 6, 7, 8, 9, 10, 11], [(3, 10), (7, 10), (9, 10)]) else if id = 17 then ([0, 1, 2, 3, 4, 5, 6], [(1, 4)]) else if id = 37 then ([0, 1, 2, 3, 4, 5, 6, 7, 8], [(0, 5), (1, 5)]) else ([], []), fun _ => false⟩
theorem T87_ord (id : Nat) : T87.ord id = if id = 1 then ([0, 1, 2, 3, 4, 5, 6, 7, 8, 9, 10, 11, 12, 13, 14, 15, 16], []) else if id = 4 then ([0, 1, 2, 3, 4, 5, 6, 7, 8, 9, 10, 11], [(3, 10), (7, 10), (9, 10)]) else if id = 17 then ([0, 1, 2, 3, 4, 5, 6], [(1, 4)]) else if id = 37 then ([0, 1, 2, 3, 4, 5, 6, 7, 8], [(0, 5), (1, 5)]) else ([], []) := rfl
theorem T87_ghost (id : Nat) : T87.ghost id = false := rfl
theorem okn87 : fnOk Tryz.prog 226 T87 2 = true := by kernel_rfl
theorem paren_ne : ¬([40] : List UInt8) = [] := by decide
theorem close_ne : ([41] : List UInt8) ≠ [] := by decide
theorem brack_ne : ([93] : List UInt8) ≠ [] := by decide
set_option maxRecDepth 100000 in
set_option maxHeartbeats 2000000 in
theorem atomr_walk {T : List Tok} {en : Int} {id : Nat} {d : Nat} {ex : Kid} {decR : List UInt8 → DecR} (hd : d ≤ 100) (hT : Short T) (hdec : RDecAt decR) (hk : RKidAt T en id 132 ((d + 1 : Nat) : Int) ex) (me : Goes T ex) (hl : RowAt T en id d ex) :
    RKidAt T en id 226 d (atomR T en decR ex) := fun s G h => by
  refine VCalls.of okSRA mixed T87 okn87 fun hG => ?_
  have hid := hG.lt h.1
  have hu := fun s' => rcells_under T en s' G.next
  have h12 := h.2.1
  have h11 := h.1
  have h13 := h.2.2
  have h1 := h.1
  rw [rcells_eq] at h1
  have hre := rcells_eq T en s
  have wd : IntKind.wrap .i64 ((d : Int) + 1) = ((d + 1 : Nat) : Int) := by rw [w64 (by omega) (by omega)]; rfl
  have wa : IntKind.wrap .i64 ((s.at_ : Int) + 1) = ((s.at_ + 1 : Nat) : Int) := by rw [w64 (by omega) (by omega)]; rfl
  have hn' : rcells T en (nextS s) = [.sl 3 T.length (toksC T), .int .i64 ((s.at_ + 1 : Nat) : Int), .int .i64 en, .int .i64 s.err, .int .i64 s.pos] := rfl
  unfold atomR
  by_cases he : s.err = 0
  case neg =>
    rw [if_neg he]
    simp (maxSteps:=999999) -dsimp -implicitDefEqProofs only [↓eqD,eqU,eqV,eqW,vbuiltinQ,vlen,vslice,vindex,vstore,Array.toList,simprocAttr,fnWp_some Tryz.func226,Tryz.f226,T87_ord,T87_ghost,FB,SRA_at,addH_at,add_at,none_at,gR,r51,g13,vreps,vfill,g39,g63,unstr_cons,unstr_nil,map_str_cons,map_str_nil,rOf_rcells,rOf_lit,St_eta,ReaderAt,h12,Ex.cells,ag23,z23,c23,i23,lt6 hid,wd,wa,ne_eq,hre,h1,h13,he]
    refine .weak (vle_nil 0 false 0 0 [] false false) (VDone.turned hG hid (hu _) ?_ ?_ rfl rfl)
    · simp (maxSteps:=999999) -dsimp -implicitDefEqProofs only [↓eqD,eqU,eqV,eqW,vbuiltinQ,vlen,vslice,vindex,vstore,Array.toList,simprocAttr,lt6 hid]
    · intro j hj hji; simp (maxSteps:=999999) -dsimp -implicitDefEqProofs only [↓eqD,eqU,eqV,eqW,vbuiltinQ,vlen,vslice,vindex,vstore,Array.toList,simprocAttr,lt6 hj,hji]
  try rw [if_pos he]
  by_cases ha : s.at_ < T.length
  case neg =>
    rw [if_neg ha]
    have c1 : (T.length : Int) ≤ (s.at_ : Int) := by omega
    have hre3 := rcells_eq T en s
    rw [he] at hre3
    have heta : (⟨s.at_, s.pos, 0⟩ : St) = s := by rw [← he]
    simp (maxSteps:=999999) -dsimp -implicitDefEqProofs only [↓eqD,eqU,eqV,eqW,vbuiltinQ,vlen,vslice,vindex,vstore,Array.toList,simprocAttr,fnWp_some Tryz.func226,Tryz.f226,T87_ord,T87_ghost,FB,SRA_at,addH_at,add_at,none_at,gR,r51,g13,vreps,vfill,g39,g63,unstr_cons,unstr_nil,map_str_cons,map_str_nil,rOf_rcells,rOf_lit,St_eta,ReaderAt,h12,Ex.cells,ag23,z23,c23,i23,lt6 hid,wd,wa,ne_eq,hre3,heta,h1,h13,he,c1]
    refine .weak (vle_nil 0 false 0 0 [] false false) (VDone.turned hG hid (hu _) ?_ ?_ rfl rfl)
    · simp (maxSteps:=999999) -dsimp -implicitDefEqProofs only [↓eqD,eqU,eqV,eqW,vbuiltinQ,vlen,vslice,vindex,vstore,Array.toList,simprocAttr,lt6 hid]
    · intro j hj hji; simp (maxSteps:=999999) -dsimp -implicitDefEqProofs only [↓eqD,eqU,eqV,eqW,vbuiltinQ,vlen,vslice,vindex,vstore,Array.toList,simprocAttr,lt6 hj,hji]
  try rw [if_pos ha]
  have hx := toks_at ha
  have hT' : T.getD s.at_ ⟨0, [], 0⟩ = T[s.at_] := by simp [List.getD, ha]
  have hsh : T[s.at_].text.length ≤ 1000 := hT _ (List.getElem_mem ha)
  rw [hT']
  generalize T[s.at_] = t at hx hT' hsh
  have c1 : ¬(T.length : Int) ≤ (s.at_ : Int) := by omega
  have nn : (0 : Int) ≤ (s.at_ : Int) ∧ (s.at_ : Int) < (T.length : Int) := ⟨by omega, by omega⟩
  unfold atom1R
  by_cases k2 : t.kind = 2
  · rw [if_pos k2]
    simp (maxSteps:=999999) -dsimp -implicitDefEqProofs only [↓eqD,eqU,eqV,eqW,vbuiltinQ,vlen,vslice,vindex,vstore,Array.toList,simprocAttr,fnWp_some Tryz.func226,Tryz.f226,T87_ord,T87_ghost,FB,SRA_at,addH_at,add_at,none_at,gR,r51,g13,vreps,vfill,g39,g63,unstr_cons,unstr_nil,map_str_cons,map_str_nil,rOf_rcells,rOf_lit,St_eta,ReaderAt,h12,Ex.cells,ag23,z23,c23,i23,lt6 hid,wd,wa,ne_eq,hre,h1,h13,he,c1,hx,Tok.cells,k2]
    refine ⟨nn, VPure.calls (hdec _ _ hsh) ?_⟩
    unfold numR
    by_cases e2 : (decR t.text).err = 0
    · rw [if_pos e2]
      simp (maxSteps:=999999) -dsimp -implicitDefEqProofs only [↓eqD,eqU,eqV,eqW,vbuiltinQ,vlen,vslice,vindex,vstore,Array.toList,simprocAttr,T87_ord,T87_ghost,FB,SRA_at,addH_at,add_at,none_at,gR,r51,g13,vreps,vfill,g39,g63,unstr_cons,unstr_nil,map_str_cons,map_str_nil,rOf_rcells,rOf_lit,St_eta,ReaderAt,h12,Ex.cells,ag23,z23,c23,i23,lt6 hid,wd,wa,ne_eq,hre,h1,h13,he,e2]
      refine .weak (vle_nil _ _ _ _ _ _ _) (VDone.turned hG hid (hu _) ?_ ?_ rfl rfl)
      · simp (maxSteps:=999999) -dsimp -implicitDefEqProofs only [↓eqD,eqU,eqV,eqW,vbuiltinQ,vlen,vslice,vindex,vstore,Array.toList,simprocAttr,lt6 hid,hn',he]
      · intro j hj hji; simp (maxSteps:=999999) -dsimp -implicitDefEqProofs only [↓eqD,eqU,eqV,eqW,vbuiltinQ,vlen,vslice,vindex,vstore,Array.toList,simprocAttr,lt6 hj,hji]
    · try rw [if_neg e2]
      have hre2 := rcells_eq T en (errsT T en s (decR t.text).err)
      have hat := errsT_at T en s (decR t.text).err
      have hn2 : rcells T en (nextS (errsT T en s (decR t.text).err)) = [.sl 3 T.length (toksC T), .int .i64 (((errsT T en s (decR t.text).err).at_ + 1 : Nat) : Int), .int .i64 en, .int .i64 (errsT T en s (decR t.text).err).err, .int .i64 (errsT T en s (decR t.text).err).pos] := rfl
      rw [hat] at hn2 hre2
      have hre3 := rcells_eq T en s
      rw [he] at hre3
      have heta : (⟨s.at_, s.pos, 0⟩ : St) = s := by rw [← he]
      simp (maxSteps:=999999) -dsimp -implicitDefEqProofs only [↓eqD,eqU,eqV,eqW,vbuiltinQ,vlen,vslice,vindex,vstore,Array.toList,simprocAttr,T87_ord,T87_ghost,FB,SRA_at,addH_at,add_at,none_at,gR,r51,g13,vreps,vfill,g39,g63,unstr_cons,unstr_nil,map_str_cons,map_str_nil,rOf_rcells,rOf_lit,St_eta,ReaderAt,h12,Ex.cells,ag23,z23,c23,i23,lt6 hid,wd,wa,ne_eq,h1,h13,he,e2,hre3,hre2,heta]
      refine .weak (vle_nil _ _ _ _ _ _ _) (VDone.turned hG hid (hu _) ?_ ?_ rfl rfl)
      · simp (maxSteps:=999999) -dsimp -implicitDefEqProofs only [↓eqD,eqU,eqV,eqW,vbuiltinQ,vlen,vslice,vindex,vstore,Array.toList,simprocAttr,lt6 hid,hn2]
      · intro j hj hji; simp (maxSteps:=999999) -dsimp -implicitDefEqProofs only [↓eqD,eqU,eqV,eqW,vbuiltinQ,vlen,vslice,vindex,vstore,Array.toList,simprocAttr,lt6 hj,hji]
  try rw [if_neg k2]
  by_cases k3 : t.kind = 3
  · rw [if_pos k3]
    simp (maxSteps:=999999) -dsimp -implicitDefEqProofs only [↓eqD,eqU,eqV,eqW,vbuiltinQ,vlen,vslice,vindex,vstore,Array.toList,simprocAttr,fnWp_some Tryz.func226,Tryz.f226,T87_ord,T87_ghost,FB,SRA_at,addH_at,add_at,none_at,gR,r51,g13,vreps,vfill,g39,g63,unstr_cons,unstr_nil,map_str_cons,map_str_nil,rOf_rcells,rOf_lit,St_eta,ReaderAt,h12,Ex.cells,ag23,z23,c23,i23,lt6 hid,wd,wa,ne_eq,hre,h1,h13,he,c1,hx,Tok.cells,k3,Int.reduceEq]
    refine ⟨nn, .weak (vle_nil _ _ _ _ _ _ _) (VDone.turned hG hid (hu _) ?_ ?_ rfl rfl)⟩
    · simp (maxSteps:=999999) -dsimp -implicitDefEqProofs only [↓eqD,eqU,eqV,eqW,vbuiltinQ,vlen,vslice,vindex,vstore,Array.toList,simprocAttr,lt6 hid,hn',he]
    · intro j hj hji; simp (maxSteps:=999999) -dsimp -implicitDefEqProofs only [↓eqD,eqU,eqV,eqW,vbuiltinQ,vlen,vslice,vindex,vstore,Array.toList,simprocAttr,lt6 hj,hji]
  try rw [if_neg k3]
  by_cases k1 : t.kind = 1 ∧ wordR t.text = false
  · rw [if_pos k1]
    have k11 := k1.1
    have k12 := k1.2
    have hnx : (nextS s).at_ ≤ T.length := ha
    have hfold : [.sl 3 T.length (toksC T), .int .i64 ((s.at_ + 1 : Nat) : Int), .int .i64 en, .int .i64 0, .int .i64 s.pos] = rcells T en (nextS s) := by rw [hn', he]
    unfold nameR
    by_cases c6 : isR T (nextS s) [40] = true
    · rw [if_pos c6]
      have hy := take1_yes c6
      have hnx2 := nextS_goes c6
      simp (maxSteps:=999999) -dsimp -implicitDefEqProofs only [↓eqD,eqU,eqV,eqW,vbuiltinQ,vlen,vslice,vindex,vstore,Array.toList,simprocAttr,fnWp_some Tryz.func226,Tryz.f226,T87_ord,T87_ghost,FB,SRA_at,addH_at,add_at,none_at,gR,r51,g13,vreps,vfill,g39,g63,unstr_cons,unstr_nil,map_str_cons,map_str_nil,rOf_rcells,rOf_lit,St_eta,ReaderAt,h12,Ex.cells,ag23,z23,c23,i23,lt6 hid,wd,wa,ne_eq,hre,h1,h13,he,c1,hx,Tok.cells,k11,k12,Int.reduceEq,hfold,hnx,hy,paren_ne]
      refine ⟨nn, (hl [41] (nextS (nextS s)) _ close_ne ⟨by simp (maxSteps:=999999) -dsimp -implicitDefEqProofs only [↓eqD,eqU,eqV,eqW,vbuiltinQ,vlen,vslice,vindex,vstore,Array.toList,simprocAttr,lt6 hid], h.2.1, hnx2⟩).mono ?_⟩
      rintro _ _ ⟨rfl, rfl⟩
      generalize rowR T en ex [41] (nextS (nextS s)) = ks at *
      obtain ⟨l2, s2⟩ := ks
      have dl := exsC_closed l2
      simp (maxSteps:=999999) -dsimp -implicitDefEqProofs only [↓eqD,eqU,eqV,eqW,vbuiltinQ,vlen,vslice,vindex,vstore,Array.toList,simprocAttr,T87_ord,T87_ghost,FB,SRA_at,addH_at,add_at,none_at,gR,r51,g13,vreps,vfill,g39,g63,unstr_cons,unstr_nil,map_str_cons,map_str_nil,rOf_rcells,rOf_lit,St_eta,ReaderAt,h12,Ex.cells,ag23,z23,c23,i23,lt6 hid,wd,wa,ne_eq,dl]
      refine VDone.turned hG hid (hu _) ?_ ?_ rfl rfl
      · simp (maxSteps:=999999) -dsimp -implicitDefEqProofs only [↓eqD,eqU,eqV,eqW,vbuiltinQ,vlen,vslice,vindex,vstore,Array.toList,simprocAttr,lt6 hid]
      · intro j hj hji; simp (maxSteps:=999999) -dsimp -implicitDefEqProofs only [↓eqD,eqU,eqV,eqW,vbuiltinQ,vlen,vslice,vindex,vstore,Array.toList,simprocAttr,lt6 hj,hji]
    · try rw [if_neg c6]
      have hno := take1_no c6
      simp (maxSteps:=999999) -dsimp -implicitDefEqProofs only [↓eqD,eqU,eqV,eqW,vbuiltinQ,vlen,vslice,vindex,vstore,Array.toList,simprocAttr,fnWp_some Tryz.func226,Tryz.f226,T87_ord,T87_ghost,FB,SRA_at,addH_at,add_at,none_at,gR,r51,g13,vreps,vfill,g39,g63,unstr_cons,unstr_nil,map_str_cons,map_str_nil,rOf_rcells,rOf_lit,St_eta,ReaderAt,h12,Ex.cells,ag23,z23,c23,i23,lt6 hid,wd,wa,ne_eq,hre,h1,h13,he,c1,hx,Tok.cells,k11,k12,Int.reduceEq,hfold,hnx,hno]
      refine ⟨nn, .weak (vle_nil _ _ _ _ _ _ _) (VDone.turned hG hid (hu _) ?_ ?_ rfl rfl)⟩
      · simp (maxSteps:=999999) -dsimp -implicitDefEqProofs only [↓eqD,eqU,eqV,eqW,vbuiltinQ,vlen,vslice,vindex,vstore,Array.toList,simprocAttr,lt6 hid]
      · intro j hj hji; simp (maxSteps:=999999) -dsimp -implicitDefEqProofs only [↓eqD,eqU,eqV,eqW,vbuiltinQ,vlen,vslice,vindex,vstore,Array.toList,simprocAttr,lt6 hj,hji]
  try rw [if_neg k1]
  have gm := mustR_goes (T := T) (en := en) h13 atW
  have gm2 := gm.2
  have hre3 := rcells_eq T en s
  rw [he] at hre3
  have heta : (⟨s.at_, s.pos, 0⟩ : St) = s := by rw [← he]
  have kk : (t.kind = 1 → wordR t.text = true) := fun c => by
    cases hc : wordR t.text with
    | true => rfl
    | false => exact (k1 ⟨c, hc⟩).elim
  by_cases k11 : t.kind = 1
  · have k12 := kk k11
    unfold atom2R
    by_cases w1 : (mustR T en s atW).1 = trueB
    · rw [if_pos w1]
      simp (maxSteps:=999999) -dsimp -implicitDefEqProofs only [↓eqD,eqU,eqV,eqW,vbuiltinQ,vlen,vslice,vindex,vstore,Array.toList,simprocAttr,fnWp_some Tryz.func226,Tryz.f226,T87_ord,T87_ghost,FB,SRA_at,addH_at,add_at,none_at,gR,r51,g13,vreps,vfill,g39,g63,unstr_cons,unstr_nil,map_str_cons,map_str_nil,rOf_rcells,rOf_lit,St_eta,ReaderAt,h12,Ex.cells,ag23,z23,c23,i23,lt6 hid,wd,wa,ne_eq,h1,h13,he,hre3,heta,c1,hx,Tok.cells,k11,k12,Int.reduceEq,true_fold,false_fold,null_fold,par_fold,bra_fold,if_fold,at_lit,ne_falseB_trueB,ne_nullB_trueB,ne_nullB_falseB,ne_parB_trueB,ne_parB_falseB,ne_parB_nullB,ne_braB_trueB,ne_braB_falseB,ne_braB_nullB,ne_braB_parB,ne_ifB_trueB,ne_ifB_falseB,ne_ifB_nullB,ne_ifB_parB,ne_ifB_braB,w1]
      refine ⟨nn, .weak (vle_nil _ _ _ _ _ _ _) (VDone.turned hG hid (hu _) ?_ ?_ rfl rfl)⟩
      · simp (maxSteps:=999999) -dsimp -implicitDefEqProofs only [↓eqD,eqU,eqV,eqW,vbuiltinQ,vlen,vslice,vindex,vstore,Array.toList,simprocAttr,lt6 hid]
      · intro j hj hji; simp (maxSteps:=999999) -dsimp -implicitDefEqProofs only [↓eqD,eqU,eqV,eqW,vbuiltinQ,vlen,vslice,vindex,vstore,Array.toList,simprocAttr,lt6 hj,hji]
    try rw [if_neg w1]
    by_cases w2 : (mustR T en s atW).1 = falseB
    · rw [if_pos w2]
      simp (maxSteps:=999999) -dsimp -implicitDefEqProofs only [↓eqD,eqU,eqV,eqW,vbuiltinQ,vlen,vslice,vindex,vstore,Array.toList,simprocAttr,fnWp_some Tryz.func226,Tryz.f226,T87_ord,T87_ghost,FB,SRA_at,addH_at,add_at,none_at,gR,r51,g13,vreps,vfill,g39,g63,unstr_cons,unstr_nil,map_str_cons,map_str_nil,rOf_rcells,rOf_lit,St_eta,ReaderAt,h12,Ex.cells,ag23,z23,c23,i23,lt6 hid,wd,wa,ne_eq,h1,h13,he,hre3,heta,c1,hx,Tok.cells,k11,k12,Int.reduceEq,true_fold,false_fold,null_fold,par_fold,bra_fold,if_fold,at_lit,ne_falseB_trueB,ne_nullB_trueB,ne_nullB_falseB,ne_parB_trueB,ne_parB_falseB,ne_parB_nullB,ne_braB_trueB,ne_braB_falseB,ne_braB_nullB,ne_braB_parB,ne_ifB_trueB,ne_ifB_falseB,ne_ifB_nullB,ne_ifB_parB,ne_ifB_braB,w2]
      refine ⟨nn, .weak (vle_nil _ _ _ _ _ _ _) (VDone.turned hG hid (hu _) ?_ ?_ rfl rfl)⟩
      · simp (maxSteps:=999999) -dsimp -implicitDefEqProofs only [↓eqD,eqU,eqV,eqW,vbuiltinQ,vlen,vslice,vindex,vstore,Array.toList,simprocAttr,lt6 hid]
      · intro j hj hji; simp (maxSteps:=999999) -dsimp -implicitDefEqProofs only [↓eqD,eqU,eqV,eqW,vbuiltinQ,vlen,vslice,vindex,vstore,Array.toList,simprocAttr,lt6 hj,hji]
    try rw [if_neg w2]
    by_cases w3 : (mustR T en s atW).1 = nullB
    · rw [if_pos w3]
      simp (maxSteps:=999999) -dsimp -implicitDefEqProofs only [↓eqD,eqU,eqV,eqW,vbuiltinQ,vlen,vslice,vindex,vstore,Array.toList,simprocAttr,fnWp_some Tryz.func226,Tryz.f226,T87_ord,T87_ghost,FB,SRA_at,addH_at,add_at,none_at,gR,r51,g13,vreps,vfill,g39,g63,unstr_cons,unstr_nil,map_str_cons,map_str_nil,rOf_rcells,rOf_lit,St_eta,ReaderAt,h12,Ex.cells,ag23,z23,c23,i23,lt6 hid,wd,wa,ne_eq,h1,h13,he,hre3,heta,c1,hx,Tok.cells,k11,k12,Int.reduceEq,true_fold,false_fold,null_fold,par_fold,bra_fold,if_fold,at_lit,ne_falseB_trueB,ne_nullB_trueB,ne_nullB_falseB,ne_parB_trueB,ne_parB_falseB,ne_parB_nullB,ne_braB_trueB,ne_braB_falseB,ne_braB_nullB,ne_braB_parB,ne_ifB_trueB,ne_ifB_falseB,ne_ifB_nullB,ne_ifB_parB,ne_ifB_braB,w3]
      refine ⟨nn, .weak (vle_nil _ _ _ _ _ _ _) (VDone.turned hG hid (hu _) ?_ ?_ rfl rfl)⟩
      · simp (maxSteps:=999999) -dsimp -implicitDefEqProofs only [↓eqD,eqU,eqV,eqW,vbuiltinQ,vlen,vslice,vindex,vstore,Array.toList,simprocAttr,lt6 hid]
      · intro j hj hji; simp (maxSteps:=999999) -dsimp -implicitDefEqProofs only [↓eqD,eqU,eqV,eqW,vbuiltinQ,vlen,vslice,vindex,vstore,Array.toList,simprocAttr,lt6 hj,hji]
    try rw [if_neg w3]
    by_cases w4 : (mustR T en s atW).1 = parB
    · rw [if_pos w4]
      simp (maxSteps:=999999) -dsimp -implicitDefEqProofs only [↓eqD,eqU,eqV,eqW,vbuiltinQ,vlen,vslice,vindex,vstore,Array.toList,simprocAttr,fnWp_some Tryz.func226,Tryz.f226,T87_ord,T87_ghost,FB,SRA_at,addH_at,add_at,none_at,gR,r51,g13,vreps,vfill,g39,g63,unstr_cons,unstr_nil,map_str_cons,map_str_nil,rOf_rcells,rOf_lit,St_eta,ReaderAt,h12,Ex.cells,ag23,z23,c23,i23,lt6 hid,wd,wa,ne_eq,h1,h13,he,hre3,heta,c1,hx,Tok.cells,k11,k12,Int.reduceEq,true_fold,false_fold,null_fold,par_fold,bra_fold,if_fold,at_lit,ne_falseB_trueB,ne_nullB_trueB,ne_nullB_falseB,ne_parB_trueB,ne_parB_falseB,ne_parB_nullB,ne_braB_trueB,ne_braB_falseB,ne_braB_nullB,ne_braB_parB,ne_ifB_trueB,ne_ifB_falseB,ne_ifB_nullB,ne_ifB_parB,ne_ifB_braB,w4]
      refine ⟨nn, (hk (mustR T en s atW).2 _ ⟨by simp (maxSteps:=999999) -dsimp -implicitDefEqProofs only [↓eqD,eqU,eqV,eqW,vbuiltinQ,vlen,vslice,vindex,vstore,Array.toList,simprocAttr,lt6 hid], h.2.1, gm.2⟩).mono ?_⟩
      rintro _ _ ⟨rfl, rfl⟩
      have hm := me _ gm.2
      generalize ex (mustR T en s atW).2 = ks at *
      obtain ⟨⟨q2, b2, m2, n2, t2, lo2, hi2, kids2⟩, s2⟩ := ks
      simp only at hm ⊢
      have hm2 := hm.2
      simp (maxSteps:=999999) -dsimp -implicitDefEqProofs only [↓eqD,eqU,eqV,eqW,vbuiltinQ,vlen,vslice,vindex,vstore,Array.toList,simprocAttr,T87_ord,T87_ghost,FB,SRA_at,addH_at,add_at,none_at,gR,r51,g13,vreps,vfill,g39,g63,unstr_cons,unstr_nil,map_str_cons,map_str_nil,rOf_rcells,rOf_lit,St_eta,ReaderAt,h12,Ex.cells,ag23,z23,c23,i23,lt6 hid,wd,wa,ne_eq,hm2]
      refine VDone.turned hG hid (hu _) ?_ ?_ rfl rfl
      · simp (maxSteps:=999999) -dsimp -implicitDefEqProofs only [↓eqD,eqU,eqV,eqW,vbuiltinQ,vlen,vslice,vindex,vstore,Array.toList,simprocAttr,lt6 hid]
      · intro j hj hji; simp (maxSteps:=999999) -dsimp -implicitDefEqProofs only [↓eqD,eqU,eqV,eqW,vbuiltinQ,vlen,vslice,vindex,vstore,Array.toList,simprocAttr,lt6 hj,hji]
    try rw [if_neg w4]
    by_cases w5 : (mustR T en s atW).1 = braB
    · rw [if_pos w5]
      simp (maxSteps:=999999) -dsimp -implicitDefEqProofs only [↓eqD,eqU,eqV,eqW,vbuiltinQ,vlen,vslice,vindex,vstore,Array.toList,simprocAttr,fnWp_some Tryz.func226,Tryz.f226,T87_ord,T87_ghost,FB,SRA_at,addH_at,add_at,none_at,gR,r51,g13,vreps,vfill,g39,g63,unstr_cons,unstr_nil,map_str_cons,map_str_nil,rOf_rcells,rOf_lit,St_eta,ReaderAt,h12,Ex.cells,ag23,z23,c23,i23,lt6 hid,wd,wa,ne_eq,h1,h13,he,hre3,heta,c1,hx,Tok.cells,k11,k12,Int.reduceEq,true_fold,false_fold,null_fold,par_fold,bra_fold,if_fold,at_lit,ne_falseB_trueB,ne_nullB_trueB,ne_nullB_falseB,ne_parB_trueB,ne_parB_falseB,ne_parB_nullB,ne_braB_trueB,ne_braB_falseB,ne_braB_nullB,ne_braB_parB,ne_ifB_trueB,ne_ifB_falseB,ne_ifB_nullB,ne_ifB_parB,ne_ifB_braB,w5]
      refine ⟨nn, (hl [93] (mustR T en s atW).2 _ brack_ne ⟨by simp (maxSteps:=999999) -dsimp -implicitDefEqProofs only [↓eqD,eqU,eqV,eqW,vbuiltinQ,vlen,vslice,vindex,vstore,Array.toList,simprocAttr,lt6 hid], h.2.1, gm.2⟩).mono ?_⟩
      rintro _ _ ⟨rfl, rfl⟩
      generalize rowR T en ex [93] (mustR T en s atW).2 = ks at *
      obtain ⟨l2, s2⟩ := ks
      have dl := exsC_closed l2
      simp (maxSteps:=999999) -dsimp -implicitDefEqProofs only [↓eqD,eqU,eqV,eqW,vbuiltinQ,vlen,vslice,vindex,vstore,Array.toList,simprocAttr,T87_ord,T87_ghost,FB,SRA_at,addH_at,add_at,none_at,gR,r51,g13,vreps,vfill,g39,g63,unstr_cons,unstr_nil,map_str_cons,map_str_nil,rOf_rcells,rOf_lit,St_eta,ReaderAt,h12,Ex.cells,ag23,z23,c23,i23,lt6 hid,wd,wa,ne_eq,dl]
      refine VDone.turned hG hid (hu _) ?_ ?_ rfl rfl
      · simp (maxSteps:=999999) -dsimp -implicitDefEqProofs only [↓eqD,eqU,eqV,eqW,vbuiltinQ,vlen,vslice,vindex,vstore,Array.toList,simprocAttr,lt6 hid]
      · intro j hj hji; simp (maxSteps:=999999) -dsimp -implicitDefEqProofs only [↓eqD,eqU,eqV,eqW,vbuiltinQ,vlen,vslice,vindex,vstore,Array.toList,simprocAttr,lt6 hj,hji]
    try rw [if_neg w5]
    by_cases w6 : (mustR T en s atW).1 = ifB
    · rw [if_pos w6]
      simp (maxSteps:=999999) -dsimp -implicitDefEqProofs only [↓eqD,eqU,eqV,eqW,vbuiltinQ,vlen,vslice,vindex,vstore,Array.toList,simprocAttr,fnWp_some Tryz.func226,Tryz.f226,T87_ord,T87_ghost,FB,SRA_at,addH_at,add_at,none_at,gR,r51,g13,vreps,vfill,g39,g63,unstr_cons,unstr_nil,map_str_cons,map_str_nil,rOf_rcells,rOf_lit,St_eta,ReaderAt,h12,Ex.cells,ag23,z23,c23,i23,lt6 hid,wd,wa,ne_eq,h1,h13,he,hre3,heta,c1,hx,Tok.cells,k11,k12,Int.reduceEq,true_fold,false_fold,null_fold,par_fold,bra_fold,if_fold,at_lit,ne_falseB_trueB,ne_nullB_trueB,ne_nullB_falseB,ne_parB_trueB,ne_parB_falseB,ne_parB_nullB,ne_braB_trueB,ne_braB_falseB,ne_braB_nullB,ne_braB_parB,ne_ifB_trueB,ne_ifB_falseB,ne_ifB_nullB,ne_ifB_parB,ne_ifB_braB,w6]
      unfold ifR
      refine ⟨nn, (hk (mustR T en s atW).2 _ ⟨by simp (maxSteps:=999999) -dsimp -implicitDefEqProofs only [↓eqD,eqU,eqV,eqW,vbuiltinQ,vlen,vslice,vindex,vstore,Array.toList,simprocAttr,lt6 hid], h.2.1, gm.2⟩).mono ?_⟩
      rintro _ _ ⟨rfl, rfl⟩
      have hm := me _ gm.2
      generalize ex (mustR T en s atW).2 = ks at *
      obtain ⟨⟨q1, b1, m1, n1, t1, lo1, hi1, kids1⟩, s1⟩ := ks
      simp only at hm ⊢
      have hm2 := hm.2
      have hg := mustR_goes (T := T) (en := en) hm.2 [thenB]
      simp (maxSteps:=999999) -dsimp -implicitDefEqProofs only [↓eqD,eqU,eqV,eqW,vbuiltinQ,vlen,vslice,vindex,vstore,Array.toList,simprocAttr,T87_ord,T87_ghost,FB,SRA_at,addH_at,add_at,none_at,gR,r51,g13,vreps,vfill,g39,g63,unstr_cons,unstr_nil,map_str_cons,map_str_nil,rOf_rcells,rOf_lit,St_eta,ReaderAt,h12,Ex.cells,ag23,z23,c23,i23,lt6 hid,wd,wa,ne_eq,hm2,then_fold]
      refine (hk (mustR T en s1 [thenB]).2 _ ⟨by simp (maxSteps:=999999) -dsimp -implicitDefEqProofs only [↓eqD,eqU,eqV,eqW,vbuiltinQ,vlen,vslice,vindex,vstore,Array.toList,simprocAttr,lt6 hid], h.2.1, hg.2⟩).mono ?_
      rintro _ _ ⟨rfl, rfl⟩
      have hm' := me _ hg.2
      generalize ex (mustR T en s1 [thenB]).2 = ks at *
      obtain ⟨⟨q2, b2, m2, n2, t2, lo2, hi2, kids2⟩, s2⟩ := ks
      simp only at hm' ⊢
      have hm2' := hm'.2
      have hg' := mustR_goes (T := T) (en := en) hm'.2 [elseB]
      simp (maxSteps:=999999) -dsimp -implicitDefEqProofs only [↓eqD,eqU,eqV,eqW,vbuiltinQ,vlen,vslice,vindex,vstore,Array.toList,simprocAttr,T87_ord,T87_ghost,FB,SRA_at,addH_at,add_at,none_at,gR,r51,g13,vreps,vfill,g39,g63,unstr_cons,unstr_nil,map_str_cons,map_str_nil,rOf_rcells,rOf_lit,St_eta,ReaderAt,h12,Ex.cells,ag23,z23,c23,i23,lt6 hid,wd,wa,ne_eq,hm2',else_fold]
      refine (hk (mustR T en s2 [elseB]).2 _ ⟨by simp (maxSteps:=999999) -dsimp -implicitDefEqProofs only [↓eqD,eqU,eqV,eqW,vbuiltinQ,vlen,vslice,vindex,vstore,Array.toList,simprocAttr,lt6 hid], h.2.1, hg'.2⟩).mono ?_
      rintro _ _ ⟨rfl, rfl⟩
      generalize ex (mustR T en s2 [elseB]).2 = ks at *
      obtain ⟨⟨q3, b3, m3, n3, t3, lo3, hi3, kids3⟩, s3⟩ := ks
      have d1 := exsC_closed kids1
      have d2 := exsC_closed kids2
      have d3 := exsC_closed kids3
      simp (maxSteps:=999999) -dsimp -implicitDefEqProofs only [↓eqD,eqU,eqV,eqW,vbuiltinQ,vlen,vslice,vindex,vstore,Array.toList,simprocAttr,T87_ord,T87_ghost,FB,SRA_at,addH_at,add_at,none_at,gR,r51,g13,vreps,vfill,g39,g63,unstr_cons,unstr_nil,map_str_cons,map_str_nil,rOf_rcells,rOf_lit,St_eta,ReaderAt,h12,Ex.cells,ag23,z23,c23,i23,lt6 hid,wd,wa,ne_eq,d1,d2,d3]
      have e3 : exsC [Ex.mk q1 b1 m1 n1 t1 lo1 hi1 kids1, Ex.mk q2 b2 m2 n2 t2 lo2 hi2 kids2, Ex.mk q3 b3 m3 n3 t3 lo3 hi3 kids3] = [.int .i64 q1, .bool b1, .int .i64 m1, .int .i64 n1, .str t1, .bool lo1, .bool hi1, .sl 8 kids1.length (exsC kids1), .int .i64 q2, .bool b2, .int .i64 m2, .int .i64 n2, .str t2, .bool lo2, .bool hi2, .sl 8 kids2.length (exsC kids2), .int .i64 q3, .bool b3, .int .i64 m3, .int .i64 n3, .str t3, .bool lo3, .bool hi3, .sl 8 kids3.length (exsC kids3)] := by simp [exsC, Ex.cells]
      have hle := vle_kids 8 false 0 0 [] false false [Ex.mk q1 b1 m1 n1 t1 lo1 hi1 kids1, Ex.mk q2 b2 m2 n2 t2 lo2 hi2 kids2, Ex.mk q3 b3 m3 n3 t3 lo3 hi3 kids3]
      rw [e3] at hle
      refine .weak hle (VDone.turned hG hid (hu _) ?_ ?_ rfl ?_)
      · simp (maxSteps:=999999) -dsimp -implicitDefEqProofs only [↓eqD,eqU,eqV,eqW,vbuiltinQ,vlen,vslice,vindex,vstore,Array.toList,simprocAttr,lt6 hid]
      · intro j hj hji; simp (maxSteps:=999999) -dsimp -implicitDefEqProofs only [↓eqD,eqU,eqV,eqW,vbuiltinQ,vlen,vslice,vindex,vstore,Array.toList,simprocAttr,lt6 hj,hji]
      · simp (maxSteps:=999999) -dsimp -implicitDefEqProofs only [↓eqD,eqU,eqV,eqW,vbuiltinQ,vlen,vslice,vindex,vstore,Array.toList,simprocAttr,Ex.cells,e3]
    try rw [if_neg w6]
    simp (maxSteps:=999999) -dsimp -implicitDefEqProofs only [↓eqD,eqU,eqV,eqW,vbuiltinQ,vlen,vslice,vindex,vstore,Array.toList,simprocAttr,fnWp_some Tryz.func226,Tryz.f226,T87_ord,T87_ghost,FB,SRA_at,addH_at,add_at,none_at,gR,r51,g13,vreps,vfill,g39,g63,unstr_cons,unstr_nil,map_str_cons,map_str_nil,rOf_rcells,rOf_lit,St_eta,ReaderAt,h12,Ex.cells,ag23,z23,c23,i23,lt6 hid,wd,wa,ne_eq,h1,h13,he,hre3,heta,c1,hx,Tok.cells,k11,k12,Int.reduceEq,true_fold,false_fold,null_fold,par_fold,bra_fold,if_fold,at_lit,ne_falseB_trueB,ne_nullB_trueB,ne_nullB_falseB,ne_parB_trueB,ne_parB_falseB,ne_parB_nullB,ne_braB_trueB,ne_braB_falseB,ne_braB_nullB,ne_braB_parB,ne_ifB_trueB,ne_ifB_falseB,ne_ifB_nullB,ne_ifB_parB,ne_ifB_braB,w1,w2,w3,w4,w5,w6]
    refine ⟨nn, .weak (vle_nil 0 false 0 0 [] false false) (VDone.turned hG hid (hu _) ?_ ?_ rfl rfl)⟩
    · simp (maxSteps:=999999) -dsimp -implicitDefEqProofs only [↓eqD,eqU,eqV,eqW,vbuiltinQ,vlen,vslice,vindex,vstore,Array.toList,simprocAttr,lt6 hid]
    · intro j hj hji; simp (maxSteps:=999999) -dsimp -implicitDefEqProofs only [↓eqD,eqU,eqV,eqW,vbuiltinQ,vlen,vslice,vindex,vstore,Array.toList,simprocAttr,lt6 hj,hji]
  · unfold atom2R
    by_cases w1 : (mustR T en s atW).1 = trueB
    · rw [if_pos w1]
      simp (maxSteps:=999999) -dsimp -implicitDefEqProofs only [↓eqD,eqU,eqV,eqW,vbuiltinQ,vlen,vslice,vindex,vstore,Array.toList,simprocAttr,fnWp_some Tryz.func226,Tryz.f226,T87_ord,T87_ghost,FB,SRA_at,addH_at,add_at,none_at,gR,r51,g13,vreps,vfill,g39,g63,unstr_cons,unstr_nil,map_str_cons,map_str_nil,rOf_rcells,rOf_lit,St_eta,ReaderAt,h12,Ex.cells,ag23,z23,c23,i23,lt6 hid,wd,wa,ne_eq,h1,h13,he,hre3,heta,c1,hx,Tok.cells,k2,k3,k11,true_fold,false_fold,null_fold,par_fold,bra_fold,if_fold,at_lit,ne_falseB_trueB,ne_nullB_trueB,ne_nullB_falseB,ne_parB_trueB,ne_parB_falseB,ne_parB_nullB,ne_braB_trueB,ne_braB_falseB,ne_braB_nullB,ne_braB_parB,ne_ifB_trueB,ne_ifB_falseB,ne_ifB_nullB,ne_ifB_parB,ne_ifB_braB,w1]
      refine ⟨nn, .weak (vle_nil _ _ _ _ _ _ _) (VDone.turned hG hid (hu _) ?_ ?_ rfl rfl)⟩
      · simp (maxSteps:=999999) -dsimp -implicitDefEqProofs only [↓eqD,eqU,eqV,eqW,vbuiltinQ,vlen,vslice,vindex,vstore,Array.toList,simprocAttr,lt6 hid]
      · intro j hj hji; simp (maxSteps:=999999) -dsimp -implicitDefEqProofs only [↓eqD,eqU,eqV,eqW,vbuiltinQ,vlen,vslice,vindex,vstore,Array.toList,simprocAttr,lt6 hj,hji]
    try rw [if_neg w1]
    by_cases w2 : (mustR T en s atW).1 = falseB
    · rw [if_pos w2]
      simp (maxSteps:=999999) -dsimp -implicitDefEqProofs only [↓eqD,eqU,eqV,eqW,vbuiltinQ,vlen,vslice,vindex,vstore,Array.toList,simprocAttr,fnWp_some Tryz.func226,Tryz.f226,T87_ord,T87_ghost,FB,SRA_at,addH_at,add_at,none_at,gR,r51,g13,vreps,vfill,g39,g63,unstr_cons,unstr_nil,map_str_cons,map_str_nil,rOf_rcells,rOf_lit,St_eta,ReaderAt,h12,Ex.cells,ag23,z23,c23,i23,lt6 hid,wd,wa,ne_eq,h1,h13,he,hre3,heta,c1,hx,Tok.cells,k2,k3,k11,true_fold,false_fold,null_fold,par_fold,bra_fold,if_fold,at_lit,ne_falseB_trueB,ne_nullB_trueB,ne_nullB_falseB,ne_parB_trueB,ne_parB_falseB,ne_parB_nullB,ne_braB_trueB,ne_braB_falseB,ne_braB_nullB,ne_braB_parB,ne_ifB_trueB,ne_ifB_falseB,ne_ifB_nullB,ne_ifB_parB,ne_ifB_braB,w2]
      refine ⟨nn, .weak (vle_nil _ _ _ _ _ _ _) (VDone.turned hG hid (hu _) ?_ ?_ rfl rfl)⟩
      · simp (maxSteps:=999999) -dsimp -implicitDefEqProofs only [↓eqD,eqU,eqV,eqW,vbuiltinQ,vlen,vslice,vindex,vstore,Array.toList,simprocAttr,lt6 hid]
      · intro j hj hji; simp (maxSteps:=999999) -dsimp -implicitDefEqProofs only [↓eqD,eqU,eqV,eqW,vbuiltinQ,vlen,vslice,vindex,vstore,Array.toList,simprocAttr,lt6 hj,hji]
    try rw [if_neg w2]
    by_cases w3 : (mustR T en s atW).1 = nullB
    · rw [if_pos w3]
      simp (maxSteps:=999999) -dsimp -implicitDefEqProofs only [↓eqD,eqU,eqV,eqW,vbuiltinQ,vlen,vslice,vindex,vstore,Array.toList,simprocAttr,fnWp_some Tryz.func226,Tryz.f226,T87_ord,T87_ghost,FB,SRA_at,addH_at,add_at,none_at,gR,r51,g13,vreps,vfill,g39,g63,unstr_cons,unstr_nil,map_str_cons,map_str_nil,rOf_rcells,rOf_lit,St_eta,ReaderAt,h12,Ex.cells,ag23,z23,c23,i23,lt6 hid,wd,wa,ne_eq,h1,h13,he,hre3,heta,c1,hx,Tok.cells,k2,k3,k11,true_fold,false_fold,null_fold,par_fold,bra_fold,if_fold,at_lit,ne_falseB_trueB,ne_nullB_trueB,ne_nullB_falseB,ne_parB_trueB,ne_parB_falseB,ne_parB_nullB,ne_braB_trueB,ne_braB_falseB,ne_braB_nullB,ne_braB_parB,ne_ifB_trueB,ne_ifB_falseB,ne_ifB_nullB,ne_ifB_parB,ne_ifB_braB,w3]
      refine ⟨nn, .weak (vle_nil _ _ _ _ _ _ _) (VDone.turned hG hid (hu _) ?_ ?_ rfl rfl)⟩
      · simp (maxSteps:=999999) -dsimp -implicitDefEqProofs only [↓eqD,eqU,eqV,eqW,vbuiltinQ,vlen,vslice,vindex,vstore,Array.toList,simprocAttr,lt6 hid]
      · intro j hj hji; simp (maxSteps:=999999) -dsimp -implicitDefEqProofs only [↓eqD,eqU,eqV,eqW,vbuiltinQ,vlen,vslice,vindex,vstore,Array.toList,simprocAttr,lt6 hj,hji]
    try rw [if_neg w3]
    by_cases w4 : (mustR T en s atW).1 = parB
    · rw [if_pos w4]
      simp (maxSteps:=999999) -dsimp -implicitDefEqProofs only [↓eqD,eqU,eqV,eqW,vbuiltinQ,vlen,vslice,vindex,vstore,Array.toList,simprocAttr,fnWp_some Tryz.func226,Tryz.f226,T87_ord,T87_ghost,FB,SRA_at,addH_at,add_at,none_at,gR,r51,g13,vreps,vfill,g39,g63,unstr_cons,unstr_nil,map_str_cons,map_str_nil,rOf_rcells,rOf_lit,St_eta,ReaderAt,h12,Ex.cells,ag23,z23,c23,i23,lt6 hid,wd,wa,ne_eq,h1,h13,he,hre3,heta,c1,hx,Tok.cells,k2,k3,k11,true_fold,false_fold,null_fold,par_fold,bra_fold,if_fold,at_lit,ne_falseB_trueB,ne_nullB_trueB,ne_nullB_falseB,ne_parB_trueB,ne_parB_falseB,ne_parB_nullB,ne_braB_trueB,ne_braB_falseB,ne_braB_nullB,ne_braB_parB,ne_ifB_trueB,ne_ifB_falseB,ne_ifB_nullB,ne_ifB_parB,ne_ifB_braB,w4]
      refine ⟨nn, (hk (mustR T en s atW).2 _ ⟨by simp (maxSteps:=999999) -dsimp -implicitDefEqProofs only [↓eqD,eqU,eqV,eqW,vbuiltinQ,vlen,vslice,vindex,vstore,Array.toList,simprocAttr,lt6 hid], h.2.1, gm.2⟩).mono ?_⟩
      rintro _ _ ⟨rfl, rfl⟩
      have hm := me _ gm.2
      generalize ex (mustR T en s atW).2 = ks at *
      obtain ⟨⟨q2, b2, m2, n2, t2, lo2, hi2, kids2⟩, s2⟩ := ks
      simp only at hm ⊢
      have hm2 := hm.2
      simp (maxSteps:=999999) -dsimp -implicitDefEqProofs only [↓eqD,eqU,eqV,eqW,vbuiltinQ,vlen,vslice,vindex,vstore,Array.toList,simprocAttr,T87_ord,T87_ghost,FB,SRA_at,addH_at,add_at,none_at,gR,r51,g13,vreps,vfill,g39,g63,unstr_cons,unstr_nil,map_str_cons,map_str_nil,rOf_rcells,rOf_lit,St_eta,ReaderAt,h12,Ex.cells,ag23,z23,c23,i23,lt6 hid,wd,wa,ne_eq,hm2]
      refine VDone.turned hG hid (hu _) ?_ ?_ rfl rfl
      · simp (maxSteps:=999999) -dsimp -implicitDefEqProofs only [↓eqD,eqU,eqV,eqW,vbuiltinQ,vlen,vslice,vindex,vstore,Array.toList,simprocAttr,lt6 hid]
      · intro j hj hji; simp (maxSteps:=999999) -dsimp -implicitDefEqProofs only [↓eqD,eqU,eqV,eqW,vbuiltinQ,vlen,vslice,vindex,vstore,Array.toList,simprocAttr,lt6 hj,hji]
    try rw [if_neg w4]
    by_cases w5 : (mustR T en s atW).1 = braB
    · rw [if_pos w5]
      simp (maxSteps:=999999) -dsimp -implicitDefEqProofs only [↓eqD,eqU,eqV,eqW,vbuiltinQ,vlen,vslice,vindex,vstore,Array.toList,simprocAttr,fnWp_some Tryz.func226,Tryz.f226,T87_ord,T87_ghost,FB,SRA_at,addH_at,add_at,none_at,gR,r51,g13,vreps,vfill,g39,g63,unstr_cons,unstr_nil,map_str_cons,map_str_nil,rOf_rcells,rOf_lit,St_eta,ReaderAt,h12,Ex.cells,ag23,z23,c23,i23,lt6 hid,wd,wa,ne_eq,h1,h13,he,hre3,heta,c1,hx,Tok.cells,k2,k3,k11,true_fold,false_fold,null_fold,par_fold,bra_fold,if_fold,at_lit,ne_falseB_trueB,ne_nullB_trueB,ne_nullB_falseB,ne_parB_trueB,ne_parB_falseB,ne_parB_nullB,ne_braB_trueB,ne_braB_falseB,ne_braB_nullB,ne_braB_parB,ne_ifB_trueB,ne_ifB_falseB,ne_ifB_nullB,ne_ifB_parB,ne_ifB_braB,w5]
      refine ⟨nn, (hl [93] (mustR T en s atW).2 _ brack_ne ⟨by simp (maxSteps:=999999) -dsimp -implicitDefEqProofs only [↓eqD,eqU,eqV,eqW,vbuiltinQ,vlen,vslice,vindex,vstore,Array.toList,simprocAttr,lt6 hid], h.2.1, gm.2⟩).mono ?_⟩
      rintro _ _ ⟨rfl, rfl⟩
      generalize rowR T en ex [93] (mustR T en s atW).2 = ks at *
      obtain ⟨l2, s2⟩ := ks
      have dl := exsC_closed l2
      simp (maxSteps:=999999) -dsimp -implicitDefEqProofs only [↓eqD,eqU,eqV,eqW,vbuiltinQ,vlen,vslice,vindex,vstore,Array.toList,simprocAttr,T87_ord,T87_ghost,FB,SRA_at,addH_at,add_at,none_at,gR,r51,g13,vreps,vfill,g39,g63,unstr_cons,unstr_nil,map_str_cons,map_str_nil,rOf_rcells,rOf_lit,St_eta,ReaderAt,h12,Ex.cells,ag23,z23,c23,i23,lt6 hid,wd,wa,ne_eq,dl]
      refine VDone.turned hG hid (hu _) ?_ ?_ rfl rfl
      · simp (maxSteps:=999999) -dsimp -implicitDefEqProofs only [↓eqD,eqU,eqV,eqW,vbuiltinQ,vlen,vslice,vindex,vstore,Array.toList,simprocAttr,lt6 hid]
      · intro j hj hji; simp (maxSteps:=999999) -dsimp -implicitDefEqProofs only [↓eqD,eqU,eqV,eqW,vbuiltinQ,vlen,vslice,vindex,vstore,Array.toList,simprocAttr,lt6 hj,hji]
    try rw [if_neg w5]
    by_cases w6 : (mustR T en s atW).1 = ifB
    · rw [if_pos w6]
      simp (maxSteps:=999999) -dsimp -implicitDefEqProofs only [↓eqD,eqU,eqV,eqW,vbuiltinQ,vlen,vslice,vindex,vstore,Array.toList,simprocAttr,fnWp_some Tryz.func226,Tryz.f226,T87_ord,T87_ghost,FB,SRA_at,addH_at,add_at,none_at,gR,r51,g13,vreps,vfill,g39,g63,unstr_cons,unstr_nil,map_str_cons,map_str_nil,rOf_rcells,rOf_lit,St_eta,ReaderAt,h12,Ex.cells,ag23,z23,c23,i23,lt6 hid,wd,wa,ne_eq,h1,h13,he,hre3,heta,c1,hx,Tok.cells,k2,k3,k11,true_fold,false_fold,null_fold,par_fold,bra_fold,if_fold,at_lit,ne_falseB_trueB,ne_nullB_trueB,ne_nullB_falseB,ne_parB_trueB,ne_parB_falseB,ne_parB_nullB,ne_braB_trueB,ne_braB_falseB,ne_braB_nullB,ne_braB_parB,ne_ifB_trueB,ne_ifB_falseB,ne_ifB_nullB,ne_ifB_parB,ne_ifB_braB,w6]
      unfold ifR
      refine ⟨nn, (hk (mustR T en s atW).2 _ ⟨by simp (maxSteps:=999999) -dsimp -implicitDefEqProofs only [↓eqD,eqU,eqV,eqW,vbuiltinQ,vlen,vslice,vindex,vstore,Array.toList,simprocAttr,lt6 hid], h.2.1, gm.2⟩).mono ?_⟩
      rintro _ _ ⟨rfl, rfl⟩
      have hm := me _ gm.2
      generalize ex (mustR T en s atW).2 = ks at *
      obtain ⟨⟨q1, b1, m1, n1, t1, lo1, hi1, kids1⟩, s1⟩ := ks
      simp only at hm ⊢
      have hm2 := hm.2
      have hg := mustR_goes (T := T) (en := en) hm.2 [thenB]
      simp (maxSteps:=999999) -dsimp -implicitDefEqProofs only [↓eqD,eqU,eqV,eqW,vbuiltinQ,vlen,vslice,vindex,vstore,Array.toList,simprocAttr,T87_ord,T87_ghost,FB,SRA_at,addH_at,add_at,none_at,gR,r51,g13,vreps,vfill,g39,g63,unstr_cons,unstr_nil,map_str_cons,map_str_nil,rOf_rcells,rOf_lit,St_eta,ReaderAt,h12,Ex.cells,ag23,z23,c23,i23,lt6 hid,wd,wa,ne_eq,hm2,then_fold]
      refine (hk (mustR T en s1 [thenB]).2 _ ⟨by simp (maxSteps:=999999) -dsimp -implicitDefEqProofs only [↓eqD,eqU,eqV,eqW,vbuiltinQ,vlen,vslice,vindex,vstore,Array.toList,simprocAttr,lt6 hid], h.2.1, hg.2⟩).mono ?_
      rintro _ _ ⟨rfl, rfl⟩
      have hm' := me _ hg.2
      generalize ex (mustR T en s1 [thenB]).2 = ks at *
      obtain ⟨⟨q2, b2, m2, n2, t2, lo2, hi2, kids2⟩, s2⟩ := ks
      simp only at hm' ⊢
      have hm2' := hm'.2
      have hg' := mustR_goes (T := T) (en := en) hm'.2 [elseB]
      simp (maxSteps:=999999) -dsimp -implicitDefEqProofs only [↓eqD,eqU,eqV,eqW,vbuiltinQ,vlen,vslice,vindex,vstore,Array.toList,simprocAttr,T87_ord,T87_ghost,FB,SRA_at,addH_at,add_at,none_at,gR,r51,g13,vreps,vfill,g39,g63,unstr_cons,unstr_nil,map_str_cons,map_str_nil,rOf_rcells,rOf_lit,St_eta,ReaderAt,h12,Ex.cells,ag23,z23,c23,i23,lt6 hid,wd,wa,ne_eq,hm2',else_fold]
      refine (hk (mustR T en s2 [elseB]).2 _ ⟨by simp (maxSteps:=999999) -dsimp -implicitDefEqProofs only [↓eqD,eqU,eqV,eqW,vbuiltinQ,vlen,vslice,vindex,vstore,Array.toList,simprocAttr,lt6 hid], h.2.1, hg'.2⟩).mono ?_
      rintro _ _ ⟨rfl, rfl⟩
      generalize ex (mustR T en s2 [elseB]).2 = ks at *
      obtain ⟨⟨q3, b3, m3, n3, t3, lo3, hi3, kids3⟩, s3⟩ := ks
      have d1 := exsC_closed kids1
      have d2 := exsC_closed kids2
      have d3 := exsC_closed kids3
      simp (maxSteps:=999999) -dsimp -implicitDefEqProofs only [↓eqD,eqU,eqV,eqW,vbuiltinQ,vlen,vslice,vindex,vstore,Array.toList,simprocAttr,T87_ord,T87_ghost,FB,SRA_at,addH_at,add_at,none_at,gR,r51,g13,vreps,vfill,g39,g63,unstr_cons,unstr_nil,map_str_cons,map_str_nil,rOf_rcells,rOf_lit,St_eta,ReaderAt,h12,Ex.cells,ag23,z23,c23,i23,lt6 hid,wd,wa,ne_eq,d1,d2,d3]
      have e3 : exsC [Ex.mk q1 b1 m1 n1 t1 lo1 hi1 kids1, Ex.mk q2 b2 m2 n2 t2 lo2 hi2 kids2, Ex.mk q3 b3 m3 n3 t3 lo3 hi3 kids3] = [.int .i64 q1, .bool b1, .int .i64 m1, .int .i64 n1, .str t1, .bool lo1, .bool hi1, .sl 8 kids1.length (exsC kids1), .int .i64 q2, .bool b2, .int .i64 m2, .int .i64 n2, .str t2, .bool lo2, .bool hi2, .sl 8 kids2.length (exsC kids2), .int .i64 q3, .bool b3, .int .i64 m3, .int .i64 n3, .str t3, .bool lo3, .bool hi3, .sl 8 kids3.length (exsC kids3)] := by simp [exsC, Ex.cells]
      have hle := vle_kids 8 false 0 0 [] false false [Ex.mk q1 b1 m1 n1 t1 lo1 hi1 kids1, Ex.mk q2 b2 m2 n2 t2 lo2 hi2 kids2, Ex.mk q3 b3 m3 n3 t3 lo3 hi3 kids3]
      rw [e3] at hle
      refine .weak hle (VDone.turned hG hid (hu _) ?_ ?_ rfl ?_)
      · simp (maxSteps:=999999) -dsimp -implicitDefEqProofs only [↓eqD,eqU,eqV,eqW,vbuiltinQ,vlen,vslice,vindex,vstore,Array.toList,simprocAttr,lt6 hid]
      · intro j hj hji; simp (maxSteps:=999999) -dsimp -implicitDefEqProofs only [↓eqD,eqU,eqV,eqW,vbuiltinQ,vlen,vslice,vindex,vstore,Array.toList,simprocAttr,lt6 hj,hji]
      · simp (maxSteps:=999999) -dsimp -implicitDefEqProofs only [↓eqD,eqU,eqV,eqW,vbuiltinQ,vlen,vslice,vindex,vstore,Array.toList,simprocAttr,Ex.cells,e3]
    try rw [if_neg w6]
    simp (maxSteps:=999999) -dsimp -implicitDefEqProofs only [↓eqD,eqU,eqV,eqW,vbuiltinQ,vlen,vslice,vindex,vstore,Array.toList,simprocAttr,fnWp_some Tryz.func226,Tryz.f226,T87_ord,T87_ghost,FB,SRA_at,addH_at,add_at,none_at,gR,r51,g13,vreps,vfill,g39,g63,unstr_cons,unstr_nil,map_str_cons,map_str_nil,rOf_rcells,rOf_lit,St_eta,ReaderAt,h12,Ex.cells,ag23,z23,c23,i23,lt6 hid,wd,wa,ne_eq,h1,h13,he,hre3,heta,c1,hx,Tok.cells,k2,k3,k11,true_fold,false_fold,null_fold,par_fold,bra_fold,if_fold,at_lit,ne_falseB_trueB,ne_nullB_trueB,ne_nullB_falseB,ne_parB_trueB,ne_parB_falseB,ne_parB_nullB,ne_braB_trueB,ne_braB_falseB,ne_braB_nullB,ne_braB_parB,ne_ifB_trueB,ne_ifB_falseB,ne_ifB_nullB,ne_ifB_parB,ne_ifB_braB,w1,w2,w3,w4,w5,w6]
    refine ⟨nn, .weak (vle_nil 0 false 0 0 [] false false) (VDone.turned hG hid (hu _) ?_ ?_ rfl rfl)⟩
    · simp (maxSteps:=999999) -dsimp -implicitDefEqProofs only [↓eqD,eqU,eqV,eqW,vbuiltinQ,vlen,vslice,vindex,vstore,Array.toList,simprocAttr,lt6 hid]
    · intro j hj hji; simp (maxSteps:=999999) -dsimp -implicitDefEqProofs only [↓eqD,eqU,eqV,eqW,vbuiltinQ,vlen,vslice,vindex,vstore,Array.toList,simprocAttr,lt6 hj,hji]
end Go.Vf
set_option linter.unusedVariables false
set_option linter.unusedSimpArgs false
namespace Go.Vf
open Go.Proofs Go.RowKit
def addR (T : List Tok) (un : Kid) : Kid := rowP T (rowP T un (opR T productsW)) (opR T sumsW)
def unSR (T : List Tok) (en : Int) (decR : List UInt8 → DecR) (ex un : Kid) : Kid := fun s =>
  if s.err = 0 then (if isR T s [45] = true then (Ex.neg (un (nextS s)).1, (un (nextS s)).2) else atomR T en decR ex s) else (Ex.zero, s)
def andR (T : List Tok) (en : Int) (ex un : Kid) : Kid := rowP T (cmpR T en (addR T un) ex) (opR T [andW])
def exSR (T : List Tok) (en : Int) (ex un : Kid) : Kid := fun s => if s.err = 0 then rowP T (andR T en ex un) (opR T [orW]) s else (Ex.zero, s)
def stepR (T : List Tok) (en : Int) (decR : List UInt8 → DecR) (p : Kid × Kid) : Kid × Kid := (exSR T en p.1 (unSR T en decR p.1 p.2), unSR T en decR p.1 p.2)
def kidsR (T : List Tok) (en : Int) (decR : List UInt8 → DecR) (k : Nat) : Kid × Kid := iterA (stepR T en decR) (zeroK T en, zeroK T en) k
def exR (T : List Tok) (en : Int) (decR : List UInt8 → DecR) (k : Nat) : Kid := (kidsR T en decR k).1
def unR (T : List Tok) (en : Int) (decR : List UInt8 → DecR) (k : Nat) : Kid := (kidsR T en decR k).2
theorem exR_zero (T : List Tok) (en : Int) (decR : List UInt8 → DecR) : exR T en decR 0 = zeroK T en := by unfold exR kidsR; rw [iterA_zero]
theorem unR_zero (T : List Tok) (en : Int) (decR : List UInt8 → DecR) : unR T en decR 0 = zeroK T en := by unfold unR kidsR; rw [iterA_zero]
theorem exR_succ (T : List Tok) (en : Int) (decR : List UInt8 → DecR) (k : Nat) : exR T en decR (k + 1) = exSR T en (exR T en decR k) (unR T en decR (k + 1)) := by unfold exR unR kidsR; rw [iterA_succ]; rfl
theorem unR_succ (T : List Tok) (en : Int) (decR : List UInt8 → DecR) (k : Nat) : unR T en decR (k + 1) = unSR T en decR (exR T en decR k) (unR T en decR k) := by unfold exR unR kidsR; rw [iterA_succ]; rfl
theorem deepI_no {d : Int} (h : ¬8 < d) (T : List Tok) (en : Int) (s : St) : deepI T en s d = s := by unfold deepI; rw [if_neg h]
theorem unR_eq {T : List Tok} {en : Int} {decR : List UInt8 → DecR} {k : Nat} {d : Int} (h : ¬8 < d) : unR T en decR (k + 1) = unaryR T en d (unR T en decR k) (atomR T en decR (exR T en decR k)) := by
  funext s
  rw [unR_succ, unSR, unaryR, deepI_no h]
theorem exR_eq {T : List Tok} {en : Int} {decR : List UInt8 → DecR} {k : Nat} {d : Int} (h : ¬8 < d) : exR T en decR (k + 1) = exprR T en d (andR T en (exR T en decR k) (unR T en decR (k + 1))) := by
  funext s
  rw [exR_succ, exSR, exprR, deepI_no h]
theorem deepI_yes (T : List Tok) (en : Int) (s : St) : deepI T en s 9 = errsT T en s 12 := rfl
theorem errs_err {T : List Tok} {en : Int} {s : St} {e : Int} (h : e ≠ 0) : (errsT T en s e).err ≠ 0 := by
  unfold errsT
  by_cases c : s.err = 0
  · simp [c, h]
  · simp [c]
theorem zero_exprR (T : List Tok) (en : Int) (kid : Kid) : zeroK T en = exprR T en 9 kid := by
  funext s
  rw [exprR, deepI_yes, if_neg (errs_err (by decide))]; rfl
theorem zero_unaryR (T : List Tok) (en : Int) (un atom : Kid) : zeroK T en = unaryR T en 9 un atom := by
  funext s
  rw [unaryR, deepI_yes, if_neg (errs_err (by decide))]; rfl
theorem andR_goes {T : List Tok} {en : Int} {ex un : Kid} (me : Goes T ex) (mu : Goes T un) : Goes T (andR T en ex un) :=
  rowP_goes (cmpR_goes (rowP_goes (rowP_goes mu (steps_take _ _)) (steps_take _ _)) me) (steps_take _ _)
theorem kidsR_go {T : List Tok} {en : Int} {decR : List UInt8 → DecR} : ∀ k, Goes T (exR T en decR k) ∧ Goes T (unR T en decR k)
  | 0 => by rw [exR_zero, unR_zero]; exact ⟨fun s h => ⟨by rw [zeroK, errsT_at]; exact Nat.le_refl _, by rw [zeroK, errsT_at]; exact h⟩, fun s h => ⟨by rw [zeroK, errsT_at]; exact Nat.le_refl _, by rw [zeroK, errsT_at]; exact h⟩⟩
  | k + 1 => by
    have ih := kidsR_go (T := T) (en := en) (decR := decR) k
    have hu : Goes T (unR T en decR (k + 1)) := by rw [unR_eq (d := 0) (by decide)]; exact unaryR_goes ih.2 (atomR_goes ih.1)
    refine ⟨?_, hu⟩
    rw [exR_eq (d := 0) (by decide)]
    exact exprR_goes (andR_goes ih.1 hu)
theorem kidsR_walk {T : List Tok} {en : Int} {id : Nat} {decR : List UInt8 → DecR} (hT : Short T) (hdec : RDecAt decR) : ∀ k, k ≤ 9 → RKidAt T en id 132 ((9 - k : Nat) : Int) (exR T en decR k) ∧ RKidAt T en id 223 ((9 - k : Nat) : Int) (unR T en decR k)
  | 0, _ => by
    have g : Goes T fun s => ((Ex.zero, s) : Ex × St) := fun s h => ⟨Nat.le_refl _, h⟩
    have h1 := exprr_walk (T := T) (en := en) (id := id) (d := 9) (kid := fun s => (Ex.zero, s)) (fun h => absurd h (by decide)) g
    have h2 := unaryr_walk (T := T) (en := en) (id := id) (d := 9) (un := fun s => (Ex.zero, s)) (atom := fun s => (Ex.zero, s)) (fun h => absurd h (by decide)) (fun h => absurd h (by decide))
    rw [exR_zero, unR_zero]
    refine ⟨?_, ?_⟩
    · rw [zero_exprR T en fun s => (Ex.zero, s)]; exact h1
    · rw [zero_unaryR T en (fun s => (Ex.zero, s)) fun s => (Ex.zero, s)]; exact h2
  | k + 1, hk => by
    obtain ⟨w1, w2⟩ := kidsR_walk hT hdec (id := id) (en := en) k (by omega)
    obtain ⟨g1, g2⟩ := kidsR_go (T := T) (en := en) (decR := decR) k
    have gu := (kidsR_go (T := T) (en := en) (decR := decR) (k + 1)).2
    have hd : ¬8 < ((9 - (k + 1) : Nat) : Int) := by omega
    have e : ((9 - k : Nat) : Int) = ((9 - (k + 1) + 1 : Nat) : Int) := by omega
    rw [e] at w1 w2
    have hl : RowAt T en id ((9 - (k + 1) : Nat) : Int) (exR T en decR k) := fun cl s G hc h => rowr_walk (by omega) w1 g1 cl hc s G h
    have ha := atomr_walk (d := 9 - (k + 1)) (by omega) hT hdec w1 g1 hl
    have hu : RKidAt T en id 223 ((9 - (k + 1) : Nat) : Int) (unR T en decR (k + 1)) := by
      rw [unR_eq hd]; exact unaryr_walk (fun _ => w2) (fun _ => ha)
    refine ⟨?_, hu⟩
    have hm := mulr_walk hu gu
    have gm := rowP_goes gu (steps_take T productsW)
    have hadd := addr_walk hm gm
    have gadd := rowP_goes gm (steps_take T sumsW)
    have hcmp := cmpr_walk (d := 9 - (k + 1)) (by omega) hadd gadd w1 g1
    have gcmp := cmpR_goes (en := en) gadd g1
    have hand := andr_walk hcmp gcmp
    rw [exR_eq hd]
    exact exprr_walk (fun _ => hand) (rowP_goes gcmp (steps_take _ _))
end Go.Vf
set_option linter.unusedVariables false
set_option linter.unusedSimpArgs false
namespace Go.Vf
open Go.Proofs Go.RowKit
structure Taken where
  e : Ex
  at_ : Int
  pos : Int
  err : Int
def Taken.v (r : Taken) : V := .tup [.agg r.e.cells, .int .i64 r.at_, .int .i64 r.pos, .int .i64 r.err]
def takeF (a : Nat) (r : Ex × St) : Taken := if r.2.err = 0 then ⟨r.1, r.2.at_, 0, 0⟩ else ⟨Ex.zero, a, r.2.pos, r.2.err⟩
theorem u64 : tstruct Tryz.prog 151 = some [.nilsl, .int .i64 0, .int .i64 0, .int .i64 0, .int .i64 0] := by kernel_rfl
theorem p64_0 : tplaces Tryz.prog 151 0 = some (0, 1) := by kernel_rfl
theorem p64_1 : tplaces Tryz.prog 151 1 = some (1, 1) := by kernel_rfl
theorem p64_2 : tplaces Tryz.prog 151 2 = some (2, 1) := by kernel_rfl
def T19 : Tab := ⟨fun id => if id = 4 then ([0, 1, 2, 3, 4, 5, 6, 7, 8, 9, 10, 11, 12, 13], [(5, 10), (9, 10)]) else if id = 5 then ([0, 1, 2, 3, 4, 5, 6, 7, 8], [(4, 5)]) else ([], []), fun _ => false⟩
theorem T19_ord (id : Nat) : T19.ord id = if id = 4 then ([0, 1, 2, 3, 4, 5, 6, 7, 8, 9, 10, 11, 12, 13], [(5, 10), (9, 10)]) else if id = 5 then ([0, 1, 2, 3, 4, 5, 6, 7, 8], [(4, 5)]) else ([], []) := rfl
theorem T19_ghost (id : Nat) : T19.ghost id = false := rfl
theorem okn19 : fnOk Tryz.prog 100 T19 3 = true := by kernel_rfl
set_option maxRecDepth 100000 in
theorem taker_walk {decR : List UInt8 → DecR} (hdec : RDecAt decR) (T : List Tok) (hsh : Short T) (hlen : T.length ≤ 1000) (a : Nat) (ha : a ≤ T.length) (en : Int) (G : Heap) : VPure Tryz.prog 100 [.sl 3 T.length (toksC T), .int .i64 a, .int .i64 en] G (takeF a (exR T en decR 9 ⟨a, 0, 0⟩)).v := by
  refine VCalls.of (SOk.none _) mixed T19 okn19 fun hG => ?_
  have nilw : ∀ (n e f : Int), VLe (.tup [.agg [.int .i64 0, .bool false, .int .i64 0, .int .i64 0, .str [], .bool false, .bool false, .nilsl], .int .i64 n, .int .i64 e, .int .i64 f]) (Taken.v ⟨Ex.zero, n, e, f⟩) := fun n e f => .tup ⟨vle_nil 0 false 0 0 [] false false, .refl _, .refl _, .refl _, trivial⟩
  have hw := (kidsR_walk (T := T) (en := en) (id := G.next + 1) hsh hdec 9 (by decide)).1
  have hgo := (kidsR_go (T := T) (en := en) (decR := decR) 9).1 ⟨a, 0, 0⟩ ha
  simp (maxSteps:=999999) -dsimp -implicitDefEqProofs only [↓eqD,eqU,eqV,eqW,vbuiltinQ,vlen,vslice,vindex,vstore,Array.toList,simprocAttr,fnWp_some Tryz.func100,Tryz.f100,T19_ord,T19_ghost,FB,none_at,u64,p64_0,p64_1,p64_2]
  refine (hw ⟨a, 0, 0⟩ _ ⟨by simp (maxSteps:=999999) -dsimp -implicitDefEqProofs only [↓eqD,eqU,eqV,eqW,vbuiltinQ,vlen,vslice,vindex,vstore,Array.toList,simprocAttr,FB,rcells_eq], hlen, ha⟩).mono ?_
  rintro _ _ ⟨rfl, rfl⟩
  generalize exR T en decR 9 ⟨a, 0, 0⟩ = ks at *
  obtain ⟨⟨k2, b2, m2, n2, t2, lo2, hi2, kids2⟩, s2⟩ := ks
  have hre := rcells_eq T en s2
  unfold takeF
  simp only
  by_cases he : s2.err = 0
  · rw [if_pos he]
    simp (maxSteps:=999999) -dsimp -implicitDefEqProofs only [↓eqD,eqU,eqV,eqW,vbuiltinQ,vlen,vslice,vindex,vstore,Array.toList,simprocAttr,T19_ord,T19_ghost,FB,none_at,Ex.cells,hre,he,ne_eq]
    refine VDone.back hG ?_ rfl rfl
    intro j hj; simp (maxSteps:=999999) -dsimp -implicitDefEqProofs only [↓eqD,eqU,eqV,eqW,vbuiltinQ,vlen,vslice,vindex,vstore,Array.toList,simprocAttr,lt6 hj]
  · try rw [if_neg he]
    simp (maxSteps:=999999) -dsimp -implicitDefEqProofs only [↓eqD,eqU,eqV,eqW,vbuiltinQ,vlen,vslice,vindex,vstore,Array.toList,simprocAttr,T19_ord,T19_ghost,FB,none_at,Ex.cells,hre,he,ne_eq]
    refine .weak (nilw _ _ _) (VDone.back hG ?_ rfl rfl)
    intro j hj; simp (maxSteps:=999999) -dsimp -implicitDefEqProofs only [↓eqD,eqU,eqV,eqW,vbuiltinQ,vlen,vslice,vindex,vstore,Array.toList,simprocAttr,lt6 hj]
theorem lexGo_n (s : List UInt8) : ∀ (f p : Nat) (acc : List Tok), s.length < f + p → p ≤ s.length → (lexGo s f p acc).err = 0 → (lexGo s f p acc).n = (s.length : Int)
  | 0, p, acc, h, hp, e => by omega
  | f + 1, p, acc, h, hps, e => by
    unfold lexGo at e ⊢
    split at e
    · rename_i hp
      split at e
      · cases e
      · split at e
        · rename_i c; exact (c e).elim
        · rename_i c1 c2
          rw [if_pos hp, if_neg c1, if_neg c2]
          have hn := nextL_n (s := s.drop p) (by rw [ne_eq, List.drop_eq_nil_iff]; omega) (Classical.not_not.1 c2)
          have hr := runN_le (s.drop (p + (nextL (s.drop p)).n)) [32]
          simp only [List.length_drop] at hr hn
          exact lexGo_n s f _ _ (by omega) (by omega) e
    · rename_i hp
      rw [if_neg hp]
theorem lexL_n (s : List UInt8) (e : (lexL s).err = 0) : (lexL s).n = (s.length : Int) := by
  unfold lexL at e ⊢
  split at e
  · cases e
  · rename_i c
    rw [if_neg c]
    have hr := runN_le s [32]
    exact lexGo_n s _ _ _ (by omega) hr e
def g16L : List V → Option (Prop × V)
  | [.str s] => some (True, (lexL s).v)
  | _ => none
def SRP : Specs := Specs.none.add 19 g16L
theorem okSRP : SOk Tryz.prog SRP := by
  refine (SOk.none _).add ?_
  intro xs G p v e hp
  unfold g16L at e
  split at e
  · cases e; exact refLex_walk _ G
  · cases e
end Go.Vf
