/- A part of the proof: Na, Nb, Nc, Nd. -/
import Derived.Test.YtkcdhmplinjldaaGreatDoorPAMh
set_option linter.unusedVariables false
set_option linter.unusedSimpArgs false
namespace Go.Vf
open Go.Proofs Go.RowKit
def rcells (T : List Tok) (en : Int) (s : St) : List V := [.sl 3 T.length (toksC T), .int .i64 s.at_, .int .i64 en, .int .i64 s.err, .int .i64 s.pos]
theorem rcells_eq (T : List Tok) (en : Int) (s : St) : rcells T en s = [.sl 3 T.length (toksC T), .int .i64 s.at_, .int .i64 en, .int .i64 s.err, .int .i64 s.pos] := rfl
theorem rcells_mk (T : List Tok) (en : Int) (a : Nat) (pos err : Int) : rcells T en ⟨a, pos, err⟩ = [.sl 3 T.length (toksC T), .int .i64 (a : Int), .int .i64 en, .int .i64 err, .int .i64 pos] := rfl
def rOf : Option Blk → Option (List Tok × Int × St)
  | some (.cells 0 [.sl 3 _ x, .int _ a, .int _ en, .int _ err, .int _ pos]) => some (toksD x, en, ⟨a.toNat, pos, err⟩)
  | _ => none
theorem rOf_rcells (T : List Tok) (en : Int) (s : St) : rOf (some (.cells 0 (rcells T en s))) = some (T, en, s) := by
  unfold rOf rcells; simp [toksD_C]
theorem rOf_lit (T : List Tok) (n a : Nat) (en pos err : Int) : rOf (some (.cells 0 [.sl 3 n (toksC T), .int .i64 (a : Int), .int .i64 en, .int .i64 err, .int .i64 pos])) = some (T, en, ⟨a, pos, err⟩) := by
  unfold rOf; simp [toksD_C]
def ReaderAt (G : Heap) (id : Nat) (T : List Tok) (en : Int) (s : St) : Prop := G.get id = some (.cells 0 (rcells T en s)) ∧ T.length ≤ 1000 ∧ s.at_ ≤ T.length
theorem rcells_under (T : List Tok) (en : Int) (s : St) (n : Nat) : (Blk.cells 0 (rcells T en s)).under n = true := by
  unfold rcells
  simp only [Blk.under, V.underL, V.under, V.scalarL, V.scalar, Bool.and_true, Bool.true_and, Bool.and_eq_true]
def gR (f : List Tok → Int → St → List V → Option (V × St)) : List V → Heap → Option (Prop × V × Heap)
  | .ptr id 0 0 :: xs, G => match rOf (G.get id) with
    | some (T, en, s) => match f T en s xs with
      | some (v, s') => some (ReaderAt G id T en s, v, G.put id (.cells 0 (rcells T en s')))
      | none => none
    | none => none
  | _, _ => none
theorem okR {P : Program} {S : Specs} (hS : SOk P S) {f : FuncId} {g : List Tok → Int → St → List V → Option (V × St)} (h : ∀ T en s id G xs v s', ReaderAt G id T en s → g T en s xs = some (v, s') → VCalls P f (.ptr id 0 0 :: xs) G fun u H => u = v ∧ H = G.put id (.cells 0 (rcells T en s'))) : SOk P (S.addH f (gR g)) := hS.addH fun xs G p v G' e hp => by
  unfold gR at e
  split at e
  · split at e
    · split at e
      · cases e; exact h _ _ _ _ _ _ _ _ hp (by assumption)
      · cases e
    · cases e
  · cases e
theorem ReaderAt.put {G : Heap} {id : Nat} {T : List Tok} {en : Int} {s s' : St} (h : ReaderAt G id T en s) (h' : s'.at_ ≤ T.length) : ReaderAt (G.put id (.cells 0 (rcells T en s'))) id T en s' := ⟨by simp [Heap.put], h.2.1, h'⟩
def hereT (T : List Tok) (en : Int) (a : Nat) : Int := if a < T.length then (T.getD a ⟨0, [], 0⟩).pos else en
def T61 : Tab := ⟨fun id => if id = 1 then ([0, 1, 2, 3, 4, 5, 6, 7, 8, 9], []) else if id = 2 then ([0, 1, 2, 3, 4, 5, 6, 7, 8, 9, 10, 11], []) else ([], []), fun _ => false⟩
theorem T61_ord (id : Nat) : T61.ord id = if id = 1 then ([0, 1, 2, 3, 4, 5, 6, 7, 8, 9], []) else if id = 2 then ([0, 1, 2, 3, 4, 5, 6, 7, 8, 9, 10, 11], []) else ([], []) := rfl
theorem T61_ghost (id : Nat) : T61.ghost id = false := rfl
theorem okn61 : fnOk Tryz.prog 207 T61 1 = true := by kernel_rfl
set_option maxRecDepth 100000 in
theorem here_walk {T : List Tok} {en : Int} {s : St} {id : Nat} {G : Heap} (h : ReaderAt G id T en s) : VCalls Tryz.prog 207 [.ptr id 0 0] G (Stays G (.int .i64 (hereT T en s.at_))) := by
  refine VCalls.of (SOk.none _) mixed T61 okn61 fun hG => ?_
  have h1 := h.1
  rw [rcells_eq] at h1
  unfold hereT
  by_cases ha : s.at_ < T.length
  · have hx := toks_at ha
    have hT : T.getD s.at_ ⟨0, [], 0⟩ = T[s.at_] := by simp [List.getD, ha]
    rw [if_pos ha, hT]
    generalize T[s.at_] = t at hx hT
    have c1 : (s.at_ : Int) < (T.length : Int) := by omega
    simp (maxSteps:=999999) -dsimp -implicitDefEqProofs only [↓eqD,eqU,eqV,eqW,vbuiltinQ,vlen,vslice,vindex,vstore,Array.toList,simprocAttr,fnWp_some Tryz.func207,Tryz.f207,T61_ord,T61_ghost,FB,h1,c1,hx,Tok.cells]
    exact ⟨by omega, VDone.back hG (fun _ _ => rfl) rfl rfl⟩
  · rw [if_neg ha]
    have c1 : ¬(s.at_ : Int) < (T.length : Int) := by omega
    simp (maxSteps:=999999) -dsimp -implicitDefEqProofs only [↓eqD,eqU,eqV,eqW,vbuiltinQ,vlen,vslice,vindex,vstore,Array.toList,simprocAttr,fnWp_some Tryz.func207,Tryz.f207,T61_ord,T61_ghost,FB,h1,c1]
    exact VDone.back hG (fun _ _ => rfl) rfl rfl
def r61 (T : List Tok) (en : Int) (s : St) : List V → Option (V × St)
  | [] => some (.int .i64 (hereT T en s.at_), s)
  | _ => none
theorem errsT_here (T : List Tok) (en : Int) (s : St) (e : Int) : errsT T en s e = if s.err = 0 then ⟨s.at_, hereT T en s.at_, e⟩ else s := by
  unfold errsT hereT
  by_cases h : s.err = 0
  · simp [h]
  · simp [h]
def SH1 : Specs := Specs.none.addH 207 (gR r61)
theorem SH1_at (f : FuncId) (xs : List V) (G : Heap) : SH1 f xs G = (Specs.none.addH 207 (gR r61)) f xs G := rfl
theorem okSH1 : SOk Tryz.prog SH1 := okR (SOk.none _) fun T en s id G xs v s' h e => by
  unfold r61 at e
  split at e
  · cases e
    rw [put_same h.1]
    exact here_walk h
  · cases e
theorem okn51 : fnOk Tryz.prog 192 T0 2 = true := by kernel_rfl
set_option maxRecDepth 100000 in
theorem fail_walk {T : List Tok} {en : Int} {s : St} {id : Nat} {G : Heap} (h : ReaderAt G id T en s) (e : Int) : VCalls Tryz.prog 192 [.ptr id 0 0, .int .i64 e] G fun u H => u = .tup [] ∧ H = G.put id (.cells 0 (rcells T en (errsT T en s e))) := by
  refine VCalls.of okSH1 mixed T0 okn51 fun hG => ?_
  have hid := hG.lt h.1
  have hu := fun s' => rcells_under T en s' G.next
  have h11 := h.1
  have h12 := h.2.1
  have h13 := h.2.2
  have h1 := h.1
  rw [rcells_eq] at h1
  have hre := rcells_eq T en s
  rw [errsT_here]
  by_cases he : s.err = 0
  · rw [if_pos he]
    simp (maxSteps:=999999) -dsimp -implicitDefEqProofs only [↓eqD,eqU,eqV,eqW,vbuiltinQ,vlen,vslice,vindex,vstore,Array.toList,simprocAttr,fnWp_some Tryz.func192,Tryz.f192,T0,FB,SH1_at,addH_at,none_at,gR,r61,rOf_lit,rcells_mk,ReaderAt,hre,h1,h12,h13,he,lt6 hid]
    refine VDone.turned hG hid (hu _) ?_ ?_ rfl rfl
    · simp (maxSteps:=999999) -dsimp -implicitDefEqProofs only [↓eqD,eqU,eqV,eqW,vbuiltinQ,vlen,vslice,vindex,vstore,Array.toList,simprocAttr,rcells_mk]
    · intro j hj hji; simp (maxSteps:=999999) -dsimp -implicitDefEqProofs only [↓eqD,eqU,eqV,eqW,vbuiltinQ,vlen,vslice,vindex,vstore,Array.toList,simprocAttr,hji]
  · try rw [if_neg he]
    simp (maxSteps:=999999) -dsimp -implicitDefEqProofs only [↓eqD,eqU,eqV,eqW,vbuiltinQ,vlen,vslice,vindex,vstore,Array.toList,simprocAttr,fnWp_some Tryz.func192,Tryz.f192,T0,FB,h1,he,lt6 hid]
    refine VDone.turned hG hid (hu _) h11 (fun _ _ _ => rfl) rfl rfl
end Go.Vf
set_option linter.unusedVariables false
set_option linter.unusedSimpArgs false
namespace Go.Vf
open Go.Proofs Go.RowKit
theorem okn40 : fnOk Tryz.prog 162 T0 3 = true := by kernel_rfl
set_option maxRecDepth 100000 in
theorem rbin_walk (op : List UInt8) (k : Int) (b : Bool) (m s : Int) (t : List UInt8) (lo hi : Bool) (n : Nat) (cs : List V) (k' : Int) (b' : Bool) (m' s' : Int) (t' : List UInt8) (lo' hi' : Bool) (n' : Nat) (cs' : List V) (h1 : V.closedL cs = true) (h2 : V.closedL cs' = true) (G : Heap) :
    VPure Tryz.prog 162 [.str op, .agg [.int .i64 k, .bool b, .int .i64 m, .int .i64 s, .str t, .bool lo, .bool hi, .sl 8 n cs], .agg [.int .i64 k', .bool b', .int .i64 m', .int .i64 s', .str t', .bool lo', .bool hi', .sl 8 n' cs']] G (.agg [.int .i64 6, .bool false, .int .i64 0, .int .i64 0, .str op, .bool false, .bool false,
      .sl 8 2 [.int .i64 k, .bool b, .int .i64 m, .int .i64 s, .str t, .bool lo, .bool hi, .sl 8 n cs, .int .i64 k', .bool b', .int .i64 m', .int .i64 s', .str t', .bool lo', .bool hi', .sl 8 n' cs']]) := by
  refine VCalls.of (SOk.none _) mixed T0 okn40 fun hG => ?_
  simp (maxSteps:=999999) -dsimp -implicitDefEqProofs only [↓eqD,eqU,eqV,eqW,vbuiltinQ,vlen,vslice,vindex,vstore,Array.toList,simprocAttr,fnWp_some Tryz.func162,Tryz.f162,T0,FB,vreps,vfill,h1,h2]
  have hle : ∀ (l : List V), VLe (.agg [.int .i64 6, .bool false, .int .i64 0, .int .i64 0, .str op, .bool false, .bool false, .slc 8 2 l]) (.agg [.int .i64 6, .bool false, .int .i64 0, .int .i64 0, .str op, .bool false, .bool false, .sl 8 2 l]) :=
    fun l => .agg ⟨.refl _, .refl _, .refl _, .refl _, .refl _, .refl _, .refl _, .slc_sl _ _ _, trivial⟩
  refine .weak (hle _) (VDone.back hG ?_ rfl rfl)
  intro j hj
  simp (maxSteps:=999999) -dsimp -implicitDefEqProofs only [↓eqD,eqU,eqV,eqW,vbuiltinQ,vlen,vslice,vindex,vstore,Array.toList,simprocAttr,lt6 hj]
def isR (T : List Tok) (s : St) (w : List UInt8) : Bool := decide (s.err = 0) && (decide (s.at_ < T.length) && (decide ((T.getD s.at_ ⟨0, [], 0⟩).text = w) && (decide ((T.getD s.at_ ⟨0, [], 0⟩).kind = 4) || (decide ((T.getD s.at_ ⟨0, [], 0⟩).kind = 1) && wordR w))))
theorem isR_lt {T : List Tok} {s : St} {w : List UInt8} (h : isR T s w = true) : s.err = 0 ∧ s.at_ < T.length := by
  unfold isR at h
  simp only [Bool.and_eq_true, decide_eq_true_eq] at h
  exact ⟨h.1, h.2.1⟩
def SW : Specs := Specs.none.add 59 g13
theorem SW_at (f : FuncId) (xs : List V) (G : Heap) : SW f xs G = (Specs.none.add 59 g13) f xs G := rfl
theorem okSW : SOk Tryz.prog SW := (SOk.none _).add fun xs G p v e hp => by
  unfold g13 at e
  split at e
  · cases e; exact wordR_walk _ G
  · cases e
def T53 : Tab := ⟨fun id => if id = 1 then ([0, 1, 2, 3, 4, 5, 6, 7, 8, 9, 10, 11, 12, 13, 14, 15, 16], []) else if id = 3 then ([0, 1, 2, 3, 4, 5, 6, 7, 8, 9, 10, 11], [(3, 10), (7, 10), (9, 10)]) else ([], []), fun _ => false⟩
theorem T53_ord (id : Nat) : T53.ord id = if id = 1 then ([0, 1, 2, 3, 4, 5, 6, 7, 8, 9, 10, 11, 12, 13, 14, 15, 16], []) else if id = 3 then ([0, 1, 2, 3, 4, 5, 6, 7, 8, 9, 10, 11], [(3, 10), (7, 10), (9, 10)]) else ([], []) := rfl
theorem T53_ghost (id : Nat) : T53.ghost id = false := rfl
theorem okn53 : fnOk Tryz.prog 194 T53 2 = true := by kernel_rfl
set_option maxRecDepth 100000 in
theorem isr_walk {T : List Tok} {en : Int} {s : St} {id : Nat} {G : Heap} (h : ReaderAt G id T en s) (w : List UInt8) : VCalls Tryz.prog 194 [.ptr id 0 0, .str w] G (Stays G (.bool (isR T s w))) := by
  refine VCalls.of okSW mixed T53 okn53 fun hG => ?_
  have hid := hG.lt h.1
  have h1 := h.1
  rw [rcells_eq] at h1
  unfold isR
  by_cases he : s.err = 0
  · by_cases ha : s.at_ < T.length
    · have hx := toks_at ha
      have hT : T.getD s.at_ ⟨0, [], 0⟩ = T[s.at_] := by simp [List.getD, ha]
      rw [hT]
      generalize T[s.at_] = t at hx hT
      have c1 : ¬(T.length : Int) ≤ (s.at_ : Int) := by omega
      by_cases ht : t.text = w
      · by_cases hk : t.kind = 4
        · simp (maxSteps:=999999) -dsimp -implicitDefEqProofs only [↓eqD,eqU,eqV,eqW,vbuiltinQ,vlen,vslice,vindex,vstore,Array.toList,simprocAttr,fnWp_some Tryz.func194,Tryz.f194,T53_ord,T53_ghost,FB,SW_at,add_at,none_at,g13,h1,he,c1,hx,Tok.cells,ht,hk,ne_eq,lt6 hid]
          refine ⟨by omega, VDone.back hG (fun j hj => ?_) rfl (by simp [ha])⟩
          simp (maxSteps:=999999) -dsimp -implicitDefEqProofs only [↓eqD,eqU,eqV,eqW,vbuiltinQ,vlen,vslice,vindex,vstore,Array.toList,simprocAttr,lt6 hj]
        · by_cases hk1 : t.kind = 1
          · simp (maxSteps:=999999) -dsimp -implicitDefEqProofs only [↓eqD,eqU,eqV,eqW,vbuiltinQ,vlen,vslice,vindex,vstore,Array.toList,simprocAttr,fnWp_some Tryz.func194,Tryz.f194,T53_ord,T53_ghost,FB,SW_at,add_at,none_at,g13,h1,he,c1,hx,Tok.cells,ht,hk1,ne_eq,Int.reduceEq,lt6 hid]
            refine ⟨by omega, VDone.back hG (fun j hj => ?_) rfl (by simp [ha])⟩
            simp (maxSteps:=999999) -dsimp -implicitDefEqProofs only [↓eqD,eqU,eqV,eqW,vbuiltinQ,vlen,vslice,vindex,vstore,Array.toList,simprocAttr,lt6 hj]
          · simp (maxSteps:=999999) -dsimp -implicitDefEqProofs only [↓eqD,eqU,eqV,eqW,vbuiltinQ,vlen,vslice,vindex,vstore,Array.toList,simprocAttr,fnWp_some Tryz.func194,Tryz.f194,T53_ord,T53_ghost,FB,SW_at,add_at,none_at,g13,h1,he,c1,hx,Tok.cells,ht,hk,hk1,ne_eq,lt6 hid]
            refine ⟨by omega, VDone.back hG (fun j hj => ?_) rfl (by simp)⟩
            simp (maxSteps:=999999) -dsimp -implicitDefEqProofs only [↓eqD,eqU,eqV,eqW,vbuiltinQ,vlen,vslice,vindex,vstore,Array.toList,simprocAttr,lt6 hj]
      · simp (maxSteps:=999999) -dsimp -implicitDefEqProofs only [↓eqD,eqU,eqV,eqW,vbuiltinQ,vlen,vslice,vindex,vstore,Array.toList,simprocAttr,fnWp_some Tryz.func194,Tryz.f194,T53_ord,T53_ghost,FB,SW_at,add_at,none_at,g13,h1,he,c1,hx,Tok.cells,ht,ne_eq,lt6 hid]
        refine ⟨by omega, VDone.back hG (fun j hj => ?_) rfl (by simp)⟩
        simp (maxSteps:=999999) -dsimp -implicitDefEqProofs only [↓eqD,eqU,eqV,eqW,vbuiltinQ,vlen,vslice,vindex,vstore,Array.toList,simprocAttr,lt6 hj]
    · have c1 : (T.length : Int) ≤ (s.at_ : Int) := by omega
      simp (maxSteps:=999999) -dsimp -implicitDefEqProofs only [↓eqD,eqU,eqV,eqW,vbuiltinQ,vlen,vslice,vindex,vstore,Array.toList,simprocAttr,fnWp_some Tryz.func194,Tryz.f194,T53_ord,T53_ghost,FB,SW_at,add_at,none_at,g13,h1,he,c1,ne_eq,lt6 hid]
      exact VDone.back hG (fun _ _ => rfl) rfl (by simp [ha])
  · simp (maxSteps:=999999) -dsimp -implicitDefEqProofs only [↓eqD,eqU,eqV,eqW,vbuiltinQ,vlen,vslice,vindex,vstore,Array.toList,simprocAttr,fnWp_some Tryz.func194,Tryz.f194,T53_ord,T53_ghost,FB,SW_at,add_at,none_at,g13,h1,he,ne_eq,lt6 hid]
    exact VDone.back hG (fun _ _ => rfl) rfl (by simp)
def r53 (T : List Tok) (en : Int) (s : St) : List V → Option (V × St)
  | [.str w] => some (.bool (isR T s w), s)
  | _ => none
def SI2 : Specs := Specs.none.addH 194 (gR r53)
theorem SI2_at (f : FuncId) (xs : List V) (G : Heap) : SI2 f xs G = (Specs.none.addH 194 (gR r53)) f xs G := rfl
theorem okSI2 : SOk Tryz.prog SI2 := okR (SOk.none _) fun T en s id G xs v s' h e => by
  unfold r53 at e
  split at e
  · cases e
    rw [put_same h.1]
    exact isr_walk h _
  · cases e
def takeR (T : List Tok) (s : St) : List (List UInt8) → List UInt8 × St
  | [] => ([], s)
  | w :: r => if isR T s w = true then (w, nextS s) else takeR T s r
theorem takeR_goes {T : List Tok} {s : St} (h : s.at_ ≤ T.length) : ∀ ws, s.at_ ≤ (takeR T s ws).2.at_ ∧ (takeR T s ws).2.at_ ≤ T.length
  | [] => ⟨Nat.le_refl _, h⟩
  | w :: r => by
    unfold takeR
    split
    · rename_i c
      have := (isR_lt c).2
      exact ⟨Nat.le_succ _, this⟩
    · exact takeR_goes h r
theorem okn39 : fnOk Tryz.prog 161 T0 2 = true := by kernel_rfl
set_option maxRecDepth 100000 in
theorem take_walk {T : List Tok} {en : Int} {s : St} {id : Nat} {G : Heap} (h : ReaderAt G id T en s) (ws : List (List UInt8)) (hw : ws.length ≤ 100) : VCalls Tryz.prog 161 [.ptr id 0 0, .slc 1 ws.length (ws.map .str)] G fun u H => u = .str (takeR T s ws).1 ∧ H = G.put id (.cells 0 (rcells T en (takeR T s ws).2)) := by
  refine VCalls.of okSI2 mixed T0 okn39 fun hG => ?_
  have hid := hG.lt h.1
  have hu := fun s' => rcells_under T en s' G.next
  have h11 := h.1
  have h12 := h.2.1
  have h13 := h.2.2
  simp (maxSteps:=999999) -dsimp -implicitDefEqProofs only [↓eqD,eqU,eqV,eqW,vbuiltinQ,vlen,vslice,vindex,vstore,Array.toList,simprocAttr,fnWp_some Tryz.func161,Tryz.f161,T0,FB,SI2_at,addH_at,none_at,gR,r53]
  refine vloop_by (fun i : Nat => i ≤ ws.length ∧ takeR T s (ws.drop i) = takeR T s ws) (fun i => Env.of [(0, .ptr id 0 0), (1, .slc 1 ws.length (ws.map .str)), (5, .int .i64 (i : Nat))]) (fun _ => G.over G.next []) (fun i => ws.length - i) 0 ?_ ?_ ?_
  · refine .of ?_ (.over hG rfl trivial (fun _ _ => rfl))
    simp (maxSteps:=999999) -dsimp -implicitDefEqProofs only [↓eqD,eqU,eqV,eqW,vbuiltinQ,vlen,vslice,vindex,vstore,Array.toList,simprocAttr]
    (repeat' apply And.intro) <;> exact .refl _
  · exact ⟨Nat.zero_le _, rfl⟩
  · rintro i ⟨h1, hi⟩
    have hov : (G.over G.next []).get id = some (.cells 0 (rcells T en s)) := h.1
    by_cases hlt : i < ws.length
    · have hx := velem_map (f := V.str) hlt
      rw [List.drop_eq_getElem_cons hlt, takeR] at hi
      have w1 : IntKind.wrap .i64 ((i : Int) + 1) = ((i + 1 : Nat) : Int) := by rw [w64 (by omega) (by omega)]; rfl
      have wa : IntKind.wrap .i64 ((s.at_ : Int) + 1) = ((s.at_ + 1 : Nat) : Int) := by rw [w64 (by omega) (by omega)]; rfl
      have c1 : (i : Int) < (ws.length : Int) := by omega
      generalize ws[i] = x at hx hi
      cases hc : isR T s x with
      | true =>
        rw [if_pos hc] at hi
        have hlt' := (isR_lt hc).2
        have hre := rcells_eq T en s
        rw [hre] at hov
        simp (maxSteps:=999999) -dsimp -implicitDefEqProofs only [↓eqD,eqU,eqV,eqW,vbuiltinQ,vlen,vslice,vindex,vstore,Array.toList,simprocAttr,T0,FB,SI2_at,addH_at,none_at,gR,r53,hov,rOf_lit,St_eta,hre,ReaderAt,h12,h13,hx,w1,wa,c1,hc]
        refine ⟨by omega, by omega, ?_⟩
        rw [← hi]
        refine VDone.turned hG hid (hu _) ?_ ?_ rfl rfl
        · simp (maxSteps:=999999) -dsimp -implicitDefEqProofs only [↓eqD,eqU,eqV,eqW,vbuiltinQ,vlen,vslice,vindex,vstore,Array.toList,simprocAttr]
          first | done | rfl
        · intro j hj hji; simp (maxSteps:=999999) -dsimp -implicitDefEqProofs only [↓eqD,eqU,eqV,eqW,vbuiltinQ,vlen,vslice,vindex,vstore,Array.toList,simprocAttr,hji]
          first | done | rfl
      | false =>
        rw [if_neg (by rw [hc]; decide)] at hi
        simp (maxSteps:=999999) -dsimp -implicitDefEqProofs only [↓eqD,eqU,eqV,eqW,vbuiltinQ,vlen,vslice,vindex,vstore,Array.toList,simprocAttr,T0,FB,SI2_at,addH_at,none_at,gR,r53,hov,rOf_rcells,ReaderAt,h12,h13,hx,w1,wa,c1,hc]
        refine ⟨by omega, i + 1, ⟨by omega, hi⟩, by omega, .of ?_ (.over hG rfl trivial ?_)⟩
        · simp (maxSteps:=999999) -dsimp -implicitDefEqProofs only [↓eqD,eqU,eqV,eqW,vbuiltinQ,vlen,vslice,vindex,vstore,Array.toList,simprocAttr]
          (repeat' apply And.intro) <;> exact .refl _
        · intro j hj
          by_cases hji : j = id
          · subst hji; simp (maxSteps:=999999) -dsimp -implicitDefEqProofs only [↓eqD,eqU,eqV,eqW,vbuiltinQ,vlen,vslice,vindex,vstore,Array.toList,simprocAttr,h11]
          · simp (maxSteps:=999999) -dsimp -implicitDefEqProofs only [↓eqD,eqU,eqV,eqW,vbuiltinQ,vlen,vslice,vindex,vstore,Array.toList,simprocAttr,hji]
            first | done | rfl
    · have c1 : ¬(i : Int) < (ws.length : Int) := by omega
      have hd : ws.drop i = [] := List.drop_eq_nil_of_le (by omega)
      rw [hd, takeR] at hi
      simp (maxSteps:=999999) -dsimp -implicitDefEqProofs only [↓eqD,eqU,eqV,eqW,vbuiltinQ,vlen,vslice,vindex,vstore,Array.toList,simprocAttr,T0,FB,c1]
      rw [← hi]
      exact VDone.turned hG hid (hu _) h11 (fun _ _ _ => rfl) rfl rfl
def unstr : List V → Option (List (List UInt8))
  | [] => some []
  | .str s :: r => (unstr r).map fun l => s :: l
  | _ => none
theorem unstr_map (ws : List (List UInt8)) : unstr (ws.map .str) = some ws := by
  induction ws with
  | nil => rfl
  | cons a r ih => simp [unstr, ih]
def g39 : List V → Heap → Option (Prop × V × Heap)
  | [.ptr id 0 0, .slc 1 n x], G => match rOf (G.get id), unstr x with
    | some (T, en, s), some ws => some ((ReaderAt G id T en s ∧ ws.length ≤ 100) ∧ n = ws.length ∧ x = ws.map .str, .str (takeR T s ws).1, G.put id (.cells 0 (rcells T en (takeR T s ws).2)))
    | _, _ => none
  | _, _ => none
def r51 (T : List Tok) (en : Int) (s : St) : List V → Option (V × St)
  | [.int .i64 e] => some (.tup [], errsT T en s e)
  | _ => none
def SQ : Specs := (Specs.none.addH 161 g39).addH 192 (gR r51)
theorem SQ_at (f : FuncId) (xs : List V) (G : Heap) : SQ f xs G = ((Specs.none.addH 161 g39).addH 192 (gR r51)) f xs G := rfl
theorem okSQ : SOk Tryz.prog SQ := by
  refine okR ((SOk.none _).addH ?_) ?_
  · intro xs G p v G' e hp
    unfold g39 at e
    split at e
    · split at e
      · cases e
        obtain ⟨⟨h1, h2⟩, h3, h4⟩ := hp
        rw [h3, h4]
        exact take_walk h1 _ h2
      · cases e
    · cases e
  · intro T en s id G xs v s' h e
    unfold r51 at e
    split at e
    · cases e; exact fail_walk h _
    · cases e
def mustR (T : List Tok) (en : Int) (s : St) (ws : List (List UInt8)) : List UInt8 × St := if (takeR T s ws).1 = [] then ((takeR T s ws).1, errsT T en (takeR T s ws).2 2) else takeR T s ws
theorem okn63 : fnOk Tryz.prog 209 T0 2 = true := by kernel_rfl
set_option maxRecDepth 100000 in
theorem mustr_walk {T : List Tok} {en : Int} {s : St} {id : Nat} {G : Heap} (h : ReaderAt G id T en s) (ws : List (List UInt8)) (hw : ws.length ≤ 100) : VCalls Tryz.prog 209 [.ptr id 0 0, .slc 1 ws.length (ws.map .str)] G fun u H => u = .str (mustR T en s ws).1 ∧ H = G.put id (.cells 0 (rcells T en (mustR T en s ws).2)) := by
  refine VCalls.of okSQ mixed T0 okn63 fun hG => ?_
  have hid := hG.lt h.1
  have hu := fun s' => rcells_under T en s' G.next
  have h11 := h.1
  have h12 := h.2.1
  have h13 := h.2.2
  have h2 := takeR_goes h.2.2 ws
  have h22 := h2.2
  unfold mustR
  by_cases hc : (takeR T s ws).1 = []
  · rw [if_pos hc]
    simp (maxSteps:=999999) -dsimp -implicitDefEqProofs only [↓eqD,eqU,eqV,eqW,vbuiltinQ,vlen,vslice,vindex,vstore,Array.toList,simprocAttr,fnWp_some Tryz.func209,Tryz.f209,T0,FB,SQ_at,addH_at,none_at,g39,gR,r51,h11,rOf_rcells,unstr_map,ReaderAt,h12,h13,hw,hc,h22]
    refine VDone.turned hG hid (hu _) ?_ ?_ rfl rfl
    · simp (maxSteps:=999999) -dsimp -implicitDefEqProofs only [↓eqD,eqU,eqV,eqW,vbuiltinQ,vlen,vslice,vindex,vstore,Array.toList,simprocAttr]
    · intro j hj hji; simp (maxSteps:=999999) -dsimp -implicitDefEqProofs only [↓eqD,eqU,eqV,eqW,vbuiltinQ,vlen,vslice,vindex,vstore,Array.toList,simprocAttr,hji]
  · try rw [if_neg hc]
    simp (maxSteps:=999999) -dsimp -implicitDefEqProofs only [↓eqD,eqU,eqV,eqW,vbuiltinQ,vlen,vslice,vindex,vstore,Array.toList,simprocAttr,fnWp_some Tryz.func209,Tryz.f209,T0,FB,SQ_at,addH_at,none_at,g39,gR,r51,h11,rOf_rcells,unstr_map,ReaderAt,h12,h13,hw,hc,h22]
    refine VDone.turned hG hid (hu _) ?_ ?_ rfl rfl
    · simp (maxSteps:=999999) -dsimp -implicitDefEqProofs only [↓eqD,eqU,eqV,eqW,vbuiltinQ,vlen,vslice,vindex,vstore,Array.toList,simprocAttr]
    · intro j hj hji; simp (maxSteps:=999999) -dsimp -implicitDefEqProofs only [↓eqD,eqU,eqV,eqW,vbuiltinQ,vlen,vslice,vindex,vstore,Array.toList,simprocAttr,hji]
theorem okn37 : fnOk Tryz.prog 159 T0 2 = true := by kernel_rfl
end Go.Vf
set_option linter.unusedVariables false
set_option linter.unusedSimpArgs false
namespace Go.Vf
open Go.Proofs Go.RowKit
def RKidAt (T : List Tok) (en : Int) (id : Nat) (f : FuncId) (d : Int) (kid : Kid) : Prop :=
  ∀ s H, ReaderAt H id T en s → VCalls Tryz.prog f [.ptr id 0 0, .int .i64 d] H fun u H' => u = .agg (kid s).1.cells ∧ H' = H.put id (.cells 0 (rcells T en (kid s).2))
def opR (T : List Tok) (ws : List (List UInt8)) : St → List UInt8 × St := fun s => takeR T s ws
theorem takeR_adv {T : List Tok} {s : St} : ∀ ws, (takeR T s ws).1 ≠ [] → s.at_ < (takeR T s ws).2.at_
  | [], h => (h rfl).elim
  | w :: r, h => by
    unfold takeR at h ⊢
    split
    · exact Nat.lt_succ_self _
    · rename_i c
      rw [if_neg c] at h
      exact takeR_adv r h
theorem steps_take (T : List Tok) (ws : List (List UInt8)) : Steps T (opR T ws) := fun s h =>
  ⟨(takeR_goes h ws).1, (takeR_goes h ws).2, takeR_adv ws⟩
def sumsW : List (List UInt8) := [[43], [45]]
def productsW : List (List UInt8) := [[42], [47]]
def SRB : Specs := (Specs.none.addH 161 g39).add 162 g47
theorem SRB_at (f : FuncId) (xs : List V) (G : Heap) : SRB f xs G = ((Specs.none.addH 161 g39).add 162 g47) f xs G := rfl
theorem ok39 {P : Specs} (hP : SOk Tryz.prog P) : SOk Tryz.prog (P.addH 161 g39) := by
  refine hP.addH ?_
  intro xs G p v G' e hp
  unfold g39 at e
  split at e
  · split at e
    · cases e
      obtain ⟨⟨h1, h2⟩, h3, h4⟩ := hp
      rw [h3, h4]
      exact take_walk h1 _ h2
    · cases e
  · cases e
theorem ok40 {P : Specs} (hP : SOk Tryz.prog P) : SOk Tryz.prog (P.add 162 g47) := by
  refine hP.add ?_
  intro xs G p v e hp
  unfold g47 at e
  split at e
  · cases e; exact rbin_walk _ _ _ _ _ _ _ _ _ _ _ _ _ _ _ _ _ _ _ hp.1 hp.2 G
  · cases e
theorem okSRB : SOk Tryz.prog SRB := ok40 (ok39 (SOk.none _))
theorem unstr_cons (s : List UInt8) (r : List V) : unstr (.str s :: r) = (unstr r).map fun l => s :: l := rfl
theorem unstr_nil : unstr [] = some [] := rfl
theorem map_str_cons (s : List UInt8) (r : List (List UInt8)) : (s :: r).map V.str = .str s :: r.map V.str := rfl
theorem map_str_nil : ([] : List (List UInt8)).map V.str = [] := rfl
def T74 : Tab := ⟨fun id => if id = 5 then ([0, 1, 2, 3, 4, 5, 6], [(1, 4)]) else ([], []), fun _ => false⟩
theorem T74_ord (id : Nat) : T74.ord id = if id = 5 then ([0, 1, 2, 3, 4, 5, 6], [(1, 4)]) else ([], []) := rfl
theorem T74_ghost (id : Nat) : T74.ghost id = false := rfl
theorem okn74 : fnOk Tryz.prog 215 T74 2 = true := by kernel_rfl
theorem productsW_fold (T : List Tok) (s : St) : takeR T s [[42], [47]] = opR T productsW s := rfl
set_option maxRecDepth 100000 in
theorem mulr_walk {T : List Tok} {en : Int} {id : Nat} {d : Int} {kid : Kid} (hk : RKidAt T en id 223 d kid) (mk : Goes T kid) : RKidAt T en id 215 d (rowP T kid (opR T productsW)) := fun s G h => by
  refine VCalls.of okSRB mixed T74 okn74 fun hG => ?_
  have hid := hG.lt h.1
  have hu := fun s' => rcells_under T en s' G.next
  have h12 := h.2.1
  have mo := steps_take T productsW
  simp (maxSteps:=999999) -dsimp -implicitDefEqProofs only [↓eqD,eqU,eqV,eqW,vbuiltinQ,vlen,vslice,vindex,vstore,Array.toList,simprocAttr,fnWp_some Tryz.func215,Tryz.f215,T74_ord,T74_ghost,FB,SRB_at,add_at,addH_at,none_at,lt6 hid]
  refine (hk s _ ⟨by simp (maxSteps:=999999) -dsimp -implicitDefEqProofs only [↓eqD,eqU,eqV,eqW,vbuiltinQ,vlen,vslice,vindex,vstore,Array.toList,simprocAttr,lt6 hid]; exact h.1, h.2.1, h.2.2⟩).mono ?_
  rintro _ _ ⟨rfl, rfl⟩
  have m1 := mk s h.2.2
  unfold rowP
  generalize kid s = ks at *
  obtain ⟨⟨k0, b0, m0, s0, t0, lo0, hi0, kids0⟩, s1⟩ := ks
  simp (maxSteps:=999999) -dsimp -implicitDefEqProofs only [↓eqD,eqU,eqV,eqW,vbuiltinQ,vlen,vslice,vindex,vstore,Array.toList,simprocAttr,Ex.cells,FB,T74_ord,T74_ghost,SRB_at,add_at,addH_at,none_at,lt6 hid]
  refine vloop_by (fun x : Nat × Ex × St => x.2.2.at_ ≤ T.length ∧ T.length < x.2.2.at_ + x.1 ∧ rowGo kid (opR T productsW) x.1 x.2.1 x.2.2 = rowGo kid (opR T productsW) (T.length + 1) (Ex.mk k0 b0 m0 s0 t0 lo0 hi0 kids0) s1)
    (fun x => Env.of [(0, .ptr id 0 0), (1, .int .i64 d), (4, .ptr G.next 0 0), (5, .ptr (G.next + 1) 0 0)])
    (fun x => (G.put id (.cells 0 (rcells T en x.2.2))).over (G.next + 2) [(G.next, .cells 0 zeroE), (G.next + 1, .cells 0 x.2.1.cells)]) (fun x => x.1)
    (T.length + 1, Ex.mk k0 b0 m0 s0 t0 lo0 hi0 kids0, s1) ?_ ?_ ?_
  · refine .of ?_ (.over (hG.put hid (hu _)) ?_ ?_ ?_)
    · simp (maxSteps:=999999) -dsimp -implicitDefEqProofs only [↓eqD,eqU,eqV,eqW,vbuiltinQ,vlen,vslice,vindex,vstore,Array.toList,simprocAttr]
      (repeat' apply And.intro) <;> exact .refl _
    · simp (maxSteps:=999999) -dsimp -implicitDefEqProofs only [↓eqD,eqU,eqV,eqW,vbuiltinQ,vlen,vslice,vindex,vstore,Array.toList,simprocAttr]
    · simp (maxSteps:=999999) -dsimp -implicitDefEqProofs only [↓eqD,eqU,eqV,eqW,vbuiltinQ,vlen,vslice,vindex,vstore,Array.toList,simprocAttr,FB,lt6 hid,zeroE,Ex.cells]
    · intro j hj
      have hj : j < G.next := hj
      by_cases hji : j = id <;> simp (maxSteps:=999999) -dsimp -implicitDefEqProofs only [↓eqD,eqU,eqV,eqW,vbuiltinQ,vlen,vslice,vindex,vstore,Array.toList,simprocAttr,lt6 hj,hji,lt6 hid]
  · exact ⟨m1.2, by simp only; omega, rfl⟩
  · rintro ⟨f, e, s2⟩ ⟨a1, a2, a3⟩
    simp only at a1 a2 a3
    have m3 := mo s2 a1
    obtain ⟨k1, b1, m1', s1', t1, lo1, hi1, kids1⟩ := e
    have hid2 : id < G.next := hid
    obtain ⟨f', rfl⟩ : ∃ f', f = f' + 1 := ⟨f - 1, by omega⟩
    rw [rowGo] at a3
    by_cases hop : (opR T productsW s2).1 = []
    · rw [if_pos hop] at a3
      rw [← a3]
      simp (maxSteps:=999999) -dsimp -implicitDefEqProofs only [↓eqD,eqU,eqV,eqW,vbuiltinQ,vlen,vslice,vindex,vstore,Array.toList,simprocAttr,FB,T74_ord,T74_ghost,SRB_at,add_at,addH_at,none_at,vreps,vfill,g39,unstr_cons,unstr_nil,map_str_cons,map_str_nil,rOf_rcells,ReaderAt,h12,a1,lt6 hid,productsW_fold,hop,ne_eq,Ex.cells,zeroE]
      refine VDone.turned hG hid (hu _) ?_ ?_ rfl rfl
      · simp (maxSteps:=999999) -dsimp -implicitDefEqProofs only [↓eqD,eqU,eqV,eqW,vbuiltinQ,vlen,vslice,vindex,vstore,Array.toList,simprocAttr,lt6 hid]
      · intro j hj hji; simp (maxSteps:=999999) -dsimp -implicitDefEqProofs only [↓eqD,eqU,eqV,eqW,vbuiltinQ,vlen,vslice,vindex,vstore,Array.toList,simprocAttr,lt6 hj,hji]
    · try rw [if_neg hop] at a3
      have m4 := mk _ m3.2.1
      simp (maxSteps:=999999) -dsimp -implicitDefEqProofs only [↓eqD,eqU,eqV,eqW,vbuiltinQ,vlen,vslice,vindex,vstore,Array.toList,simprocAttr,FB,T74_ord,T74_ghost,SRB_at,add_at,addH_at,none_at,vreps,vfill,g39,unstr_cons,unstr_nil,map_str_cons,map_str_nil,rOf_rcells,ReaderAt,h12,a1,lt6 hid,productsW_fold,hop,ne_eq,Ex.cells,zeroE]
      refine (hk (opR T productsW s2).2 _ ⟨by simp (maxSteps:=999999) -dsimp -implicitDefEqProofs only [↓eqD,eqU,eqV,eqW,vbuiltinQ,vlen,vslice,vindex,vstore,Array.toList,simprocAttr,lt6 hid], h.2.1, m3.2.1⟩).mono ?_
      rintro _ _ ⟨rfl, rfl⟩
      generalize hks : kid (opR T productsW s2).2 = ks at *
      obtain ⟨⟨k2, b2, m2', s2', t2, lo2, hi2, kids2⟩, s3⟩ := ks
      have c1 := exsC_closed kids1
      have c2 := exsC_closed kids2
      simp (maxSteps:=999999) -dsimp -implicitDefEqProofs only [↓eqD,eqU,eqV,eqW,vbuiltinQ,vlen,vslice,vindex,vstore,Array.toList,simprocAttr,FB,T74_ord,T74_ghost,SRB_at,add_at,addH_at,none_at,lt6 hid,Ex.cells,zeroE,g47,c1,c2]
      refine ⟨(f', Ex.bin (opR T productsW s2).1 (.mk k1 b1 m1' s1' t1 lo1 hi1 kids1) (.mk k2 b2 m2' s2' t2 lo2 hi2 kids2), s3), ⟨m4.2, ?_, a3⟩, by simp only; omega, .of ?_ (.over (hG.put hid (hu _)) ?_ ?_ ?_)⟩
      · have := m3.2.2 hop
        simp only at m4 ⊢
        omega
      · simp (maxSteps:=999999) -dsimp -implicitDefEqProofs only [↓eqD,eqU,eqV,eqW,vbuiltinQ,vlen,vslice,vindex,vstore,Array.toList,simprocAttr]
        (repeat' apply And.intro) <;> exact .refl _
      · simp (maxSteps:=999999) -dsimp -implicitDefEqProofs only [↓eqD,eqU,eqV,eqW,vbuiltinQ,vlen,vslice,vindex,vstore,Array.toList,simprocAttr]
      · simp (maxSteps:=999999) -dsimp -implicitDefEqProofs only [↓eqD,eqU,eqV,eqW,vbuiltinQ,vlen,vslice,vindex,vstore,Array.toList,simprocAttr,FB,lt6 hid,zeroE,Ex.cells,Ex.bin,exsC,List.append_nil]
      · intro j hj
        have hj : j < G.next := hj
        by_cases hji : j = id <;> simp (maxSteps:=999999) -dsimp -implicitDefEqProofs only [↓eqD,eqU,eqV,eqW,vbuiltinQ,vlen,vslice,vindex,vstore,Array.toList,simprocAttr,lt6 hj,hji,lt6 hid]
def T62 : Tab := ⟨fun id => if id = 5 then ([0, 1, 2, 3, 4, 5, 6], [(1, 4)]) else ([], []), fun _ => false⟩
theorem T62_ord (id : Nat) : T62.ord id = if id = 5 then ([0, 1, 2, 3, 4, 5, 6], [(1, 4)]) else ([], []) := rfl
theorem T62_ghost (id : Nat) : T62.ghost id = false := rfl
theorem okn62 : fnOk Tryz.prog 208 T62 2 = true := by kernel_rfl
theorem sumsW_fold (T : List Tok) (s : St) : takeR T s [[43], [45]] = opR T sumsW s := rfl
set_option maxRecDepth 100000 in
theorem addr_walk {T : List Tok} {en : Int} {id : Nat} {d : Int} {kid : Kid} (hk : RKidAt T en id 215 d kid) (mk : Goes T kid) : RKidAt T en id 208 d (rowP T kid (opR T sumsW)) := fun s G h => by
  refine VCalls.of okSRB mixed T62 okn62 fun hG => ?_
  have hid := hG.lt h.1
  have hu := fun s' => rcells_under T en s' G.next
  have h12 := h.2.1
  have mo := steps_take T sumsW
  simp (maxSteps:=999999) -dsimp -implicitDefEqProofs only [↓eqD,eqU,eqV,eqW,vbuiltinQ,vlen,vslice,vindex,vstore,Array.toList,simprocAttr,fnWp_some Tryz.func208,Tryz.f208,T62_ord,T62_ghost,FB,SRB_at,add_at,addH_at,none_at,lt6 hid]
  refine (hk s _ ⟨by simp (maxSteps:=999999) -dsimp -implicitDefEqProofs only [↓eqD,eqU,eqV,eqW,vbuiltinQ,vlen,vslice,vindex,vstore,Array.toList,simprocAttr,lt6 hid]; exact h.1, h.2.1, h.2.2⟩).mono ?_
  rintro _ _ ⟨rfl, rfl⟩
  have m1 := mk s h.2.2
  unfold rowP
  generalize kid s = ks at *
  obtain ⟨⟨k0, b0, m0, s0, t0, lo0, hi0, kids0⟩, s1⟩ := ks
  simp (maxSteps:=999999) -dsimp -implicitDefEqProofs only [↓eqD,eqU,eqV,eqW,vbuiltinQ,vlen,vslice,vindex,vstore,Array.toList,simprocAttr,Ex.cells,FB,T62_ord,T62_ghost,SRB_at,add_at,addH_at,none_at,lt6 hid]
  refine vloop_by (fun x : Nat × Ex × St => x.2.2.at_ ≤ T.length ∧ T.length < x.2.2.at_ + x.1 ∧ rowGo kid (opR T sumsW) x.1 x.2.1 x.2.2 = rowGo kid (opR T sumsW) (T.length + 1) (Ex.mk k0 b0 m0 s0 t0 lo0 hi0 kids0) s1)
    (fun x => Env.of [(0, .ptr id 0 0), (1, .int .i64 d), (4, .ptr G.next 0 0), (5, .ptr (G.next + 1) 0 0)])
    (fun x => (G.put id (.cells 0 (rcells T en x.2.2))).over (G.next + 2) [(G.next, .cells 0 zeroE), (G.next + 1, .cells 0 x.2.1.cells)]) (fun x => x.1)
    (T.length + 1, Ex.mk k0 b0 m0 s0 t0 lo0 hi0 kids0, s1) ?_ ?_ ?_
  · refine .of ?_ (.over (hG.put hid (hu _)) ?_ ?_ ?_)
    · simp (maxSteps:=999999) -dsimp -implicitDefEqProofs only [↓eqD,eqU,eqV,eqW,vbuiltinQ,vlen,vslice,vindex,vstore,Array.toList,simprocAttr]
      (repeat' apply And.intro) <;> exact .refl _
    · simp (maxSteps:=999999) -dsimp -implicitDefEqProofs only [↓eqD,eqU,eqV,eqW,vbuiltinQ,vlen,vslice,vindex,vstore,Array.toList,simprocAttr]
    · simp (maxSteps:=999999) -dsimp -implicitDefEqProofs only [↓eqD,eqU,eqV,eqW,vbuiltinQ,vlen,vslice,vindex,vstore,Array.toList,simprocAttr,FB,lt6 hid,zeroE,Ex.cells]
    · intro j hj
      have hj : j < G.next := hj
      by_cases hji : j = id <;> simp (maxSteps:=999999) -dsimp -implicitDefEqProofs only [↓eqD,eqU,eqV,eqW,vbuiltinQ,vlen,vslice,vindex,vstore,Array.toList,simprocAttr,lt6 hj,hji,lt6 hid]
  · exact ⟨m1.2, by simp only; omega, rfl⟩
  · rintro ⟨f, e, s2⟩ ⟨a1, a2, a3⟩
    simp only at a1 a2 a3
    have m3 := mo s2 a1
    obtain ⟨k1, b1, m1', s1', t1, lo1, hi1, kids1⟩ := e
    have hid2 : id < G.next := hid
    obtain ⟨f', rfl⟩ : ∃ f', f = f' + 1 := ⟨f - 1, by omega⟩
    rw [rowGo] at a3
    by_cases hop : (opR T sumsW s2).1 = []
    · rw [if_pos hop] at a3
      rw [← a3]
      simp (maxSteps:=999999) -dsimp -implicitDefEqProofs only [↓eqD,eqU,eqV,eqW,vbuiltinQ,vlen,vslice,vindex,vstore,Array.toList,simprocAttr,FB,T62_ord,T62_ghost,SRB_at,add_at,addH_at,none_at,vreps,vfill,g39,unstr_cons,unstr_nil,map_str_cons,map_str_nil,rOf_rcells,ReaderAt,h12,a1,lt6 hid,sumsW_fold,hop,ne_eq,Ex.cells,zeroE]
      refine VDone.turned hG hid (hu _) ?_ ?_ rfl rfl
      · simp (maxSteps:=999999) -dsimp -implicitDefEqProofs only [↓eqD,eqU,eqV,eqW,vbuiltinQ,vlen,vslice,vindex,vstore,Array.toList,simprocAttr,lt6 hid]
      · intro j hj hji; simp (maxSteps:=999999) -dsimp -implicitDefEqProofs only [↓eqD,eqU,eqV,eqW,vbuiltinQ,vlen,vslice,vindex,vstore,Array.toList,simprocAttr,lt6 hj,hji]
    · try rw [if_neg hop] at a3
      have m4 := mk _ m3.2.1
      simp (maxSteps:=999999) -dsimp -implicitDefEqProofs only [↓eqD,eqU,eqV,eqW,vbuiltinQ,vlen,vslice,vindex,vstore,Array.toList,simprocAttr,FB,T62_ord,T62_ghost,SRB_at,add_at,addH_at,none_at,vreps,vfill,g39,unstr_cons,unstr_nil,map_str_cons,map_str_nil,rOf_rcells,ReaderAt,h12,a1,lt6 hid,sumsW_fold,hop,ne_eq,Ex.cells,zeroE]
      refine (hk (opR T sumsW s2).2 _ ⟨by simp (maxSteps:=999999) -dsimp -implicitDefEqProofs only [↓eqD,eqU,eqV,eqW,vbuiltinQ,vlen,vslice,vindex,vstore,Array.toList,simprocAttr,lt6 hid], h.2.1, m3.2.1⟩).mono ?_
      rintro _ _ ⟨rfl, rfl⟩
      generalize hks : kid (opR T sumsW s2).2 = ks at *
      obtain ⟨⟨k2, b2, m2', s2', t2, lo2, hi2, kids2⟩, s3⟩ := ks
      have c1 := exsC_closed kids1
      have c2 := exsC_closed kids2
      simp (maxSteps:=999999) -dsimp -implicitDefEqProofs only [↓eqD,eqU,eqV,eqW,vbuiltinQ,vlen,vslice,vindex,vstore,Array.toList,simprocAttr,FB,T62_ord,T62_ghost,SRB_at,add_at,addH_at,none_at,lt6 hid,Ex.cells,zeroE,g47,c1,c2]
      refine ⟨(f', Ex.bin (opR T sumsW s2).1 (.mk k1 b1 m1' s1' t1 lo1 hi1 kids1) (.mk k2 b2 m2' s2' t2 lo2 hi2 kids2), s3), ⟨m4.2, ?_, a3⟩, by simp only; omega, .of ?_ (.over (hG.put hid (hu _)) ?_ ?_ ?_)⟩
      · have := m3.2.2 hop
        simp only at m4 ⊢
        omega
      · simp (maxSteps:=999999) -dsimp -implicitDefEqProofs only [↓eqD,eqU,eqV,eqW,vbuiltinQ,vlen,vslice,vindex,vstore,Array.toList,simprocAttr]
        (repeat' apply And.intro) <;> exact .refl _
      · simp (maxSteps:=999999) -dsimp -implicitDefEqProofs only [↓eqD,eqU,eqV,eqW,vbuiltinQ,vlen,vslice,vindex,vstore,Array.toList,simprocAttr]
      · simp (maxSteps:=999999) -dsimp -implicitDefEqProofs only [↓eqD,eqU,eqV,eqW,vbuiltinQ,vlen,vslice,vindex,vstore,Array.toList,simprocAttr,FB,lt6 hid,zeroE,Ex.cells,Ex.bin,exsC,List.append_nil]
      · intro j hj
        have hj : j < G.next := hj
        by_cases hji : j = id <;> simp (maxSteps:=999999) -dsimp -implicitDefEqProofs only [↓eqD,eqU,eqV,eqW,vbuiltinQ,vlen,vslice,vindex,vstore,Array.toList,simprocAttr,lt6 hj,hji,lt6 hid]
end Go.Vf
set_option linter.unusedVariables false
set_option linter.unusedSimpArgs false
namespace Go.Vf
open Go.Proofs Go.RowKit
def deepI (T : List Tok) (en : Int) (s : St) (d : Int) : St := if 8 < d then errsT T en s 12 else s
set_option maxRecDepth 100000 in
theorem deepi_walk {T : List Tok} {en : Int} {s : St} {id : Nat} {G : Heap} (h : ReaderAt G id T en s) (d : Int) : VCalls Tryz.prog 159 [.ptr id 0 0, .int .i64 d] G fun u H => u = .bool (decide ((deepI T en s d).err ≠ 0)) ∧ H = G.put id (.cells 0 (rcells T en (deepI T en s d))) := by
  refine VCalls.of okSQ mixed T0 okn37 fun hG => ?_
  have hid := hG.lt h.1
  have hu := fun s' => rcells_under T en s' G.next
  have h11 := h.1
  have h12 := h.2.1
  have h13 := h.2.2
  unfold deepI
  by_cases hd : 8 < d
  · have hre := rcells_eq T en (errsT T en s 12)
    rw [if_pos hd]
    simp (maxSteps:=999999) -dsimp -implicitDefEqProofs only [↓eqD,eqU,eqV,eqW,vbuiltinQ,vlen,vslice,vindex,vstore,Array.toList,simprocAttr,fnWp_some Tryz.func159,Tryz.f159,T0,FB,SQ_at,addH_at,none_at,g39,gR,r51,h11,rOf_rcells,ReaderAt,h12,h13,hd,hre]
    refine VDone.turned hG hid (hu _) ?_ ?_ rfl rfl
    · simp (maxSteps:=999999) -dsimp -implicitDefEqProofs only [↓eqD,eqU,eqV,eqW,vbuiltinQ,vlen,vslice,vindex,vstore,Array.toList,simprocAttr,hre]
    · intro j hj hji; simp (maxSteps:=999999) -dsimp -implicitDefEqProofs only [↓eqD,eqU,eqV,eqW,vbuiltinQ,vlen,vslice,vindex,vstore,Array.toList,simprocAttr,hji]
  · try rw [if_neg hd]
    have h1 := h.1
    rw [rcells_eq] at h1
    simp (maxSteps:=999999) -dsimp -implicitDefEqProofs only [↓eqD,eqU,eqV,eqW,vbuiltinQ,vlen,vslice,vindex,vstore,Array.toList,simprocAttr,fnWp_some Tryz.func159,Tryz.f159,T0,FB,SQ_at,addH_at,none_at,h1,hd]
    exact VDone.turned hG hid (hu _) h11 (fun _ _ _ => rfl) rfl rfl
theorem deepI_cases (T : List Tok) (en : Int) (s : St) (d : Int) (h : (deepI T en s d).err = 0) : deepI T en s d = s ∧ ¬8 < d ∧ s.err = 0 := by
  unfold deepI at h ⊢
  by_cases hd : 8 < d
  · rw [if_pos hd] at h
    by_cases he : s.err = 0
    · unfold errsT at h; simp [he] at h
    · unfold errsT at h; simp [he] at h
  · rw [if_neg hd] at h ⊢; exact ⟨rfl, hd, h⟩
theorem deepI_at (T : List Tok) (en : Int) (s : St) (d : Int) : (deepI T en s d).at_ = s.at_ := by unfold deepI errsT; split <;> rfl
def r37 (T : List Tok) (en : Int) (s : St) : List V → Option (V × St)
  | [.int .i64 d] => some (.bool (decide ((deepI T en s d).err ≠ 0)), deepI T en s d)
  | _ => none
theorem ok37 {P : Specs} (hP : SOk Tryz.prog P) : SOk Tryz.prog (P.addH 159 (gR r37)) := okR hP fun T en s id G xs v s' h e => by
  unfold r37 at e
  split at e
  · cases e; exact deepi_walk h _
  · cases e
theorem take1 (T : List Tok) (s : St) (w : List UInt8) : takeR T s [w] = if isR T s w = true then (w, nextS s) else ([], s) := rfl
theorem take1_val {T : List Tok} {s : St} {w : List UInt8} (h : (takeR T s [w]).1 ≠ []) : (takeR T s [w]).1 = w := by
  rw [take1] at h ⊢
  split
  · rfl
  · rename_i c; rw [if_neg c] at h; exact (h rfl).elim
def andW : List UInt8 := [97, 110, 100]
def orW : List UInt8 := [111, 114]
theorem and_lit : ([97, 110, 100] : List UInt8) = andW := rfl
theorem or_lit : ([111, 114] : List UInt8) = orW := rfl
theorem andW_ne : ¬andW = [] := by decide
theorem orW_ne : ¬orW = [] := by decide
theorem andW_fold (T : List Tok) (s : St) : takeR T s [andW] = opR T [andW] s := rfl
theorem orW_fold (T : List Tok) (s : St) : takeR T s [orW] = opR T [orW] s := rfl
def SRE : Specs := ((Specs.none.addH 159 (gR r37)).addH 161 g39).add 162 g47
theorem SRE_at (f : FuncId) (xs : List V) (G : Heap) : SRE f xs G = (((Specs.none.addH 159 (gR r37)).addH 161 g39).add 162 g47) f xs G := rfl
theorem okSRE : SOk Tryz.prog SRE := ok40 (ok39 (ok37 (SOk.none _)))
def T38 : Tab := ⟨fun id => if id = 3 then ([0, 1, 2, 3, 4, 5], [(0, 3)]) else ([], []), fun _ => false⟩
theorem T38_ord (id : Nat) : T38.ord id = if id = 3 then ([0, 1, 2, 3, 4, 5], [(0, 3)]) else ([], []) := rfl
theorem T38_ghost (id : Nat) : T38.ghost id = false := rfl
theorem okn38 : fnOk Tryz.prog 160 T38 2 = true := by kernel_rfl
set_option maxRecDepth 100000 in
theorem andr_walk {T : List Tok} {en : Int} {id : Nat} {d : Int} {kid : Kid} (hk : RKidAt T en id 193 d kid) (mk : Goes T kid) : RKidAt T en id 160 d (rowP T kid (opR T [andW])) := fun s G h => by
  refine VCalls.of okSRE mixed T38 okn38 fun hG => ?_
  have hid := hG.lt h.1
  have hu := fun s' => rcells_under T en s' G.next
  have h12 := h.2.1
  have mo := steps_take T [andW]
  simp (maxSteps:=999999) -dsimp -implicitDefEqProofs only [↓eqD,eqU,eqV,eqW,vbuiltinQ,vlen,vslice,vindex,vstore,Array.toList,simprocAttr,fnWp_some Tryz.func160,Tryz.f160,T38_ord,T38_ghost,FB,SRE_at,add_at,addH_at,none_at,lt6 hid]
  refine (hk s _ ⟨by simp (maxSteps:=999999) -dsimp -implicitDefEqProofs only [↓eqD,eqU,eqV,eqW,vbuiltinQ,vlen,vslice,vindex,vstore,Array.toList,simprocAttr,lt6 hid]; exact h.1, h.2.1, h.2.2⟩).mono ?_
  rintro _ _ ⟨rfl, rfl⟩
  have m1 := mk s h.2.2
  unfold rowP
  generalize kid s = ks at *
  obtain ⟨⟨k0, b0, m0, s0, t0, lo0, hi0, kids0⟩, s1⟩ := ks
  simp (maxSteps:=999999) -dsimp -implicitDefEqProofs only [↓eqD,eqU,eqV,eqW,vbuiltinQ,vlen,vslice,vindex,vstore,Array.toList,simprocAttr,Ex.cells,FB,T38_ord,T38_ghost,SRE_at,add_at,addH_at,none_at,lt6 hid]
  refine vloop_by (fun x : Nat × Ex × St => x.2.2.at_ ≤ T.length ∧ T.length < x.2.2.at_ + x.1 ∧ rowGo kid (opR T [andW]) x.1 x.2.1 x.2.2 = rowGo kid (opR T [andW]) (T.length + 1) (Ex.mk k0 b0 m0 s0 t0 lo0 hi0 kids0) s1)
    (fun x => Env.of [(0, .ptr id 0 0), (1, .int .i64 d), (4, .ptr G.next 0 0), (5, .ptr (G.next + 1) 0 0)])
    (fun x => (G.put id (.cells 0 (rcells T en x.2.2))).over (G.next + 2) [(G.next, .cells 0 zeroE), (G.next + 1, .cells 0 x.2.1.cells)]) (fun x => x.1)
    (T.length + 1, Ex.mk k0 b0 m0 s0 t0 lo0 hi0 kids0, s1) ?_ ?_ ?_
  · refine .of ?_ (.over (hG.put hid (hu _)) ?_ ?_ ?_)
    · simp (maxSteps:=999999) -dsimp -implicitDefEqProofs only [↓eqD,eqU,eqV,eqW,vbuiltinQ,vlen,vslice,vindex,vstore,Array.toList,simprocAttr]
      (repeat' apply And.intro) <;> exact .refl _
    · simp (maxSteps:=999999) -dsimp -implicitDefEqProofs only [↓eqD,eqU,eqV,eqW,vbuiltinQ,vlen,vslice,vindex,vstore,Array.toList,simprocAttr]
    · simp (maxSteps:=999999) -dsimp -implicitDefEqProofs only [↓eqD,eqU,eqV,eqW,vbuiltinQ,vlen,vslice,vindex,vstore,Array.toList,simprocAttr,FB,lt6 hid,zeroE,Ex.cells]
    · intro j hj
      have hj : j < G.next := hj
      by_cases hji : j = id <;> simp (maxSteps:=999999) -dsimp -implicitDefEqProofs only [↓eqD,eqU,eqV,eqW,vbuiltinQ,vlen,vslice,vindex,vstore,Array.toList,simprocAttr,lt6 hj,hji,lt6 hid]
  · exact ⟨m1.2, by simp only; omega, rfl⟩
  · rintro ⟨f, e, s2⟩ ⟨a1, a2, a3⟩
    simp only at a1 a2 a3
    have m3 := mo s2 a1
    obtain ⟨k1, b1, m1', s1', t1, lo1, hi1, kids1⟩ := e
    have hid2 : id < G.next := hid
    obtain ⟨f', rfl⟩ : ∃ f', f = f' + 1 := ⟨f - 1, by omega⟩
    rw [rowGo] at a3
    by_cases hop : (opR T [andW] s2).1 = []
    · rw [if_pos hop] at a3
      rw [← a3]
      simp (maxSteps:=999999) -dsimp -implicitDefEqProofs only [↓eqD,eqU,eqV,eqW,vbuiltinQ,vlen,vslice,vindex,vstore,Array.toList,simprocAttr,FB,T38_ord,T38_ghost,SRE_at,add_at,addH_at,none_at,vreps,vfill,g39,unstr_cons,unstr_nil,map_str_cons,map_str_nil,rOf_rcells,ReaderAt,h12,a1,lt6 hid,and_lit,andW_fold,hop,ne_eq,Ex.cells,zeroE]
      refine VDone.turned hG hid (hu _) ?_ ?_ rfl rfl
      · simp (maxSteps:=999999) -dsimp -implicitDefEqProofs only [↓eqD,eqU,eqV,eqW,vbuiltinQ,vlen,vslice,vindex,vstore,Array.toList,simprocAttr,lt6 hid]
      · intro j hj hji; simp (maxSteps:=999999) -dsimp -implicitDefEqProofs only [↓eqD,eqU,eqV,eqW,vbuiltinQ,vlen,vslice,vindex,vstore,Array.toList,simprocAttr,lt6 hj,hji]
    · try rw [if_neg hop] at a3
      have hwv : (opR T [andW] s2).1 = andW := take1_val hop
      rw [hwv] at a3
      have m4 := mk _ m3.2.1
      have m33 := m3.2.2 hop
      simp (maxSteps:=999999) -dsimp -implicitDefEqProofs only [↓eqD,eqU,eqV,eqW,vbuiltinQ,vlen,vslice,vindex,vstore,Array.toList,simprocAttr,FB,T38_ord,T38_ghost,SRE_at,add_at,addH_at,none_at,vreps,vfill,g39,unstr_cons,unstr_nil,map_str_cons,map_str_nil,rOf_rcells,ReaderAt,h12,a1,lt6 hid,and_lit,andW_fold,hwv,andW_ne,ne_eq,Ex.cells,zeroE]
      refine (hk (opR T [andW] s2).2 _ ⟨by simp (maxSteps:=999999) -dsimp -implicitDefEqProofs only [↓eqD,eqU,eqV,eqW,vbuiltinQ,vlen,vslice,vindex,vstore,Array.toList,simprocAttr,lt6 hid], h.2.1, m3.2.1⟩).mono ?_
      rintro _ _ ⟨rfl, rfl⟩
      generalize hks : kid (opR T [andW] s2).2 = ks at *
      obtain ⟨⟨k2, b2, m2', s2', t2, lo2, hi2, kids2⟩, s3⟩ := ks
      have c1 := exsC_closed kids1
      have c2 := exsC_closed kids2
      simp (maxSteps:=999999) -dsimp -implicitDefEqProofs only [↓eqD,eqU,eqV,eqW,vbuiltinQ,vlen,vslice,vindex,vstore,Array.toList,simprocAttr,FB,T38_ord,T38_ghost,SRE_at,add_at,addH_at,none_at,lt6 hid,Ex.cells,zeroE,g47,c1,c2]
      refine ⟨(f', Ex.bin andW (.mk k1 b1 m1' s1' t1 lo1 hi1 kids1) (.mk k2 b2 m2' s2' t2 lo2 hi2 kids2), s3), ⟨m4.2, ?_, a3⟩, by simp only; omega, .of ?_ (.over (hG.put hid (hu _)) ?_ ?_ ?_)⟩
      · simp only at m4 ⊢
        omega
      · simp (maxSteps:=999999) -dsimp -implicitDefEqProofs only [↓eqD,eqU,eqV,eqW,vbuiltinQ,vlen,vslice,vindex,vstore,Array.toList,simprocAttr]
        (repeat' apply And.intro) <;> exact .refl _
      · simp (maxSteps:=999999) -dsimp -implicitDefEqProofs only [↓eqD,eqU,eqV,eqW,vbuiltinQ,vlen,vslice,vindex,vstore,Array.toList,simprocAttr]
      · simp (maxSteps:=999999) -dsimp -implicitDefEqProofs only [↓eqD,eqU,eqV,eqW,vbuiltinQ,vlen,vslice,vindex,vstore,Array.toList,simprocAttr,FB,lt6 hid,zeroE,Ex.cells,Ex.bin,exsC,List.append_nil,and_lit]
      · intro j hj
        have hj : j < G.next := hj
        by_cases hji : j = id <;> simp (maxSteps:=999999) -dsimp -implicitDefEqProofs only [↓eqD,eqU,eqV,eqW,vbuiltinQ,vlen,vslice,vindex,vstore,Array.toList,simprocAttr,lt6 hj,hji,lt6 hid]
def exprR (T : List Tok) (en : Int) (d : Int) (kid : Kid) : Kid := fun s => if (deepI T en s d).err = 0 then rowP T kid (opR T [orW]) s else (Ex.zero, deepI T en s d)
def T26 : Tab := ⟨fun id => if id = 5 then ([0, 1, 2, 3, 4, 5], [(0, 3)]) else ([], []), fun _ => false⟩
theorem T26_ord (id : Nat) : T26.ord id = if id = 5 then ([0, 1, 2, 3, 4, 5], [(0, 3)]) else ([], []) := rfl
theorem T26_ghost (id : Nat) : T26.ghost id = false := rfl
theorem okn26 : fnOk Tryz.prog 132 T26 2 = true := by kernel_rfl
set_option maxRecDepth 100000 in
theorem exprr_walk {T : List Tok} {en : Int} {id : Nat} {d : Int} {kid : Kid} (hk : d ≤ 8 → RKidAt T en id 160 d kid) (mk : Goes T kid) : RKidAt T en id 132 d (exprR T en d kid) := fun s G h => by
  refine VCalls.of okSRE mixed T26 okn26 fun hG => ?_
  have hid := hG.lt h.1
  have hu := fun s' => rcells_under T en s' G.next
  have h11 := h.1
  have h12 := h.2.1
  have h13 := h.2.2
  have mo := steps_take T [orW]
  unfold exprR
  by_cases hd : (deepI T en s d).err = 0
  case neg =>
    rw [if_neg hd]
    simp (maxSteps:=999999) -dsimp -implicitDefEqProofs only [↓eqD,eqU,eqV,eqW,vbuiltinQ,vlen,vslice,vindex,vstore,Array.toList,simprocAttr,fnWp_some Tryz.func132,Tryz.f132,T26_ord,T26_ghost,FB,SRE_at,add_at,addH_at,none_at,gR,r37,rOf_rcells,ReaderAt,h11,h12,h13,lt6 hid,hd,ne_eq]
    refine .weak (vle_nil _ _ _ _ _ _ _) (VDone.turned hG hid (hu _) ?_ ?_ rfl rfl)
    · simp (maxSteps:=999999) -dsimp -implicitDefEqProofs only [↓eqD,eqU,eqV,eqW,vbuiltinQ,vlen,vslice,vindex,vstore,Array.toList,simprocAttr,lt6 hid]
    · intro j hj hji; simp (maxSteps:=999999) -dsimp -implicitDefEqProofs only [↓eqD,eqU,eqV,eqW,vbuiltinQ,vlen,vslice,vindex,vstore,Array.toList,simprocAttr,lt6 hj,hji]
  have hdd := deepI_cases T en s d hd
  have hds := hdd.1
  have hd0 := hdd.2.2
  have hk := hk (by have := hdd.2.1; omega)
  have hlt := hdd.2.1
  rw [if_pos hd]
  simp (maxSteps:=999999) -dsimp -implicitDefEqProofs only [↓eqD,eqU,eqV,eqW,vbuiltinQ,vlen,vslice,vindex,vstore,Array.toList,simprocAttr,fnWp_some Tryz.func132,Tryz.f132,T26_ord,T26_ghost,FB,SRE_at,add_at,addH_at,none_at,gR,r37,rOf_rcells,ReaderAt,h11,h12,h13,lt6 hid,hds,hd0,ne_eq]
  refine (hk s _ ⟨by simp (maxSteps:=999999) -dsimp -implicitDefEqProofs only [↓eqD,eqU,eqV,eqW,vbuiltinQ,vlen,vslice,vindex,vstore,Array.toList,simprocAttr,lt6 hid], h.2.1, h.2.2⟩).mono ?_
  rintro _ _ ⟨rfl, rfl⟩
  have m1 := mk s h.2.2
  unfold rowP
  generalize kid s = ks at *
  obtain ⟨⟨k0, b0, m0, s0, t0, lo0, hi0, kids0⟩, s1⟩ := ks
  simp (maxSteps:=999999) -dsimp -implicitDefEqProofs only [↓eqD,eqU,eqV,eqW,vbuiltinQ,vlen,vslice,vindex,vstore,Array.toList,simprocAttr,Ex.cells,FB,T26_ord,T26_ghost,SRE_at,add_at,addH_at,none_at,lt6 hid]
  refine vloop_by (fun x : Nat × Ex × St => x.2.2.at_ ≤ T.length ∧ T.length < x.2.2.at_ + x.1 ∧ rowGo kid (opR T [orW]) x.1 x.2.1 x.2.2 = rowGo kid (opR T [orW]) (T.length + 1) (Ex.mk k0 b0 m0 s0 t0 lo0 hi0 kids0) s1)
    (fun x => Env.of [(0, .ptr id 0 0), (1, .int .i64 d), (4, .ptr G.next 0 0), (5, .ptr (G.next + 1) 0 0)])
    (fun x => (G.put id (.cells 0 (rcells T en x.2.2))).over (G.next + 2) [(G.next, .cells 0 zeroE), (G.next + 1, .cells 0 x.2.1.cells)]) (fun x => x.1)
    (T.length + 1, Ex.mk k0 b0 m0 s0 t0 lo0 hi0 kids0, s1) ?_ ?_ ?_
  · refine .of ?_ (.over (hG.put hid (hu _)) ?_ ?_ ?_)
    · simp (maxSteps:=999999) -dsimp -implicitDefEqProofs only [↓eqD,eqU,eqV,eqW,vbuiltinQ,vlen,vslice,vindex,vstore,Array.toList,simprocAttr]
      (repeat' apply And.intro) <;> exact .refl _
    · simp (maxSteps:=999999) -dsimp -implicitDefEqProofs only [↓eqD,eqU,eqV,eqW,vbuiltinQ,vlen,vslice,vindex,vstore,Array.toList,simprocAttr]
    · simp (maxSteps:=999999) -dsimp -implicitDefEqProofs only [↓eqD,eqU,eqV,eqW,vbuiltinQ,vlen,vslice,vindex,vstore,Array.toList,simprocAttr,FB,lt6 hid,zeroE,Ex.cells]
    · intro j hj
      have hj : j < G.next := hj
      by_cases hji : j = id <;> simp (maxSteps:=999999) -dsimp -implicitDefEqProofs only [↓eqD,eqU,eqV,eqW,vbuiltinQ,vlen,vslice,vindex,vstore,Array.toList,simprocAttr,lt6 hj,hji,lt6 hid]
  · exact ⟨m1.2, by simp only; omega, rfl⟩
  · rintro ⟨f, e, s2⟩ ⟨a1, a2, a3⟩
    simp only at a1 a2 a3
    have m3 := mo s2 a1
    obtain ⟨k1, b1, m1', s1', t1, lo1, hi1, kids1⟩ := e
    have hid2 : id < G.next := hid
    obtain ⟨f', rfl⟩ : ∃ f', f = f' + 1 := ⟨f - 1, by omega⟩
    rw [rowGo] at a3
    by_cases hop : (opR T [orW] s2).1 = []
    · rw [if_pos hop] at a3
      rw [← a3]
      simp (maxSteps:=999999) -dsimp -implicitDefEqProofs only [↓eqD,eqU,eqV,eqW,vbuiltinQ,vlen,vslice,vindex,vstore,Array.toList,simprocAttr,FB,T26_ord,T26_ghost,SRE_at,add_at,addH_at,none_at,vreps,vfill,g39,unstr_cons,unstr_nil,map_str_cons,map_str_nil,rOf_rcells,ReaderAt,h12,a1,lt6 hid,or_lit,orW_fold,hop,ne_eq,Ex.cells,zeroE]
      refine VDone.turned hG hid (hu _) ?_ ?_ rfl rfl
      · simp (maxSteps:=999999) -dsimp -implicitDefEqProofs only [↓eqD,eqU,eqV,eqW,vbuiltinQ,vlen,vslice,vindex,vstore,Array.toList,simprocAttr,lt6 hid]
      · intro j hj hji; simp (maxSteps:=999999) -dsimp -implicitDefEqProofs only [↓eqD,eqU,eqV,eqW,vbuiltinQ,vlen,vslice,vindex,vstore,Array.toList,simprocAttr,lt6 hj,hji]
    · try rw [if_neg hop] at a3
      have hwv : (opR T [orW] s2).1 = orW := take1_val hop
      rw [hwv] at a3
      have m4 := mk _ m3.2.1
      have m33 := m3.2.2 hop
      simp (maxSteps:=999999) -dsimp -implicitDefEqProofs only [↓eqD,eqU,eqV,eqW,vbuiltinQ,vlen,vslice,vindex,vstore,Array.toList,simprocAttr,FB,T26_ord,T26_ghost,SRE_at,add_at,addH_at,none_at,vreps,vfill,g39,unstr_cons,unstr_nil,map_str_cons,map_str_nil,rOf_rcells,ReaderAt,h12,a1,lt6 hid,or_lit,orW_fold,hwv,orW_ne,ne_eq,Ex.cells,zeroE]
      refine (hk (opR T [orW] s2).2 _ ⟨by simp (maxSteps:=999999) -dsimp -implicitDefEqProofs only [↓eqD,eqU,eqV,eqW,vbuiltinQ,vlen,vslice,vindex,vstore,Array.toList,simprocAttr,lt6 hid], h.2.1, m3.2.1⟩).mono ?_
      rintro _ _ ⟨rfl, rfl⟩
      generalize hks : kid (opR T [orW] s2).2 = ks at *
      obtain ⟨⟨k2, b2, m2', s2', t2, lo2, hi2, kids2⟩, s3⟩ := ks
      have c1 := exsC_closed kids1
      have c2 := exsC_closed kids2
      simp (maxSteps:=999999) -dsimp -implicitDefEqProofs only [↓eqD,eqU,eqV,eqW,vbuiltinQ,vlen,vslice,vindex,vstore,Array.toList,simprocAttr,FB,T26_ord,T26_ghost,SRE_at,add_at,addH_at,none_at,lt6 hid,Ex.cells,zeroE,g47,c1,c2]
      refine ⟨(f', Ex.bin orW (.mk k1 b1 m1' s1' t1 lo1 hi1 kids1) (.mk k2 b2 m2' s2' t2 lo2 hi2 kids2), s3), ⟨m4.2, ?_, a3⟩, by simp only; omega, .of ?_ (.over (hG.put hid (hu _)) ?_ ?_ ?_)⟩
      · simp only at m4 ⊢
        omega
      · simp (maxSteps:=999999) -dsimp -implicitDefEqProofs only [↓eqD,eqU,eqV,eqW,vbuiltinQ,vlen,vslice,vindex,vstore,Array.toList,simprocAttr]
        (repeat' apply And.intro) <;> exact .refl _
      · simp (maxSteps:=999999) -dsimp -implicitDefEqProofs only [↓eqD,eqU,eqV,eqW,vbuiltinQ,vlen,vslice,vindex,vstore,Array.toList,simprocAttr]
      · simp (maxSteps:=999999) -dsimp -implicitDefEqProofs only [↓eqD,eqU,eqV,eqW,vbuiltinQ,vlen,vslice,vindex,vstore,Array.toList,simprocAttr,FB,lt6 hid,zeroE,Ex.cells,Ex.bin,exsC,List.append_nil,or_lit]
      · intro j hj
        have hj : j < G.next := hj
        by_cases hji : j = id <;> simp (maxSteps:=999999) -dsimp -implicitDefEqProofs only [↓eqD,eqU,eqV,eqW,vbuiltinQ,vlen,vslice,vindex,vstore,Array.toList,simprocAttr,lt6 hj,hji,lt6 hid]
end Go.Vf
