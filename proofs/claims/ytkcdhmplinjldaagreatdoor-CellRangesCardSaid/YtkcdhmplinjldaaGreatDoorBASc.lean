/- A part of the proof: Sc. -/
import Derived.Test.YtkcdhmplinjldaaGreatDoorBASb
set_option linter.unusedVariables false
set_option linter.unusedSimpArgs false
namespace Go.Vf
open Go.Proofs Go.RowKit
def failsT (s : St) (pos e : Int) : St := if s.err = 0 then ⟨s.at_, pos, e⟩ else s
theorem ok_cfails : fnOk Tryz.prog 44 T0 3 = true := by kernel_rfl
set_option maxRecDepth 100000 in
theorem cfails_walk {T : List Tok} {en : Int} {s : St} {id : Nat} {G : Heap} (h : ParserAt G id T en s) (pos e : Int) : VCalls Tryz.prog 44 [.ptr id 0 0, .int .i64 pos, .int .i64 e] G fun u H => u = .tup [] ∧ H = G.put id (.cells 0 (pcells T en (failsT s pos e))) := by
  refine VCalls.of (SOk.none _) mixed T0 ok_cfails fun hG => ?_
  have hid := hG.lt h.1
  have hu := fun s' => pcells_under T en s' G.next
  have h11 := h.1
  have h1 := h.1
  unfold pcells at h1
  unfold failsT
  by_cases he : s.err = 0
  · simp (maxSteps:=999999) -dsimp -implicitDefEqProofs only [↓eqD,eqU,eqV,eqW,vbuiltinQ,vlen,vslice,vindex,vstore,Array.toList,simprocAttr,fnWp_some Tryz.func44,Tryz.f44,T0,FB,FC,none_at,h1,he,lt6 hid]; (repeat ((with_reducible (refine And.intro ?_ ?_)); (focus (first | omega | exact ⟨by omega, by omega⟩))))
    refine VDone.turned hG hid (hu _) ?_ ?_ rfl rfl
    · unfold pcells; simp (maxSteps:=999999) -dsimp -implicitDefEqProofs only [↓eqD,eqU,eqV,eqW,vbuiltinQ,vlen,vslice,vindex,vstore,Array.toList,simprocAttr,he]
    · intro j hj hji; simp (maxSteps:=999999) -dsimp -implicitDefEqProofs only [↓eqD,eqU,eqV,eqW,vbuiltinQ,vlen,vslice,vindex,vstore,Array.toList,simprocAttr,hji,lt6 hj]
  · simp (maxSteps:=999999) -dsimp -implicitDefEqProofs only [↓eqD,eqU,eqV,eqW,vbuiltinQ,vlen,vslice,vindex,vstore,Array.toList,simprocAttr,fnWp_some Tryz.func44,Tryz.f44,T0,FB,FC,none_at,h1,he,lt6 hid]; (repeat ((with_reducible (refine And.intro ?_ ?_)); (focus (first | omega | exact ⟨by omega, by omega⟩))))
    refine VDone.turned hG hid (hu _) ?_ (fun _ _ _ => rfl) rfl rfl
    exact h11
def T_chere : Tab := ⟨fun id => if id = 1 then ([0, 1, 2, 3, 4, 5, 6, 7, 8, 9], []) else if id = 2 then ([0, 1, 2, 3, 4, 5, 6, 7, 8, 9, 10, 11], []) else ([], []), fun _ => false⟩
theorem T_chere_ord (id : Nat) : T_chere.ord id = if id = 1 then ([0, 1, 2, 3, 4, 5, 6, 7, 8, 9], []) else if id = 2 then ([0, 1, 2, 3, 4, 5, 6, 7, 8, 9, 10, 11], []) else ([], []) := rfl
theorem T_chere_ghost (id : Nat) : T_chere.ghost id = false := rfl
theorem ok_chere : fnOk Tryz.prog 45 T_chere 1 = true := by kernel_rfl
set_option maxRecDepth 100000 in
theorem chere_walk {T : List Tok} {en : Int} {s : St} {id : Nat} {G : Heap} (h : ParserAt G id T en s) : VCalls Tryz.prog 45 [.ptr id 0 0] G (Stays G (.int .i64 (hereT T en s.at_))) := by
  refine VCalls.of (SOk.none _) mixed T_chere ok_chere fun hG => ?_
  have h1 := h.1
  unfold pcells at h1
  unfold hereT
  by_cases ha : s.at_ < T.length
  · have hx := toks_at ha
    have hT : T.getD s.at_ ⟨0, [], 0⟩ = T[s.at_] := by simp [List.getD, ha]
    rw [if_pos ha, hT]
    generalize T[s.at_] = t at hx hT
    have c1 : (s.at_ : Int) < (T.length : Int) := by omega
    simp (maxSteps:=999999) -dsimp -implicitDefEqProofs only [↓eqD,eqU,eqV,eqW,vbuiltinQ,vlen,vslice,vindex,vstore,Array.toList,simprocAttr,fnWp_some Tryz.func45,Tryz.f45,T_chere_ord,T_chere_ghost,FB,FC,none_at,h1,c1,hx,Tok.cells]; (repeat ((with_reducible (refine And.intro ?_ ?_)); (focus (first | omega | exact ⟨by omega, by omega⟩))))
    exact VDone.back hG (fun _ _ => rfl) rfl rfl
  · rw [if_neg ha]
    have c1 : ¬(s.at_ : Int) < (T.length : Int) := by omega
    simp (maxSteps:=999999) -dsimp -implicitDefEqProofs only [↓eqD,eqU,eqV,eqW,vbuiltinQ,vlen,vslice,vindex,vstore,Array.toList,simprocAttr,fnWp_some Tryz.func45,Tryz.f45,T_chere_ord,T_chere_ghost,FB,FC,none_at,h1,c1]; (repeat ((with_reducible (refine And.intro ?_ ?_)); (focus (first | omega | exact ⟨by omega, by omega⟩))))
    exact VDone.back hG (fun _ _ => rfl) rfl rfl
def isA (T : List Tok) (s : St) (k : Nat) (w : List UInt8) : Bool := decide (s.err = 0) && signAt T (s.at_ + k) w
theorem ok_cis : fnOk Tryz.prog 42 T0 3 = true := by kernel_rfl
set_option maxRecDepth 100000 in
theorem cis_walk {T : List Tok} {en : Int} {s : St} {id : Nat} {G : Heap} (h : ParserAt G id T en s) (k : Nat) (hk : k ≤ 1) (w : List UInt8) : VCalls Tryz.prog 42 [.ptr id 0 0, .int .i64 k, .str w] G (Stays G (.bool (isA T s k w))) := by
  refine VCalls.of (SOk.none _) mixed T0 ok_cis fun hG => ?_
  have h12 := h.2.1
  have h13 := h.2.2
  have h1 := h.1
  unfold pcells at h1
  unfold isA signAt
  have wk : IntKind.wrap .i64 ((s.at_ : Int) + (k : Int)) = ((s.at_ + k : Nat) : Int) := by rw [w64 (by omega) (by omega)]; rfl
  by_cases he : s.err = 0
  · by_cases ha : s.at_ + k < T.length
    · have hx := toks_at ha
      have hT : T.getD (s.at_ + k) ⟨0, [], 0⟩ = T[s.at_ + k] := by simp [List.getD, ha]
      rw [hT]
      generalize T[s.at_ + k] = t at hx hT
      have c1 : ((s.at_ + k : Nat) : Int) < (T.length : Int) := by omega
      have c2 : 0 ≤ ((s.at_ + k : Nat) : Int) := by omega
      by_cases hk4 : t.kind = 4
      · simp (maxSteps:=999999) -dsimp -implicitDefEqProofs only [↓eqD,eqU,eqV,eqW,vbuiltinQ,vlen,vslice,vindex,vstore,Array.toList,simprocAttr,fnWp_some Tryz.func42,Tryz.f42,T0,FB,FC,none_at,h1,he,wk,c1,c2,hx,Tok.cells,hk4]; (repeat ((with_reducible (refine And.intro ?_ ?_)); (focus (first | omega | exact ⟨by omega, by omega⟩))))
        exact VDone.back hG (fun _ _ => rfl) rfl (by simp [ha])
      · simp (maxSteps:=999999) -dsimp -implicitDefEqProofs only [↓eqD,eqU,eqV,eqW,vbuiltinQ,vlen,vslice,vindex,vstore,Array.toList,simprocAttr,fnWp_some Tryz.func42,Tryz.f42,T0,FB,FC,none_at,h1,he,wk,c1,c2,hx,Tok.cells,hk4]; (repeat ((with_reducible (refine And.intro ?_ ?_)); (focus (first | omega | exact ⟨by omega, by omega⟩))))
        exact VDone.back hG (fun _ _ => rfl) rfl (by simp)
    · have c1 : ¬((s.at_ + k : Nat) : Int) < (T.length : Int) := by omega
      simp (maxSteps:=999999) -dsimp -implicitDefEqProofs only [↓eqD,eqU,eqV,eqW,vbuiltinQ,vlen,vslice,vindex,vstore,Array.toList,simprocAttr,fnWp_some Tryz.func42,Tryz.f42,T0,FB,FC,none_at,h1,he,wk,c1]; (repeat ((with_reducible (refine And.intro ?_ ?_)); (focus (first | omega | exact ⟨by omega, by omega⟩))))
      exact VDone.back hG (fun _ _ => rfl) rfl (by simp [ha])
  · simp (maxSteps:=999999) -dsimp -implicitDefEqProofs only [↓eqD,eqU,eqV,eqW,vbuiltinQ,vlen,vslice,vindex,vstore,Array.toList,simprocAttr,fnWp_some Tryz.func42,Tryz.f42,T0,FB,FC,none_at,h1,he,wk]; (repeat ((with_reducible (refine And.intro ?_ ?_)); (focus (first | omega | exact ⟨by omega, by omega⟩))))
    exact VDone.back hG (fun _ _ => rfl) rfl (by simp)
theorem isA_0 {T : List Tok} {s : St} {w : List UInt8} : isA T s 0 w = isT T s 4 w := by rw [isT_sign]; rfl
def qcis (T : List Tok) (s : St) : List V → Option V
  | [.int .i64 k, .str w] => if k = 0 then some (.bool (isT T s 4 w)) else if k = 1 then some (.bool (isA T s 1 w)) else none
  | _ => none
theorem ok_qcis {S : Specs} (hS : SOk Tryz.prog S) : SOk Tryz.prog (S.addH 42 (gQ qcis)) := okQ hS fun T en s id G xs v h e => by
  unfold qcis at e
  split at e
  · split at e
    · rename_i hk; subst hk; cases e; rw [← isA_0]; exact cis_walk h 0 (by decide) _
    · split at e
      · rename_i hk; subst hk; cases e; exact cis_walk h 1 (by decide) _
      · cases e
  · cases e
def XS1 : Specs := Specs.none.addH 42 (gQ qcis)
theorem XS1_at (f : FuncId) (xs : List V) (G : Heap) : XS1 f xs G = (Specs.none.addH 42 (gQ qcis)) f xs G := rfl
theorem okXS1 : SOk Tryz.prog XS1 := ok_qcis (SOk.none _)
theorem ok_cmay : fnOk Tryz.prog 41 T0 2 = true := by kernel_rfl
set_option maxRecDepth 100000 in
theorem cmay_walk {T : List Tok} {en : Int} {s : St} {id : Nat} {G : Heap} (h : ParserAt G id T en s) (text : List UInt8) : VCalls Tryz.prog 41 [.ptr id 0 0, .str text] G fun u H => u = .bool (isT T s 4 text) ∧ H = G.put id (.cells 0 (pcells T en (takeT T s 4 text))) := by
  refine VCalls.of (okXS1) mixed T0 ok_cmay fun hG => ?_
  have h4 := h
  have hid := hG.lt h.1
  have hu := pcells_under T en (takeT T s 4 text) G.next
  have h11 := h.1
  have h12 := h.2.1
  have h13 := h.2.2
  have hre : pcells T en s = [.sl 3 T.length (toksC T), .int .i64 s.at_, .int .i64 en, .int .i64 s.pos, .int .i64 s.err] := rfl
  rw [hre] at h11
  have hpo : pOf (some (.cells 0 [.sl 3 T.length (toksC T), .int .i64 s.at_, .int .i64 en, .int .i64 s.pos, .int .i64 s.err])) = some (T, en, s) := pOf_pcells T en s
  by_cases hi : isT T s 4 text = true
  · obtain ⟨a1, a2⟩ := isT_lt (by decide) hi
    have w1 : IntKind.wrap .i64 ((s.at_ : Int) + 1) = ((s.at_ + 1 : Nat) : Int) := by rw [w64 (by omega) (by omega)]; rfl
    simp (maxSteps:=999999) -dsimp -implicitDefEqProofs only [↓eqD,eqU,eqV,eqW,vbuiltinQ,vlen,vslice,vindex,vstore,Array.toList,simprocAttr,fnWp_some Tryz.func41,Tryz.f41,T0,FB,FC,none_at,XS1_at,addH_at,gQ,qcis,parserOf_def,hpo,ParserAt,hre,h12,h13,h11,hi,w1,lt6 hid]; (repeat ((with_reducible (refine And.intro ?_ ?_)); (focus (first | omega | exact ⟨by omega, by omega⟩))))
    refine VDone.turned hG hid hu ?_ ?_ rfl rfl
    · unfold pcells takeT; simp (maxSteps:=999999) -dsimp -implicitDefEqProofs only [↓eqD,eqU,eqV,eqW,vbuiltinQ,vlen,vslice,vindex,vstore,Array.toList,simprocAttr,hi]
    · intro j hj hne; simp (maxSteps:=999999) -dsimp -implicitDefEqProofs only [↓eqD,eqU,eqV,eqW,vbuiltinQ,vlen,vslice,vindex,vstore,Array.toList,simprocAttr,hne]
  · have hi : isT T s 4 text = false := by simpa using hi
    have hs : takeT T s 4 text = s := by unfold takeT; rw [hi]; rfl
    simp (maxSteps:=999999) -dsimp -implicitDefEqProofs only [↓eqD,eqU,eqV,eqW,vbuiltinQ,vlen,vslice,vindex,vstore,Array.toList,simprocAttr,fnWp_some Tryz.func41,Tryz.f41,T0,FB,FC,none_at,XS1_at,addH_at,gQ,qcis,parserOf_def,hpo,ParserAt,hre,h12,h13,h11,hi,lt6 hid]; (repeat ((with_reducible (refine And.intro ?_ ?_)); (focus (first | omega | exact ⟨by omega, by omega⟩))))
    refine VDone.turned hG hid hu ?_ (fun _ _ _ => rfl) rfl rfl
    rw [hs]; exact h.1
def qchere (T : List Tok) (en : Int) (s : St) : List V → Option (V × St)
  | [] => some (.int .i64 (hereT T en s.at_), s)
  | _ => none
def qcfails (T : List Tok) (en : Int) (s : St) : List V → Option (V × St)
  | [.int .i64 pos, .int .i64 e] => some (.tup [], failsT s pos e)
  | _ => none
theorem ok_fails {S : Specs} (hS : SOk Tryz.prog S) : SOk Tryz.prog (S.addH 44 (gP qcfails)) := okP hS fun T en s id G xs v s' h e => by
  unfold qcfails at e
  split at e
  · cases e; exact cfails_walk h _ _
  · cases e
theorem ok_here {S : Specs} (hS : SOk Tryz.prog S) : SOk Tryz.prog (S.addH 45 (gP qchere)) := okP hS fun T en s id G xs v s' h e => by
  unfold qchere at e
  split at e
  · cases e
    rw [put_same h.1]
    exact chere_walk h
  · cases e
def XS2 : Specs := (Specs.none.addH 45 (gP qchere)).addH 44 (gP qcfails)
theorem XS2_at (f : FuncId) (xs : List V) (G : Heap) : XS2 f xs G = ((Specs.none.addH 45 (gP qchere)).addH 44 (gP qcfails)) f xs G := rfl
theorem okXS2 : SOk Tryz.prog XS2 := ok_fails (ok_here (SOk.none _))
theorem fails_here (T : List Tok) (en : Int) (s : St) (e : Int) : failsT s (hereT T en s.at_) e = errsT T en s e := by rw [errsT_here]; rfl
theorem ok_cmust : fnOk Tryz.prog 25 T0 2 = true := by kernel_rfl
set_option maxRecDepth 100000 in
theorem cmust_walk {T : List Tok} {en : Int} {s : St} {id : Nat} {G : Heap} (h : ParserAt G id T en s) (ok : Bool) : VCalls Tryz.prog 25 [.ptr id 0 0, .bool ok] G fun u H => u = .tup [] ∧ H = G.put id (.cells 0 (pcells T en (mustT T en s ok))) := by
  refine VCalls.of (okXS2) mixed T0 ok_cmust fun hG => ?_
  have hid := hG.lt h.1
  have hu := pcells_under T en (mustT T en s ok) G.next
  have h11 := h.1
  have h12 := h.2.1
  have h13 := h.2.2
  cases ok with
  | true =>
    simp (maxSteps:=999999) -dsimp -implicitDefEqProofs only [↓eqD,eqU,eqV,eqW,vbuiltinQ,vlen,vslice,vindex,vstore,Array.toList,simprocAttr,fnWp_some Tryz.func25,Tryz.f25,T0,FB,FC,none_at,XS2_at,addH_at,gP,qchere,qcfails]; (repeat ((with_reducible (refine And.intro ?_ ?_)); (focus (first | omega | exact ⟨by omega, by omega⟩))))
    refine VDone.turned hG hid hu ?_ (fun _ _ _ => rfl) rfl rfl
    exact h11
  | false =>
    simp (maxSteps:=999999) -dsimp -implicitDefEqProofs only [↓eqD,eqU,eqV,eqW,vbuiltinQ,vlen,vslice,vindex,vstore,Array.toList,simprocAttr,fnWp_some Tryz.func25,Tryz.f25,T0,FB,FC,none_at,XS2_at,addH_at,gP,qchere,qcfails,parserOf_def,pOf_pcells,ParserAt,h11,h12,h13,put_same h11,lt6 hid]; (repeat ((with_reducible (refine And.intro ?_ ?_)); (focus (first | omega | exact ⟨by omega, by omega⟩))))
    refine VDone.turned hG hid hu ?_ ?_ rfl rfl
    · simp (maxSteps:=999999) -dsimp -implicitDefEqProofs only [↓eqD,eqU,eqV,eqW,vbuiltinQ,vlen,vslice,vindex,vstore,Array.toList,simprocAttr,fails_here]; rfl
    · intro j hj hne; simp (maxSteps:=999999) -dsimp -implicitDefEqProofs only [↓eqD,eqU,eqV,eqW,vbuiltinQ,vlen,vslice,vindex,vstore,Array.toList,simprocAttr,hne]
end Go.Vf
