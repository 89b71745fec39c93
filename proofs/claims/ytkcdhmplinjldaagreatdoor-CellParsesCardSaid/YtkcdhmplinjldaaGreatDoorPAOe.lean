/- A part of the proof: Oe, Of, Og. -/
import Derived.Test.YtkcdhmplinjldaaGreatDoorPAOa
set_option linter.unusedVariables false
set_option linter.unusedSimpArgs false
namespace Go.Vf
open Go.Proofs Go.RowKit
def digs (l : List UInt8) : Bool := !l.isEmpty && l.all (digitsL.contains ·)
theorem dw_self {p : UInt8 → Bool} : ∀ (l : List UInt8), (∀ x, x ∈ l.dropWhile p → p x = true) → l.dropWhile p = []
  | [], _ => rfl
  | a :: r, h => by
    by_cases c : p a = true
    · rw [List.dropWhile_cons, if_pos c] at h ⊢
      exact dw_self r h
    · rw [List.dropWhile_cons, if_neg c] at h
      exact absurd (h a (List.mem_cons_self ..)) c
theorem dw_nil {p : UInt8 → Bool} : ∀ (l : List UInt8), l.dropWhile p = [] ↔ ∀ x, x ∈ l → p x = true
  | [] => by simp
  | a :: r => by
    by_cases c : p a = true
    · rw [List.dropWhile_cons, if_pos c, dw_nil r]; simp [c]
    · rw [List.dropWhile_cons, if_neg c]; simp [c]
theorem trimS_nil (l cs : List UInt8) : Lib.trimS l cs = [] ↔ l.all (cs.contains ·) = true := by
  unfold Lib.trimS Lib.trimLeftS Lib.trimRightS
  rw [dw_nil, List.all_eq_true]
  constructor
  · intro h
    have h1 : ∀ x, x ∈ l.reverse.dropWhile (cs.contains ·) → cs.contains x = true := fun x hx => h x (List.mem_reverse.2 hx)
    have h2 := (dw_nil _).1 (dw_self _ h1)
    exact fun x hx => h2 x (List.mem_reverse.2 hx)
  · intro h x hx
    rw [(dw_nil _).2 (fun y hy => h y (List.mem_reverse.1 hy))] at hx
    simp at hx
def g105 : List V → Option (Prop × V)
  | [.str s, .str cs] => some (s.length ≤ 1000 ∧ cs = digitsL, .str (Lib.trimS s digitsL))
  | _ => none
def ST : Specs := Specs.none.add 241 g105
theorem ST_at (f : FuncId) (xs : List V) (G : Heap) : ST f xs G = (Specs.none.add 241 g105) f xs G := rfl
theorem okST : SOk Tryz.prog ST := (SOk.none _).add fun xs G p v e hp => by
  unfold g105 at e
  split at e
  · cases e
    rw [hp.2]
    exact trim_walk _ _ (by omega) (by decide) (by decide) G
  · cases e
theorem digits_lit : ([48, 49, 50, 51, 52, 53, 54, 55, 56, 57] : List UInt8) = digitsL := rfl
theorem okn97 : fnOk Tryz.prog 236 T0 1 = true := by kernel_rfl
set_option maxRecDepth 100000 in
theorem areDigits_walk (s : List UInt8) (hs : s.length ≤ 1000) (G : Heap) : VPure Tryz.prog 236 [.str s] G (.bool (digs s)) := by
  refine VCalls.of okST mixed T0 okn97 fun hG => ?_
  by_cases h0 : s = []
  · subst h0
    simp (maxSteps:=999999) -dsimp -implicitDefEqProofs only [↓eqD,eqU,eqV,eqW,vbuiltinQ,vlen,vslice,vindex,vstore,Array.toList,simprocAttr,fnWp_some Tryz.func236,Tryz.f236,T0,FB,ST_at,add_at,none_at,ne_eq]
    exact VDone.back hG (fun _ _ => rfl) rfl rfl
  · have hd : digs s = decide (Lib.trimS s digitsL = []) := by
      unfold digs
      have : s.isEmpty = false := by simpa using h0
      rw [this, Bool.not_false, Bool.true_and, Bool.eq_iff_iff, decide_eq_true_eq, trimS_nil]
    rw [hd]
    simp (maxSteps:=999999) -dsimp -implicitDefEqProofs only [↓eqD,eqU,eqV,eqW,vbuiltinQ,vlen,vslice,vindex,vstore,Array.toList,simprocAttr,fnWp_some Tryz.func236,Tryz.f236,T0,FB,ST_at,add_at,none_at,ne_eq,h0,g105,hs,digits_lit]
    exact VDone.back hG (fun _ _ => rfl) rfl rfl
def numOf (l : List UInt8) : Nat := l.foldl (fun n b => n * 10 + (b.toNat - 48)) 0
theorem digit_byte : ∀ n, n < 256 → digitsL.contains (UInt8.ofNat n) = true → 48 ≤ n ∧ n ≤ 57 := by decide +kernel
theorem digit_in {b : UInt8} (h : digitsL.contains b = true) : 48 ≤ b.toNat ∧ b.toNat ≤ 57 :=
  digit_byte b.toNat b.toNat_lt (by simpa using h)
theorem decFrom_fold : ∀ (l : List UInt8) (acc : Nat), l.all (digitsL.contains ·) = true → Lib.decFrom acc l = some (l.foldl (fun n b => n * 10 + (b.toNat - 48)) acc)
  | [], acc, _ => rfl
  | b :: r, acc, h => by
    rw [List.all_cons, Bool.and_eq_true] at h
    have hb := digit_in h.1
    rw [Lib.decFrom, Lib.digitVal, if_pos hb]
    exact decFrom_fold r _ h.2
theorem atoi_digs {l : List UInt8} (h : digs l = true) : Lib.atoi l = some (numOf l : Int) ∧ (l.length ≤ 18 → numOf l < 1000000000000000000) := by
  unfold digs at h
  rw [Bool.and_eq_true] at h
  obtain ⟨h1, h2⟩ := h
  have hf := decFrom_fold l 0 h2
  refine ⟨?_, fun hl => Lib.decFrom_lt18 hf hl⟩
  cases l with
  | nil => cases h1
  | cons b r =>
    have h2' := h2
    rw [List.all_cons, Bool.and_eq_true] at h2'
    have hb := digit_in h2'.1
    have e1 : (b == 45) = false := by
      rw [beq_eq_false_iff_ne]; rintro rfl; simp at hb
    have e2 : (b == 43) = false := by
      rw [beq_eq_false_iff_ne]; rintro rfl; simp at hb
    rw [Lib.atoi, e1, e2]
    simp only [Bool.false_eq_true, if_false]
    rw [Lib.decNat, List.isEmpty_cons, hf]
    rfl
theorem cut_len (s p : List UInt8) : (Lib.cut s p).1.length ≤ s.length ∧ (Lib.cut s p).2.1.length ≤ s.length ∧ ((Lib.cut s p).2.2 = false → (Lib.cut s p).2.1 = []) := by
  unfold Lib.cut
  split
  · refine ⟨?_, ?_, fun e => by cases e⟩
    · rw [List.length_take]; omega
    · rw [List.length_drop]; omega
  · exact ⟨Nat.le_refl _, Nat.zero_le _, fun _ => rfl⟩
def cutDot (t : List UInt8) : List UInt8 × List UInt8 × Bool := Lib.cut (Lib.trimPrefix t [45]) [46]
def valA (neg : Bool) (c : List UInt8 × List UInt8 × Bool) : DecR :=
  if digs c.1 = true then
    (if c.2.2 = true ∧ digs c.2.1 = false then ⟨0, 0, 2⟩
    else if 18 < c.1.length + c.2.1.length then ⟨0, 0, 3⟩
    else if 8 < c.2.1.length then ⟨0, 0, 3⟩
    else fitN (if neg = true then 0 - (numOf (c.1 ++ c.2.1) : Int) else (numOf (c.1 ++ c.2.1) : Int)) (c.2.1.length : Nat))
  else ⟨0, 0, 2⟩
def decA (t : List UInt8) : DecR := valA (Lib.hasPrefix t [45]) (cutDot t)
def DecR.v (r : DecR) : V := .tup [.agg [.int .i64 r.m, .int .i64 r.s], .int .i64 r.err]
def g95 : List V → Option (Prop × V)
  | [.str s, .str p] => some (True, .tup [.str (Lib.trimPrefix s p), .bool (Lib.hasPrefix s p)])
  | _ => none
def g96 : List V → Option (Prop × V)
  | [.str s, .str p] => some (s.length ≤ 1000, .tup [.str (Lib.cut s p).1, .str (Lib.cut s p).2.1, .bool (Lib.cut s p).2.2])
  | _ => none
def g97 : List V → Option (Prop × V)
  | [.str s] => some (s.length ≤ 1000, .bool (digs s))
  | _ => none
def g98 : List V → Option (Prop × V)
  | [.str s] => some (s.length ≤ 18 ∧ digs s = true, .tup [.int .i64 (numOf s : Int), .niliface])
  | _ => none
def g99 : List V → Option (Prop × V)
  | [.int .i64 m, .int .i64 s] => some ((-1000000000000000000 ≤ m ∧ m ≤ 1000000000000000000) ∧ (0 ≤ s ∧ s ≤ 8), (fitN m s).v)
  | _ => none
def SDP : Specs := ((((Specs.none.add 234 g95).add 235 g96).add 236 g97).add 237 g98).add 171 g99
theorem SDP_at (f : FuncId) (xs : List V) (G : Heap) : SDP f xs G = (((((Specs.none.add 234 g95).add 235 g96).add 236 g97).add 237 g98).add 171 g99) f xs G := rfl
theorem okSDP : SOk Tryz.prog SDP := by
  refine (((((SOk.none _).add ?_).add ?_).add ?_).add ?_).add ?_
  · intro xs G p v e hp
    unfold g95 at e
    split at e
    · cases e; exact cutPrefix_walk _ _ G
    · cases e
  · intro xs G p v e hp
    unfold g96 at e
    split at e
    · cases e; exact cut_walk _ _ (by omega) G
    · cases e
  · intro xs G p v e hp
    unfold g97 at e
    split at e
    · cases e; exact areDigits_walk _ hp G
    · cases e
  · intro xs G p v e hp
    unfold g98 at e
    split at e
    · cases e; exact atoi_walk _ _ hp.1 (atoi_digs hp.2).1 G
    · cases e
  · intro xs G p v e hp
    unfold g99 at e
    split at e
    · cases e; exact fit_walk hp.1.1 hp.1.2 hp.2.1 hp.2.2 G
    · cases e
theorem trimPrefix_len (s p : List UInt8) : (Lib.trimPrefix s p).length ≤ s.length := by
  unfold Lib.trimPrefix; split
  · rw [List.length_drop]; omega
  · exact Nat.le_refl _
theorem digs_append {a b : List UInt8} (ha : digs a = true) (hb : b.all (digitsL.contains ·) = true) : digs (a ++ b) = true := by
  unfold digs at ha ⊢
  rw [Bool.and_eq_true] at ha ⊢
  refine ⟨?_, by rw [List.all_append, ha.2, hb]; rfl⟩
  cases a with
  | nil => cases ha.1
  | cons x r => rfl
theorem okn90 : fnOk Tryz.prog 230 T0 1 = true := by kernel_rfl
set_option maxRecDepth 100000 in
theorem dec_walk (t : List UInt8) (ht : t.length ≤ 1000) (G : Heap) : VPure Tryz.prog 230 [.str t] G (decA t).v := by
  refine VCalls.of okSDP mixed T0 okn90 fun hG => ?_
  have hl := trimPrefix_len t [45]
  have hc := cut_len (Lib.trimPrefix t [45]) [46]
  have hl2 : (Lib.trimPrefix t [45]).length ≤ 1000 := by omega
  unfold decA cutDot
  generalize hcc : Lib.cut (Lib.trimPrefix t [45]) [46] = c at *
  obtain ⟨w, b, p⟩ := c
  simp only at hc
  have l1 : w.length ≤ 1000 := by omega
  have l2 : b.length ≤ 1000 := by omega
  generalize hneg : Lib.hasPrefix t [45] = neg
  unfold valA
  simp only
  cases d1 : digs w with
  | false =>
    try rw [if_neg (by decide)]
    simp (maxSteps:=999999) -dsimp -implicitDefEqProofs only [↓eqD,eqU,eqV,eqW,vbuiltinQ,vlen,vslice,vindex,vstore,Array.toList,simprocAttr,fnWp_some Tryz.func230,Tryz.f230,T0,FB,SDP_at,add_at,none_at,g95,g96,g97,f23_0,f23_1,ag23,z23,c23,i23,p23_0,p23_1,st23,hl2,l1,hcc,d1,DecR.v]
    refine VDone.back hG ?_ rfl rfl
    intro j hj; simp (maxSteps:=999999) -dsimp -implicitDefEqProofs only [↓eqD,eqU,eqV,eqW,vbuiltinQ,vlen,vslice,vindex,vstore,Array.toList,simprocAttr,lt6 hj]
  | true =>
    rw [if_pos rfl]
    have go : (c3' : ¬(p = true ∧ digs b = false)) → b.all (digitsL.contains ·) = true := fun c => by
      cases p with
      | false => rw [hc.2.2 rfl]; rfl
      | true =>
        cases d2 : digs b with
        | false => exact absurd ⟨rfl, d2⟩ c
        | true => unfold digs at d2; rw [Bool.and_eq_true] at d2; exact d2.2
    by_cases c3' : p = true ∧ digs b = false
    · rw [if_pos c3']
      have c31 := c3'.1
      have c32 := c3'.2
      subst c31
      simp (maxSteps:=999999) -dsimp -implicitDefEqProofs only [↓eqD,eqU,eqV,eqW,vbuiltinQ,vlen,vslice,vindex,vstore,Array.toList,simprocAttr,fnWp_some Tryz.func230,Tryz.f230,T0,FB,SDP_at,add_at,none_at,g95,g96,g97,f23_0,f23_1,ag23,z23,c23,i23,p23_0,p23_1,st23,hl2,l1,l2,hcc,d1,c32,DecR.v]
      refine VDone.back hG ?_ rfl rfl
      intro j hj; simp (maxSteps:=999999) -dsimp -implicitDefEqProofs only [↓eqD,eqU,eqV,eqW,vbuiltinQ,vlen,vslice,vindex,vstore,Array.toList,simprocAttr,lt6 hj]
    · try rw [if_neg c3']
      have hb := go c3'
      have hd := digs_append d1 hb
      have ha := atoi_digs hd
      have wl : IntKind.wrap .i64 ((w.length : Int) + (b.length : Int)) = (w.length : Int) + (b.length : Int) := by rw [w64 (by omega) (by omega)]
      by_cases q1 : 18 < w.length + b.length
      · have q1' : (18 : Int) < (w.length : Int) + (b.length : Int) := by omega
        rw [if_pos q1]
        cases p with
        | false =>
          simp (maxSteps:=999999) -dsimp -implicitDefEqProofs only [↓eqD,eqU,eqV,eqW,vbuiltinQ,vlen,vslice,vindex,vstore,Array.toList,simprocAttr,fnWp_some Tryz.func230,Tryz.f230,T0,FB,SDP_at,add_at,none_at,g95,g96,g97,f23_0,f23_1,ag23,z23,c23,i23,p23_0,p23_1,st23,hl2,l1,l2,hcc,d1,DecR.v,wl,q1']
          refine VDone.back hG ?_ rfl rfl
          intro j hj; simp (maxSteps:=999999) -dsimp -implicitDefEqProofs only [↓eqD,eqU,eqV,eqW,vbuiltinQ,vlen,vslice,vindex,vstore,Array.toList,simprocAttr,lt6 hj]
        | true =>
          have d2 : digs b = true := by cases d : digs b with | true => rfl | false => exact absurd ⟨rfl, d⟩ c3'
          simp (maxSteps:=999999) -dsimp -implicitDefEqProofs only [↓eqD,eqU,eqV,eqW,vbuiltinQ,vlen,vslice,vindex,vstore,Array.toList,simprocAttr,fnWp_some Tryz.func230,Tryz.f230,T0,FB,SDP_at,add_at,none_at,g95,g96,g97,f23_0,f23_1,ag23,z23,c23,i23,p23_0,p23_1,st23,hl2,l1,l2,hcc,d1,d2,DecR.v,wl,q1']
          refine VDone.back hG ?_ rfl rfl
          intro j hj; simp (maxSteps:=999999) -dsimp -implicitDefEqProofs only [↓eqD,eqU,eqV,eqW,vbuiltinQ,vlen,vslice,vindex,vstore,Array.toList,simprocAttr,lt6 hj]
      · have q1' : ¬(18 : Int) < (w.length : Int) + (b.length : Int) := by omega
        rw [if_neg q1]
        by_cases q2 : 8 < b.length
        · have q2' : (8 : Int) < (b.length : Int) := by omega
          rw [if_pos q2]
          cases p with
          | false =>
            simp (maxSteps:=999999) -dsimp -implicitDefEqProofs only [↓eqD,eqU,eqV,eqW,vbuiltinQ,vlen,vslice,vindex,vstore,Array.toList,simprocAttr,fnWp_some Tryz.func230,Tryz.f230,T0,FB,SDP_at,add_at,none_at,g95,g96,g97,f23_0,f23_1,ag23,z23,c23,i23,p23_0,p23_1,st23,hl2,l1,l2,hcc,d1,DecR.v,wl,q1',q2']
            refine VDone.back hG ?_ rfl rfl
            intro j hj; simp (maxSteps:=999999) -dsimp -implicitDefEqProofs only [↓eqD,eqU,eqV,eqW,vbuiltinQ,vlen,vslice,vindex,vstore,Array.toList,simprocAttr,lt6 hj]
          | true =>
            have d2 : digs b = true := by cases d : digs b with | true => rfl | false => exact absurd ⟨rfl, d⟩ c3'
            simp (maxSteps:=999999) -dsimp -implicitDefEqProofs only [↓eqD,eqU,eqV,eqW,vbuiltinQ,vlen,vslice,vindex,vstore,Array.toList,simprocAttr,fnWp_some Tryz.func230,Tryz.f230,T0,FB,SDP_at,add_at,none_at,g95,g96,g97,f23_0,f23_1,ag23,z23,c23,i23,p23_0,p23_1,st23,hl2,l1,l2,hcc,d1,d2,DecR.v,wl,q1',q2']
            refine VDone.back hG ?_ rfl rfl
            intro j hj; simp (maxSteps:=999999) -dsimp -implicitDefEqProofs only [↓eqD,eqU,eqV,eqW,vbuiltinQ,vlen,vslice,vindex,vstore,Array.toList,simprocAttr,lt6 hj]
        · have q2' : ¬(8 : Int) < (b.length : Int) := by omega
          rw [if_neg q2]
          have l3 : (w ++ b).length ≤ 18 := by rw [List.length_append]; omega
          have l4 : w.length + b.length ≤ 9223372036854775807 := by omega
          have hn := ha.2 l3
          generalize hnum : numOf (w ++ b) = n at *
          have wn : IntKind.wrap .i64 (0 - (n : Int)) = 0 - (n : Int) := by rw [w64 (by omega) (by omega)]
          have n1 : -1000000000000000000 ≤ (n : Int) ∧ (n : Int) ≤ 1000000000000000000 := by omega
          have n2 : -1000000000000000000 ≤ 0 - (n : Int) ∧ 0 - (n : Int) ≤ 1000000000000000000 := by omega
          have n3 : 0 ≤ (b.length : Int) ∧ (b.length : Int) ≤ 8 := by omega
          cases p with
          | false =>
            cases neg with
            | false =>
              simp (maxSteps:=999999) -dsimp -implicitDefEqProofs only [↓eqD,eqU,eqV,eqW,vbuiltinQ,vlen,vslice,vindex,vstore,Array.toList,simprocAttr,fnWp_some Tryz.func230,Tryz.f230,T0,FB,SDP_at,add_at,none_at,g95,g96,g97,g98,g99,f23_0,f23_1,ag23,z23,c23,i23,p23_0,p23_1,st23,hl2,l1,l2,l3,l4,hcc,d1,hd,hnum,hneg,DecR.v,wl,wn,n1,n2,n3,q1',q2']
              refine VDone.back hG ?_ rfl rfl
              intro j hj; simp (maxSteps:=999999) -dsimp -implicitDefEqProofs only [↓eqD,eqU,eqV,eqW,vbuiltinQ,vlen,vslice,vindex,vstore,Array.toList,simprocAttr,lt6 hj]
            | true =>
              simp (maxSteps:=999999) -dsimp -implicitDefEqProofs only [↓eqD,eqU,eqV,eqW,vbuiltinQ,vlen,vslice,vindex,vstore,Array.toList,simprocAttr,fnWp_some Tryz.func230,Tryz.f230,T0,FB,SDP_at,add_at,none_at,g95,g96,g97,g98,g99,f23_0,f23_1,ag23,z23,c23,i23,p23_0,p23_1,st23,hl2,l1,l2,l3,l4,hcc,d1,hd,hnum,hneg,DecR.v,wl,wn,n1,n2,n3,q1',q2']
              refine VDone.back hG ?_ rfl rfl
              intro j hj; simp (maxSteps:=999999) -dsimp -implicitDefEqProofs only [↓eqD,eqU,eqV,eqW,vbuiltinQ,vlen,vslice,vindex,vstore,Array.toList,simprocAttr,lt6 hj]
          | true =>
            have d2 : digs b = true := by cases d : digs b with | true => rfl | false => exact absurd ⟨rfl, d⟩ c3'
            cases neg with
            | false =>
              simp (maxSteps:=999999) -dsimp -implicitDefEqProofs only [↓eqD,eqU,eqV,eqW,vbuiltinQ,vlen,vslice,vindex,vstore,Array.toList,simprocAttr,fnWp_some Tryz.func230,Tryz.f230,T0,FB,SDP_at,add_at,none_at,g95,g96,g97,g98,g99,f23_0,f23_1,ag23,z23,c23,i23,p23_0,p23_1,st23,hl2,l1,l2,l3,l4,hcc,d1,d2,hd,hnum,hneg,DecR.v,wl,wn,n1,n2,n3,q1',q2']
              refine VDone.back hG ?_ rfl rfl
              intro j hj; simp (maxSteps:=999999) -dsimp -implicitDefEqProofs only [↓eqD,eqU,eqV,eqW,vbuiltinQ,vlen,vslice,vindex,vstore,Array.toList,simprocAttr,lt6 hj]
            | true =>
              simp (maxSteps:=999999) -dsimp -implicitDefEqProofs only [↓eqD,eqU,eqV,eqW,vbuiltinQ,vlen,vslice,vindex,vstore,Array.toList,simprocAttr,fnWp_some Tryz.func230,Tryz.f230,T0,FB,SDP_at,add_at,none_at,g95,g96,g97,g98,g99,f23_0,f23_1,ag23,z23,c23,i23,p23_0,p23_1,st23,hl2,l1,l2,l3,l4,hcc,d1,d2,hd,hnum,hneg,DecR.v,wl,wn,n1,n2,n3,q1',q2']
              refine VDone.back hG ?_ rfl rfl
              intro j hj; simp (maxSteps:=999999) -dsimp -implicitDefEqProofs only [↓eqD,eqU,eqV,eqW,vbuiltinQ,vlen,vslice,vindex,vstore,Array.toList,simprocAttr,lt6 hj]
end Go.Vf
set_option linter.unusedVariables false
set_option linter.unusedSimpArgs false
namespace Go.Vf
open Go.Proofs Go.RowKit
theorem digit_byte2 : ∀ n, n < 256 → (digitsL.contains (UInt8.ofNat n) = true ↔ (48 ≤ n ∧ n ≤ 57)) := by decide +kernel
theorem digit_iff (b : UInt8) : digitsL.contains b = true ↔ (48 ≤ b.toNat ∧ b.toNat ≤ 57) := by
  have := digit_byte2 b.toNat b.toNat_lt
  simpa using this
theorem okn101 : fnOk Tryz.prog 233 T0 2 = true := by kernel_rfl
set_option maxRecDepth 100000 in
theorem digits_walk (s : List UInt8) (hs : s.length ≤ 1000) (at' : Int) (h0 : 0 ≤ at') (h1 : at' ≤ (s.length : Int)) (G : Heap) : VPure Tryz.prog 233 [.str s, .int .i64 at'] G (.int .i64 (runN (s.drop at'.toNat) digitsL : Nat)) := by
  refine VCalls.of (SOk.none _) mixed T0 okn101 fun hG => ?_
  simp (maxSteps:=999999) -dsimp -implicitDefEqProofs only [↓eqD,eqU,eqV,eqW,vbuiltinQ,vlen,vslice,vindex,vstore,Array.toList,simprocAttr,fnWp_some Tryz.func233,Tryz.f233,T0,FB,none_at]
  refine vloop_by (fun n : Nat => n ≤ s.length ∧ n + runN (s.drop (at'.toNat + n)) digitsL = runN (s.drop at'.toNat) digitsL) (fun n => Env.of [(0, .str s), (1, .int .i64 at'), (5, .int .i64 (n : Nat))]) (fun _ => G.over G.next []) (fun n => s.length - n) 0 ?_ ?_ ?_
  · refine .of ?_ (.over hG rfl trivial (fun _ _ => rfl))
    simp (maxSteps:=999999) -dsimp -implicitDefEqProofs only [↓eqD,eqU,eqV,eqW,vbuiltinQ,vlen,vslice,vindex,vstore,Array.toList,simprocAttr]
    (repeat' apply And.intro) <;> exact .refl _
  · exact ⟨Nat.zero_le _, by simp⟩
  · rintro n ⟨a1, a2⟩
    have w1 : IntKind.wrap .i64 (at' + (n : Int)) = at' + (n : Int) := by rw [w64 (by omega) (by omega)]
    have w2 : IntKind.wrap .i64 ((n : Int) + 1) = ((n + 1 : Nat) : Int) := by rw [w64 (by omega) (by omega)]; rfl
    have tn : (at' + (n : Int)).toNat = at'.toNat + n := by omega
    by_cases c1 : at' + (n : Int) < (s.length : Int)
    · have hlt : at'.toNat + n < s.length := by omega
      have nn : 0 ≤ at' + (n : Int) := by omega
      have dg := digit_iff (s.getD (at'.toNat + n) 0)
      have hin := runN_in (s := s) (set := digitsL) (e := at'.toNat + n) hlt
      have hout := runN_out (s := s) (set := digitsL) (e := at'.toNat + n) hlt
      generalize hgx : s.getD (at'.toNat + n) 0 = x at *
      by_cases c2 : 48 ≤ (x.toNat : Int)
      · by_cases c3' : (x.toNat : Int) ≤ 57
        · have hi := hin (dg.2 (by omega))
          have hl := runN_le (s.drop at'.toNat) digitsL
          rw [List.length_drop] at hl
          simp (maxSteps:=999999) -dsimp -implicitDefEqProofs only [↓eqD,eqU,eqV,eqW,vbuiltinQ,vlen,vslice,vindex,vstore,Array.toList,simprocAttr,T0,FB,none_at,w1,w2,c1,tn,nn,hgx,c2,c3']
          refine ⟨n + 1, ⟨by omega, by rw [← Nat.add_assoc]; omega⟩, by omega, .of ?_ (.over hG rfl trivial (fun _ _ => rfl))⟩
          simp (maxSteps:=999999) -dsimp -implicitDefEqProofs only [↓eqD,eqU,eqV,eqW,vbuiltinQ,vlen,vslice,vindex,vstore,Array.toList,simprocAttr]
          (repeat' apply And.intro) <;> exact .refl _
        · have ho := hout (by cases hc : digitsL.contains x with | false => rfl | true => exact absurd (dg.1 hc) (by omega))
          have e : n = runN (s.drop at'.toNat) digitsL := by omega
          rw [← e]
          simp (maxSteps:=999999) -dsimp -implicitDefEqProofs only [↓eqD,eqU,eqV,eqW,vbuiltinQ,vlen,vslice,vindex,vstore,Array.toList,simprocAttr,T0,FB,none_at,w1,w2,c1,tn,nn,hgx,c2,c3']
          exact VDone.back hG (fun _ _ => rfl) rfl rfl
      · have ho := hout (by cases hc : digitsL.contains x with | false => rfl | true => exact absurd (dg.1 hc) (by omega))
        have e : n = runN (s.drop at'.toNat) digitsL := by omega
        rw [← e]
        simp (maxSteps:=999999) -dsimp -implicitDefEqProofs only [↓eqD,eqU,eqV,eqW,vbuiltinQ,vlen,vslice,vindex,vstore,Array.toList,simprocAttr,T0,FB,none_at,w1,w2,c1,tn,nn,hgx,c2]
        exact VDone.back hG (fun _ _ => rfl) rfl rfl
    · have he := runN_end (s := s) digitsL (e := at'.toNat + n) (by omega)
      have e : n = runN (s.drop at'.toNat) digitsL := by omega
      rw [← e]
      simp (maxSteps:=999999) -dsimp -implicitDefEqProofs only [↓eqD,eqU,eqV,eqW,vbuiltinQ,vlen,vslice,vindex,vstore,Array.toList,simprocAttr,T0,FB,none_at,w1,w2,c1]
      exact VDone.back hG (fun _ _ => rfl) rfl rfl
end Go.Vf
set_option linter.unusedVariables false
set_option linter.unusedSimpArgs false
namespace Go.Vf
open Go.Proofs Go.RowKit
def keepB (l : List UInt8) : List UInt8 := l.filter (· != 46)
abbrev Dg (l : List UInt8) : Prop := l.all (digitsL.contains ·) = true
theorem runN_app {d : List UInt8} (hd : Dg d) (r : List UInt8) : runN (d ++ r) digitsL = d.length + runN r digitsL := by
  rw [runN_eq, runN_eq, List.takeWhile_append_of_pos (fun x hx => by simpa using (List.all_eq_true.1 hd) x hx), List.length_append]
theorem runN_stop {y : UInt8} (h : digitsL.contains y = false) (r : List UInt8) : runN (y :: r) digitsL = 0 := by
  rw [runN_eq, List.takeWhile_cons, h]; rfl
theorem runN_dg {d : List UInt8} (hd : Dg d) : runN d digitsL = d.length := by
  have := runN_app hd []
  rw [List.append_nil] at this
  rw [this, runN_nil]; rfl
theorem runN_full {r : List UInt8} (h : runN r digitsL = r.length) : Dg r := by
  have e := List.takeWhile_append_dropWhile (p := fun b => digitsL.contains b) (l := r)
  rw [runN_eq] at h
  have hl := congrArg List.length e
  rw [List.length_append] at hl
  have hz : r.dropWhile (fun b => digitsL.contains b) = [] := by
    apply List.eq_nil_of_length_eq_zero; omega
  unfold Dg
  rw [List.all_eq_true]
  exact (dw_nil r).1 hz
theorem dot_no : digitsL.contains 46 = false := by decide
theorem keep_dg : ∀ {d : List UInt8}, Dg d → keepB d = d
  | [], _ => rfl
  | x :: r, h => by
    unfold Dg at h
    rw [List.all_cons, Bool.and_eq_true] at h
    have hx : (x != 46) = true := by
      rw [bne_iff_ne]; rintro rfl; rw [dot_no] at h; exact absurd h.1 (by decide)
    have := keep_dg (d := r) h.2
    unfold keepB at this ⊢
    rw [List.filter_cons, if_pos hx, this]
theorem keep_dot {d r : List UInt8} (hd : Dg d) (hr : Dg r) : keepB (d ++ 46 :: r) = d ++ r := by
  have h1 := keep_dg hd
  have h2 := keep_dg hr
  unfold keepB at *
  rw [List.filter_append, h1, List.filter_cons, if_neg (by decide), h2]
theorem rest_split (s : List UInt8) : ∃ d r, s = d ++ r ∧ Dg d ∧ (r = [] ∨ (∃ r', r = 46 :: r') ∨ ∃ y r', r = y :: r' ∧ digitsL.contains y = false ∧ y ≠ 46) := by
  have key : ∀ r : List UInt8, (∀ x ∈ r.head?, digitsL.contains x = false) → (r = [] ∨ (∃ r', r = 46 :: r') ∨ ∃ y r', r = y :: r' ∧ digitsL.contains y = false ∧ y ≠ 46) := by
    intro r h
    cases r with
    | nil => exact .inl rfl
    | cons y r' =>
      by_cases hy : y = 46
      · exact .inr (.inl ⟨r', by rw [hy]⟩)
      · exact .inr (.inr ⟨y, r', rfl, h y (by simp), hy⟩)
  induction s with
  | nil => exact ⟨[], [], rfl, rfl, .inl rfl⟩
  | cons x t ih =>
    cases hx : digitsL.contains x with
    | true =>
      obtain ⟨d, r, h1, h2, h3⟩ := ih
      refine ⟨x :: d, r, by rw [h1]; rfl, ?_, h3⟩
      unfold Dg at *
      rw [List.all_cons, hx, h2]; rfl
    | false => exact ⟨[], x :: t, rfl, rfl, key _ (fun z hz => by cases hz; exact hx)⟩
def valB (neg : Bool) (s : List UInt8) : DecR :=
  if runN s digitsL = 0 then ⟨0, 0, 2⟩
  else if runN s digitsL = s.length then
    (if 18 < s.length then ⟨0, 0, 3⟩ else fitN (if neg = true then 0 - (numOf (keepB s) : Int) else (numOf (keepB s) : Int)) (0 : Nat))
  else if s.getD (runN s digitsL) 0 = 46 then
    (if runN s digitsL + 1 + runN (s.drop (runN s digitsL + 1)) digitsL = s.length then
      (if runN (s.drop (runN s digitsL + 1)) digitsL = 0 then ⟨0, 0, 2⟩
      else if 18 < runN s digitsL + runN (s.drop (runN s digitsL + 1)) digitsL then ⟨0, 0, 3⟩
      else if 8 < runN (s.drop (runN s digitsL + 1)) digitsL then ⟨0, 0, 3⟩
      else fitN (if neg = true then 0 - (numOf (keepB s) : Int) else (numOf (keepB s) : Int)) (runN (s.drop (runN s digitsL + 1)) digitsL : Nat))
    else ⟨0, 0, 2⟩)
  else ⟨0, 0, 2⟩
def decB (t : List UInt8) : DecR := valB (Lib.hasPrefix t [45]) (Lib.trimPrefix t [45])
theorem getD_app (d : List UInt8) (y : UInt8) (r : List UInt8) : (d ++ y :: r).getD d.length 0 = y := by
  simp [List.getD]
theorem drop_app (d : List UInt8) (y : UInt8) (r : List UInt8) : (d ++ y :: r).drop (d.length + 1) = r := by
  rw [← List.drop_drop, List.drop_left]; rfl
theorem index_none : ∀ (l : List UInt8), (∀ x, x ∈ l → x ≠ 46) → Lib.index l [46] = -1
  | [], _ => rfl
  | b :: r, h => by
    have hb : List.isPrefixOf [46] (b :: r) = false := by
      have := h b (List.mem_cons_self ..)
      simp only [List.isPrefixOf, Bool.and_true]
      exact beq_eq_false_iff_ne.2 fun e => this e.symm
    rw [Lib.index, hb, index_none r fun x hx => h x (List.mem_cons_of_mem _ hx)]; rfl
theorem index_at : ∀ (d r : List UInt8), (∀ x, x ∈ d → x ≠ 46) → Lib.index (d ++ 46 :: r) [46] = (d.length : Int)
  | [], r, _ => by
    have hb : List.isPrefixOf [46] (46 :: r) = true := by simp [List.isPrefixOf]
    rw [List.nil_append, Lib.index, hb]; rfl
  | b :: d, r, h => by
    have hb : List.isPrefixOf [46] (b :: (d ++ 46 :: r)) = false := by
      have := h b (List.mem_cons_self ..)
      simp only [List.isPrefixOf, Bool.and_true]
      exact beq_eq_false_iff_ne.2 fun e => this e.symm
    have ih := index_at d r fun x hx => h x (List.mem_cons_of_mem _ hx)
    rw [List.cons_append, Lib.index, hb, ih]
    have hn : (((d.length : Int)) == -1) = false := beq_eq_false_iff_ne.2 (by omega)
    rw [hn, List.length_cons]
    simp
theorem cut_none {l : List UInt8} (h : ∀ x, x ∈ l → x ≠ 46) : Lib.cut l [46] = (l, [], false) := by
  unfold Lib.cut; rw [index_none l h]; rfl
theorem cut_at {d r : List UInt8} (h : ∀ x, x ∈ d → x ≠ 46) : Lib.cut (d ++ 46 :: r) [46] = (d, r, true) := by
  unfold Lib.cut
  rw [index_at d r h, if_pos (by omega), Int.toNat_natCast, List.take_left]
  have : (d ++ 46 :: r).drop (d.length + [(46 : UInt8)].length) = r := drop_app d 46 r
  rw [this]
theorem dg_no {d : List UInt8} (hd : Dg d) : ∀ x, x ∈ d → x ≠ 46 := fun x hx e => by
  have := List.all_eq_true.1 hd x hx
  rw [e, dot_no] at this; cases this
theorem split_dot : ∀ (l : List UInt8), (∀ x, x ∈ l → x ≠ 46) ∨ ∃ d r, l = d ++ 46 :: r ∧ ∀ x, x ∈ d → x ≠ 46
  | [] => .inl fun x hx => by cases hx
  | b :: r => by
    by_cases hb : b = 46
    · exact .inr ⟨[], r, by rw [hb]; rfl, fun x hx => by cases hx⟩
    · rcases split_dot r with h | ⟨d, r', h1, h2⟩
      · refine .inl fun x hx => ?_
        rcases List.mem_cons.1 hx with rfl | hx
        · exact hb
        · exact h x hx
      · refine .inr ⟨b :: d, r', by rw [h1]; rfl, fun x hx => ?_⟩
        rcases List.mem_cons.1 hx with rfl | hx
        · exact hb
        · exact h2 x hx
theorem digs_eq {d : List UInt8} (hd : Dg d) : digs d = !d.isEmpty := by unfold digs; rw [hd, Bool.and_true]
theorem digs_bad {d r : List UInt8} {y : UInt8} (hy : digitsL.contains y = false) : digs (d ++ y :: r) = false := by
  unfold digs; rw [List.all_append, List.all_cons, hy]; simp
theorem valA_eq (neg : Bool) (s : List UInt8) : valA neg (Lib.cut s [46]) = valB neg s := by
  obtain ⟨d, r, rfl, hd, h⟩ := rest_split s
  rcases h with rfl | ⟨r', rfl⟩ | ⟨y, r', rfl, hy, hy'⟩
  · rw [List.append_nil, cut_none (dg_no hd)]
    unfold valA valB
    simp only [runN_dg hd, keep_dg hd]
    cases d with
    | nil => rfl
    | cons x t =>
      rw [digs_eq hd]
      simp
  · rw [cut_at (dg_no hd)]
    unfold valA valB
    have hr : runN (d ++ 46 :: r') digitsL = d.length := by rw [runN_app hd, runN_stop dot_no]; rfl
    simp only [hr, getD_app, drop_app, List.length_append, List.length_cons]
    cases d with
    | nil => rfl
    | cons x t =>
      rw [digs_eq hd]
      simp only [List.isEmpty_cons, Bool.not_false, if_true, List.length_cons, true_and]
      rw [if_neg (c := t.length + 1 = 0) (by omega), if_neg (c := t.length + 1 = t.length + 1 + (r'.length + 1)) (by omega)]
      by_cases hf : runN r' digitsL = r'.length
      · have hr' := runN_full hf
        rw [keep_dot hd hr', hf, if_pos (c := t.length + 1 + 1 + r'.length = t.length + 1 + (r'.length + 1)) (by omega), digs_eq hr']
        cases r' with
        | nil => rfl
        | cons z w => simp
      · have hb : digs r' = false := by
          cases hc : digs r' with
          | false => rfl
          | true =>
            unfold digs at hc; rw [Bool.and_eq_true] at hc
            exact absurd (runN_dg hc.2) hf
        rw [hb, if_pos rfl, if_neg (by omega)]
  · have hr : runN (d ++ y :: r') digitsL = d.length := by rw [runN_app hd, runN_stop hy]; rfl
    have hB : valB neg (d ++ y :: r') = ⟨0, 0, 2⟩ := by
      unfold valB
      simp only [hr, getD_app, if_neg hy']
      split
      · rfl
      · rw [if_neg (by simp)]
    rw [hB]
    have hdy : ∀ x, x ∈ d ++ [y] → x ≠ 46 := fun x hx => by
      rcases List.mem_append.1 hx with hx | hx
      · exact dg_no hd x hx
      · simp at hx; rw [hx]; exact hy'
    rcases split_dot (d ++ y :: r') with h | ⟨d2, r2, h1, h2⟩
    · rw [cut_none h]
      unfold valA
      simp only [digs_bad hy]
      rfl
    · rw [h1, cut_at h2]
      have hp : ∃ r3, d2 = d ++ y :: r3 := by
        have hlen : d.length < d2.length := by
          rcases Nat.lt_or_ge d.length d2.length with h | h
          · exact h
          · exfalso
            have h46 : (d ++ y :: r').getD d2.length 0 = 46 := by rw [h1, getD_app]
            have hlt : d2.length < (d ++ [y]).length := by rw [List.length_append]; simp; omega
            have e2 : (d ++ y :: r').getD d2.length 0 = (d ++ [y]).getD d2.length 0 := by
              have : d ++ y :: r' = (d ++ [y]) ++ r' := by simp
              rw [this, List.getD, List.getElem?_append_left hlt, List.getD]
            rw [e2, List.getD, List.getElem?_eq_getElem hlt] at h46
            exact hdy _ (List.getElem_mem hlt) h46
        have ht : d2.take (d.length + 1) = d ++ [y] := by
          have e1 : (d2 ++ 46 :: r2).take (d.length + 1) = d2.take (d.length + 1) := List.take_append_of_le_length (by omega)
          rw [← e1, ← h1]
          have : d ++ y :: r' = (d ++ [y]) ++ r' := by simp
          rw [this, List.take_append_of_le_length (by simp), List.take_of_length_le (by simp)]
        refine ⟨d2.drop (d.length + 1), ?_⟩
        have := List.take_append_drop (d.length + 1) d2
        rw [ht] at this
        rw [← this]; simp
      obtain ⟨r3, rfl⟩ := hp
      unfold valA
      simp only [digs_bad hy]
      rfl
theorem decA_eq (t : List UInt8) : decA t = decB t := valA_eq _ _
end Go.Vf
