/- A part of the proof: Oe. -/
import Derived.Test.YtkcdhmplinjldaaGreatDoorBAOa
set_option linter.unusedVariables false
set_option linter.unusedSimpArgs false
namespace Go.Vf
open Go.Proofs Go.RowKit
def digs (l : List UInt8) : Bool := !l.isEmpty && l.all (digitsL.contains ·)
theorem dw_self {p : UInt8 → Bool} : ∀ (l : List UInt8), (∀ x, x ∈ l.dropWhile p → p x = true) → l.dropWhile p = []
  | [], _ => rfl
  | a :: r, h => by
    by_cases c : p a = true
    · rw [List.dropWhile_cons, if_pos c] at h ⊢
      exact dw_self r h
    · rw [List.dropWhile_cons, if_neg c] at h
      exact absurd (h a (List.mem_cons_self ..)) c
theorem dw_nil {p : UInt8 → Bool} : ∀ (l : List UInt8), l.dropWhile p = [] ↔ ∀ x, x ∈ l → p x = true
  | [] => by simp
  | a :: r => by
    by_cases c : p a = true
    · rw [List.dropWhile_cons, if_pos c, dw_nil r]; simp [c]
    · rw [List.dropWhile_cons, if_neg c]; simp [c]
theorem trimS_nil (l cs : List UInt8) : Lib.trimS l cs = [] ↔ l.all (cs.contains ·) = true := by
  unfold Lib.trimS Lib.trimLeftS Lib.trimRightS
  rw [dw_nil, List.all_eq_true]
  constructor
  · intro h
    have h1 : ∀ x, x ∈ l.reverse.dropWhile (cs.contains ·) → cs.contains x = true := fun x hx => h x (List.mem_reverse.2 hx)
    have h2 := (dw_nil _).1 (dw_self _ h1)
    exact fun x hx => h2 x (List.mem_reverse.2 hx)
  · intro h x hx
    rw [(dw_nil _).2 (fun y hy => h y (List.mem_reverse.1 hy))] at hx
    simp at hx
def g105 : List V → Option (Prop × V)
  | [.str s, .str cs] => some (s.length ≤ 1000 ∧ cs = digitsL, .str (Lib.trimS s digitsL))
  | _ => none
def ST : Specs := Specs.none.add 241 g105
theorem ST_at (f : FuncId) (xs : List V) (G : Heap) : ST f xs G = (Specs.none.add 241 g105) f xs G := rfl
theorem okST : SOk Tryz.prog ST := (SOk.none _).add fun xs G p v e hp => by
  unfold g105 at e
  split at e
  · cases e
    rw [hp.2]
    exact trim_walk _ _ (by omega) (by decide) (by decide) G
  · cases e
theorem digits_lit : ([48, 49, 50, 51, 52, 53, 54, 55, 56, 57] : List UInt8) = digitsL := rfl
theorem okn97 : fnOk Tryz.prog 236 T0 1 = true := by kernel_rfl
set_option maxRecDepth 100000 in
theorem areDigits_walk (s : List UInt8) (hs : s.length ≤ 1000) (G : Heap) : VPure Tryz.prog 236 [.str s] G (.bool (digs s)) := by
  refine VCalls.of okST mixed T0 okn97 fun hG => ?_
  by_cases h0 : s = []
  · subst h0
    simp (maxSteps:=999999) -dsimp -implicitDefEqProofs only [↓eqD,eqU,eqV,eqW,vbuiltinQ,vlen,vslice,vindex,vstore,Array.toList,simprocAttr,fnWp_some Tryz.func236,Tryz.f236,T0,FB,ST_at,add_at,none_at,ne_eq]
    exact VDone.back hG (fun _ _ => rfl) rfl rfl
  · have hd : digs s = decide (Lib.trimS s digitsL = []) := by
      unfold digs
      have : s.isEmpty = false := by simpa using h0
      rw [this, Bool.not_false, Bool.true_and, Bool.eq_iff_iff, decide_eq_true_eq, trimS_nil]
    rw [hd]
    simp (maxSteps:=999999) -dsimp -implicitDefEqProofs only [↓eqD,eqU,eqV,eqW,vbuiltinQ,vlen,vslice,vindex,vstore,Array.toList,simprocAttr,fnWp_some Tryz.func236,Tryz.f236,T0,FB,ST_at,add_at,none_at,ne_eq,h0,g105,hs,digits_lit]
    exact VDone.back hG (fun _ _ => rfl) rfl rfl
def numOf (l : List UInt8) : Nat := l.foldl (fun n b => n * 10 + (b.toNat - 48)) 0
theorem digit_byte : ∀ n, n < 256 → digitsL.contains (UInt8.ofNat n) = true → 48 ≤ n ∧ n ≤ 57 := by decide +kernel
theorem digit_in {b : UInt8} (h : digitsL.contains b = true) : 48 ≤ b.toNat ∧ b.toNat ≤ 57 :=
  digit_byte b.toNat b.toNat_lt (by simpa using h)
theorem decFrom_fold : ∀ (l : List UInt8) (acc : Nat), l.all (digitsL.contains ·) = true → Lib.decFrom acc l = some (l.foldl (fun n b => n * 10 + (b.toNat - 48)) acc)
  | [], acc, _ => rfl
  | b :: r, acc, h => by
    rw [List.all_cons, Bool.and_eq_true] at h
    have hb := digit_in h.1
    rw [Lib.decFrom, Lib.digitVal, if_pos hb]
    exact decFrom_fold r _ h.2
theorem atoi_digs {l : List UInt8} (h : digs l = true) : Lib.atoi l = some (numOf l : Int) ∧ (l.length ≤ 18 → numOf l < 1000000000000000000) := by
  unfold digs at h
  rw [Bool.and_eq_true] at h
  obtain ⟨h1, h2⟩ := h
  have hf := decFrom_fold l 0 h2
  refine ⟨?_, fun hl => Lib.decFrom_lt18 hf hl⟩
  cases l with
  | nil => cases h1
  | cons b r =>
    have h2' := h2
    rw [List.all_cons, Bool.and_eq_true] at h2'
    have hb := digit_in h2'.1
    have e1 : (b == 45) = false := by
      rw [beq_eq_false_iff_ne]; rintro rfl; simp at hb
    have e2 : (b == 43) = false := by
      rw [beq_eq_false_iff_ne]; rintro rfl; simp at hb
    rw [Lib.atoi, e1, e2]
    simp only [Bool.false_eq_true, if_false]
    rw [Lib.decNat, List.isEmpty_cons, hf]
    rfl
theorem cut_len (s p : List UInt8) : (Lib.cut s p).1.length ≤ s.length ∧ (Lib.cut s p).2.1.length ≤ s.length ∧ ((Lib.cut s p).2.2 = false → (Lib.cut s p).2.1 = []) := by
  unfold Lib.cut
  split
  · refine ⟨?_, ?_, fun e => by cases e⟩
    · rw [List.length_take]; omega
    · rw [List.length_drop]; omega
  · exact ⟨Nat.le_refl _, Nat.zero_le _, fun _ => rfl⟩
def cutDot (t : List UInt8) : List UInt8 × List UInt8 × Bool := Lib.cut (Lib.trimPrefix t [45]) [46]
def valA (neg : Bool) (c : List UInt8 × List UInt8 × Bool) : DecR :=
  if digs c.1 = true then
    (if c.2.2 = true ∧ digs c.2.1 = false then ⟨0, 0, 2⟩
    else if 18 < c.1.length + c.2.1.length then ⟨0, 0, 3⟩
    else if 8 < c.2.1.length then ⟨0, 0, 3⟩
    else fitN (if neg = true then 0 - (numOf (c.1 ++ c.2.1) : Int) else (numOf (c.1 ++ c.2.1) : Int)) (c.2.1.length : Nat))
  else ⟨0, 0, 2⟩
def decA (t : List UInt8) : DecR := valA (Lib.hasPrefix t [45]) (cutDot t)
def DecR.v (r : DecR) : V := .tup [.agg [.int .i64 r.m, .int .i64 r.s], .int .i64 r.err]
def g95 : List V → Option (Prop × V)
  | [.str s, .str p] => some (True, .tup [.str (Lib.trimPrefix s p), .bool (Lib.hasPrefix s p)])
  | _ => none
def g96 : List V → Option (Prop × V)
  | [.str s, .str p] => some (s.length ≤ 1000, .tup [.str (Lib.cut s p).1, .str (Lib.cut s p).2.1, .bool (Lib.cut s p).2.2])
  | _ => none
def g97 : List V → Option (Prop × V)
  | [.str s] => some (s.length ≤ 1000, .bool (digs s))
  | _ => none
def g98 : List V → Option (Prop × V)
  | [.str s] => some (s.length ≤ 18 ∧ digs s = true, .tup [.int .i64 (numOf s : Int), .niliface])
  | _ => none
def g99 : List V → Option (Prop × V)
  | [.int .i64 m, .int .i64 s] => some ((-1000000000000000000 ≤ m ∧ m ≤ 1000000000000000000) ∧ (0 ≤ s ∧ s ≤ 8), (fitN m s).v)
  | _ => none
def SDP : Specs := ((((Specs.none.add 234 g95).add 235 g96).add 236 g97).add 237 g98).add 171 g99
theorem SDP_at (f : FuncId) (xs : List V) (G : Heap) : SDP f xs G = (((((Specs.none.add 234 g95).add 235 g96).add 236 g97).add 237 g98).add 171 g99) f xs G := rfl
theorem okSDP : SOk Tryz.prog SDP := by
  refine (((((SOk.none _).add ?_).add ?_).add ?_).add ?_).add ?_
  · intro xs G p v e hp
    unfold g95 at e
    split at e
    · cases e; exact cutPrefix_walk _ _ G
    · cases e
  · intro xs G p v e hp
    unfold g96 at e
    split at e
    · cases e; exact cut_walk _ _ (by omega) G
    · cases e
  · intro xs G p v e hp
    unfold g97 at e
    split at e
    · cases e; exact areDigits_walk _ hp G
    · cases e
  · intro xs G p v e hp
    unfold g98 at e
    split at e
    · cases e; exact atoi_walk _ _ hp.1 (atoi_digs hp.2).1 G
    · cases e
  · intro xs G p v e hp
    unfold g99 at e
    split at e
    · cases e; exact fit_walk hp.1.1 hp.1.2 hp.2.1 hp.2.2 G
    · cases e
theorem trimPrefix_len (s p : List UInt8) : (Lib.trimPrefix s p).length ≤ s.length := by
  unfold Lib.trimPrefix; split
  · rw [List.length_drop]; omega
  · exact Nat.le_refl _
theorem digs_append {a b : List UInt8} (ha : digs a = true) (hb : b.all (digitsL.contains ·) = true) : digs (a ++ b) = true := by
  unfold digs at ha ⊢
  rw [Bool.and_eq_true] at ha ⊢
  refine ⟨?_, by rw [List.all_append, ha.2, hb]; rfl⟩
  cases a with
  | nil => cases ha.1
  | cons x r => rfl
theorem okn90 : fnOk Tryz.prog 230 T0 1 = true := by kernel_rfl
set_option maxRecDepth 100000 in
theorem dec_walk (t : List UInt8) (ht : t.length ≤ 1000) (G : Heap) : VPure Tryz.prog 230 [.str t] G (decA t).v := by
  refine VCalls.of okSDP mixed T0 okn90 fun hG => ?_
  have hl := trimPrefix_len t [45]
  have hc := cut_len (Lib.trimPrefix t [45]) [46]
  have hl2 : (Lib.trimPrefix t [45]).length ≤ 1000 := by omega
  unfold decA cutDot
  generalize hcc : Lib.cut (Lib.trimPrefix t [45]) [46] = c at *
  obtain ⟨w, b, p⟩ := c
  simp only at hc
  have l1 : w.length ≤ 1000 := by omega
  have l2 : b.length ≤ 1000 := by omega
  generalize hneg : Lib.hasPrefix t [45] = neg
  unfold valA
  simp only
  cases d1 : digs w with
  | false =>
    try rw [if_neg (by decide)]
    simp (maxSteps:=999999) -dsimp -implicitDefEqProofs only [↓eqD,eqU,eqV,eqW,vbuiltinQ,vlen,vslice,vindex,vstore,Array.toList,simprocAttr,fnWp_some Tryz.func230,Tryz.f230,T0,FB,SDP_at,add_at,none_at,g95,g96,g97,f23_0,f23_1,ag23,z23,c23,i23,p23_0,p23_1,st23,hl2,l1,hcc,d1,DecR.v]
    refine VDone.back hG ?_ rfl rfl
    intro j hj; simp (maxSteps:=999999) -dsimp -implicitDefEqProofs only [↓eqD,eqU,eqV,eqW,vbuiltinQ,vlen,vslice,vindex,vstore,Array.toList,simprocAttr,lt6 hj]
  | true =>
    rw [if_pos rfl]
    have go : (c3' : ¬(p = true ∧ digs b = false)) → b.all (digitsL.contains ·) = true := fun c => by
      cases p with
      | false => rw [hc.2.2 rfl]; rfl
      | true =>
        cases d2 : digs b with
        | false => exact absurd ⟨rfl, d2⟩ c
        | true => unfold digs at d2; rw [Bool.and_eq_true] at d2; exact d2.2
    by_cases c3' : p = true ∧ digs b = false
    · rw [if_pos c3']
      have c31 := c3'.1
      have c32 := c3'.2
      subst c31
      simp (maxSteps:=999999) -dsimp -implicitDefEqProofs only [↓eqD,eqU,eqV,eqW,vbuiltinQ,vlen,vslice,vindex,vstore,Array.toList,simprocAttr,fnWp_some Tryz.func230,Tryz.f230,T0,FB,SDP_at,add_at,none_at,g95,g96,g97,f23_0,f23_1,ag23,z23,c23,i23,p23_0,p23_1,st23,hl2,l1,l2,hcc,d1,c32,DecR.v]
      refine VDone.back hG ?_ rfl rfl
      intro j hj; simp (maxSteps:=999999) -dsimp -implicitDefEqProofs only [↓eqD,eqU,eqV,eqW,vbuiltinQ,vlen,vslice,vindex,vstore,Array.toList,simprocAttr,lt6 hj]
    · try rw [if_neg c3']
      have hb := go c3'
      have hd := digs_append d1 hb
      have ha := atoi_digs hd
      have wl : IntKind.wrap .i64 ((w.length : Int) + (b.length : Int)) = (w.length : Int) + (b.length : Int) := by rw [w64 (by omega) (by omega)]
      by_cases q1 : 18 < w.length + b.length
      · have q1' : (18 : Int) < (w.length : Int) + (b.length : Int) := by omega
        rw [if_pos q1]
        cases p with
        | false =>
          simp (maxSteps:=999999) -dsimp -implicitDefEqProofs only [↓eqD,eqU,eqV,eqW,vbuiltinQ,vlen,vslice,vindex,vstore,Array.toList,simprocAttr,fnWp_some Tryz.func230,Tryz.f230,T0,FB,SDP_at,add_at,none_at,g95,g96,g97,f23_0,f23_1,ag23,z23,c23,i23,p23_0,p23_1,st23,hl2,l1,l2,hcc,d1,DecR.v,wl,q1']
          refine VDone.back hG ?_ rfl rfl
          intro j hj; simp (maxSteps:=999999) -dsimp -implicitDefEqProofs only [↓eqD,eqU,eqV,eqW,vbuiltinQ,vlen,vslice,vindex,vstore,Array.toList,simprocAttr,lt6 hj]
        | true =>
          have d2 : digs b = true := by cases d : digs b with | true => rfl | false => exact absurd ⟨rfl, d⟩ c3'
          simp (maxSteps:=999999) -dsimp -implicitDefEqProofs only [↓eqD,eqU,eqV,eqW,vbuiltinQ,vlen,vslice,vindex,vstore,Array.toList,simprocAttr,fnWp_some Tryz.func230,Tryz.f230,T0,FB,SDP_at,add_at,none_at,g95,g96,g97,f23_0,f23_1,ag23,z23,c23,i23,p23_0,p23_1,st23,hl2,l1,l2,hcc,d1,d2,DecR.v,wl,q1']
          refine VDone.back hG ?_ rfl rfl
          intro j hj; simp (maxSteps:=999999) -dsimp -implicitDefEqProofs only [↓eqD,eqU,eqV,eqW,vbuiltinQ,vlen,vslice,vindex,vstore,Array.toList,simprocAttr,lt6 hj]
      · have q1' : ¬(18 : Int) < (w.length : Int) + (b.length : Int) := by omega
        rw [if_neg q1]
        by_cases q2 : 8 < b.length
        · have q2' : (8 : Int) < (b.length : Int) := by omega
          rw [if_pos q2]
          cases p with
          | false =>
            simp (maxSteps:=999999) -dsimp -implicitDefEqProofs only [↓eqD,eqU,eqV,eqW,vbuiltinQ,vlen,vslice,vindex,vstore,Array.toList,simprocAttr,fnWp_some Tryz.func230,Tryz.f230,T0,FB,SDP_at,add_at,none_at,g95,g96,g97,f23_0,f23_1,ag23,z23,c23,i23,p23_0,p23_1,st23,hl2,l1,l2,hcc,d1,DecR.v,wl,q1',q2']
            refine VDone.back hG ?_ rfl rfl
            intro j hj; simp (maxSteps:=999999) -dsimp -implicitDefEqProofs only [↓eqD,eqU,eqV,eqW,vbuiltinQ,vlen,vslice,vindex,vstore,Array.toList,simprocAttr,lt6 hj]
          | true =>
            have d2 : digs b = true := by cases d : digs b with | true => rfl | false => exact absurd ⟨rfl, d⟩ c3'
            simp (maxSteps:=999999) -dsimp -implicitDefEqProofs only [↓eqD,eqU,eqV,eqW,vbuiltinQ,vlen,vslice,vindex,vstore,Array.toList,simprocAttr,fnWp_some Tryz.func230,Tryz.f230,T0,FB,SDP_at,add_at,none_at,g95,g96,g97,f23_0,f23_1,ag23,z23,c23,i23,p23_0,p23_1,st23,hl2,l1,l2,hcc,d1,d2,DecR.v,wl,q1',q2']
            refine VDone.back hG ?_ rfl rfl
            intro j hj; simp (maxSteps:=999999) -dsimp -implicitDefEqProofs only [↓eqD,eqU,eqV,eqW,vbuiltinQ,vlen,vslice,vindex,vstore,Array.toList,simprocAttr,lt6 hj]
        · have q2' : ¬(8 : Int) < (b.length : Int) := by omega
          rw [if_neg q2]
          have l3 : (w ++ b).length ≤ 18 := by rw [List.length_append]; omega
          have l4 : w.length + b.length ≤ 9223372036854775807 := by omega
          have hn := ha.2 l3
          generalize hnum : numOf (w ++ b) = n at *
          have wn : IntKind.wrap .i64 (0 - (n : Int)) = 0 - (n : Int) := by rw [w64 (by omega) (by omega)]
          have n1 : -1000000000000000000 ≤ (n : Int) ∧ (n : Int) ≤ 1000000000000000000 := by omega
          have n2 : -1000000000000000000 ≤ 0 - (n : Int) ∧ 0 - (n : Int) ≤ 1000000000000000000 := by omega
          have n3 : 0 ≤ (b.length : Int) ∧ (b.length : Int) ≤ 8 := by omega
          cases p with
          | false =>
            cases neg with
            | false =>
              simp (maxSteps:=999999) -dsimp -implicitDefEqProofs only [↓eqD,eqU,eqV,eqW,vbuiltinQ,vlen,vslice,vindex,vstore,Array.toList,simprocAttr,fnWp_some Tryz.func230,Tryz.f230,T0,FB,SDP_at,add_at,none_at,g95,g96,g97,g98,g99,f23_0,f23_1,ag23,z23,c23,i23,p23_0,p23_1,st23,hl2,l1,l2,l3,l4,hcc,d1,hd,hnum,hneg,DecR.v,wl,wn,n1,n2,n3,q1',q2']
              refine VDone.back hG ?_ rfl rfl
              intro j hj; simp (maxSteps:=999999) -dsimp -implicitDefEqProofs only [↓eqD,eqU,eqV,eqW,vbuiltinQ,vlen,vslice,vindex,vstore,Array.toList,simprocAttr,lt6 hj]
            | true =>
              simp (maxSteps:=999999) -dsimp -implicitDefEqProofs only [↓eqD,eqU,eqV,eqW,vbuiltinQ,vlen,vslice,vindex,vstore,Array.toList,simprocAttr,fnWp_some Tryz.func230,Tryz.f230,T0,FB,SDP_at,add_at,none_at,g95,g96,g97,g98,g99,f23_0,f23_1,ag23,z23,c23,i23,p23_0,p23_1,st23,hl2,l1,l2,l3,l4,hcc,d1,hd,hnum,hneg,DecR.v,wl,wn,n1,n2,n3,q1',q2']
              refine VDone.back hG ?_ rfl rfl
              intro j hj; simp (maxSteps:=999999) -dsimp -implicitDefEqProofs only [↓eqD,eqU,eqV,eqW,vbuiltinQ,vlen,vslice,vindex,vstore,Array.toList,simprocAttr,lt6 hj]
          | true =>
            have d2 : digs b = true := by cases d : digs b with | true => rfl | false => exact absurd ⟨rfl, d⟩ c3'
            cases neg with
            | false =>
              simp (maxSteps:=999999) -dsimp -implicitDefEqProofs only [↓eqD,eqU,eqV,eqW,vbuiltinQ,vlen,vslice,vindex,vstore,Array.toList,simprocAttr,fnWp_some Tryz.func230,Tryz.f230,T0,FB,SDP_at,add_at,none_at,g95,g96,g97,g98,g99,f23_0,f23_1,ag23,z23,c23,i23,p23_0,p23_1,st23,hl2,l1,l2,l3,l4,hcc,d1,d2,hd,hnum,hneg,DecR.v,wl,wn,n1,n2,n3,q1',q2']
              refine VDone.back hG ?_ rfl rfl
              intro j hj; simp (maxSteps:=999999) -dsimp -implicitDefEqProofs only [↓eqD,eqU,eqV,eqW,vbuiltinQ,vlen,vslice,vindex,vstore,Array.toList,simprocAttr,lt6 hj]
            | true =>
              simp (maxSteps:=999999) -dsimp -implicitDefEqProofs only [↓eqD,eqU,eqV,eqW,vbuiltinQ,vlen,vslice,vindex,vstore,Array.toList,simprocAttr,fnWp_some Tryz.func230,Tryz.f230,T0,FB,SDP_at,add_at,none_at,g95,g96,g97,g98,g99,f23_0,f23_1,ag23,z23,c23,i23,p23_0,p23_1,st23,hl2,l1,l2,l3,l4,hcc,d1,d2,hd,hnum,hneg,DecR.v,wl,wn,n1,n2,n3,q1',q2']
              refine VDone.back hG ?_ rfl rfl
              intro j hj; simp (maxSteps:=999999) -dsimp -implicitDefEqProofs only [↓eqD,eqU,eqV,eqW,vbuiltinQ,vlen,vslice,vindex,vstore,Array.toList,simprocAttr,lt6 hj]
end Go.Vf
