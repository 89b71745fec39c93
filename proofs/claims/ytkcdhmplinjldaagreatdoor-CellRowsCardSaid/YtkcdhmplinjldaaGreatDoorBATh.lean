/- A part of the proof: Th. -/
import Derived.Test.YtkcdhmplinjldaaGreatDoorBATk
set_option linter.unusedVariables false
set_option linter.unusedSimpArgs false
namespace Go.Vf
open Go.Proofs Go.RowKit
theorem bits_and2 (q : Int) (m : Nat) (hm : m ≤ 4611686018427387904) : 0 ≤ vbits .and .i64 q m ∧ vbits .and .i64 q m ≤ m := by
  have e : vbits .and .i64 q m = IntKind.wrap .i64 ((BitVec.ofInt 64 q &&& BitVec.ofInt 64 m).toNat : Nat) := rfl
  have h1 : (BitVec.ofInt 64 q &&& BitVec.ofInt 64 m).toNat ≤ m := by
    rw [BitVec.toNat_and]
    have : (BitVec.ofInt 64 (m : Int)).toNat = m := by
      rw [BitVec.toNat_ofInt]; have : ((m : Int) % (2 ^ 64 : Nat)).toNat = m := by omega
      exact this
    rw [this]
    exact Nat.and_le_right
  rw [e, w64 (by omega) (by omega)]
  omega
def numI (e : Int) : Int := vbits .and .i64 e 31
def kindI (e : Int) : Int := vbits .and .i64 (e.fdiv 32) 3
def itI (e : Int) : It := .cmp (if kindI e = 0 then [] else if kindI e = 1 then [60] else if kindI e = 2 then [62, 61] else [33, 61]) (digitsF 5 (numI e).toNat)
theorem numI_in (e : Int) : 0 ≤ numI e ∧ numI e ≤ 31 := bits_and2 e 31 (by decide)
theorem kindI_in (e : Int) : 0 ≤ kindI e ∧ kindI e ≤ 3 := bits_and2 (e.fdiv 32) 3 (by decide)
theorem itI_good (e : Int) : (itI e).good := by
  have h := numI_in e
  refine ⟨?_, dig_ok (by omega)⟩
  split
  · exact .inl rfl
  · split
    · exact .inr (.inl rfl)
    · split
      · exact .inr (.inr (.inl rfl))
      · exact .inr (.inr (.inr rfl))
theorem itI_0 {e : Int} (h : kindI e = 0) : itI e = .cmp [] (digitsF 5 (numI e).toNat) := by unfold itI; rw [if_pos h]
theorem itI_1 {e : Int} (h : kindI e = 1) : itI e = .cmp [60] (digitsF 5 (numI e).toNat) := by unfold itI; rw [if_neg (by omega), if_pos h]
theorem itI_2 {e : Int} (h : kindI e = 2) : itI e = .cmp [62, 61] (digitsF 5 (numI e).toNat) := by unfold itI; rw [if_neg (by omega), if_neg (by omega), if_pos h]
theorem itI_3 {e : Int} (h0 : ¬kindI e = 0) (h1 : ¬kindI e = 1) (h2 : ¬kindI e = 2) : itI e = .cmp [33, 61] (digitsF 5 (numI e).toNat) := by unfold itI; rw [if_neg h0, if_neg h1, if_neg h2]
theorem txt_0 {e : Int} (h : kindI e = 0) : (itI e).txt = digitsF 5 (numI e).toNat := by rw [itI_0 h, txt_nil]
theorem txt_1 {e : Int} (h : kindI e = 1) : (itI e).txt = 60 :: 32 :: digitsF 5 (numI e).toNat := by rw [itI_1 h, txt_op (by decide)]; rfl
theorem txt_2 {e : Int} (h : kindI e = 2) : (itI e).txt = 62 :: 61 :: 32 :: digitsF 5 (numI e).toNat := by rw [itI_2 h, txt_op (by decide)]; rfl
theorem txt_3 {e : Int} (h0 : ¬kindI e = 0) (h1 : ¬kindI e = 1) (h2 : ¬kindI e = 2) : (itI e).txt = 33 :: 61 :: 32 :: digitsF 5 (numI e).toNat := by rw [itI_3 h0 h1 h2, txt_op (by decide)]; rfl
theorem itI_len (e : Int) : (itI e).txt.length ≤ 5 := by
  have h := numI_in e
  have hd := (dig_at (n := (numI e).toNat) (by omega)).2.2.2
  by_cases h0 : kindI e = 0
  · rw [txt_0 h0]; omega
  by_cases h1 : kindI e = 1
  · rw [txt_1 h1]; simp only [List.length_cons]; omega
  by_cases h2 : kindI e = 2
  · rw [txt_2 h2]; simp only [List.length_cons]; omega
  rw [txt_3 h0 h1 h2]; simp only [List.length_cons]; omega
theorem row_len : ∀ l : List Int, (rowTxt (l.map itI)).length ≤ 7 * l.length
  | [] => Nat.le_refl _
  | [a] => by have := itI_len a; simp only [List.map_cons, List.map_nil, rowTxt, List.length_cons, List.length_nil]; omega
  | a :: b :: r => by
    have h1 := itI_len a
    have h2 := row_len (b :: r)
    simp only [List.map_cons, rowTxt, List.length_append, List.length_cons] at *
    omega
theorem row_snoc : ∀ (l : List It) (x : It), rowTxt (l ++ [x]) = if l = [] then x.txt else (rowTxt l ++ [44, 32]) ++ x.txt
  | [], x => rfl
  | [a], x => by simp [rowTxt]
  | a :: b :: r, x => by
    have ih := row_snoc (b :: r) x
    rw [if_neg (by simp)] at ih
    rw [if_neg (by simp)]
    show rowTxt (a :: b :: (r ++ [x])) = _
    rw [rowTxt]
    have e : b :: (r ++ [x]) = (b :: r) ++ [x] := rfl
    rw [e, ih, rowTxt]
    simp
theorem take_snoc {l : List Int} {i : Nat} (h : i < l.length) : (l.take (i + 1)).map itI = (l.take i).map itI ++ [itI l[i]] := by
  rw [List.take_add_one, List.getElem?_eq_getElem h, List.map_append]; rfl
def rowAny (x : Int) (l : List Int) : Bool := (l.map itI).any (wantI x)
theorem any_snoc {x : Int} {l : List Int} {i : Nat} (h : i < l.length) : rowAny x (l.take (i + 1)) = (rowAny x (l.take i) || wantI x (itI l[i])) := by
  unfold rowAny
  rw [take_snoc h, List.any_append]
  simp
theorem dig_m (e : Int) : (decA (digitsF 5 (numI e).toNat)).m = numI e := by
  have hn := numI_in e
  have hd := (dig_at (n := (numI e).toNat) (by omega)).1
  rw [hd, Int.toNat_of_nonneg hn.1]
theorem want_0 {e x : Int} (h : kindI e = 0) : wantI x (itI e) = decide (x = numI e) := by
  rw [itI_0 h]; simp only [wantI]; rw [if_pos trivial, dig_m]
theorem want_1 {e x : Int} (h : kindI e = 1) : wantI x (itI e) = decide (x < numI e) := by
  rw [itI_1 h]; simp only [wantI]; rw [if_neg (by decide), if_pos trivial, dig_m]
theorem want_2 {e x : Int} (h : kindI e = 2) : wantI x (itI e) = decide (numI e ≤ x) := by
  rw [itI_2 h]; simp only [wantI]; rw [if_neg (by decide), if_neg (by decide), if_pos trivial, dig_m]
theorem want_3 {e x : Int} (h0 : ¬kindI e = 0) (h1 : ¬kindI e = 1) (h2 : ¬kindI e = 2) : wantI x (itI e) = decide (¬x = numI e) := by
  rw [itI_3 h0 h1 h2]; simp only [wantI]; rw [if_neg (by decide), if_neg (by decide), if_neg (by decide), dig_m, decide_not]
theorem velem_int {l : List Int} {i : Nat} (h : i < l.length) : velem 1 (l.map (V.int .i64)) i = [.int .i64 l[i]] := velem_map (f := V.int .i64) h
theorem ints_closed : ∀ l : List Int, V.closedL (l.map (V.int .i64)) = true
  | [] => rfl
  | a :: r => by rw [List.map_cons, V.closedL, ints_closed r]; rfl
theorem bit_31 (e : Int) : vbits .and .i64 e 31 = numI e := rfl
theorem op1_app (D : List UInt8) : 60 :: 32 :: D = [60, 32] ++ D := rfl
theorem op2_app (D : List UInt8) : 62 :: 61 :: 32 :: D = [62, 61, 32] ++ D := rfl
theorem op3_app (D : List UInt8) : 33 :: 61 :: 32 :: D = [33, 61, 32] ++ D := rfl
theorem bit_3' (e : Int) : vbits .and .i64 (e.fdiv (2 ^ min 5 IntKind.i64.bits)) 3 = kindI e := rfl
theorem rowTxt_nil : rowTxt [] = [] := rfl
theorem rowAny_nil (x : Int) : rowAny x [] = false := rfl
theorem u46i : Tryz.prog.underlying 46 = some (.slice 3) := by kernel_rfl
theorem te46i : telem Tryz.prog 46 = some 3 := by kernel_rfl
theorem s46i : tsrc Tryz.prog 46 = true := by kernel_rfl
theorem ag46i : tagg Tryz.prog 46 = some false := by kernel_rfl
theorem ag3i : tagg Tryz.prog 3 = some false := by kernel_rfl
theorem ok_lrows : fnOk Tryz.prog 6 T0 2 = true := by kernel_rfl
set_option maxRecDepth 100000 in
set_option maxHeartbeats 8000000 in
theorem cellRows_walk (l : List Int) (x : Int) (hlen : l.length ≤ 9223372036854775807) (G : Heap) : VPure Tryz.prog 6 [.sl 1 l.length (l.map (V.int .i64)), .int .i64 x] G (.bool true) := by
  refine VCalls.of (okLS5) mixed T0 ok_lrows fun hG => ?_
  by_cases h1 : (l.length : Int) < 1
  · simp (maxSteps:=999999) -dsimp -implicitDefEqProofs only [↓eqD,eqU,eqV,eqW,vbuiltinQ,vlen,vslice,vindex,vstore,Array.toList,simprocAttr,fnWp_some Tryz.func6,Tryz.f6,T0,FB,FC,none_at,LS5_at,add_at,u46i,te46i,s46i,ag46i,ag3i,h1]; (repeat ((with_reducible (refine And.intro ?_ ?_)); (focus (first | omega | exact ⟨by omega, by omega⟩))))
    (repeat ((with_reducible (refine And.intro ?_ ?_)); (focus (first | omega | exact ⟨by omega, by omega⟩)))); (refine VDone.back hG ?_ rfl ?_); (intro j hj; first | rfl | simp (maxSteps:=999999) -dsimp -implicitDefEqProofs only [↓eqD,eqU,eqV,eqW,vbuiltinQ,vlen,vslice,vindex,vstore,Array.toList,simprocAttr,lt6 hj]); (first | rfl | simp [])
  by_cases h2 : 6 < (l.length : Int)
  · simp (maxSteps:=999999) -dsimp -implicitDefEqProofs only [↓eqD,eqU,eqV,eqW,vbuiltinQ,vlen,vslice,vindex,vstore,Array.toList,simprocAttr,fnWp_some Tryz.func6,Tryz.f6,T0,FB,FC,none_at,LS5_at,add_at,u46i,te46i,s46i,ag46i,ag3i,h1,h2]; (repeat ((with_reducible (refine And.intro ?_ ?_)); (focus (first | omega | exact ⟨by omega, by omega⟩))))
    (repeat ((with_reducible (refine And.intro ?_ ?_)); (focus (first | omega | exact ⟨by omega, by omega⟩)))); (refine VDone.back hG ?_ rfl ?_); (intro j hj; first | rfl | simp (maxSteps:=999999) -dsimp -implicitDefEqProofs only [↓eqD,eqU,eqV,eqW,vbuiltinQ,vlen,vslice,vindex,vstore,Array.toList,simprocAttr,lt6 hj]); (first | rfl | simp [])
  by_cases h3 : x < 0
  · simp (maxSteps:=999999) -dsimp -implicitDefEqProofs only [↓eqD,eqU,eqV,eqW,vbuiltinQ,vlen,vslice,vindex,vstore,Array.toList,simprocAttr,fnWp_some Tryz.func6,Tryz.f6,T0,FB,FC,none_at,LS5_at,add_at,u46i,te46i,s46i,ag46i,ag3i,h1,h2,h3]; (repeat ((with_reducible (refine And.intro ?_ ?_)); (focus (first | omega | exact ⟨by omega, by omega⟩))))
    (repeat ((with_reducible (refine And.intro ?_ ?_)); (focus (first | omega | exact ⟨by omega, by omega⟩)))); (refine VDone.back hG ?_ rfl ?_); (intro j hj; first | rfl | simp (maxSteps:=999999) -dsimp -implicitDefEqProofs only [↓eqD,eqU,eqV,eqW,vbuiltinQ,vlen,vslice,vindex,vstore,Array.toList,simprocAttr,lt6 hj]); (first | rfl | simp [])
  by_cases h4 : 31 < x
  · simp (maxSteps:=999999) -dsimp -implicitDefEqProofs only [↓eqD,eqU,eqV,eqW,vbuiltinQ,vlen,vslice,vindex,vstore,Array.toList,simprocAttr,fnWp_some Tryz.func6,Tryz.f6,T0,FB,FC,none_at,LS5_at,add_at,u46i,te46i,s46i,ag46i,ag3i,h1,h2,h3,h4]; (repeat ((with_reducible (refine And.intro ?_ ?_)); (focus (first | omega | exact ⟨by omega, by omega⟩))))
    (repeat ((with_reducible (refine And.intro ?_ ?_)); (focus (first | omega | exact ⟨by omega, by omega⟩)))); (refine VDone.back hG ?_ rfl ?_); (intro j hj; first | rfl | simp (maxSteps:=999999) -dsimp -implicitDefEqProofs only [↓eqD,eqU,eqV,eqW,vbuiltinQ,vlen,vslice,vindex,vstore,Array.toList,simprocAttr,lt6 hj]); (first | rfl | simp [])
  simp (maxSteps:=999999) -dsimp -implicitDefEqProofs only [↓eqD,eqU,eqV,eqW,vbuiltinQ,vlen,vslice,vindex,vstore,Array.toList,simprocAttr,fnWp_some Tryz.func6,Tryz.f6,T0,FB,FC,none_at,LS5_at,add_at,u46i,te46i,s46i,ag46i,ag3i,h1,h2,h3,h4]; (repeat ((with_reducible (refine And.intro ?_ ?_)); (focus (first | omega | exact ⟨by omega, by omega⟩))))
  refine vloop_to 0 (fun i : Nat => i ≤ l.length) (fun i => Env.of [(0, .sl 1 l.length (l.map (V.int .i64))), (1, .int .i64 x), (5, .str (rowTxt ((l.take i).map itI))), (6, .bool (rowAny x (l.take i))), (7, .int .i64 (i : Nat))])
    (fun _ => G.over G.next []) (fun i => l.length - i) 0 (fun E G' => E 0 = .sl 1 l.length (l.map (V.int .i64)) ∧ E 1 = .int .i64 x ∧ E 5 = .str (rowTxt (l.map itI)) ∧ E 6 = .bool (rowAny x l) ∧ G' = G.over G.next []) ?_ ?_ ?_ ?_
  · refine .of ?_ (.over hG rfl trivial (fun _ _ => rfl))
    simp (maxSteps:=999999) -dsimp -implicitDefEqProofs only [↓eqD,eqU,eqV,eqW,vbuiltinQ,vlen,vslice,vindex,vstore,Array.toList,simprocAttr,List.take_zero,List.map_nil,rowTxt]
    (repeat' apply And.intro) <;> exact .refl _
  · exact Nat.zero_le _
  · rintro i hi
    by_cases hlt : i < l.length
    case neg =>
      have c1 : ¬(i : Int) < (l.length : Int) := by omega
      have e : i = l.length := by omega
      subst e
      simp (maxSteps:=999999) -dsimp -implicitDefEqProofs only [↓eqD,eqU,eqV,eqW,vbuiltinQ,vlen,vslice,vindex,vstore,Array.toList,simprocAttr,T0,FB,FC,none_at,LS5_at,add_at,u46i,te46i,s46i,ag46i,ag3i,c1,List.take_length]; (repeat ((with_reducible (refine And.intro ?_ ?_)); (focus (first | omega | exact ⟨by omega, by omega⟩))))
    have w1 : IntKind.wrap .i64 ((i : Int) + 1) = ((i + 1 : Nat) : Int) := by rw [w64 (by omega) (by omega)]; rfl
    have c1 : (i : Int) < (l.length : Int) := by omega
    have c0 : 0 ≤ (i : Int) := by omega
    have hx := velem_int hlt
    have hsn := row_snoc ((l.take i).map itI) (itI l[i])
    rw [← take_snoc hlt] at hsn
    have hwn := any_snoc (x := x) hlt
    have hrl := row_len (l.take i)
    have htl : (l.take i).length ≤ 6 := by simp; omega
    generalize l[i] = e at *
    have hn := numI_in e
    have hk := kindI_in e
    have hd := (dig_at (n := (numI e).toNat) (by omega)).2.2.2
    have dc : (0 ≤ numI e ∧ numI e < 1000000) ∧ (numI e).toNat < 10 ^ 5 := by simp; omega
    have hi0 : (l.take i).map itI = [] ↔ i = 0 := by simp; intro h; rw [h] at hlt; simp at hlt
    by_cases i0 : i = 0
    · rw [if_pos (hi0.2 i0)] at hsn
      subst i0
      have e0 : rowTxt ((l.take 0).map itI) = [] := rfl
      have a0 : rowAny x (l.take 0) = false := rfl
      rw [a0, Bool.false_or] at hwn
      simp only [Nat.zero_add] at hsn hwn
      have c1 : 0 < (l.length : Int) := by omega
      by_cases k0 : kindI e = 0
      · rw [txt_0 k0] at hsn
        rw [want_0 k0] at hwn
        simp (maxSteps:=999999) -dsimp -implicitDefEqProofs only [↓eqD,eqU,eqV,eqW,vbuiltinQ,vlen,vslice,vindex,vstore,Array.toList,simprocAttr,T0,FB,FC,none_at,LS5_at,add_at,u46i,te46i,s46i,ag46i,ag3i,gDig,c1,c0,w1,hx,bit_31,bit_3',dc,k0,rowTxt_nil,rowAny_nil]; (repeat ((with_reducible (refine And.intro ?_ ?_)); (focus (first | omega | exact ⟨by omega, by omega⟩))))
        refine ⟨1, by omega, by omega, .of ?_ (.refl _)⟩
        simp (maxSteps:=999999) -dsimp -implicitDefEqProofs only [↓eqD,eqU,eqV,eqW,vbuiltinQ,vlen,vslice,vindex,vstore,Array.toList,simprocAttr,hsn,hwn]
        (repeat' apply And.intro) <;> exact .refl _
      by_cases k1 : kindI e = 1
      · rw [txt_1 k1] at hsn
        rw [want_1 k1] at hwn
        simp (maxSteps:=999999) -dsimp -implicitDefEqProofs only [↓eqD,eqU,eqV,eqW,vbuiltinQ,vlen,vslice,vindex,vstore,Array.toList,simprocAttr,T0,FB,FC,none_at,LS5_at,add_at,u46i,te46i,s46i,ag46i,ag3i,gDig,c1,c0,w1,hx,bit_31,bit_3',dc,k1,rowTxt_nil,rowAny_nil]; (repeat ((with_reducible (refine And.intro ?_ ?_)); (focus (first | omega | exact ⟨by omega, by omega⟩))))
        refine ⟨1, by omega, by omega, .of ?_ (.refl _)⟩
        simp (maxSteps:=999999) -dsimp -implicitDefEqProofs only [↓eqD,eqU,eqV,eqW,vbuiltinQ,vlen,vslice,vindex,vstore,Array.toList,simprocAttr,hsn,hwn]
        (repeat' apply And.intro) <;> exact .refl _
      by_cases k2 : kindI e = 2
      · rw [txt_2 k2] at hsn
        rw [want_2 k2] at hwn
        simp (maxSteps:=999999) -dsimp -implicitDefEqProofs only [↓eqD,eqU,eqV,eqW,vbuiltinQ,vlen,vslice,vindex,vstore,Array.toList,simprocAttr,T0,FB,FC,none_at,LS5_at,add_at,u46i,te46i,s46i,ag46i,ag3i,gDig,c1,c0,w1,hx,bit_31,bit_3',dc,k2,rowTxt_nil,rowAny_nil]; (repeat ((with_reducible (refine And.intro ?_ ?_)); (focus (first | omega | exact ⟨by omega, by omega⟩))))
        refine ⟨1, by omega, by omega, .of ?_ (.refl _)⟩
        simp (maxSteps:=999999) -dsimp -implicitDefEqProofs only [↓eqD,eqU,eqV,eqW,vbuiltinQ,vlen,vslice,vindex,vstore,Array.toList,simprocAttr,hsn,hwn]
        (repeat' apply And.intro) <;> exact .refl _
      rw [txt_3 k0 k1 k2] at hsn
      rw [want_3 k0 k1 k2] at hwn
      simp (maxSteps:=999999) -dsimp -implicitDefEqProofs only [↓eqD,eqU,eqV,eqW,vbuiltinQ,vlen,vslice,vindex,vstore,Array.toList,simprocAttr,T0,FB,FC,none_at,LS5_at,add_at,u46i,te46i,s46i,ag46i,ag3i,gDig,c1,c0,w1,hx,bit_31,bit_3',dc,k0,k1,k2,rowTxt_nil,rowAny_nil,ne_eq]; (repeat ((with_reducible (refine And.intro ?_ ?_)); (focus (first | omega | exact ⟨by omega, by omega⟩))))
      refine ⟨1, by omega, by omega, .of ?_ (.refl _)⟩
      simp (maxSteps:=999999) -dsimp -implicitDefEqProofs only [↓eqD,eqU,eqV,eqW,vbuiltinQ,vlen,vslice,vindex,vstore,Array.toList,simprocAttr,hsn,hwn]
      (repeat' apply And.intro) <;> exact .refl _
    rw [if_neg (fun h => i0 (hi0.1 h))] at hsn
    have c2 : 0 < (i : Int) := by omega
    generalize hr : rowTxt ((l.take i).map itI) = R at *
    cases hw : rowAny x (l.take i) with
    | true =>
      rw [hw, Bool.true_or] at hwn
      by_cases k0 : kindI e = 0
      · rw [txt_0 k0] at hsn
        simp (maxSteps:=999999) -dsimp -implicitDefEqProofs only [↓eqD,eqU,eqV,eqW,vbuiltinQ,vlen,vslice,vindex,vstore,Array.toList,simprocAttr,T0,FB,FC,none_at,LS5_at,add_at,u46i,te46i,s46i,ag46i,ag3i,gDig,c1,c0,c2,w1,hx,bit_31,bit_3',dc,k0,hr,hw,List.length_append,List.length_cons,List.length_nil]; (repeat ((with_reducible (refine And.intro ?_ ?_)); (focus (first | omega | exact ⟨by omega, by omega⟩))))
        refine ⟨i + 1, by omega, by omega, .of ?_ (.refl _)⟩
        simp (maxSteps:=999999) -dsimp -implicitDefEqProofs only [↓eqD,eqU,eqV,eqW,vbuiltinQ,vlen,vslice,vindex,vstore,Array.toList,simprocAttr,hsn,hwn]
        (repeat' apply And.intro) <;> exact .refl _
      by_cases k1 : kindI e = 1
      · rw [txt_1 k1, op1_app, ← List.append_assoc] at hsn
        simp (maxSteps:=999999) -dsimp -implicitDefEqProofs only [↓eqD,eqU,eqV,eqW,vbuiltinQ,vlen,vslice,vindex,vstore,Array.toList,simprocAttr,T0,FB,FC,none_at,LS5_at,add_at,u46i,te46i,s46i,ag46i,ag3i,gDig,c1,c0,c2,w1,hx,bit_31,bit_3',dc,k1,hr,hw,List.length_append,List.length_cons,List.length_nil]; (repeat ((with_reducible (refine And.intro ?_ ?_)); (focus (first | omega | exact ⟨by omega, by omega⟩))))
        refine ⟨i + 1, by omega, by omega, .of ?_ (.refl _)⟩
        simp (maxSteps:=999999) -dsimp -implicitDefEqProofs only [↓eqD,eqU,eqV,eqW,vbuiltinQ,vlen,vslice,vindex,vstore,Array.toList,simprocAttr,hsn,hwn]
        (repeat' apply And.intro) <;> exact .refl _
      by_cases k2 : kindI e = 2
      · rw [txt_2 k2, op2_app, ← List.append_assoc] at hsn
        simp (maxSteps:=999999) -dsimp -implicitDefEqProofs only [↓eqD,eqU,eqV,eqW,vbuiltinQ,vlen,vslice,vindex,vstore,Array.toList,simprocAttr,T0,FB,FC,none_at,LS5_at,add_at,u46i,te46i,s46i,ag46i,ag3i,gDig,c1,c0,c2,w1,hx,bit_31,bit_3',dc,k2,hr,hw,List.length_append,List.length_cons,List.length_nil]; (repeat ((with_reducible (refine And.intro ?_ ?_)); (focus (first | omega | exact ⟨by omega, by omega⟩))))
        refine ⟨i + 1, by omega, by omega, .of ?_ (.refl _)⟩
        simp (maxSteps:=999999) -dsimp -implicitDefEqProofs only [↓eqD,eqU,eqV,eqW,vbuiltinQ,vlen,vslice,vindex,vstore,Array.toList,simprocAttr,hsn,hwn]
        (repeat' apply And.intro) <;> exact .refl _
      rw [txt_3 k0 k1 k2, op3_app, ← List.append_assoc] at hsn
      simp (maxSteps:=999999) -dsimp -implicitDefEqProofs only [↓eqD,eqU,eqV,eqW,vbuiltinQ,vlen,vslice,vindex,vstore,Array.toList,simprocAttr,T0,FB,FC,none_at,LS5_at,add_at,u46i,te46i,s46i,ag46i,ag3i,gDig,c1,c0,c2,w1,hx,bit_31,bit_3',dc,k0,k1,k2,hr,hw,ne_eq,List.length_append,List.length_cons,List.length_nil]; (repeat ((with_reducible (refine And.intro ?_ ?_)); (focus (first | omega | exact ⟨by omega, by omega⟩))))
      refine ⟨i + 1, by omega, by omega, .of ?_ (.refl _)⟩
      simp (maxSteps:=999999) -dsimp -implicitDefEqProofs only [↓eqD,eqU,eqV,eqW,vbuiltinQ,vlen,vslice,vindex,vstore,Array.toList,simprocAttr,hsn,hwn]
      (repeat' apply And.intro) <;> exact .refl _
    | false =>
      rw [hw, Bool.false_or] at hwn
      by_cases k0 : kindI e = 0
      · rw [txt_0 k0] at hsn
        rw [want_0 k0] at hwn
        simp (maxSteps:=999999) -dsimp -implicitDefEqProofs only [↓eqD,eqU,eqV,eqW,vbuiltinQ,vlen,vslice,vindex,vstore,Array.toList,simprocAttr,T0,FB,FC,none_at,LS5_at,add_at,u46i,te46i,s46i,ag46i,ag3i,gDig,c1,c0,c2,w1,hx,bit_31,bit_3',dc,k0,hr,hw,List.length_append,List.length_cons,List.length_nil]; (repeat ((with_reducible (refine And.intro ?_ ?_)); (focus (first | omega | exact ⟨by omega, by omega⟩))))
        refine ⟨i + 1, by omega, by omega, .of ?_ (.refl _)⟩
        simp (maxSteps:=999999) -dsimp -implicitDefEqProofs only [↓eqD,eqU,eqV,eqW,vbuiltinQ,vlen,vslice,vindex,vstore,Array.toList,simprocAttr,hsn,hwn]
        (repeat' apply And.intro) <;> exact .refl _
      by_cases k1 : kindI e = 1
      · rw [txt_1 k1, op1_app, ← List.append_assoc] at hsn
        rw [want_1 k1] at hwn
        simp (maxSteps:=999999) -dsimp -implicitDefEqProofs only [↓eqD,eqU,eqV,eqW,vbuiltinQ,vlen,vslice,vindex,vstore,Array.toList,simprocAttr,T0,FB,FC,none_at,LS5_at,add_at,u46i,te46i,s46i,ag46i,ag3i,gDig,c1,c0,c2,w1,hx,bit_31,bit_3',dc,k1,hr,hw,List.length_append,List.length_cons,List.length_nil]; (repeat ((with_reducible (refine And.intro ?_ ?_)); (focus (first | omega | exact ⟨by omega, by omega⟩))))
        refine ⟨i + 1, by omega, by omega, .of ?_ (.refl _)⟩
        simp (maxSteps:=999999) -dsimp -implicitDefEqProofs only [↓eqD,eqU,eqV,eqW,vbuiltinQ,vlen,vslice,vindex,vstore,Array.toList,simprocAttr,hsn,hwn]
        (repeat' apply And.intro) <;> exact .refl _
      by_cases k2 : kindI e = 2
      · rw [txt_2 k2, op2_app, ← List.append_assoc] at hsn
        rw [want_2 k2] at hwn
        simp (maxSteps:=999999) -dsimp -implicitDefEqProofs only [↓eqD,eqU,eqV,eqW,vbuiltinQ,vlen,vslice,vindex,vstore,Array.toList,simprocAttr,T0,FB,FC,none_at,LS5_at,add_at,u46i,te46i,s46i,ag46i,ag3i,gDig,c1,c0,c2,w1,hx,bit_31,bit_3',dc,k2,hr,hw,List.length_append,List.length_cons,List.length_nil]; (repeat ((with_reducible (refine And.intro ?_ ?_)); (focus (first | omega | exact ⟨by omega, by omega⟩))))
        refine ⟨i + 1, by omega, by omega, .of ?_ (.refl _)⟩
        simp (maxSteps:=999999) -dsimp -implicitDefEqProofs only [↓eqD,eqU,eqV,eqW,vbuiltinQ,vlen,vslice,vindex,vstore,Array.toList,simprocAttr,hsn,hwn]
        (repeat' apply And.intro) <;> exact .refl _
      rw [txt_3 k0 k1 k2, op3_app, ← List.append_assoc] at hsn
      rw [want_3 k0 k1 k2] at hwn
      simp (maxSteps:=999999) -dsimp -implicitDefEqProofs only [↓eqD,eqU,eqV,eqW,vbuiltinQ,vlen,vslice,vindex,vstore,Array.toList,simprocAttr,T0,FB,FC,none_at,LS5_at,add_at,u46i,te46i,s46i,ag46i,ag3i,gDig,c1,c0,c2,w1,hx,bit_31,bit_3',dc,k0,k1,k2,hr,hw,ne_eq,List.length_append,List.length_cons,List.length_nil]; (repeat ((with_reducible (refine And.intro ?_ ?_)); (focus (first | omega | exact ⟨by omega, by omega⟩))))
      refine ⟨i + 1, by omega, by omega, .of ?_ (.refl _)⟩
      simp (maxSteps:=999999) -dsimp -implicitDefEqProofs only [↓eqD,eqU,eqV,eqW,vbuiltinQ,vlen,vslice,vindex,vstore,Array.toList,simprocAttr,hsn,hwn]
      (repeat' apply And.intro) <;> exact .refl _
  · rintro E G' ⟨e0, e1, e5, e6, rfl⟩
    have hg : ∀ i, i ∈ l.map itI → i.good := fun i hi => by
      obtain ⟨e, _, rfl⟩ := List.mem_map.1 hi
      exact itI_good e
    have hrl := row_len l
    have hne : l.map itI ≠ [] := fun h => by simp at h; rw [h] at h1; simp at h1
    obtain ⟨n1, n2, w1, w2⟩ := row_holds hg hne (by simp; omega) (by omega) x
    have r2 := not_txt (l.map itI)
    have xi : In9 x := by unfold In9; omega
    change holdsL (rowTxt (l.map itI)) x = rowAny x l at w1
    change holdsL (notTxt (l.map itI)) x = !rowAny x l at w2
    generalize rowTxt (l.map itI) = R at *
    generalize notTxt (l.map itI) = N at *
    cases hw : rowAny x l with
    | true =>
      rw [hw] at w1 w2
      simp (maxSteps:=999999) -dsimp -implicitDefEqProofs only [↓eqD,eqU,eqV,eqW,vbuiltinQ,vlen,vslice,vindex,vstore,Array.toList,simprocAttr,T0,FB,FC,none_at,LS5_at,add_at,u46i,te46i,s46i,ag46i,ag3i,gHolds,gKnown,e0,e1,e5,e6,hw,xi,n1,n2,w1,w2,r2,List.length_append,List.length_cons,List.length_nil]; (repeat ((with_reducible (refine And.intro ?_ ?_)); (focus (first | omega | exact ⟨by omega, by omega⟩))))
      (repeat ((with_reducible (refine And.intro ?_ ?_)); (focus (first | omega | exact ⟨by omega, by omega⟩)))); (refine VDone.back hG ?_ rfl ?_); (intro j hj; first | rfl | simp (maxSteps:=999999) -dsimp -implicitDefEqProofs only [↓eqD,eqU,eqV,eqW,vbuiltinQ,vlen,vslice,vindex,vstore,Array.toList,simprocAttr,lt6 hj]); (first | rfl | simp [])
    | false =>
      rw [hw] at w1 w2
      simp (maxSteps:=999999) -dsimp -implicitDefEqProofs only [↓eqD,eqU,eqV,eqW,vbuiltinQ,vlen,vslice,vindex,vstore,Array.toList,simprocAttr,T0,FB,FC,none_at,LS5_at,add_at,u46i,te46i,s46i,ag46i,ag3i,gHolds,gKnown,e0,e1,e5,e6,hw,xi,n1,n2,w1,w2,r2,List.length_append,List.length_cons,List.length_nil]; (repeat ((with_reducible (refine And.intro ?_ ?_)); (focus (first | omega | exact ⟨by omega, by omega⟩))))
      (repeat ((with_reducible (refine And.intro ?_ ?_)); (focus (first | omega | exact ⟨by omega, by omega⟩)))); (refine VDone.back hG ?_ rfl ?_); (intro j hj; first | rfl | simp (maxSteps:=999999) -dsimp -implicitDefEqProofs only [↓eqD,eqU,eqV,eqW,vbuiltinQ,vlen,vslice,vindex,vstore,Array.toList,simprocAttr,lt6 hj]); (first | rfl | simp [])
end Go.Vf
