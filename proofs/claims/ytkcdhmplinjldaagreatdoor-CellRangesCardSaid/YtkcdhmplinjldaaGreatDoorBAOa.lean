/- A part of the proof: Oa, Ob, Od. -/
import Derived.Test.YtkcdhmplinjldaaGreatDoorBANg
import Derived.Shelf.Strings.SlTrimAscii
import Derived.Lib.SmallJoins
set_option linter.unusedVariables false
set_option linter.unusedSimpArgs false
namespace Go.Vf
open Go.Proofs Go.RowKit
theorem p10_pos (n : Nat) : (1 : Int) ≤ 10 ^ n := by
  induction n with
  | zero => decide
  | succ k ih => rw [Int.pow_succ]; omega
theorem p10_le {n m : Nat} (h : n ≤ m) : (10 : Int) ^ n ≤ 10 ^ m := by
  induction h with
  | refl => exact Int.le_refl _
  | step _ ih => rw [Int.pow_succ]; have := p10_pos n; omega
theorem okn109 : fnOk Tryz.prog 179 T0 1 = true := by kernel_rfl
set_option maxRecDepth 100000 in
theorem power_walk (n : Nat) (hn : n ≤ 18) (G : Heap) : VPure Tryz.prog 179 [.int .i64 n] G (.int .i64 (10 ^ n)) := by
  refine VCalls.of (SOk.none _) mixed T0 okn109 fun hG => ?_
  simp (maxSteps:=999999) -dsimp -implicitDefEqProofs only [↓eqD,eqU,eqV,eqW,vbuiltinQ,vlen,vslice,vindex,vstore,Array.toList,simprocAttr,fnWp_some Tryz.func179,Tryz.f179,T0,FB,none_at]
  refine vloop_by (fun i : Nat => i ≤ n) (fun i => Env.of [(3, .int .i64 (10 ^ i)), (4, .int .i64 n), (5, .int .i64 (i : Nat))]) (fun _ => G.over G.next []) (fun i => n - i) 0 ?_ ?_ ?_
  · refine .of ?_ (.over hG rfl trivial (fun _ _ => rfl))
    simp (maxSteps:=999999) -dsimp -implicitDefEqProofs only [↓eqD,eqU,eqV,eqW,vbuiltinQ,vlen,vslice,vindex,vstore,Array.toList,simprocAttr,Int.pow_zero]
    (repeat' apply And.intro) <;> exact .refl _
  · exact Nat.zero_le _
  · intro i hi
    by_cases hlt : i < n
    · have c1 : (i : Int) < (n : Int) := by omega
      have w1 : IntKind.wrap .i64 ((i : Int) + 1) = ((i + 1 : Nat) : Int) := by rw [w64 (by omega) (by omega)]; rfl
      have h1 := p10_pos i
      have h2 := p10_le (n := i) (m := 17) (by omega)
      have w2 : IntKind.wrap .i64 ((10 : Int) ^ i * 10) = 10 ^ (i + 1) := by
        rw [w64 (by omega) (by omega), Int.pow_succ]
      simp (maxSteps:=999999) -dsimp -implicitDefEqProofs only [↓eqD,eqU,eqV,eqW,vbuiltinQ,vlen,vslice,vindex,vstore,Array.toList,simprocAttr,T0,FB,none_at,c1,w1,w2]
      refine ⟨i + 1, by omega, by omega, .of ?_ (.over hG rfl trivial (fun _ _ => rfl))⟩
      simp (maxSteps:=999999) -dsimp -implicitDefEqProofs only [↓eqD,eqU,eqV,eqW,vbuiltinQ,vlen,vslice,vindex,vstore,Array.toList,simprocAttr]
      (repeat' apply And.intro) <;> exact .refl _
    · have c1 : ¬(i : Int) < (n : Int) := by omega
      have e : i = n := by omega
      subst e
      simp (maxSteps:=999999) -dsimp -implicitDefEqProofs only [↓eqD,eqU,eqV,eqW,vbuiltinQ,vlen,vslice,vindex,vstore,Array.toList,simprocAttr,T0,FB,none_at,c1]
      exact VDone.back hG (fun _ _ => rfl) rfl rfl
def g109 : List V → Option (Prop × V)
  | [.int .i64 n] => some (0 ≤ n ∧ n ≤ 18, .int .i64 (10 ^ n.toNat))
  | _ => none
theorem ok109 {P : Specs} (hP : SOk Tryz.prog P) : SOk Tryz.prog (P.add 179 g109) := hP.add fun xs G p v e hp => by
  unfold g109 at e
  split at e
  · rename_i n
    cases e
    have := power_walk n.toNat (by omega) G
    rw [Int.toNat_of_nonneg hp.1] at this
    exact this
  · cases e
theorem div_bounds {a b : Int} (ha : -1000000000000000000 ≤ a) (ha' : a ≤ 1000000000000000000) (hb : 1 ≤ b) : -1000000000000000000 ≤ a / b ∧ a / b ≤ 1000000000000000000 ∧ 0 ≤ a % b ∧ a % b < b := by
  refine ⟨?_, ?_, Int.emod_nonneg _ (by omega), Int.emod_lt_of_pos _ (by omega)⟩
  · rw [Int.le_ediv_iff_mul_le (by omega)]; omega
  · have : a / b < 1000000000000000001 := by rw [Int.ediv_lt_iff_lt_mul (by omega)]; omega
    omega
theorem quo_cases {a b : Int} (hb : 1 ≤ b) : (a.tmod b < 0 ∧ a.tdiv b = a / b + 1 ∧ a.tmod b = a % b - b ∧ a % b ≠ 0) ∨ (¬a.tmod b < 0 ∧ a.tdiv b = a / b ∧ a.tmod b = a % b) := by
  have h1 := Int.emod_nonneg a (b := b) (by omega)
  have h2 := Int.emod_lt_of_pos a (b := b) (by omega)
  by_cases h : 0 ≤ a ∨ b ∣ a
  · right
    have e1 : a.tdiv b = a / b := by rw [Int.tdiv_eq_ediv, if_pos h, Int.add_zero]
    have e2 : a.tmod b = a % b := by rw [Int.tmod_eq_emod, if_pos h]; omega
    exact ⟨by omega, e1, e2⟩
  · left
    have e1 : a.tdiv b = a / b + 1 := by rw [Int.tdiv_eq_ediv, if_neg h, Int.sign_eq_one_of_pos (by omega)]
    have e2 : a.tmod b = a % b - b := by rw [Int.tmod_eq_emod, if_neg h]; omega
    exact ⟨by omega, e1, e2, fun e => h (.inr (Int.dvd_of_emod_eq_zero e))⟩
def T125 : Tab := ⟨fun id => if id = 1 then ([0, 1, 2, 3, 4, 5, 6, 7], []) else ([], []), fun _ => false⟩
theorem T125_ord (id : Nat) : T125.ord id = if id = 1 then ([0, 1, 2, 3, 4, 5, 6, 7], []) else ([], []) := rfl
theorem T125_ghost (id : Nat) : T125.ghost id = false := rfl
theorem okn125 : fnOk Tryz.prog 200 T125 2 = true := by kernel_rfl
def In18 (a b : Int) : Prop := -1000000000000000000 ≤ a ∧ a ≤ 1000000000000000000 ∧ 1 ≤ b ∧ b ≤ 1000000000000000000
set_option maxRecDepth 100000 in
theorem floor_walk {a b : Int} (h : In18 a b) (G : Heap) : VPure Tryz.prog 200 [.int .i64 a, .int .i64 b] G (.tup [.int .i64 (a / b), .int .i64 (a % b)]) := by
  obtain ⟨ha, ha', hb, hb'⟩ := h
  refine VCalls.of (SOk.none _) mixed T125 okn125 fun hG => ?_
  have hd := div_bounds ha ha' hb
  have hne : b ≠ 0 := by omega
  rcases quo_cases (a := a) hb with ⟨h1, h2, h3, _⟩ | ⟨h1, h2, h3⟩
  · have w1 : IntKind.wrap .i64 (a.tdiv b) = a / b + 1 := by rw [h2, w64 (by omega) (by omega)]
    have w2 : IntKind.wrap .i64 (a / b + 1 - 1) = a / b := by rw [w64 (by omega) (by omega)]; omega
    have w3 : IntKind.wrap .i64 (a % b - b + b) = a % b := by rw [w64 (by omega) (by omega)]; omega
    have c1 : a % b - b < 0 := by omega
    simp (maxSteps:=999999) -dsimp -implicitDefEqProofs only [↓eqD,eqU,eqV,eqW,vbuiltinQ,vlen,vslice,vindex,vstore,Array.toList,simprocAttr,fnWp_some Tryz.func200,Tryz.f200,T125_ord,T125_ghost,FB,none_at,h3,w1,w2,w3,c1,hne]
    exact ⟨hne, hne, VDone.back hG (fun _ _ => rfl) rfl rfl⟩
  · have w1 : IntKind.wrap .i64 (a.tdiv b) = a / b := by rw [h2, w64 (by omega) (by omega)]
    have c1 : ¬a % b < 0 := by omega
    simp (maxSteps:=999999) -dsimp -implicitDefEqProofs only [↓eqD,eqU,eqV,eqW,vbuiltinQ,vlen,vslice,vindex,vstore,Array.toList,simprocAttr,fnWp_some Tryz.func200,Tryz.f200,T125_ord,T125_ghost,FB,none_at,h3,w1,c1,hne]
    exact ⟨hne, hne, VDone.back hG (fun _ _ => rfl) rfl rfl⟩
def g125 : List V → Option (Prop × V)
  | [.int .i64 a, .int .i64 b] => some (In18 a b, .tup [.int .i64 (a / b), .int .i64 (a % b)])
  | _ => none
def SOF : Specs := Specs.none.add 200 g125
theorem SOF_at (f : FuncId) (xs : List V) (G : Heap) : SOF f xs G = (Specs.none.add 200 g125) f xs G := rfl
theorem okSOF : SOk Tryz.prog SOF := (SOk.none _).add fun xs G p v e hp => by
  unfold g125 at e
  split at e
  · cases e; exact floor_walk hp G
  · cases e
def rnd (a b : Int) : Int := if b - a % b < a % b ∨ (a % b = b - a % b ∧ a / b % 2 = 1) then a / b + 1 else a / b
theorem okn108 : fnOk Tryz.prog 198 T0 2 = true := by kernel_rfl
theorem tmod2 (q : Int) : ¬q.tmod 2 = 0 ↔ q % 2 = 1 := by
  have h2 := Int.emod_two_eq q
  rcases quo_cases (a := q) (b := 2) (by decide) with ⟨h1, _, h3, h4⟩ | ⟨h1, _, h3⟩
  · rw [h3]
    rcases h2 with h | h
    · exact absurd h h4
    · rw [h]; decide
  · rw [h3]
    rcases h2 with h | h <;> rw [h] <;> decide
set_option maxRecDepth 100000 in
theorem round_walk {a b : Int} (h : In18 a b) (G : Heap) : VPure Tryz.prog 198 [.int .i64 a, .int .i64 b] G (.int .i64 (rnd a b)) := by
  have hin := h
  obtain ⟨ha, ha', hb, hb'⟩ := h
  refine VCalls.of okSOF mixed T0 okn108 fun hG => ?_
  have hd := div_bounds ha ha' hb
  have w1 : IntKind.wrap .i64 (b - a % b) = b - a % b := by rw [w64 (by omega) (by omega)]
  have w2 : IntKind.wrap .i64 (a / b + 1) = a / b + 1 := by rw [w64 (by omega) (by omega)]
  have n2 : ¬(2 : Int) = 0 := by decide
  unfold rnd
  by_cases c1 : b - a % b < a % b
  · rw [if_pos (.inl c1)]
    simp (maxSteps:=999999) -dsimp -implicitDefEqProofs only [↓eqD,eqU,eqV,eqW,vbuiltinQ,vlen,vslice,vindex,vstore,Array.toList,simprocAttr,fnWp_some Tryz.func198,Tryz.f198,T0,FB,SOF_at,add_at,none_at,g125,hin,w1,w2,c1]
    exact VDone.back hG (fun _ _ => rfl) rfl rfl
  · by_cases c2 : a % b = b - a % b
    · by_cases c3' : a / b % 2 = 1
      · rw [if_pos (.inr ⟨c2, c3'⟩)]
        have t2 := (tmod2 (a / b)).2 c3'
        have c2' : decide (a % b = b - a % b) = true := decide_eq_true c2
        simp (maxSteps:=999999) -dsimp -implicitDefEqProofs only [↓eqD,eqU,eqV,eqW,vbuiltinQ,vlen,vslice,vindex,vstore,Array.toList,simprocAttr,fnWp_some Tryz.func198,Tryz.f198,T0,FB,SOF_at,add_at,none_at,g125,hin,w1,w2,c1,c2',t2,ne_eq,n2]
        exact VDone.back hG (fun _ _ => rfl) rfl rfl
      · try rw [if_neg (by omega)]
        have t2 : (a / b).tmod 2 = 0 := by
          have := tmod2 (a / b)
          exact Classical.not_not.1 fun h => c3' (this.1 h)
        have c2' : decide (a % b = b - a % b) = true := decide_eq_true c2
        simp (maxSteps:=999999) -dsimp -implicitDefEqProofs only [↓eqD,eqU,eqV,eqW,vbuiltinQ,vlen,vslice,vindex,vstore,Array.toList,simprocAttr,fnWp_some Tryz.func198,Tryz.f198,T0,FB,SOF_at,add_at,none_at,g125,hin,w1,w2,c1,c2',t2,ne_eq,n2]
        exact VDone.back hG (fun _ _ => rfl) rfl rfl
    · try rw [if_neg (by omega)]
      simp (maxSteps:=999999) -dsimp -implicitDefEqProofs only [↓eqD,eqU,eqV,eqW,vbuiltinQ,vlen,vslice,vindex,vstore,Array.toList,simprocAttr,fnWp_some Tryz.func198,Tryz.f198,T0,FB,SOF_at,add_at,none_at,g125,hin,w1,w2,c1,c2,ne_eq,n2]
      exact VDone.back hG (fun _ _ => rfl) rfl rfl
end Go.Vf
set_option linter.unusedVariables false
set_option linter.unusedSimpArgs false
namespace Go.Vf
open Go.Proofs Go.RowKit
def bareN : Nat → Int → Int × Nat
  | 0, q => (q, 0)
  | t + 1, q => if q.tmod 10 = 0 then bareN t (q.tdiv 10) else (q, t + 1)
def In9 (q : Int) : Prop := -1000000000 ≤ q ∧ q ≤ 1000000000
theorem tdiv10 {q : Int} (h : In9 q) : In9 (q.tdiv 10) := by
  obtain ⟨h1, h2⟩ := h
  unfold In9
  rcases quo_cases (a := q) (b := 10) (by decide) with ⟨_, h, _, _⟩ | ⟨_, h, _⟩ <;> rw [h] <;> constructor <;> omega
theorem wtdiv {q : Int} (h : In9 q) : IntKind.wrap .i64 (q.tdiv 10) = q.tdiv 10 := by
  have h' := tdiv10 h
  obtain ⟨h1, h2⟩ := h'
  rw [w64 (by omega) (by omega)]
theorem f23_0 : tfield Tryz.prog 32 0 = some (0, 1, false) := by kernel_rfl
theorem f23_1 : tfield Tryz.prog 32 1 = some (1, 1, false) := by kernel_rfl
theorem p23_0 : tplaces Tryz.prog 32 0 = some (0, 1) := by kernel_rfl
theorem p23_1 : tplaces Tryz.prog 32 1 = some (1, 1) := by kernel_rfl
theorem st23 : tstruct Tryz.prog 32 = some [.int .i64 0, .int .i64 0] := by kernel_rfl
theorem okn110 : fnOk Tryz.prog 199 T0 1 = true := by kernel_rfl
set_option maxRecDepth 100000 in
theorem bare_walk {q : Int} {t : Nat} (hq : In9 q) (ht : t ≤ 100) (G : Heap) : VPure Tryz.prog 199 [.agg [.int .i64 q, .int .i64 t]] G (.agg [.int .i64 (bareN t q).1, .int .i64 (bareN t q).2]) := by
  refine VCalls.of (SOk.none _) mixed T0 okn110 fun hG => ?_
  simp (maxSteps:=999999) -dsimp -implicitDefEqProofs only [↓eqD,eqU,eqV,eqW,vbuiltinQ,vlen,vslice,vindex,vstore,Array.toList,simprocAttr,fnWp_some Tryz.func199,Tryz.f199,T0,FB,none_at,f23_0,f23_1,ag23,z23,c23,i23,p23_0,p23_1,st23]
  have n10 : ¬(10 : Int) = 0 := by decide
  refine vloop_by (fun x : Nat × Int => x.1 ≤ 100 ∧ In9 x.2 ∧ bareN x.1 x.2 = bareN t q) (fun x => Env.of [(1, .ptr G.next 0 0), (2, .ptr (G.next + 1) 0 0)]) (fun x => G.over (G.next + 2) [(G.next, .cells 0 [.int .i64 x.2, .int .i64 (x.1 : Nat)]), (G.next + 1, .cells 0 [.int .i64 0, .int .i64 0])]) (fun x => x.1) (t, q) ?_ ?_ ?_
  · refine .of ?_ (.over hG ?_ ?_ ?_)
    · simp (maxSteps:=999999) -dsimp -implicitDefEqProofs only [↓eqD,eqU,eqV,eqW,vbuiltinQ,vlen,vslice,vindex,vstore,Array.toList,simprocAttr]
      (repeat' apply And.intro) <;> exact .refl _
    · simp (maxSteps:=999999) -dsimp -implicitDefEqProofs only [↓eqD,eqU,eqV,eqW,vbuiltinQ,vlen,vslice,vindex,vstore,Array.toList,simprocAttr]
    · simp (maxSteps:=999999) -dsimp -implicitDefEqProofs only [↓eqD,eqU,eqV,eqW,vbuiltinQ,vlen,vslice,vindex,vstore,Array.toList,simprocAttr,FB]
    · intro j hj
      have hj : j < G.next := hj
      simp (maxSteps:=999999) -dsimp -implicitDefEqProofs only [↓eqD,eqU,eqV,eqW,vbuiltinQ,vlen,vslice,vindex,vstore,Array.toList,simprocAttr,lt6 hj]
  · exact ⟨ht, hq, rfl⟩
  · rintro ⟨u, r⟩ ⟨a1, a2, a3⟩
    simp only at a1 a2 a3
    have wd := wtdiv a2
    cases u with
    | zero =>
      have c1 : ¬(0 : Int) < ((0 : Nat) : Int) := by decide
      rw [bareN] at a3
      rw [← a3]
      simp (maxSteps:=999999) -dsimp -implicitDefEqProofs only [↓eqD,eqU,eqV,eqW,vbuiltinQ,vlen,vslice,vindex,vstore,Array.toList,simprocAttr,T0,FB,none_at,f23_0,f23_1,ag23,z23,c23,i23,p23_0,p23_1,st23,c1]
      refine VDone.back hG ?_ rfl rfl
      intro j hj; simp (maxSteps:=999999) -dsimp -implicitDefEqProofs only [↓eqD,eqU,eqV,eqW,vbuiltinQ,vlen,vslice,vindex,vstore,Array.toList,simprocAttr,lt6 hj]
    | succ u =>
      have c1 : (0 : Int) < ((u + 1 : Nat) : Int) := by omega
      rw [bareN] at a3
      by_cases c2 : r.tmod 10 = 0
      · rw [if_pos c2] at a3
        have wu : IntKind.wrap .i64 (((u + 1 : Nat) : Int) - 1) = (u : Int) := by rw [w64 (by omega) (by omega)]; omega
        simp (maxSteps:=999999) -dsimp -implicitDefEqProofs only [↓eqD,eqU,eqV,eqW,vbuiltinQ,vlen,vslice,vindex,vstore,Array.toList,simprocAttr,T0,FB,none_at,f23_0,f23_1,ag23,z23,c23,i23,p23_0,p23_1,st23,c1,c2,n10,ne_eq,wd,wu]
        refine ⟨(u, r.tdiv 10), ⟨by omega, tdiv10 a2, a3⟩, by simp, .of ?_ (.over hG ?_ ?_ ?_)⟩
        · simp (maxSteps:=999999) -dsimp -implicitDefEqProofs only [↓eqD,eqU,eqV,eqW,vbuiltinQ,vlen,vslice,vindex,vstore,Array.toList,simprocAttr]
          (repeat' apply And.intro) <;> exact .refl _
        · simp (maxSteps:=999999) -dsimp -implicitDefEqProofs only [↓eqD,eqU,eqV,eqW,vbuiltinQ,vlen,vslice,vindex,vstore,Array.toList,simprocAttr]
        · simp (maxSteps:=999999) -dsimp -implicitDefEqProofs only [↓eqD,eqU,eqV,eqW,vbuiltinQ,vlen,vslice,vindex,vstore,Array.toList,simprocAttr,FB]
        · intro j hj
          have hj : j < G.next := hj
          simp (maxSteps:=999999) -dsimp -implicitDefEqProofs only [↓eqD,eqU,eqV,eqW,vbuiltinQ,vlen,vslice,vindex,vstore,Array.toList,simprocAttr,lt6 hj]
      · try rw [if_neg c2] at a3
        rw [← a3]
        simp (maxSteps:=999999) -dsimp -implicitDefEqProofs only [↓eqD,eqU,eqV,eqW,vbuiltinQ,vlen,vslice,vindex,vstore,Array.toList,simprocAttr,T0,FB,none_at,f23_0,f23_1,ag23,z23,c23,i23,p23_0,p23_1,st23,c1,c2,n10,ne_eq]
        refine VDone.back hG ?_ rfl rfl
        intro j hj; simp (maxSteps:=999999) -dsimp -implicitDefEqProofs only [↓eqD,eqU,eqV,eqW,vbuiltinQ,vlen,vslice,vindex,vstore,Array.toList,simprocAttr,lt6 hj]
def g110 : List V → Option (Prop × V)
  | [.agg [.int .i64 q, .int .i64 t]] => some (In9 q ∧ 0 ≤ t ∧ t ≤ 100, .agg [.int .i64 (bareN t.toNat q).1, .int .i64 (bareN t.toNat q).2])
  | _ => none
theorem ok110 {P : Specs} (hP : SOk Tryz.prog P) : SOk Tryz.prog (P.add 199 g110) := hP.add fun xs G p v e hp => by
  unfold g110 at e
  split at e
  · rename_i q t
    cases e
    have := bare_walk (t := t.toNat) hp.1 (by omega) G
    rw [Int.toNat_of_nonneg hp.2.1] at this
    exact this
  · cases e
def g108 : List V → Option (Prop × V)
  | [.int .i64 a, .int .i64 b] => some (In18 a b, .int .i64 (rnd a b))
  | _ => none
theorem ok108 {P : Specs} (hP : SOk Tryz.prog P) : SOk Tryz.prog (P.add 198 g108) := hP.add fun xs G p v e hp => by
  unfold g108 at e
  split at e
  · cases e; exact round_walk hp G
  · cases e
def SOG : Specs := (((Specs.none.add 179 g109).add 198 g108).add 199 g110)
theorem SOG_at (f : FuncId) (xs : List V) (G : Heap) : SOG f xs G = (((Specs.none.add 179 g109).add 198 g108).add 199 g110) f xs G := rfl
theorem okSOG : SOk Tryz.prog SOG := ok110 (ok108 (ok109 (SOk.none _)))
def fitGo (m s : Int) : Nat → DecR
  | 0 => ⟨0, 0, 3⟩
  | f + 1 => if -1000000000 ≤ rnd m (10 ^ (s - (f : Int)).toNat) ∧ rnd m (10 ^ (s - (f : Int)).toNat) ≤ 1000000000 then ⟨(bareN f (rnd m (10 ^ (s - (f : Int)).toNat))).1, (bareN f (rnd m (10 ^ (s - (f : Int)).toNat))).2, 0⟩ else fitGo m s f
def fitN (m s : Int) : DecR := fitGo m s ((if 4 < s then 4 else s.toNat) + 1)
theorem okn99 : fnOk Tryz.prog 171 T0 2 = true := by kernel_rfl
theorem p10_in {m : Int} {k : Nat} (h1 : -1000000000000000000 ≤ m) (h2 : m ≤ 1000000000000000000) (hk : k ≤ 8) : In18 m (10 ^ k) := ⟨h1, h2, p10_pos k, by have h := p10_le hk; rw [show (10 : Int) ^ 8 = 100000000 by decide] at h; omega⟩
set_option maxRecDepth 100000 in
theorem fit_walk {m s : Int} (h1 : -1000000000000000000 ≤ m) (h2 : m ≤ 1000000000000000000) (h3 : 0 ≤ s) (h4 : s ≤ 8) (G : Heap) : VPure Tryz.prog 171 [.int .i64 m, .int .i64 s] G (.tup [.agg [.int .i64 (fitN m s).m, .int .i64 (fitN m s).s], .int .i64 (fitN m s).err]) := by
  refine VCalls.of okSOG mixed T0 okn99 fun hG => ?_
  have c1 : ¬m < -1000000000000000000 := by omega
  have c2 : ¬1000000000000000000 < m := by omega
  have c3' : ¬s < 0 := by omega
  have c4 : ¬8 < s := by omega
  unfold fitN
  generalize hf : (if 4 < s then 4 else s.toNat) = f0
  have hf1 : (f0 : Int) ≤ s := by subst hf; split <;> omega
  have hf2 : f0 ≤ 4 := by subst hf; split <;> omega
  have hmin : (if 4 < s then 4 else s) = ((f0 + 1 : Nat) : Int) - 1 := by subst hf; split <;> omega
  simp (maxSteps:=999999) -dsimp -implicitDefEqProofs only [↓eqD,eqU,eqV,eqW,vbuiltinQ,vlen,vslice,vindex,vstore,Array.toList,simprocAttr,fnWp_some Tryz.func171,Tryz.f171,T0,FB,SOG_at,add_at,none_at,f23_0,f23_1,ag23,z23,c23,i23,p23_0,p23_1,st23,c1,c2,c3',c4,vfold,vmin2,hmin]
  refine vloop_by (fun f : Nat => f ≤ f0 + 1 ∧ fitGo m s f = fitGo m s (f0 + 1)) (fun f => Env.of [(0, .int .i64 m), (1, .int .i64 s), (4, .ptr G.next 0 0), (5, .int .i64 0), (6, .int .i64 ((f : Int) - 1))]) (fun f => G.over (G.next + 1) [(G.next, .cells 0 [.int .i64 0, .int .i64 0])]) (fun f => f) (f0 + 1) ?_ ?_ ?_
  · refine .of ?_ (.over hG ?_ ?_ ?_)
    · simp (maxSteps:=999999) -dsimp -implicitDefEqProofs only [↓eqD,eqU,eqV,eqW,vbuiltinQ,vlen,vslice,vindex,vstore,Array.toList,simprocAttr]
      (repeat' apply And.intro) <;> exact .refl _
    · simp (maxSteps:=999999) -dsimp -implicitDefEqProofs only [↓eqD,eqU,eqV,eqW,vbuiltinQ,vlen,vslice,vindex,vstore,Array.toList,simprocAttr]
    · simp (maxSteps:=999999) -dsimp -implicitDefEqProofs only [↓eqD,eqU,eqV,eqW,vbuiltinQ,vlen,vslice,vindex,vstore,Array.toList,simprocAttr,FB]
    · intro j hj
      have hj : j < G.next := hj
      simp (maxSteps:=999999) -dsimp -implicitDefEqProofs only [↓eqD,eqU,eqV,eqW,vbuiltinQ,vlen,vslice,vindex,vstore,Array.toList,simprocAttr,lt6 hj]
  · exact ⟨Nat.le_refl _, rfl⟩
  · rintro f ⟨a1, a2⟩
    cases f with
    | zero =>
      have e0 : ((0 : Nat) : Int) - 1 = -1 := by decide
      have d1 : ¬(0 : Int) ≤ -1 := by decide
      rw [fitGo] at a2
      rw [← a2]
      simp (maxSteps:=999999) -dsimp -implicitDefEqProofs only [↓eqD,eqU,eqV,eqW,vbuiltinQ,vlen,vslice,vindex,vstore,Array.toList,simprocAttr,T0,FB,SOG_at,add_at,none_at,f23_0,f23_1,ag23,z23,c23,i23,p23_0,p23_1,st23,e0,d1]
      refine VDone.back hG ?_ rfl rfl
      intro j hj; simp (maxSteps:=999999) -dsimp -implicitDefEqProofs only [↓eqD,eqU,eqV,eqW,vbuiltinQ,vlen,vslice,vindex,vstore,Array.toList,simprocAttr,lt6 hj]
    | succ f =>
      have e0 : ((f + 1 : Nat) : Int) - 1 = (f : Int) := by omega
      have d1 : (0 : Int) ≤ (f : Int) := by omega
      have w1 : IntKind.wrap .i64 (s - (f : Int)) = s - (f : Int) := by rw [w64 (by omega) (by omega)]
      have w2 : IntKind.wrap .i64 ((f : Int) - 1) = (f : Int) - 1 := by rw [w64 (by omega) (by omega)]
      have d2 : 0 ≤ s - (f : Int) ∧ s - (f : Int) ≤ 18 := by omega
      have d3 := p10_in h1 h2 (k := (s - (f : Int)).toNat) (by omega)
      have d4 : (f : Int) ≤ 100 := by omega
      rw [fitGo] at a2
      by_cases q1 : -1000000000 ≤ rnd m (10 ^ (s - (f : Int)).toNat)
      · by_cases q2 : rnd m (10 ^ (s - (f : Int)).toNat) ≤ 1000000000
        · rw [if_pos ⟨q1, q2⟩] at a2
          have d5 : In9 (rnd m (10 ^ (s - (f : Int)).toNat)) := ⟨q1, q2⟩
          rw [← a2]
          simp (maxSteps:=999999) -dsimp -implicitDefEqProofs only [↓eqD,eqU,eqV,eqW,vbuiltinQ,vlen,vslice,vindex,vstore,Array.toList,simprocAttr,T0,FB,SOG_at,add_at,none_at,g109,g108,g110,f23_0,f23_1,ag23,z23,c23,i23,p23_0,p23_1,st23,e0,d1,w1,w2,d2,d3,d4,d5,q1,q2]
          refine VDone.back hG ?_ rfl rfl
          intro j hj; simp (maxSteps:=999999) -dsimp -implicitDefEqProofs only [↓eqD,eqU,eqV,eqW,vbuiltinQ,vlen,vslice,vindex,vstore,Array.toList,simprocAttr,lt6 hj]
        · try rw [if_neg (fun h => q2 h.2)] at a2
          simp (maxSteps:=999999) -dsimp -implicitDefEqProofs only [↓eqD,eqU,eqV,eqW,vbuiltinQ,vlen,vslice,vindex,vstore,Array.toList,simprocAttr,T0,FB,SOG_at,add_at,none_at,g109,g108,g110,f23_0,f23_1,ag23,z23,c23,i23,p23_0,p23_1,st23,e0,d1,w1,w2,d2,d3,d4,q1,q2]
          refine ⟨f, ⟨by omega, a2⟩, by omega, .of ?_ (.over hG ?_ ?_ ?_)⟩
          · simp (maxSteps:=999999) -dsimp -implicitDefEqProofs only [↓eqD,eqU,eqV,eqW,vbuiltinQ,vlen,vslice,vindex,vstore,Array.toList,simprocAttr]
            (repeat' apply And.intro) <;> exact .refl _
          · simp (maxSteps:=999999) -dsimp -implicitDefEqProofs only [↓eqD,eqU,eqV,eqW,vbuiltinQ,vlen,vslice,vindex,vstore,Array.toList,simprocAttr]
          · simp (maxSteps:=999999) -dsimp -implicitDefEqProofs only [↓eqD,eqU,eqV,eqW,vbuiltinQ,vlen,vslice,vindex,vstore,Array.toList,simprocAttr,FB]
          · intro j hj
            have hj : j < G.next := hj
            simp (maxSteps:=999999) -dsimp -implicitDefEqProofs only [↓eqD,eqU,eqV,eqW,vbuiltinQ,vlen,vslice,vindex,vstore,Array.toList,simprocAttr,lt6 hj]
      · try rw [if_neg (fun h => q1 h.1)] at a2
        simp (maxSteps:=999999) -dsimp -implicitDefEqProofs only [↓eqD,eqU,eqV,eqW,vbuiltinQ,vlen,vslice,vindex,vstore,Array.toList,simprocAttr,T0,FB,SOG_at,add_at,none_at,g109,g108,g110,f23_0,f23_1,ag23,z23,c23,i23,p23_0,p23_1,st23,e0,d1,w1,w2,d2,d3,d4,q1]
        refine ⟨f, ⟨by omega, a2⟩, by omega, .of ?_ (.over hG ?_ ?_ ?_)⟩
        · simp (maxSteps:=999999) -dsimp -implicitDefEqProofs only [↓eqD,eqU,eqV,eqW,vbuiltinQ,vlen,vslice,vindex,vstore,Array.toList,simprocAttr]
          (repeat' apply And.intro) <;> exact .refl _
        · simp (maxSteps:=999999) -dsimp -implicitDefEqProofs only [↓eqD,eqU,eqV,eqW,vbuiltinQ,vlen,vslice,vindex,vstore,Array.toList,simprocAttr]
        · simp (maxSteps:=999999) -dsimp -implicitDefEqProofs only [↓eqD,eqU,eqV,eqW,vbuiltinQ,vlen,vslice,vindex,vstore,Array.toList,simprocAttr,FB]
        · intro j hj
          have hj : j < G.next := hj
          simp (maxSteps:=999999) -dsimp -implicitDefEqProofs only [↓eqD,eqU,eqV,eqW,vbuiltinQ,vlen,vslice,vindex,vstore,Array.toList,simprocAttr,lt6 hj]
end Go.Vf
set_option linter.unusedVariables false
set_option linter.unusedSimpArgs false
namespace Go.Vf
open Go.Proofs Go.RowKit
theorem VPure.liftB {P : Program} {f : FuncId} {args : List V} {G : Heap} {v : V} (hg : isGo P f = true) (h : ∀ (ρ : Rho) (w : World) (xs : List Value), WRel ρ G w → VRs ρ G.next args xs → Calls P f xs.toArray w fun e w' => ∃ x, e = .returned x ∧ Below w.heap.size w w' ∧ VR ρ G.next v x) : VPure P f args G v :=
  ⟨hg, fun ρ w xs hW hx => (h ρ w xs hW hx).mono fun e w' ⟨x, e1, e2, e3⟩ => ⟨x, ρ, v, G, e1, hW.grow e2, Rho.Le.refl _ _, Nat.le_refl _, e3, rfl, rfl⟩⟩
theorem two_args {ρ : Rho} {n : Nat} {s t : List UInt8} {xs : List Value} (hx : VRs ρ n [.str s, .str t] xs) : xs = [.string ⟨s.toArray⟩, .string ⟨t.toArray⟩] := by
  obtain ⟨x0, e0, h0⟩ := hx.get (i := 0) rfl
  obtain ⟨x1, e1, h1⟩ := hx.get (i := 1) rfl
  have := hx.1
  match xs, this with
  | [a, b], _ =>
    simp at e0 e1
    rw [e0, e1, h0.str_inv, h1.str_inv]
theorem one_arg {ρ : Rho} {n : Nat} {s : List UInt8} {xs : List Value} (hx : VRs ρ n [.str s] xs) : xs = [.string ⟨s.toArray⟩] := by
  obtain ⟨x0, e0, h0⟩ := hx.get (i := 0) rfl
  have := hx.1
  match xs, this with
  | [a], _ =>
    simp at e0
    rw [e0, h0.str_inv]
theorem vr2 {ρ : Rho} {n : Nat} {a b : V} {x y : Value} (h0 : VR ρ n a x) (h1 : VR ρ n b y) : VR ρ n (.tup [a, b]) (.tuple #[x, y]) := by
  refine .tup [a, b] [x, y] rfl fun i v z e e' => ?_
  match i with
  | 0 => cases e; cases e'; exact h0
  | 1 => cases e; cases e'; exact h1
  | i + 2 => cases e
theorem vr3 {ρ : Rho} {n : Nat} {a b c : V} {x y z : Value} (h0 : VR ρ n a x) (h1 : VR ρ n b y) (h2 : VR ρ n c z) : VR ρ n (.tup [a, b, c]) (.tuple #[x, y, z]) := by
  refine .tup [a, b, c] [x, y, z] rfl fun i v z e e' => ?_
  match i with
  | 0 => cases e; cases e'; exact h0
  | 1 => cases e; cases e'; exact h1
  | 2 => cases e; cases e'; exact h2
  | i + 3 => cases e
theorem drewN_below (w : World) (n : Nat) : Below w.heap.size w (w.drewN n) := ⟨rfl, rfl, rfl, Nat.le_refl _, fun _ _ => rfl⟩
theorem trim_walk (s cs : List UInt8) (hs : s.length < 4294967281) (hc : cs.length < 4294967281) (ha : cs.all (fun b => decide (b.toNat < 128)) = true) (G : Heap) : VPure Tryz.prog 241 [.str s, .str cs] G (.str (Lib.trimS s cs)) := by
  refine VPure.liftB (by kernel_rfl) fun ρ w xs hW hx => ?_
  rw [two_args hx]
  refine (Any.strings_Trim_laid Tryz.lays160 (by kernel_rfl) ⟨s.toArray⟩ ⟨cs.toArray⟩ w (by simp [ByteArray.size]; omega) (by simpa [ByteArray.size] using hc) (by simpa using ascii_of_all ha)).mono ?_
  rintro e w' ⟨rfl, hb⟩
  exact ⟨_, rfl, hb, .str _⟩
theorem cutPrefix_walk (s p : List UInt8) (G : Heap) : VPure Tryz.prog 234 [.str s, .str p] G (.tup [.str (Lib.trimPrefix s p), .bool (Lib.hasPrefix s p)]) := by
  refine VPure.liftB (by kernel_rfl) fun ρ w xs hW hx => ?_
  rw [two_args hx]
  refine (Tryz.strings_CutPrefix ⟨s.toArray⟩ ⟨p.toArray⟩ w).mono ?_
  rintro e w' ⟨rfl, rfl⟩
  exact ⟨_, rfl, Below.refl _ _, vr2 (.str _) (.bool _)⟩
theorem cut_walk (s p : List UInt8) (hs : s.length < 4294967281) (G : Heap) : VPure Tryz.prog 235 [.str s, .str p] G (.tup [.str (Lib.cut s p).1, .str (Lib.cut s p).2.1, .bool (Lib.cut s p).2.2]) := by
  refine VPure.liftB (by kernel_rfl) fun ρ w xs hW hx => ?_
  rw [two_args hx]
  obtain ⟨m, hm⟩ := hW.met.2
  refine (Tryz.strings_Cut ⟨s.toArray⟩ ⟨p.toArray⟩ m w (by simpa [ByteArray.size] using hs) (cell_of_base hW hm)).mono ?_
  rintro e w' ⟨rfl, n, rfl⟩
  exact ⟨_, rfl, drewN_below w n, vr3 (.str _) (.str _) (.bool _)⟩
theorem atoi_walk (s : List UInt8) (n : Int) (hs : s.length ≤ 18) (h : Lib.atoi s = some n) (G : Heap) : VPure Tryz.prog 237 [.str s] G (.tup [.int .i64 n, .niliface]) := by
  refine VPure.liftB (by kernel_rfl) fun ρ w xs hW hx => ?_
  rw [one_arg hx]
  refine (Tryz.strconv_Atoi ⟨s.toArray⟩ n (by simpa [ByteArray.size] using hs) (by simpa using h) w).mono ?_
  rintro e w' ⟨rfl, t, rfl⟩
  exact ⟨_, rfl, Go.Joins.below_bytesWorld _ _ _ _ (Nat.le_refl _), vr2 (.int _ _) .niliface⟩
end Go.Vf
