/- Equality of plain structs; the parts of a value. -/
import Derived.Test.YtdplbmooogglaaaDoorVd
import Derived.Laws.StructEq
set_option linter.unusedVariables false
set_option linter.unusedSimpArgs false
namespace Go.Vf
open Go.RowKit

theorem veqK_split : ∀ {k l : List Nat} {a b c d : List V} {r : Bool}, k.length = a.length → k.length = c.length → veqK (k ++ l) (a ++ b) (c ++ d) = some r → ∃ p q, veqK k a c = some p ∧ veqK l b d = some q ∧ r = (p && q)
  | [], l, [], b, [], d, r, _, _, h => ⟨true, r, rfl, h, by simp⟩
  | k :: ks, l, x :: a, b, y :: c, d, r, hl, hl', h => by
    simp only [List.cons_append, veqK] at h
    split at h
    · rename_i hk
      cases h1 : veq1 x y with
      | none => rw [h1] at h; cases h
      | some p =>
        cases h2 : veqK (ks ++ l) (a ++ b) (c ++ d) with
        | none => rw [h1, h2] at h; cases h
        | some q =>
          rw [h1, h2] at h
          simp only [Option.some.injEq] at h
          obtain ⟨p', q', e1, e2, e3⟩ := veqK_split (by simpa using hl) (by simpa using hl') h2
          exact ⟨p && p', q', by simp [veqK, h1, e1, hk], e2, by rw [← h, e3, Bool.and_assoc]⟩
    · cases h
theorem veqK_len : ∀ {k : List Nat} {a b : List V} {r : Bool}, veqK k a b = some r → k.length = a.length ∧ k.length = b.length
  | [], [], [], _, _ => ⟨rfl, rfl⟩
  | k :: ks, x :: a, y :: b, r, h => by
    simp only [veqK] at h
    split at h
    · cases h2 : veqK ks a b with
      | none => rw [h2] at h; cases h1 : veq1 x y <;> rw [h1] at h <;> cases h
      | some q => have := veqK_len h2; simp [this.1.symm, this.2.symm]
    · cases h
  | [], _ :: _, _, _, h | [], [], _ :: _, _, h => by simp [veqK] at h
  | _ :: _, [], _, _, h | _ :: _, _ :: _, [], _, h => by simp [veqK] at h

section
variable {P : Program} {ρ : Rho} {w : World}

theorem run_sizeOf {t : TypeId} (hi : (P.info? t).isSome = true) : (sizeOf t).run P w = .ok (P.cellsOf t) w := by
  obtain ⟨i, hi⟩ := Option.isSome_iff_exists.1 hi
  simp [sizeOf, typeInfo, hi, Program.cellsOf]
theorem run_und {t : TypeId} {d : TypeDesc} (h : P.underlying t = some d) : (underlying t).run P w = .ok d w := by simp [underlying, h]
theorem run_isAgg {t : TypeId} {b : Bool} (hb : tagg P t = some b) : (isAgg t).run P w = .ok b w := by
  unfold tagg at hb
  simp only [isAgg, underlying, Sem.run_bind, run_program, Result.andThen_ok]
  split at hb
  all_goals (rename_i hu; first | (cases hb; done) | skip)
  all_goals (simp only [Option.some.injEq] at hb; subst hb; rw [hu]; simp)
theorem run_part {t : TypeId} {b : Bool} (hb : tagg P t = some b) (hi : (P.info? t).isSome = true) (xs : List Value) (off : Nat) :
    (part t xs.toArray off).run P w = if b = true then .ok (.agg ((xs.drop off).take (P.cellsOf t)).toArray) w else match xs[off]? with | some v => .ok v w | none => .halt (.stuck "part: no such cell") w := by
  simp only [part, Sem.run_bind, run_isAgg hb, Result.andThen_ok]
  cases b
  · simp
    cases xs[off]? <;> simp
  · simp [run_sizeOf hi]

theorem equalIn_bool {t : TypeId} {n : Nat} {x y : V} {a b : Value} {r : Bool} (hu : P.underlying t = some .bool) (hk : vtag 0 x = true) (hx : VR ρ n x a) (hy : VR ρ n y b) (he : veq1 x y = some r) (k : Nat) :
    (Op.equalIn (k + 1) t a b).run P w = .ok r w := by
  cases x <;> simp [vtag] at hk
  cases y <;> simp only [veq1, reduceCtorEq, Option.some.injEq] at he
  rename_i i i'
  obtain rfl := hx.bool_inv; obtain rfl := hy.bool_inv
  simp [Op.equalIn, run_und hu, ← he]
  cases i <;> cases i' <;> rfl
theorem equalIn_int {t : TypeId} {n : Nat} {x y : V} {a b : Value} {r : Bool} {kk : IntKind} (hu : P.underlying t = some (.int kk)) (hk : vtag 1 x = true) (hx : VR ρ n x a) (hy : VR ρ n y b) (he : veq1 x y = some r) (k : Nat) :
    (Op.equalIn (k + 1) t a b).run P w = .ok r w := by
  cases x <;> simp [vtag] at hk
  cases y <;> simp only [veq1, reduceCtorEq] at he
  split at he
  · rename_i hj; subst hj
    obtain rfl := hx.int_inv; obtain rfl := hy.int_inv
    simp only [Option.some.injEq] at he
    simp [Op.equalIn, run_und hu, ← he, beq_int]
  · cases he
theorem beq_mk (a b : List UInt8) : ((⟨a.toArray⟩ : ByteArray) == ⟨b.toArray⟩) = decide (a = b) := by
  rw [beq_toListBytes, toList_mk, toList_mk, beq_dec]
theorem equalIn_str {t : TypeId} {n : Nat} {x y : V} {a b : Value} {r : Bool} (hu : P.underlying t = some .string) (hk : vtag 2 x = true) (hx : VR ρ n x a) (hy : VR ρ n y b) (he : veq1 x y = some r) (k : Nat) :
    (Op.equalIn (k + 1) t a b).run P w = .ok r w := by
  cases x <;> simp [vtag] at hk
  cases y <;> simp only [veq1, reduceCtorEq, Option.some.injEq] at he
  obtain rfl := hx.str_inv; obtain rfl := hy.str_inv
  simp [Op.equalIn, run_und hu, ← he, beq_mk]

/-- What a plain type's equality comes to: of a struct, of a scalar. -/
def EqOk (P : Program) (ρ : Rho) (w : World) (n k : Nat) (t : TypeId) (ks : List Nat) : Prop :=
  ∀ (a b : List V) (xs ys : List Value) (r : Bool), VRs ρ n a xs → VRs ρ n b ys → veqK ks a b = some r →
    (tagg P t = some true → (Op.equalIn k t (.agg xs.toArray) (.agg ys.toArray)).run P w = .ok r w) ∧
    (tagg P t = some false → ∀ x y, xs = [x] → ys = [y] → (Op.equalIn k t x y).run P w = .ok r w)

theorem tkinds_parts {d : Nat} {t : TypeId} {ks : List Nat} (h : tkinds P d t = some ks) : (P.info? t).isSome = true ∧ ((tagg P t = some false ∧ P.cellsOf t = 1 ∧ ks.length = 1) ∨ tagg P t = some true) := by
  cases d with
  | zero => simp [tkinds] at h
  | succ d =>
    unfold tkinds at h
    split at h
    · rename_i hi
      refine ⟨hi, ?_⟩
      split at h
      · rename_i hu
        split at h
        · cases h; exact .inl ⟨by simp [tagg, hu], by assumption, rfl⟩
        · cases h
      · rename_i hu
        split at h
        · cases h; exact .inl ⟨by simp [tagg, hu], by assumption, rfl⟩
        · cases h
      · rename_i hu
        split at h
        · cases h; exact .inl ⟨by simp [tagg, hu], by assumption, rfl⟩
        · cases h
      · rename_i hu; exact .inr (by simp [tagg, hu])
      · cases h
    · cases h

theorem eqFields_ok {n k : Nat} {g : TypeId → Option (List Nat)} (hg : ∀ t ks, g t = some ks → EqOk P ρ w n k t ks ∧ (P.info? t).isSome = true ∧ ((tagg P t = some false ∧ P.cellsOf t = 1) ∨ tagg P t = some true)) :
    ∀ (fs : List Field) (o : Nat) (ks : List Nat), tkindsGo P g fs o = some ks → ∀ (A B : List V) (XS YS : List Value) (r : Bool), VRs ρ n A XS → VRs ρ n B YS → veqK ks (A.drop o) (B.drop o) = some r →
      (Op.eqFields k XS.toArray YS.toArray fs).run P w = .ok r w := by
  intro fs
  induction fs with
  | nil =>
    intro o ks h A B XS YS r hA hB he
    simp only [tkindsGo, Option.some.injEq] at h
    subst h
    cases h1 : A.drop o with
    | nil =>
      cases h2 : B.drop o with
      | nil => rw [h1, h2] at he; simp [veqK] at he; subst he; simp [Op.eqFields]
      | cons => rw [h1, h2] at he; simp [veqK] at he
    | cons => rw [h1] at he; simp [veqK] at he
  | cons f fs ih =>
    intro o ks h A B XS YS r hA hB he
    simp only [tkindsGo] at h
    split at h
    · rename_i hc
      simp only [Bool.and_eq_true, bne_iff_ne, beq_iff_eq] at hc
      obtain ⟨hname, rfl⟩ := hc
      cases h1 : g f.type with
      | none => rw [h1] at h; cases h
      | some k1 =>
        cases h2 : tkindsGo P g fs (f.offset + P.cellsOf f.type) with
        | none => rw [h1, h2] at h; cases h
        | some k2 =>
          rw [h1, h2] at h
          simp only at h
          split at h
          · rename_i hlen
            cases h
            obtain ⟨hq, hi, ht⟩ := hg _ _ h1
            have hsz : P.cellsOf f.type ≤ (A.drop f.offset).length ∧ P.cellsOf f.type ≤ (B.drop f.offset).length := by
              have := veqK_len he
              simp only [List.length_append] at this
              omega
            rw [← List.take_append_drop (P.cellsOf f.type) (A.drop f.offset), ← List.take_append_drop (P.cellsOf f.type) (B.drop f.offset)] at he
            obtain ⟨p, q, e1, e2, e3⟩ := veqK_split (by simp only [List.length_take]; omega) (by simp only [List.length_take]; omega) he
            obtain ⟨g1, g2⟩ := hq _ _ _ _ _ ((hA.drop f.offset).take (P.cellsOf f.type)) ((hB.drop f.offset).take (P.cellsOf f.type)) e1
            rw [List.drop_drop, List.drop_drop] at e2
            have hrest := ih _ _ h2 A B XS YS q hA hB e2
            unfold Op.eqFields
            rw [if_pos hname]
            simp only [Sem.run_bind]
            rcases ht with ⟨hb, hs1⟩ | hb
            · have hx : f.offset < XS.length := by rw [hA.1]; simp only [List.length_drop] at hsz; omega
              have hy : f.offset < YS.length := by rw [hB.1]; simp only [List.length_drop] at hsz; omega
              simp only [run_part hb hi, Bool.false_eq_true, if_false, List.getElem?_eq_getElem hx, List.getElem?_eq_getElem hy, Result.andThen_ok]
              rw [g2 hb XS[f.offset] YS[f.offset] (by rw [hs1, List.drop_eq_getElem_cons hx]; rfl) (by rw [hs1, List.drop_eq_getElem_cons hy]; rfl)]
              simp only [Result.andThen_ok]
              subst e3
              cases p
              · simp
              · simpa using hrest
            · simp only [run_part hb hi, if_true, Result.andThen_ok]
              rw [g1 hb]
              simp only [Result.andThen_ok]
              subst e3
              cases p
              · simp
              · simpa using hrest
          · cases h
    · cases h

theorem tkinds_eq {n : Nat} : ∀ {d : Nat} {t : TypeId} {ks : List Nat}, tkinds P d t = some ks → ∀ k, d ≤ k → EqOk P ρ w n k t ks
  | 0, t, ks, h, k, hd => by simp [tkinds] at h
  | d + 1, t, ks, h, k, hd => by
    obtain ⟨k, rfl⟩ : ∃ m, k = m + 1 := ⟨k - 1, by omega⟩
    have hp := tkinds_parts h
    unfold tkinds at h
    rw [if_pos hp.1] at h
    intro a b xs ys r ha hb he
    have one : ∀ {tg : Nat}, ks = [tg] → ∃ x y, a = [x] ∧ b = [y] ∧ vtag tg x = true ∧ veq1 x y = some r := fun {tg} e => by
      subst e
      have hl := veqK_len he
      match a, b, hl, he with
      | [x], [y], _, he =>
        simp only [veqK] at he
        split at he
        · rename_i hk
          cases h1 : veq1 x y with
          | none => rw [h1] at he; cases he
          | some p => rw [h1] at he; simp at he; exact ⟨x, y, rfl, rfl, hk, by rw [h1, he]⟩
        · cases he
    have scal : ∀ {tg : Nat}, ks = [tg] → tagg P t = some false → (∀ x y u v, VR ρ n x u → VR ρ n y v → vtag tg x = true → veq1 x y = some r → (Op.equalIn (k + 1) t u v).run P w = .ok r w) →
        (tagg P t = some true → (Op.equalIn (k + 1) t (.agg xs.toArray) (.agg ys.toArray)).run P w = .ok r w) ∧ (tagg P t = some false → ∀ x y, xs = [x] → ys = [y] → (Op.equalIn (k + 1) t x y).run P w = .ok r w) := fun {tg} e ht hk => by
      refine ⟨fun h' => (by rw [ht] at h'; cases h'), fun _ u v e1 e2 => ?_⟩
      obtain ⟨x, y, rfl, rfl, h1, h2⟩ := one e
      subst e1; subst e2
      exact hk x y u v (ha.2 0 x u rfl rfl) (hb.2 0 y v rfl rfl) h1 h2
    split at h
    · rename_i hu
      split at h
      · cases h
        exact scal rfl (by simp [tagg, hu]) fun x y u v h1 h2 h3 h4 => equalIn_bool hu h3 h1 h2 h4 k
      · cases h
    · rename_i hu
      split at h
      · cases h
        exact scal rfl (by simp [tagg, hu]) fun x y u v h1 h2 h3 h4 => equalIn_int hu h3 h1 h2 h4 k
      · cases h
    · rename_i hu
      split at h
      · cases h
        exact scal rfl (by simp [tagg, hu]) fun x y u v h1 h2 h3 h4 => equalIn_str hu h3 h1 h2 h4 k
      · cases h
    · rename_i fs hu
      split at h
      · cases h
      · rename_i hst
        refine ⟨fun _ => ?_, fun h' => by simp [tagg, hu] at h'⟩
        have hf : P.fieldsOf t = fs := by simp [Program.fieldsOf, hu]
        rw [run_equalIn_struct (P := P) w k t xs.toArray ys.toArray (by rw [hf]; exact hu) (by simpa using hst), hf]
        exact eqFields_ok (n := n) (k := k) (fun t' ks' e => ⟨tkinds_eq e k (by omega), (tkinds_parts e).1, (tkinds_parts e).2.imp (fun x => ⟨x.1, x.2.1⟩) id⟩) _ _ _ h a b xs ys r ha hb (by simpa using he)
    · cases h

theorem tkindsGo_guard {g : TypeId → Option (List Nat)} {D : Nat} (hg : ∀ t ks, g t = some ks → P.eqGuardType D t = false) : ∀ (fs : List Field) (o : Nat) (ks : List Nat), tkindsGo P g fs o = some ks → (fs.any fun f => f.name != "_" && P.eqGuardType D f.type) = false
  | [], _, _, _ => rfl
  | f :: r, o, ks, h => by
    simp only [tkindsGo] at h
    split at h
    · cases h1 : g f.type with
      | none => rw [h1] at h; cases h
      | some k1 =>
        cases h2 : tkindsGo P g r (o + P.cellsOf f.type) with
        | none => rw [h1, h2] at h; cases h
        | some k2 => simp [hg _ _ h1, tkindsGo_guard hg r _ _ h2]
    · cases h
theorem tkinds_guard : ∀ {d : Nat} {t : TypeId} {ks : List Nat}, tkinds P d t = some ks → ∀ D, d ≤ D → P.eqGuardType D t = false
  | 0, t, ks, h, D, hd => by simp [tkinds] at h
  | d + 1, t, ks, h, D, hd => by
    obtain ⟨D, rfl⟩ : ∃ m, D = m + 1 := ⟨D - 1, by omega⟩
    unfold tkinds at h
    unfold Program.eqGuardType
    split at h
    · split at h
      · rename_i hu; rw [hu]
      · rename_i hu; rw [hu]
      · rename_i hu; rw [hu]
      · rename_i fs hu
        rw [hu]
        split at h
        · cases h
        · show (fs.any fun f => f.name != "_" && P.eqGuardType D f.type) = false
          rw [← Array.any_toList]
          exact tkindsGo_guard (fun t' ks' e => tkinds_guard e D (by omega)) _ _ _ h
      · cases h
    · cases h
end
end Go.Vf
