/- The quiet operations, one by one. -/
import Derived.Test.YtdplbmooogglaaaDoorVe
import Derived.WideLaws
set_option linter.unusedVariables false
set_option linter.unusedSimpArgs false
namespace Go.Vf
open Go.RowKit

section
variable {P : Program} {ρ : Rho} {G : Heap} {w : World} {n : Nat}

theorem depth_le (P : Program) : 8 ≤ P.depth := by
  unfold Program.depth
  have : Made.depth = 100 := rfl
  rw [this]; omega

theorem guard_other (op : BinOp) (t : TypeId) (X Y : Operand) (x y : Value) (h1 : ¬(x = .nilIface ∧ y = .nilIface)) (h2 : ∀ a b, ¬(x = .agg a ∧ y = .agg b)) : (eqGuard op t X Y x y).run P w = .ok () w := by
  cases x <;> cases y <;> first
    | (exact absurd ⟨rfl, rfl⟩ h1)
    | (exact absurd ⟨rfl, rfl⟩ (h2 _ _))
    | (unfold eqGuard; split <;> simp)

/-- What an equality of what is neither number nor text comes to: the guard ahead of it, and the answer. -/
def EqRun (P : Program) (w : World) (t : TypeId) (X Y : Operand) (x y : Value) (r : Bool) : Prop :=
  (∀ op, (eqGuard op t X Y x y).run P w = .ok () w) ∧ (binOp .eql t x y).run P w = .ok (.bool r) w ∧ (binOp .neq t x y).run P w = .ok (.bool (!r)) w

theorem eqRun_of {t : TypeId} {X Y : Operand} {x y : Value} {r : Bool} (hg : ∀ op, (eqGuard op t X Y x y).run P w = .ok () w) (h : (Op.equal t x y).run P w = .ok r w)
    (hb1 : binOp .eql t x y = (do pure (.bool (← Op.equal t x y)))) (hb2 : binOp .neq t x y = (do pure (.bool (!(← Op.equal t x y))))) : EqRun P w t X Y x y r :=
  ⟨hg, by rw [hb1]; simp [h], by rw [hb2]; simp [h]⟩

theorem equal_of {t : TypeId} {x y : Value} {r : Bool} (h : ∀ d, (Op.equalIn (d + 1) t x y).run P w = .ok r w) : (Op.equal t x y).run P w = .ok r w := h 9999

theorem veq_ok {t : TypeId} {X Y : Operand} {u v : V} {x y : Value} {r : Bool} (h : veq P t (isConst X) (isConst Y) u v = some r) (hu : VR ρ n u x) (hv : VR ρ n v y) : EqRun P w t X Y x y r := by
  have ptr : ∀ {x y : Value}, (∃ a b, x = .pointer a ∧ y = .pointer b ∧ ((a = none ∧ r = b.isNone) ∨ (b = none ∧ r = a.isNone))) → (∃ e, P.underlying t = some (.pointer e)) → EqRun P w t X Y x y r := fun {x y} ⟨a, b, e1, e2, e3⟩ ⟨e, he⟩ => by
    subst e1; subst e2
    refine eqRun_of (fun op => guard_other op t X Y _ _ (by simp) (by simp)) (equal_of fun d => ?_) rfl rfl
    simp only [Op.equalIn, Sem.run_bind, run_und he, Result.andThen_ok]
    rcases e3 with ⟨rfl, rfl⟩ | ⟨rfl, rfl⟩
    · simp
    · cases a <;> simp
  have fn : ∀ {x y : Value}, ((x = .nilFunc ∧ y = .nilFunc ∧ r = true) ∨ (x = .nilFunc ∧ (∃ f a b, y = .func f a b) ∧ r = false) ∨ ((∃ f a b, x = .func f a b) ∧ y = .nilFunc ∧ r = false)) → (∃ a b c, P.underlying t = some (.func a b c)) → EqRun P w t X Y x y r := fun {x y} h ⟨_, _, _, he⟩ => by
    rcases h with ⟨rfl, rfl, rfl⟩ | ⟨rfl, ⟨_, _, _, rfl⟩, rfl⟩ | ⟨⟨_, _, _, rfl⟩, rfl, rfl⟩ <;>
    · refine eqRun_of (fun op => guard_other op t X Y _ _ (by simp) (by simp)) (equal_of fun d => ?_) rfl rfl
      simp [Op.equalIn, run_und he]
  have ifc : ∀ {x y : Value}, ((x = .nilIface ∧ (∃ a b, y = .iface a b) ∧ r = false) ∨ ((∃ a b, x = .iface a b) ∧ y = .nilIface ∧ r = false)) → (∃ a, P.underlying t = some (.interface a)) → EqRun P w t X Y x y r := fun {x y} h ⟨_, he⟩ => by
    rcases h with ⟨rfl, ⟨_, _, rfl⟩, rfl⟩ | ⟨⟨_, _, rfl⟩, rfl, rfl⟩ <;>
    · refine eqRun_of (fun op => guard_other op t X Y _ _ (by simp) (by simp)) (equal_of fun d => ?_) rfl rfl
      simp [Op.equalIn, run_und he]
  unfold veq at h
  split at h
  · -- two structs
    split at h
    · rename_i ks hks
      by_cases ht : tagg P t = some true
      case neg => rw [if_neg ht] at h; cases h
      rw [if_pos ht] at h
      obtain ⟨xs, rfl, hxs⟩ := hu.agg_inv
      obtain ⟨ys, rfl, hys⟩ := hv.agg_inv
      have hg := tkinds_guard hks P.depth (depth_le P)
      have hp := tkinds_parts hks
      have he := (tkinds_eq (P := P) (ρ := ρ) (w := w) (n := n) hks 10000 (by omega) _ _ _ _ _ hxs hys h).1 ht
      refine eqRun_of (fun op => run_eqGuard_agg w op t X Y _ _ hg) he rfl rfl
    · cases h
  · split at h
    · rename_i e he; cases h; obtain rfl : x = .pointer none := by cases hu; rfl
      obtain rfl : y = .pointer none := by cases hv; rfl
      exact ptr ⟨_, _, rfl, rfl, .inl ⟨rfl, rfl⟩⟩ ⟨_, he⟩
    · cases h
  · split at h
    · rename_i e he; cases h; cases hu; cases hv
      exact ptr ⟨_, _, rfl, rfl, .inl ⟨rfl, rfl⟩⟩ ⟨_, he⟩
    · cases h
  · split at h
    · rename_i e he; cases h; cases hu; cases hv
      exact ptr ⟨_, _, rfl, rfl, .inl ⟨rfl, rfl⟩⟩ ⟨_, he⟩
    · cases h
  · split at h
    · rename_i e he; cases h; cases hu; cases hv
      exact ptr ⟨_, _, rfl, rfl, .inr ⟨rfl, rfl⟩⟩ ⟨_, he⟩
    · cases h
  · split at h
    · rename_i e he; cases h; cases hu; cases hv
      exact ptr ⟨_, _, rfl, rfl, .inr ⟨rfl, rfl⟩⟩ ⟨_, he⟩
    · cases h
  · split at h
    · rename_i e he
      split at h
      · rename_i hc
        cases h; cases hu; cases hv
        refine eqRun_of (fun op => ?_) (equal_of fun d => by simp [Op.equalIn, run_und he]) rfl rfl
        cases X <;> cases Y <;> simp [isConst] at hc <;> (cases op <;> simp [eqGuard])
      · cases h
    · cases h
  · split at h
    · rename_i e he; cases h; cases hu; cases hv
      exact ifc (.inl ⟨rfl, ⟨_, _, rfl⟩, rfl⟩) ⟨_, he⟩
    · cases h
  · split at h
    · rename_i e he; cases h; cases hu; cases hv
      exact ifc (.inr ⟨⟨_, _, rfl⟩, rfl, rfl⟩) ⟨_, he⟩
    · cases h
  · split at h
    · rename_i e he; cases h; cases hu; cases hv
      exact fn (.inl ⟨rfl, rfl, rfl⟩) ⟨_, _, _, he⟩
    · cases h
  · split at h
    · rename_i e he; cases h; cases hu; cases hv
      exact fn (.inr (.inl ⟨rfl, ⟨_, _, _, rfl⟩, rfl⟩)) ⟨_, _, _, he⟩
    · cases h
  · split at h
    · rename_i e he; cases h; cases hu; cases hv
      exact fn (.inr (.inr ⟨⟨_, _, _, rfl⟩, rfl, rfl⟩)) ⟨_, _, _, he⟩
    · cases h
  · split at h
    · rename_i a b he
      cases h; cases hu; cases hv
      refine eqRun_of (fun op => guard_other op t X Y _ _ (by simp) (by simp)) (equal_of fun d => ?_) rfl rfl
      simp [Op.equalIn, run_und he]
      cases a <;> cases b <;> rfl
    · cases h
  · cases h
end
end Go.Vf
