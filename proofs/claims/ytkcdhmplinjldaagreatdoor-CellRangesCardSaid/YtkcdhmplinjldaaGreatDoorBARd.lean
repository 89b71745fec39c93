/- A part of the proof: Rd. -/
import Derived.Test.YtkcdhmplinjldaaGreatDoorBAQb
import Derived.ChangeArms
set_option linter.unusedVariables false
set_option linter.unusedSimpArgs false
namespace Go.Vf
open Go.Proofs Go.RowKit
def rho1 (W : World) : Rho := ⟨W, fun b o => W.cell? ⟨b, o, none⟩, fun _ _ => none⟩
theorem spot_none {W : World} {a : Addr} {v : Value} (h : W.cell? a = some v) : a.spot = none := by
  unfold World.cell? at h
  split at h
  · split at h
    · cases h
    · rename_i c; simpa using c
  · cases h
theorem cell_add {W : World} {a : Addr} {k : Nat} {v : Value} (h : W.cell? (a.add k) = some v) : W.cell? ⟨a.block, a.off + k, none⟩ = some v := by
  have hs := spot_none h
  unfold Addr.add at h hs
  split at h
  · rename_i e
    rw [if_pos e] at hs
    subst e
    obtain ⟨b, o, s⟩ := a
    simp only at hs
    subst hs
    exact h
  · exact h
theorem add_parts (a : Addr) (k : Nat) : (a.add k).block = a.block ∧ (a.add k).off = a.off + k := by
  unfold Addr.add; split
  · rename_i e; subst e; exact ⟨rfl, rfl⟩
  · exact ⟨rfl, rfl⟩
theorem cells_get {W : World} {a : Addr} {n : Nat} {cs : List Value} (h : W.cells? 0 a n = some cs) : cs.length = n ∧ ∀ j v, cs[j]? = some v → W.cell? (a.add j) = some v := by
  unfold World.cells? at h
  rw [if_pos (Nat.zero_le _)] at h
  have hl : cs.length = n := by simpa using mapM_some_length h
  refine ⟨hl, fun j v hj => ?_⟩
  have hjn : j < n := by have := (List.getElem?_eq_some_iff.1 hj).1; omega
  have := mapM_some_get h j j (by simp [hjn])
  rw [this]; exact hj
end Go.Vf
