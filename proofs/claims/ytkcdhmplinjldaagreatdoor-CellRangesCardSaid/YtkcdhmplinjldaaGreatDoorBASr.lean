/- A part of the proof: Sr. -/
import Derived.Test.YtkcdhmplinjldaaGreatDoorBASq
set_option linter.unusedVariables false
set_option linter.unusedSimpArgs false
namespace Go.Vf
open Go.Proofs Go.RowKit
theorem tes_at : ∀ {l : List Te} {i : Nat} (h : i < l.length), velem 21 (tesC l) i = l[i].cells
  | a :: r, 0, _ => by
    unfold velem
    rw [tesC]
    simp only [Nat.zero_mul, List.drop_zero, List.getElem_cons_zero]
    rw [List.take_append_of_le_length (by rw [a.cells_len]; exact Nat.le_refl _), List.take_of_length_le (by rw [a.cells_len]; exact Nat.le_refl _)]
  | a :: r, i + 1, h => by
    have ih := tes_at (l := r) (i := i) (by simpa using h)
    unfold velem at *
    rw [tesC]
    have e : (i + 1) * 21 = a.cells.length + i * 21 := by rw [a.cells_len]; omega
    rw [e, List.drop_append]
    simp only [Nat.add_sub_cancel_left, List.getElem_cons_succ]
    rw [List.drop_of_length_le (by omega), List.nil_append]
    exact ih
def Te.A : Te → Ex | .mk _ _ a _ _ _ _ => a
def Te.B : Te → Ex | .mk _ _ _ b _ _ _ => b
def Te.ks : Te → List Te | .mk _ _ _ _ _ _ ks => ks
end Go.Vf
