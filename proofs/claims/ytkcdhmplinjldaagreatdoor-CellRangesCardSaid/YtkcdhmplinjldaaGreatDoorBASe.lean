/- A part of the proof: Se. -/
import Derived.Test.YtkcdhmplinjldaaGreatDoorBASd
set_option linter.unusedVariables false
set_option linter.unusedSimpArgs false
namespace Go.Vf
open Go.Proofs Go.RowKit
def takeS (T : List Tok) (s : St) : List (List UInt8) → List UInt8 × St
  | [] => ([], s)
  | w :: r => if isT T s 4 w = true then (w, takeT T s 4 w) else takeS T s r
def openW : List (List UInt8) := [[91], [40]]
theorem takeT_no {T : List Tok} {s : St} {w : List UInt8} (h : isT T s 4 w = false) : takeT T s 4 w = s := by unfold takeT; rw [h]; rfl
theorem open_eq {T : List Tok} {en : Int} {s : St} (h : isT T s 4 [91] = true ∨ isT T s 4 [40] = true) :
    (takeS T s openW).2 = opT T en s [91] [40] ∧ decide ((takeS T s openW).1 = [91]) = isT T s 4 [91] ∧ opT T en s [91] [40] = ⟨s.at_ + 1, s.pos, s.err⟩ := by
  unfold openW takeS takeS opT
  cases h1 : isT T s 4 [91] with
  | true => refine ⟨rfl, rfl, ?_⟩; unfold takeT; rw [h1]; rfl
  | false =>
    have h2 : isT T s 4 [40] = true := by
      rcases h with h | h
      · rw [h1] at h; cases h
      · exact h
    simp only [takeT_no h1, h2, if_true, Bool.false_eq_true, if_false]
    refine ⟨rfl, by decide, ?_⟩
    unfold mustT takeT; rw [h2]; rfl
end Go.Vf
