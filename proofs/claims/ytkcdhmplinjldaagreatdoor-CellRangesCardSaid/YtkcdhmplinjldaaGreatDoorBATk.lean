/- A part of the proof: Tk. -/
import Derived.Test.YtkcdhmplinjldaaGreatDoorBATe
import Derived.Test.YtkcdhmplinjldaaGreatDoorBASz
set_option linter.unusedVariables false
set_option linter.unusedSimpArgs false
namespace Go.Vf
open Go.Proofs Go.RowKit
theorem ok_digS {P : Specs} (hP : SOk Tryz.prog P) : SOk Tryz.prog (P.add 17 (gDig 5)) := hP.add fun xs G p v e hp => by
  unfold gDig at e
  split at e
  · rename_i m
    cases e
    obtain ⟨k, rfl⟩ := Int.eq_ofNat_of_zero_le hp.1.1
    exact ldig_walk 4 k G (by decide) (by omega) hp.2
  · cases e
def LS5 : Specs := ((Specs.none.add 18 gHolds).add 17 (gDig 5)).add 13 gKnown
theorem LS5_at (f : FuncId) (xs : List V) (G : Heap) : LS5 f xs G = (((Specs.none.add 18 gHolds).add 17 (gDig 5)).add 13 gKnown) f xs G := rfl
theorem okLS5 : SOk Tryz.prog LS5 := ok_knownS (ok_digS (ok_holdsS (SOk.none _)))
theorem not_txt (l : List It) : 110 :: 111 :: 116 :: 40 :: (rowTxt l ++ [41]) = notTxt l := by unfold notTxt; simp
end Go.Vf
