/- A part of the proof: Te. -/
import Derived.Test.YtkcdhmplinjldaaGreatDoorBATc
set_option linter.unusedVariables false
set_option linter.unusedSimpArgs false
namespace Go.Vf
open Go.Proofs Go.RowKit
def gKnown : List V → Option (Prop × V)
  | [] => some (True, .bool true)
  | _ => none
theorem ok_knownS {P : Specs} (hP : SOk Tryz.prog P) : SOk Tryz.prog (P.add 13 gKnown) := hP.add fun xs G p v e hp => by
  unfold gKnown at e
  split at e
  · cases e; exact lknown_walk G
  · cases e
end Go.Vf
