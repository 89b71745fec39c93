/- A part of the proof: Sq. -/
import Derived.Test.YtkcdhmplinjldaaGreatDoorBASm
set_option linter.unusedVariables false
set_option linter.unusedSimpArgs false
namespace Go.Vf
open Go.Proofs Go.RowKit
def z1 : List Te → List Te := fun l => l
end Go.Vf
