/- A part of the proof: Qb. -/
import Derived.Test.YtkcdhmplinjldaaGreatDoorBANg
import Derived.Test.YtkcdhmplinjldaaGreatDoorBAPa
import Derived.Test.YtkcdhmplinjldaaGreatDoorBAOe
set_option linter.unusedVariables false
set_option linter.unusedSimpArgs false
namespace Go.Vf
open Go.Proofs Go.RowKit
theorem decA_at : DecAt decA := fun t G ht => dec_walk t ht G
end Go.Vf
