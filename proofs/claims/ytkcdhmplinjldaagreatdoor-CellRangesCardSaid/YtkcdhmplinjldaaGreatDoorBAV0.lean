/- A part of the proof: V0. -/
import Derived.Below
import Derived.Lib.LaidTab
import Derived.Shelf.Strings.Fields
import Derived.Test.YtkcdhmplinjldaaGreatDoorProg
namespace Go.Vf
open Go.Proofs
def Met (w : World) : Prop := Lib.TabIs Tryz.prog w "strings.asciiSpace" .u8 Lib.asciiSpaceTab ∧ ∃ m : Int, w.cell? ⟨2, 0, none⟩ = some (.int .i64 m)
