/- What is known of the world in which the claimed call begins. (A hole: each claim fills it.) -/
import Derived.Below
import Derived.Lib.LaidTab
import Derived.Shelf.Strings.Fields
import Derived.Test.YtfkojpljgafieaaGreatDoorProg
namespace Go.Vf
open Go.Proofs
def Met (w : World) : Prop := Lib.TabIs Tryz.prog w "strings.asciiSpace" .u8 Lib.asciiSpaceTab ∧ ∃ m : Int, w.cell? ⟨2, 0, none⟩ = some (.int .i64 m)
