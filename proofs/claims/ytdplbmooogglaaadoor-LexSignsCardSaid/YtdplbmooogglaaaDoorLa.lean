/- Facts of the program's tables that the Lex walks look up. -/
import Derived.Test.YtdplbmooogglaaaDoorVn
import Derived.Laws.RangeAny
import Derived.Test.YtdplbmooogglaaaDoorChecked
set_option linter.unusedVariables false
namespace Go.Vf
open Go.Proofs

theorem mixed : Tryd.prog.follows .mixedOrders = true := by kernel_rfl
def T0 : Tab := ⟨fun _ => ([], []), fun _ => false⟩
theorem u3 : Tryd.prog.underlying 3 = some (.int .i64) := by kernel_rfl
theorem u4 : Tryd.prog.underlying 4 = some .bool := by kernel_rfl
theorem u5 : Tryd.prog.underlying 5 = some (.int .u8) := by kernel_rfl
theorem u9 : Tryd.prog.underlying 9 = some .string := by kernel_rfl
theorem u21 : Tryd.prog.underlying 21 = some (.int .i32) := by kernel_rfl
theorem u22 : Tryd.prog.underlying 22 = some (.slice 33) := by kernel_rfl
theorem u23 : Tryd.prog.underlying 23 = some (.int .i64) := by kernel_rfl
theorem u35 : Tryd.prog.underlying 35 = some (.slice 9) := by kernel_rfl
theorem te22 : telem Tryd.prog 22 = some 33 := by kernel_rfl
theorem te35 : telem Tryd.prog 35 = some 9 := by kernel_rfl
theorem ag3 : tagg Tryd.prog 3 = some false := by kernel_rfl
theorem ag5 : tagg Tryd.prog 5 = some false := by kernel_rfl
theorem ag9 : tagg Tryd.prog 9 = some false := by kernel_rfl
theorem ag33 : tagg Tryd.prog 33 = some true := by kernel_rfl
theorem z33 : tzero Tryd.prog 33 = some [.int .i64 0, .str [], .int .i64 0] := by kernel_rfl
theorem z9 : tzero Tryd.prog 9 = some [.str []] := by kernel_rfl
theorem st33 : tstruct Tryd.prog 33 = some [.int .i64 0, .str [], .int .i64 0] := by kernel_rfl
theorem c33 : Tryd.prog.cellsOf 33 = 3 := by kernel_rfl
theorem c9 : Tryd.prog.cellsOf 9 = 1 := by kernel_rfl
theorem c3 : Tryd.prog.cellsOf 3 = 1 := by kernel_rfl
theorem i33 : (Tryd.prog.info? 33).isSome = true := by kernel_rfl
theorem i9 : (Tryd.prog.info? 9).isSome = true := by kernel_rfl
theorem i3 : (Tryd.prog.info? 3).isSome = true := by kernel_rfl
theorem b33 : Tryd.prog.bytesOf 33 = 32 := by kernel_rfl
theorem b9 : Tryd.prog.bytesOf 9 = 16 := by kernel_rfl
theorem f33_0 : tfield Tryd.prog 33 0 = some (0, 1, false) := by kernel_rfl
theorem f33_1 : tfield Tryd.prog 33 1 = some (1, 1, false) := by kernel_rfl
theorem f33_2 : tfield Tryd.prog 33 2 = some (2, 1, false) := by kernel_rfl
theorem p33_0 : tplaces Tryd.prog 33 0 = some (0, 1) := by kernel_rfl
theorem p33_1 : tplaces Tryd.prog 33 1 = some (1, 1) := by kernel_rfl
theorem p33_2 : tplaces Tryd.prog 33 2 = some (2, 1) := by kernel_rfl
theorem k33 : tkinds Tryd.prog 8 33 = some [1, 2, 1] := by kernel_rfl
theorem g33 : tgrow Tryd.prog 33 = true := by kernel_rfl
theorem g9 : tgrow Tryd.prog 9 = true := by kernel_rfl
theorem s22 : tsrc Tryd.prog 22 = true := by kernel_rfl
end Go.Vf
