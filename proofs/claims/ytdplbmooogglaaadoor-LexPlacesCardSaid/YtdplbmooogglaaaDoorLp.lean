/- How a row of Lex is closed: what is laid, a start that fits, the call's first state. -/
import Derived.Test.YtdplbmooogglaaaDoorLo
import Derived.Test.YtdplbmooogglaaaDoorTie
import Derived.Test.YtdplbmooogglaaaDoorCards
import Derived.Deep.DeepHandedRow
import Derived.Deep.DeepWitnessRowRef
import Derived.Lib.LaidU8
import Derived.ProofKit
import Derived.ChangeMaps5
import Derived.SizedLaws
import Derived.SevenTiedAt
set_option linter.unusedVariables false
set_option linter.unusedSimpArgs false
namespace Go.Proofs.YtdplbmooogglaaaDoor
open Go.ChangeShapes Go.WideShapes Go.ChangeAt Go.RowKit Go.Vf

theorem ownKnobs : ownKnob Tryd.prog.godebug = none := by kernel_rfl
theorem laidOut : laidOutB Tryd.prog = true := by kernel_rfl

theorem Tryd.gT : Tryd.prog.globalNamed "strings.asciiSpace" = some 0 := by kernel_rfl
theorem Tryd.gTType : (Tryd.prog.globals[0]?).map (·.type) = some 52 := by kernel_rfl
theorem Tryd.ut52 : Tryd.prog.underlying 52 = some (.array 256 5) := by kernel_rfl
theorem Tryd.ct5 : Tryd.prog.cellsOf 5 = 1 := by kernel_rfl
theorem Tryd.ct52 : Tryd.prog.cellsOf 52 = 256 := by kernel_rfl
abbrev laidL : List (String × DataW Unit) := [("unicode.White_Space", Rows.laid_unicode_White_Space), ("strings.asciiSpace", Rows.laid_strings_asciiSpace)]
theorem asciiSpace_data : (Rows.laid_strings_asciiSpace : DataW Unit) = Lib.tabData .u8 Lib.asciiSpaceTab := by kernel_rfl

/-- What is known of the world in which the call begins. -/
theorem met_of {W : World} (hL : laidMet Tryd.prog laidL W) (hsh : W.ShapedOpen Tryd.prog) : Go.Vf.Met W := by
  refine ⟨?_, Tryd.laysM144.s1_3 W hsh⟩
  obtain ⟨g', t', cs, fuel, p, hg', ht', hvar, hd⟩ := Lib.laidMet.reads hL (.tail _ (.head _))
  obtain rfl := Option.some.inj (Tryd.gT.symm.trans hg')
  obtain rfl := Option.some.inj (Tryd.gTType.symm.trans ht')
  rw [asciiSpace_data] at hd
  unfold Lib.TabIs
  rw [hvar, ← Lib.cells_of_tab Tryd.ut52 u5 Tryd.ct5 Tryd.ct52 hd]

/-- The settled world, the two variables holding what their initialisers lay: the witness. -/
noncomputable def laidWorld (os : Os) : World :=
  let N := (World.settled Tryd.prog os).heap.size
  let w0 := World.holding Tryd.prog os ⟨#[.cells (Lib.whiteT.map fun (z : Nat) => Value.int .u16 (z : Int)).toArray 72, .cells #[.slice (some ⟨N, 0, none⟩) 7 7, .slice none 0 0, .int .i64 2] 69], #[], []⟩
  let put (h : Array Obj) (g : Nat) (cs : Array Value) : Array Obj := h.modify g fun
    | .cells _ t frozen => .cells cs t frozen
    | o => o
  let h1 := put w0.heap 0 (Lib.asciiSpaceTab.map fun z => Value.int .u8 z).toArray
  let h2 := put h1 2 #[.pointer (some ⟨N + 1, 0, none⟩)]
  { w0 with heap := h2 }
theorem laid_met (os : Os) (args : Array Value) : laidMet Tryd.prog laidL ((laidWorld os).forCall (fun _ _ => 0) ⟨#[], args, []⟩).memory :=
  laidMet_of_run' 10 (by kernel_rfl) (by kernel_rfl)

/-- The first state: nothing of its own. -/
def rho0 (W : World) : Rho := ⟨W, fun _ _ => none, fun _ _ => none⟩
def heap0 : Heap := ⟨0, fun _ => none⟩
theorem wrel0 {W : World} (h : Go.Vf.Met W) : WRel (rho0 W) heap0 W where
  met := h
  below := Below.refl _ _
  imm _ _ _ e := by cases e
  lt _ _ e := by cases e
  wf _ _ e := by cases e
  late _ _ _ e := by cases e
  live _ _ e := by cases e
  apart _ _ _ _ e := by cases e
  inj _ _ _ _ _ _ _ e := by cases e
/-- What the walk says, in the row's own words. -/
theorem calls_of {f : FuncId} {vs : List V} {xs : List Value} {b : Bool} {W : World} (h : ∀ G, VPure Tryd.prog f vs G (.bool b)) (hm : Go.Vf.Met W) (hx : ∀ ρ n, VRs ρ n vs xs) :
    Calls Tryd.prog f xs.toArray W fun e W' => e = .returned (.bool b) ∧ Below W.heap.size W W' := by
  refine ((h heap0).2 (rho0 W) W xs (wrel0 hm) (hx _ _)).mono ?_
  rintro e W' ⟨x, ρ', v, G', rfl, hW, hle, _, hv, rfl, _⟩
  refine ⟨?_, ?_⟩
  · cases hv; rfl
  · have := hW.below
    rw [hle.base] at this
    exact this
theorem vrs1 {v : V} {x : Value} (h : ∀ ρ n, VR ρ n v x) : ∀ ρ n, VRs ρ n [v] [x] := fun ρ n => ⟨rfl, fun i v' x' e1 e2 => by
  cases i with
  | zero => cases e1; cases e2; exact h ρ n
  | succ i => cases e1⟩
theorem vrs_cons {v : V} {x : Value} {vs : List V} {xs : List Value} (h : ∀ ρ n, VR ρ n v x) (hr : ∀ ρ n, VRs ρ n vs xs) : ∀ ρ n, VRs ρ n (v :: vs) (x :: xs) := fun ρ n =>
  ⟨by simp [(hr ρ n).1], fun i v' x' e1 e2 => by
    cases i with
    | zero => cases e1; cases e2; exact h ρ n
    | succ i => exact (hr ρ n).2 i v' x' e1 e2⟩
theorem vr_str (s : ByteArray) : ∀ ρ n, VR ρ n (.str s.data.toList) (.string s) := fun ρ n => by
  have := VR.str (ρ := ρ) (n := n) s.data.toList
  simpa using this
theorem vr_int (k : IntKind) (i : Int) : ∀ ρ n, VR ρ n (.int k i) (.int k i) := fun ρ n => .int k i
theorem vr_bool (b : Bool) : ∀ ρ n, VR ρ n (.bool b) (.bool b) := fun ρ n => .bool b
end Go.Proofs.YtdplbmooogglaaaDoor
