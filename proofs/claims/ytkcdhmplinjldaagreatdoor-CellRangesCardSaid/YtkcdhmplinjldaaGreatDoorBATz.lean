/- A part of the proof: Tz. -/
import Derived.Test.YtkcdhmplinjldaaGreatDoorBATe
import Derived.Test.YtkcdhmplinjldaaGreatDoorBShelf
import Derived.Test.YtkcdhmplinjldaaGreatDoorTie
import Derived.Test.YtkcdhmplinjldaaGreatDoorCards
import Derived.Deep.DeepHandedRow
import Derived.Deep.DeepWitnessRowRef
import Derived.Lib.LaidU8
import Derived.Deep.DeepLaidRun
import Derived.ProofKit
import Derived.ChangeMaps5
import Derived.SizedLaws
import Derived.SevenTiedAt
set_option linter.unusedVariables false
set_option linter.unusedSimpArgs false
namespace Go.Proofs.YtkcdhmplinjldaaGreatDoor
open Go.ChangeShapes Go.WideShapes Go.ChangeAt Go.RowKit Go.Vf
theorem ownKnobs : ownKnob Tryz.prog.godebug = none := by kernel_rfl
theorem laidOut : laidOutB Tryz.prog = true := by kernel_rfl
theorem Tryz.gT : Tryz.prog.globalNamed "strings.asciiSpace" = some 0 := by kernel_rfl
theorem Tryz.gTType : (Tryz.prog.globals[0]?).map (·.type) = some 144 := by kernel_rfl
theorem Tryz.ut144 : Tryz.prog.underlying 144 = some (.array 256 5) := by kernel_rfl
theorem Tryz.ct5 : Tryz.prog.cellsOf 5 = 1 := by kernel_rfl
theorem Tryz.ct144 : Tryz.prog.cellsOf 144 = 256 := by kernel_rfl
abbrev laidL : List (String × DataW Unit) := [("math/bits.deBruijn32tab", Rows.laid_math_bits_deBruijn32tab), ("math/bits.deBruijn64tab", Rows.laid_math_bits_deBruijn64tab), ("internal/strconv.uint64pow10", Rows.laid_internal_strconv_uint64pow10), ("unicode/utf8.acceptRanges", Rows.laid_unicode_utf8_acceptRanges), ("strconv.ErrRange", Rows.laid_strconv_ErrRange), ("strconv.ErrSyntax", Rows.laid_strconv_ErrSyntax), ("unicode.White_Space", Rows.laid_unicode_White_Space), ("strings.asciiSpace", Rows.laid_strings_asciiSpace), ("unicode/utf8.first", Rows.laid_unicode_utf8_first)]
theorem asciiSpace_data : (Rows.laid_strings_asciiSpace : DataW Unit) = Lib.tabData .u8 Lib.asciiSpaceTab := by kernel_rfl
theorem met_of {W : World} (hL : laidMet Tryz.prog laidL W) (hsh : W.ShapedOpen Tryz.prog) : Go.Vf.Met W := by
  refine ⟨?_, Tryz.laysM144.s1_3 W hsh⟩
  obtain ⟨g', t', cs, fuel, p, hg', ht', hvar, hd⟩ := Lib.laidMet.reads hL (.tail _ (.tail _ (.tail _ (.tail _ (.tail _ (.tail _ (.tail _ (.head _))))))))
  obtain rfl := Option.some.inj (Tryz.gT.symm.trans hg')
  obtain rfl := Option.some.inj (Tryz.gTType.symm.trans ht')
  rw [asciiSpace_data] at hd
  unfold Lib.TabIs
  rw [hvar, ← Lib.cells_of_tab Tryz.ut144 u5 Tryz.ct5 Tryz.ct144 hd]
def d32L : List Nat := [0, 1, 28, 2, 29, 14, 24, 3, 30, 22, 20, 15, 25, 17, 4, 8, 31, 27, 13, 23, 21, 19, 16, 7, 26, 12, 18, 6, 11, 5, 10, 9]
def d64L : List Nat := [0, 1, 56, 2, 57, 49, 28, 3, 61, 58, 42, 50, 38, 29, 17, 4, 62, 47, 59, 36, 45, 43, 51, 22, 53, 39, 33, 30, 24, 18, 12, 5, 63, 55, 48, 27, 60, 41, 37, 16, 46, 35, 44, 21, 52, 32, 23, 11, 54, 26, 40, 15, 34, 20, 31, 10, 25, 14, 19, 9, 13, 8, 7, 6]
def p10L : List Nat := [1, 10, 100, 1000, 10000, 100000, 1000000, 10000000, 100000000, 1000000000, 10000000000, 100000000000, 1000000000000, 10000000000000, 100000000000000, 1000000000000000, 10000000000000000, 100000000000000000, 1000000000000000000, 10000000000000000000]
def accL : List Nat := [128, 191, 160, 191, 128, 159, 144, 191, 128, 143, 0, 0, 0, 0, 0, 0, 0, 0, 0, 0, 0, 0, 0, 0, 0, 0, 0, 0, 0, 0, 0, 0]
noncomputable def laidWorld (os : Os) : World :=
  let N := (World.settled Tryz.prog os).heap.size
  let w0 := World.holding Tryz.prog os ⟨#[.cells (Lib.whiteT.map fun (z : Nat) => Value.int .u16 (z : Int)).toArray 185, .cells #[.slice (some ⟨N, 0, none⟩) 7 7, .slice none 0 0, .int .i64 2] 182,
    .cells #[.string ⟨#[105, 110, 118, 97, 108, 105, 100, 32, 115, 121, 110, 116, 97, 120]⟩] 247, .cells #[.string ⟨#[118, 97, 108, 117, 101, 32, 111, 117, 116, 32, 111, 102, 32, 114, 97, 110, 103, 101]⟩] 247], #[], []⟩
  let put (h : Array Obj) (g : Nat) (cs : Array Value) : Array Obj := h.modify g fun
    | .cells _ t frozen => .cells cs t frozen
    | o => o
  let h1 := put w0.heap 0 (Lib.asciiSpaceTab.map fun z => Value.int .u8 z).toArray
  let h2 := put h1 1 #[.pointer (some ⟨N + 1, 0, none⟩)]
  let h3 := put h2 3 #[.iface 245 (.pointer (some ⟨N + 2, 0, none⟩))]
  let h4 := put h3 4 #[.iface 245 (.pointer (some ⟨N + 3, 0, none⟩))]
  let h5 := put h4 5 (Pinned.utf8FirstZ.map fun (z : Nat) => Value.int .u8 (z : Int)).toArray
  let h6 := put h5 6 (accL.map fun (z : Nat) => Value.int .u8 (z : Int)).toArray
  let h7 := put h6 7 (p10L.map fun (z : Nat) => Value.int .u64 (z : Int)).toArray
  let h8 := put h7 8 (d32L.map fun (z : Nat) => Value.int .u8 (z : Int)).toArray
  let h9 := put h8 9 (d64L.map fun (z : Nat) => Value.int .u8 (z : Int)).toArray
  { w0 with heap := h9 }
theorem laid_met (os : Os) (args : Array Value) : laidMet Tryz.prog laidL ((laidWorld os).forCall (fun _ _ => 0) ⟨#[], args, []⟩).memory :=
  laidMet_of_run3 10 (by kernel_rfl) (by kernel_rfl) (by kernel_rfl)
def rho0 (W : World) : Rho := ⟨W, fun _ _ => none, fun _ _ => none⟩
def heap0 : Heap := ⟨0, fun _ => none⟩
theorem wrel0 {W : World} (h : Go.Vf.Met W) : WRel (rho0 W) heap0 W where
  met := h
  below := Below.refl _ _
  imm _ _ _ e := by cases e
  lt _ _ e := by cases e
  wf _ _ e := by cases e
  late _ _ _ e := by cases e
  live _ _ e := by cases e
  apart _ _ _ _ e := by cases e
  inj _ _ _ _ _ _ _ e := by cases e
theorem calls_of {f : FuncId} {vs : List V} {xs : List Value} {b : Bool} {W : World} (h : ∀ G, VPure Tryz.prog f vs G (.bool b)) (hm : Go.Vf.Met W) (hx : ∀ ρ n, VRs ρ n vs xs) :
    Calls Tryz.prog f xs.toArray W fun e W' => e = .returned (.bool b) ∧ Below W.heap.size W W' := by
  refine ((h heap0).2 (rho0 W) W xs (wrel0 hm) (hx _ _)).mono ?_
  rintro e W' ⟨x, ρ', v, G', rfl, hW, hle, _, hv, rfl, _⟩
  refine ⟨?_, ?_⟩
  · cases hv; rfl
  · have := hW.below
    rw [hle.base] at this
    exact this
theorem vrs1 {v : V} {x : Value} (h : ∀ ρ n, VR ρ n v x) : ∀ ρ n, VRs ρ n [v] [x] := fun ρ n => ⟨rfl, fun i v' x' e1 e2 => by
  cases i with
  | zero => cases e1; cases e2; exact h ρ n
  | succ i => cases e1⟩
theorem vrs_cons {v : V} {x : Value} {vs : List V} {xs : List Value} (h : ∀ ρ n, VR ρ n v x) (hr : ∀ ρ n, VRs ρ n vs xs) : ∀ ρ n, VRs ρ n (v :: vs) (x :: xs) := fun ρ n =>
  ⟨by simp [(hr ρ n).1], fun i v' x' e1 e2 => by
    cases i with
    | zero => cases e1; cases e2; exact h ρ n
    | succ i => exact (hr ρ n).2 i v' x' e1 e2⟩
theorem vr_int (k : IntKind) (i : Int) : ∀ ρ n, VR ρ n (.int k i) (.int k i) := fun ρ n => .int k i
theorem vr_bool (b : Bool) : ∀ ρ n, VR ρ n (.bool b) (.bool b) := fun ρ n => .bool b
end Go.Proofs.YtkcdhmplinjldaaGreatDoor
