/- The library's functions that lex calls. -/
import Derived.Test.YtdplbmooogglaaaDoorLb
import Derived.Test.YtdplbmooogglaaaDoorShelf
set_option linter.unusedVariables false
set_option linter.unusedSimpArgs false
namespace Go.Vf
open Go.Proofs Go.RowKit

theorem cell_of_base {ρ : Rho} {G : Heap} {w : World} (hW : WRel ρ G w) {b o : Nat} {x : Value} (h : ρ.base.cell? ⟨b, o, none⟩ = some x) : w.cell? ⟨b, o, none⟩ = some x := by
  rw [hW.below.cell (p := ⟨b, o, none⟩) (cell_block_lt h)]; exact h
theorem tab_of_base {ρ : Rho} {G : Heap} {w : World} (hW : WRel ρ G w) {name : String} {k : IntKind} {zs : List Int} (h : Lib.TabIs Tryd.prog ρ.base name k zs) : Lib.TabIs Tryd.prog w name k zs := by
  unfold Lib.TabIs World.var? at *
  cases hg : Tryd.prog.globalNamed name with
  | none => rw [hg] at h; cases h
  | some g =>
    rw [hg] at h
    simp only [Option.bind_some] at h ⊢
    cases hb : ρ.base.heap[g]? with
    | none => rw [hb] at h; cases h
    | some o =>
      rw [hW.below.block g (Array.getElem?_eq_some_iff.1 hb).1]
      exact h

theorem contains_walk (s sub : List UInt8) (hs : s.length < 4294967281) (G : Heap) : VPure Tryd.prog 19 [.str s, .str sub] G (.bool (Lib.contains s sub)) := by
  refine VPure.lift (by kernel_rfl) fun ρ w xs hW hx => ?_
  obtain ⟨x0, e0, h0⟩ := hx.get (i := 0) rfl
  obtain ⟨x1, e1, h1⟩ := hx.get (i := 1) rfl
  have hl : xs = [x0, x1] := by
    have := hx.1
    match xs, this with
    | [a, b], _ => simp at e0 e1; rw [e0, e1]
  subst hl
  rw [h0.str_inv, h1.str_inv]
  obtain ⟨m, hm⟩ := hW.met.2
  refine (Tryd.strings_Contains ⟨s.toArray⟩ ⟨sub.toArray⟩ m w (by simpa [ByteArray.size] using hs) (cell_of_base hW hm)).mono ?_
  rintro e w' ⟨rfl, rfl⟩
  exact ⟨_, rfl, rfl, .bool _⟩

theorem fields_walk (s : List UInt8) (hs : s.length < 4294967281) (hascii : ∀ b, b ∈ s → b.toNat < 128) (G : Heap) : VPure Tryd.prog 29 [.str s] G (.slc 1 (Lib.fields s).length ((Lib.fields s).map .str)) := by
  refine ⟨by kernel_rfl, fun ρ w xs hW hx => ?_⟩
  obtain ⟨x0, e0, h0⟩ := hx.get (i := 0) rfl
  have hl : xs = [x0] := by
    have := hx.1
    match xs, this with
    | [a], _ => simp at e0; rw [e0]
  subst hl
  rw [h0.str_inv]
  refine (Tryd.strings_Fields ⟨s.toArray⟩ w (by simpa [ByteArray.size] using hs) (fun j b hb => hascii b (by simpa using List.mem_of_getElem? hb)) (tab_of_base hW hW.met.1)).mono ?_
  rintro e w' ⟨rfl, rfl⟩
  have hb := below_alloc w (.cells ((Lib.fields s).map fun l => Value.string ⟨l.toArray⟩).toArray 9)
  have hW' := hW.newImm (w' := w.alloc (.cells ((Lib.fields s).map fun l => Value.string ⟨l.toArray⟩).toArray 9)) hb (b := w.heap.size) (Nat.le_refl _) (xs := (Lib.fields s).map fun l => Value.string ⟨l.toArray⟩) ?_
  · obtain ⟨g1, g2, g3⟩ := hW'
    refine ⟨_, _, _, G, rfl, g1, g2, Nat.le_refl _, ?_, rfl, rfl⟩
    refine .slc _ _ _ _ _ _ ?_ ?_ g3 ?_ ?_
    · exact closedL_of fun v hv => by obtain ⟨l, _, rfl⟩ := List.mem_map.1 hv; exact ⟨rfl, rfl⟩
    · simp
    · simp
    · intro i v x h1 h2
      simp only [List.getElem?_map, Option.map_eq_some_iff] at h1 h2
      obtain ⟨l, hl, rfl⟩ := h1
      obtain ⟨l', hl', rfl⟩ := h2
      rw [hl] at hl'; cases hl'
      exact .str _
  · intro i x hx
    show World.cell? _ _ = _
    have hbk : (w.alloc (.cells ((Lib.fields s).map fun l => Value.string ⟨l.toArray⟩).toArray 9)).heap[w.heap.size]? = some (.cells ((Lib.fields s).map fun l => Value.string ⟨l.toArray⟩).toArray 9) := by
      show (w.heap.push _)[w.heap.size]? = _; simp
    simp only [World.cell?, hbk]
    simpa using hx
end Go.Vf
