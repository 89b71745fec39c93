/- The quiet operations, one by one: memory that is read, slices, fields, lengths, conversions. -/
import Derived.Test.YtdplbmooogglaaaDoorVf1
set_option linter.unusedVariables false
set_option linter.unusedSimpArgs false
namespace Go.Vf
open Go.RowKit

section
variable {P : Program} {ρ : Rho} {G : Heap} {w : World} {n : Nat}

@[simp] theorem add_mk (b o i : Nat) : (⟨b, o, none⟩ : Addr).add i = ⟨b, o + i, none⟩ := by
  unfold Addr.add
  split
  · subst_vars; rfl
  · rfl

/-- These cells lie from a place on. -/
def CellsAt (w : World) (b o : Nat) (xs : List Value) : Prop := ∀ i x, xs[i]? = some x → w.cell? ⟨b, o + i, none⟩ = some x
theorem CellsAt.drop {b o : Nat} {xs : List Value} (h : CellsAt w b o xs) (k : Nat) : CellsAt w b (o + k) (xs.drop k) := fun i x e => by
  have := h (k + i) x (by simpa using e)
  rwa [← Nat.add_assoc] at this
theorem CellsAt.take {b o : Nat} {xs : List Value} (h : CellsAt w b o xs) (k : Nat) : CellsAt w b o (xs.take k) := fun i x e => by
  rw [List.getElem?_take] at e
  split at e
  · exact h i x e
  · cases e
theorem WRel.cellsAt (h : WRel ρ G w) {b o : Nat} {xs : List Value} (hi : IsImm ρ b o xs) : CellsAt w b o xs := fun i x e => h.imm _ _ _ (hi i x e)

theorem loadCells_run {b o : Nat} : ∀ (xs : List Value) (i : Nat) (acc : Array Value), CellsAt w b (o + i) xs → (loadCellsFrom ⟨b, o, none⟩ i xs.length acc).run P w = .ok (acc ++ xs.toArray) w
  | [], i, acc, _ => by simp [loadCellsFrom]
  | x :: r, i, acc, h => by
    have h0 := h 0 x rfl
    simp only [Nat.add_zero] at h0
    simp only [List.length_cons, loadCellsFrom, Sem.run_bind, run_load, add_mk, h0, Result.andThen_ok]
    rw [loadCells_run r (i + 1) (acc.push x) (by have := h.drop 1; simpa [Nat.add_assoc] using this)]
    simp
theorem loadVar_agg {t : TypeId} (ht : tagg P t = some true) (hi : (P.info? t).isSome = true) {b o : Nat} {xs : List Value} (hl : xs.length = P.cellsOf t) (h : CellsAt w b o xs) : (loadVar t ⟨b, o, none⟩).run P w = .ok (.agg xs.toArray) w := by
  simp only [loadVar, Sem.run_bind, run_isAgg ht, Result.andThen_ok, if_true, run_sizeOf hi, loadCells]
  rw [← hl, loadCells_run xs 0 #[] (by simpa using h)]
  simp
theorem loadVar_one {t : TypeId} (ht : tagg P t = some false) {b o : Nat} {x : Value} (h : w.cell? ⟨b, o, none⟩ = some x) : (loadVar t ⟨b, o, none⟩).run P w = .ok x w := by
  simp [loadVar, run_isAgg ht, h]

theorem vread_ok {t : TypeId} {vs : List V} {xs : List Value} {b o off : Nat} {p : Prop} {v : V} (hv : VRs ρ n vs xs) (hc : CellsAt w b o xs) (h : vread P t vs off = some (p, v)) (hp : p) :
    ∃ x, (loadVar t ⟨b, o + off, none⟩).run P w = .ok x w ∧ VR ρ n v x := by
  unfold vread at h
  split at h
  · rename_i ht
    split at h
    · rename_i hi
      simp only [Option.some.injEq, Prod.mk.injEq] at h
      obtain ⟨rfl, rfl⟩ := h
      refine ⟨_, loadVar_agg ht hi (xs := (xs.drop off).take (P.cellsOf t)) ?_ ((hc.drop off).take _), ((hv.drop off).take _).agg⟩
      simp only [List.length_take, List.length_drop, hv.1]
      omega
    · cases h
  · rename_i ht
    simp only [Option.some.injEq, Prod.mk.injEq] at h
    obtain ⟨rfl, rfl⟩ := h
    have hx : off < xs.length := by rw [hv.1]; exact hp
    refine ⟨xs[off], loadVar_one ht (hc off _ (List.getElem?_eq_getElem hx)), ?_⟩
    rw [List.getD_eq_getElem?_getD, List.getElem?_eq_getElem hp]
    exact hv.2 off _ _ (List.getElem?_eq_getElem hp) (List.getElem?_eq_getElem hx)
  · cases h

/-- A live block of cells, as the model has it. -/
theorem WRel.block (h : WRel ρ G w) {id g : Nat} {cs : List V} (hg : G.get id = some (.cells g cs)) {b cap : Nat} (hr : ρ.blk id g = some (.at b cap)) :
    ∃ c e fz, w.heap[b]? = some (.cells c e fz) ∧ c.size = cap ∧ cs.length ≤ cap ∧ VRs ρ G.next cs (c.toList.take cs.length) ∧ CellsAt w b 0 c.toList ∧ ∀ o, o < cap → ¬(fz.1 ≤ o ∧ o < fz.2) := by
  obtain ⟨r, h1, h2⟩ := h.live id _ hg
  simp only [Blk.gen] at h1
  rw [hr] at h1
  cases h1
  obtain ⟨c, e, fz, h3, h4, h5, h6, h7⟩ := h2
  refine ⟨c, e, fz, h3, h4, h5, ⟨by simp; omega, fun i v x e1 e2 => ?_⟩, fun i x e1 => ?_, h7⟩
  · rw [List.getElem?_take] at e2
    split at e2
    · exact h6 i v x e1 (by simpa using e2)
    · cases e2
  · simp only [World.cell?, h3]
    simpa using e1

theorem vload_ok (hW : WRel ρ G w) {t : TypeId} {a : V} {A : Value} {p : Prop} {v : V} (ha : VR ρ G.next a A) (h : vload P t G a = some (p, v)) (hp : p) :
    ∃ x, (Instr.loadAt t A).run P w = .ok x w ∧ VR ρ G.next v x := by
  cases a <;> simp only [vload, reduceCtorEq] at h
  case ptr id g off =>
    split at h
    · rename_i g' cs hg
      split at h
      · rename_i e; subst e
        cases ha with
        | ptr _ _ _ b cap h1 h2 =>
          obtain ⟨c, e, fz, h3, h4, h5, h6, h7, h8⟩ := hW.block hg h2
          obtain ⟨x, hx, hx'⟩ := vread_ok (P := P) (w := w) h6 (h7.take cs.length) h hp
          refine ⟨x, ?_, hx'⟩
          simp only [Nat.zero_add] at hx
          simp only [Instr.loadAt, Instr.sureAddr, Sem.run_bind, Sem.run_pure, Result.andThen_ok, hx]
      · cases h
    · cases h
  case iptr cells off =>
    cases ha with
    | iptr _ _ xs b o h1 h2 h3 h4 =>
      obtain ⟨x, hx, hx'⟩ := vread_ok (P := P) (w := w) ⟨h3, h4⟩ (hW.cellsAt h2) h hp
      refine ⟨x, ?_, hx'⟩
      simp only [Instr.loadAt, Instr.sureAddr, Sem.run_bind, Sem.run_pure, Result.andThen_ok, hx]

theorem tfield_inv {t : TypeId} {f : Nat} {o sz : Nat} {b : Bool} (h : tfield P t f = some (o, sz, b)) :
    ∃ fs fd, P.underlying t = some (.struct fs) ∧ fs[f]? = some fd ∧ fd.offset = o ∧ P.cellsOf fd.type = sz ∧ tagg P fd.type = some b ∧ (P.info? fd.type).isSome = true := by
  unfold tfield at h
  split at h
  · rename_i fs hu
    split at h
    · rename_i fd hf
      split at h
      · rename_i b' hb
        split at h
        · rename_i hi
          simp only [Option.some.injEq, Prod.mk.injEq] at h
          obtain ⟨rfl, rfl, rfl⟩ := h
          exact ⟨fs, fd, hu, hf, rfl, rfl, hb, hi⟩
        · cases h
      · cases h
    · cases h
  · cases h

theorem vfield_ok {t : TypeId} {f : Nat} {a : V} {A : Value} {p : Prop} {v : V} (ha : VR ρ n a A) (h : vfield P t f a = some (p, v)) (hp : p) :
    ∃ x, (Instr.field t A f).run P w = .ok x w ∧ VR ρ n v x := by
  cases a <;> simp only [vfield, reduceCtorEq] at h
  rename_i cs
  obtain ⟨xs, rfl, hxs⟩ := ha.agg_inv
  have key : ∀ {o sz b}, tfield P t f = some (o, sz, b) → (Instr.field t (.agg xs.toArray) f).run P w = if b = true then .ok (.agg ((xs.drop o).take sz).toArray) w else match xs[o]? with | some v => .ok v w | none => .halt (.stuck "part: no such cell") w := fun {o sz b} e => by
    obtain ⟨fs, fd, h1, h2, rfl, rfl, h5, h6⟩ := tfield_inv e
    simp only [Instr.field, Sem.run_bind, run_und h1, Result.andThen_ok, h2, asAgg, Sem.run_pure, run_part h5 h6]
    cases b
    · cases xs[fd.offset]? <;> rfl
    · rfl
  split at h
  · rename_i o sz e
    simp only [Option.some.injEq, Prod.mk.injEq] at h
    obtain ⟨rfl, rfl⟩ := h
    exact ⟨_, by rw [key e, if_pos rfl], ((hxs.drop o).take sz).agg⟩
  · rename_i o sz e
    simp only [Option.some.injEq, Prod.mk.injEq] at h
    obtain ⟨rfl, rfl⟩ := h
    have hx : o < xs.length := by rw [hxs.1]; exact hp
    refine ⟨xs[o], by rw [key e]; simp [hx], ?_⟩
    rw [List.getD_eq_getElem?_getD, List.getElem?_eq_getElem hp]
    exact hxs.2 o _ _ (List.getElem?_eq_getElem hp) (List.getElem?_eq_getElem hx)
  · cases h

theorem vfieldAddr_ok {t : TypeId} {f : Nat} {a : V} {A : Value} {p : Prop} {v : V} (ha : VR ρ n a A) (h : vfieldAddr P t f a = some (p, v)) (hp : p) :
    ∃ x, (Instr.fieldAt t A f).run P w = .ok x w ∧ VR ρ n v x := by
  have key : ∀ {o sz bb} {b off : Nat}, tfield P t f = some (o, sz, bb) → sz ≠ 0 → (Instr.fieldAt t (.pointer (some ⟨b, off, none⟩)) f).run P w = .ok (.pointer (some ⟨b, off + o, none⟩)) w := fun {o sz bb b off} e hz => by
    obtain ⟨fs, fd, h1, h2, rfl, rfl, h5, h6⟩ := tfield_inv e
    simp only [Instr.fieldAt, Sem.run_bind, run_und h1, Result.andThen_ok, h2, Instr.sureAddr, Sem.run_pure, fieldPlace, run_sizeOf h6, if_neg hz, add_mk]
  cases a <;> simp only [vfieldAddr, reduceCtorEq] at h
  case ptr id g off =>
    split at h
    · rename_i o sz bb e
      split at h
      · cases h
      · rename_i hz
        simp only [Option.some.injEq, Prod.mk.injEq] at h
        obtain ⟨rfl, rfl⟩ := h
        cases ha with
        | ptr _ _ _ b cap h1 h2 => exact ⟨_, key e hz, .ptr _ _ _ b cap h1 h2⟩
    · cases h
  case iptr cells off =>
    split at h
    · rename_i o sz bb e
      split at h
      · cases h
      · rename_i hz
        simp only [Option.some.injEq, Prod.mk.injEq] at h
        obtain ⟨rfl, rfl⟩ := h
        cases ha with
        | iptr _ _ xs b o' h1 h2 h3 h4 => exact ⟨_, key e hz, (VR.iptr _ _ xs b o' h1 h2 h3 h4).cast (by simp [Nat.add_assoc])⟩
    · cases h

/-! ### Elements -/
theorem IsImm.drop {b o : Nat} {xs : List Value} (h : IsImm ρ b o xs) (k : Nat) : IsImm ρ b (o + k) (xs.drop k) := fun i x e => by
  have := h (k + i) x (by simpa using e)
  rwa [← Nat.add_assoc] at this
theorem IsImm.take {b o : Nat} {xs : List Value} (h : IsImm ρ b o xs) (k : Nat) : IsImm ρ b o (xs.take k) := fun i x e => by
  rw [List.getElem?_take] at e
  split at e
  · exact h i x e
  · cases e

/-- What an immutable slice's value is. -/
structure SlOk (ρ : Rho) (n sz m : Nat) (cells : List V) (A : Option Addr) : Prop where
  closed : V.closedL cells = true
  len : cells.length = m * sz
  place : cells = [] ∨ ∃ b o xs, A = some ⟨b, o, none⟩ ∧ IsImm ρ b o xs ∧ VRs ρ n cells xs
theorem VR.sl_inv {sz m : Nat} {cells : List V} {x : Value} (h : VR ρ n (.sl sz m cells) x) : ∃ A cap, x = .slice A m cap ∧ m ≤ cap ∧ SlOk ρ n sz m cells A := by
  cases h with
  | sl _ _ _ xs b o cap h1 h2 h3 h4 h5 h6 => exact ⟨_, cap, rfl, h3, h1, h2, .inr ⟨b, o, xs, rfl, h4, h5, h6⟩⟩
  | sl0 _ A cap => exact ⟨A, cap, rfl, Nat.zero_le _, rfl, by simp, .inl rfl⟩
theorem VR.slc_inv {sz m : Nat} {cells : List V} {x : Value} (h : VR ρ n (.slc sz m cells) x) : ∃ A, x = .slice A m m ∧ SlOk ρ n sz m cells A := by
  cases h with
  | slc _ _ _ xs b o h1 h2 h4 h5 h6 => exact ⟨_, rfl, h1, h2, .inr ⟨b, o, xs, rfl, h4, h5, h6⟩⟩
  | slc0 _ A => exact ⟨A, rfl, rfl, by simp, .inl rfl⟩
theorem SlOk.sl {sz m cap : Nat} {cells : List V} {A : Option Addr} (h : SlOk ρ n sz m cells A) (hm : m ≤ cap) (h0 : cells = [] → m = 0) : VR ρ n (.sl sz m cells) (.slice A m cap) := by
  rcases h.place with rfl | ⟨b, o, xs, rfl, hi, hv⟩
  · obtain rfl := h0 rfl; exact .sl0 _ _ _
  · exact .sl _ _ _ xs b o cap h.closed h.len hm hi hv.1 hv.2
theorem SlOk.slc {sz m : Nat} {cells : List V} {A : Option Addr} (h : SlOk ρ n sz m cells A) (h0 : cells = [] → m = 0) : VR ρ n (.slc sz m cells) (.slice A m m) := by
  rcases h.place with rfl | ⟨b, o, xs, rfl, hi, hv⟩
  · obtain rfl := h0 rfl; exact .slc0 _ _
  · exact .slc _ _ _ xs b o h.closed h.len hi hv.1 hv.2

theorem telem_inv {t e : TypeId} (h : telem P t = some e) : P.underlying t = some (.slice e) := by
  unfold telem at h
  split at h
  · simp only [Option.some.injEq] at h; subst h; assumption
  · cases h

theorem velem_len {sz m i : Nat} {cells : List V} (h : cells.length = m * sz) (hi : i < m) : (velem sz cells i).length = sz := by
  simp only [velem, List.length_take, List.length_drop, h]
  have : (i + 1) * sz ≤ m * sz := Nat.mul_le_mul_right sz hi
  rw [Nat.add_mul] at this
  omega

theorem indexAt_slice {t e : TypeId} (ht : P.underlying t = some (.slice e)) (hi : (P.info? e).isSome = true) {k : IntKind} {i : Int} {b o m cap : Nat} (h0 : 0 ≤ i) (h1 : i < (m : Int)) :
    (Instr.indexAt t (.slice (some ⟨b, o, none⟩) m cap) (.int k i)).run P w = .ok (.pointer (some ⟨b, o + i.toNat * P.cellsOf e, none⟩)) w := by
  simp only [Instr.indexAt, Sem.run_bind, asIntOf, Sem.run_pure, Result.andThen_ok, run_und ht]
  simp [h0, h1, run_sizeOf hi]

theorem vindexAddr_ok {t : TypeId} {a i : V} {A I : Value} {p : Prop} {v : V} (ha : VR ρ n a A) (hI : VR ρ n i I) (h : vindexAddr P t a i = some (p, v)) (hp : p) :
    ∃ x, (Instr.indexAt t A I).run P w = .ok x w ∧ VR ρ n v x := by
  have imm : ∀ {sz m cap : Nat} {cells : List V} {B : Option Addr} {k : IntKind} {j : Int} {e : TypeId}, SlOk ρ n sz m cells B → telem P t = some e → P.cellsOf e = sz → (P.info? e).isSome = true → 0 ≤ j → j < (m : Int) →
      0 < sz → ∃ x, (Instr.indexAt t (.slice B m cap) (.int k j)).run P w = .ok x w ∧ VR ρ n (.iptr (velem sz cells j.toNat) 0) x := fun {sz m cap cells B k j e} hs he hz hi h0 h1 hpos => by
    have hu := telem_inv he
    rcases hs.place with rfl | ⟨b, o, xs, rfl, hm, hv⟩
    · have := hs.len
      simp only [List.length_nil] at this
      have : m * sz ≠ 0 := Nat.mul_ne_zero (by omega) (by omega)
      omega
    · refine ⟨_, indexAt_slice hu hi h0 h1, ?_⟩
      subst hz
      have hv' := (hv.drop (j.toNat * P.cellsOf e)).take (P.cellsOf e)
      exact (VR.iptr (velem (P.cellsOf e) cells j.toNat) 0 _ b (o + j.toNat * P.cellsOf e) (closedL_take (closedL_drop hs.closed _) _) ((hm.drop _).take _) hv'.1 hv'.2).cast (by simp)
  cases a <;> cases i <;> simp only [vindexAddr, reduceCtorEq] at h
  case sl sz m cells k j =>
    split at h
    · rename_i e he
      split at h
      · rename_i hc
        simp only [Option.some.injEq, Prod.mk.injEq] at h
        obtain ⟨rfl, rfl⟩ := h
        obtain ⟨B, cap, rfl, hm, hs⟩ := ha.sl_inv
        obtain rfl := hI.int_inv
        exact imm hs he hc.1 hc.2.1 hp.1 hp.2 hc.2.2
      · cases h
    · cases h
  case slc sz m cells k j =>
    split at h
    · rename_i e he
      split at h
      · rename_i hc
        simp only [Option.some.injEq, Prod.mk.injEq] at h
        obtain ⟨rfl, rfl⟩ := h
        obtain ⟨B, rfl, hs⟩ := ha.slc_inv
        obtain rfl := hI.int_inv
        exact imm hs he hc.1 hc.2.1 hp.1 hp.2 hc.2.2
      · cases h
    · cases h
  case arr sz id g off m k j =>
    split at h
    · rename_i e he
      split at h
      · rename_i hc
        simp only [Option.some.injEq, Prod.mk.injEq] at h
        obtain ⟨rfl, rfl⟩ := h
        obtain rfl := hI.int_inv
        cases ha with
        | arr _ _ _ _ _ b cap c h1 h2 h3 h4 =>
          refine ⟨_, indexAt_slice (telem_inv he) hc.2.1 hp.1 hp.2, ?_⟩
          rw [hc.1]
          exact .ptr _ _ _ b cap h1 h2
        | arr0 => exact absurd hp (by omega)
      · cases h
    · cases h
end
end Go.Vf
