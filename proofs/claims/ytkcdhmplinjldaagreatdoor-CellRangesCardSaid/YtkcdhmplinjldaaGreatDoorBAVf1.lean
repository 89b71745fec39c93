/- A part of the proof: Vf1, Vf2, Vf3, Vf4, Vf5, Vf6. -/
import Derived.Test.YtkcdhmplinjldaaGreatDoorBAVa
import Derived.WideLaws
import Derived.Laws.BytesArg
import Derived.Lib.ConvBytes
set_option linter.unusedVariables false
set_option linter.unusedSimpArgs false
namespace Go.Vf
open Go.RowKit
section
variable {P : Program} {ρ : Rho} {G : Heap} {w : World} {n : Nat}
theorem depth_le (P : Program) : 8 ≤ P.depth := by
  unfold Program.depth
  have : Made.depth = 100 := rfl
  rw [this]; omega
theorem guard_other (op : BinOp) (t : TypeId) (X Y : Operand) (x y : Value) (h1 : ¬(x = .nilIface ∧ y = .nilIface)) (h2 : ∀ a b, ¬(x = .agg a ∧ y = .agg b)) : (eqGuard op t X Y x y).run P w = .ok () w := by
  cases x <;> cases y <;> first
    | (exact absurd ⟨rfl, rfl⟩ h1)
    | (exact absurd ⟨rfl, rfl⟩ (h2 _ _))
    | (unfold eqGuard; split <;> simp)
def EqRun (P : Program) (w : World) (t : TypeId) (X Y : Operand) (x y : Value) (r : Bool) : Prop :=
  (∀ op, (eqGuard op t X Y x y).run P w = .ok () w) ∧ (binOp .eql t x y).run P w = .ok (.bool r) w ∧ (binOp .neq t x y).run P w = .ok (.bool (!r)) w
theorem eqRun_of {t : TypeId} {X Y : Operand} {x y : Value} {r : Bool} (hg : ∀ op, (eqGuard op t X Y x y).run P w = .ok () w) (h : (Op.equal t x y).run P w = .ok r w)
    (hb1 : binOp .eql t x y = (do pure (.bool (← Op.equal t x y)))) (hb2 : binOp .neq t x y = (do pure (.bool (!(← Op.equal t x y))))) : EqRun P w t X Y x y r :=
  ⟨hg, by rw [hb1]; simp [h], by rw [hb2]; simp [h]⟩
theorem equal_of {t : TypeId} {x y : Value} {r : Bool} (h : ∀ d, (Op.equalIn (d + 1) t x y).run P w = .ok r w) : (Op.equal t x y).run P w = .ok r w := h 9999
theorem veq_ok {t : TypeId} {X Y : Operand} {u v : V} {x y : Value} {r : Bool} (h : veq P t (isConst X) (isConst Y) u v = some r) (hu : VR ρ n u x) (hv : VR ρ n v y) : EqRun P w t X Y x y r := by
  have ptr : ∀ {x y : Value}, (∃ a b, x = .pointer a ∧ y = .pointer b ∧ ((a = none ∧ r = b.isNone) ∨ (b = none ∧ r = a.isNone))) → (∃ e, P.underlying t = some (.pointer e)) → EqRun P w t X Y x y r := fun {x y} ⟨a, b, e1, e2, e3⟩ ⟨e, he⟩ => by
    subst e1; subst e2
    refine eqRun_of (fun op => guard_other op t X Y _ _ (by simp) (by simp)) (equal_of fun d => ?_) rfl rfl
    simp only [Op.equalIn, Sem.run_bind, run_und he, Result.andThen_ok]
    rcases e3 with ⟨rfl, rfl⟩ | ⟨rfl, rfl⟩
    · simp
    · cases a <;> simp
  have fn : ∀ {x y : Value}, ((x = .nilFunc ∧ y = .nilFunc ∧ r = true) ∨ (x = .nilFunc ∧ (∃ f a b, y = .func f a b) ∧ r = false) ∨ ((∃ f a b, x = .func f a b) ∧ y = .nilFunc ∧ r = false)) → (∃ a b c, P.underlying t = some (.func a b c)) → EqRun P w t X Y x y r := fun {x y} h ⟨_, _, _, he⟩ => by
    rcases h with ⟨rfl, rfl, rfl⟩ | ⟨rfl, ⟨_, _, _, rfl⟩, rfl⟩ | ⟨⟨_, _, _, rfl⟩, rfl, rfl⟩ <;>
    · refine eqRun_of (fun op => guard_other op t X Y _ _ (by simp) (by simp)) (equal_of fun d => ?_) rfl rfl
      simp [Op.equalIn, run_und he]
  have ifc : ∀ {x y : Value}, ((x = .nilIface ∧ (∃ a b, y = .iface a b) ∧ r = false) ∨ ((∃ a b, x = .iface a b) ∧ y = .nilIface ∧ r = false)) → (∃ a, P.underlying t = some (.interface a)) → EqRun P w t X Y x y r := fun {x y} h ⟨_, he⟩ => by
    rcases h with ⟨rfl, ⟨_, _, rfl⟩, rfl⟩ | ⟨⟨_, _, rfl⟩, rfl, rfl⟩ <;>
    · refine eqRun_of (fun op => guard_other op t X Y _ _ (by simp) (by simp)) (equal_of fun d => ?_) rfl rfl
      simp [Op.equalIn, run_und he]
  unfold veq at h
  split at h
  · -- two structs
    split at h
    · rename_i ks hks
      by_cases ht : tagg P t = some true
      case neg => rw [if_neg ht] at h; cases h
      rw [if_pos ht] at h
      obtain ⟨xs, rfl, hxs⟩ := hu.agg_inv
      obtain ⟨ys, rfl, hys⟩ := hv.agg_inv
      have hg := tkinds_guard hks P.depth (depth_le P)
      have hp := tkinds_parts hks
      have he := (tkinds_eq (P := P) (ρ := ρ) (w := w) (n := n) hks 10000 (by omega) _ _ _ _ _ hxs hys h).1 ht
      refine eqRun_of (fun op => run_eqGuard_agg w op t X Y _ _ hg) he rfl rfl
    · cases h
  · split at h
    · rename_i e he; cases h; obtain rfl : x = .pointer none := by cases hu; rfl
      obtain rfl : y = .pointer none := by cases hv; rfl
      exact ptr ⟨_, _, rfl, rfl, .inl ⟨rfl, rfl⟩⟩ ⟨_, he⟩
    · cases h
  · split at h
    · rename_i e he; cases h; cases hu; cases hv
      exact ptr ⟨_, _, rfl, rfl, .inl ⟨rfl, rfl⟩⟩ ⟨_, he⟩
    · cases h
  · split at h
    · rename_i e he; cases h; cases hu; cases hv
      exact ptr ⟨_, _, rfl, rfl, .inl ⟨rfl, rfl⟩⟩ ⟨_, he⟩
    · cases h
  · split at h
    · rename_i e he; cases h; cases hu; cases hv
      exact ptr ⟨_, _, rfl, rfl, .inr ⟨rfl, rfl⟩⟩ ⟨_, he⟩
    · cases h
  · split at h
    · rename_i e he; cases h; cases hu; cases hv
      exact ptr ⟨_, _, rfl, rfl, .inr ⟨rfl, rfl⟩⟩ ⟨_, he⟩
    · cases h
  · split at h
    · rename_i e he
      split at h
      · rename_i hc
        cases h; cases hu; cases hv
        refine eqRun_of (fun op => ?_) (equal_of fun d => by simp [Op.equalIn, run_und he]) rfl rfl
        cases X <;> cases Y <;> simp [isConst] at hc <;> (cases op <;> simp [eqGuard])
      · cases h
    · cases h
  · split at h
    · rename_i e he; cases h; cases hu; cases hv
      exact ifc (.inl ⟨rfl, ⟨_, _, rfl⟩, rfl⟩) ⟨_, he⟩
    · cases h
  · split at h
    · rename_i e he; cases h; cases hu; cases hv
      exact ifc (.inr ⟨⟨_, _, rfl⟩, rfl, rfl⟩) ⟨_, he⟩
    · cases h
  · split at h
    · rename_i e he; cases h; cases hu; cases hv
      exact fn (.inl ⟨rfl, rfl, rfl⟩) ⟨_, _, _, he⟩
    · cases h
  · split at h
    · rename_i e he; cases h; cases hu; cases hv
      exact fn (.inr (.inl ⟨rfl, ⟨_, _, _, rfl⟩, rfl⟩)) ⟨_, _, _, he⟩
    · cases h
  · split at h
    · rename_i e he; cases h; cases hu; cases hv
      exact fn (.inr (.inr ⟨⟨_, _, _, rfl⟩, rfl, rfl⟩)) ⟨_, _, _, he⟩
    · cases h
  · split at h
    · rename_i a b he
      cases h; cases hu; cases hv
      refine eqRun_of (fun op => guard_other op t X Y _ _ (by simp) (by simp)) (equal_of fun d => ?_) rfl rfl
      simp [Op.equalIn, run_und he]
      cases a <;> cases b <;> rfl
    · cases h
  · cases h
end
end Go.Vf
set_option linter.unusedVariables false
set_option linter.unusedSimpArgs false
namespace Go.Vf
open Go.RowKit
section
variable {P : Program} {ρ : Rho} {G : Heap} {w : World} {n : Nat}

@[simp] theorem add_mk (b o i : Nat) : (⟨b, o, none⟩ : Addr).add i = ⟨b, o + i, none⟩ := by
  unfold Addr.add
  split
  · subst_vars; rfl
  · rfl
def CellsAt (w : World) (b o : Nat) (xs : List Value) : Prop := ∀ i x, xs[i]? = some x → w.cell? ⟨b, o + i, none⟩ = some x
theorem CellsAt.drop {b o : Nat} {xs : List Value} (h : CellsAt w b o xs) (k : Nat) : CellsAt w b (o + k) (xs.drop k) := fun i x e => by
  have := h (k + i) x (by simpa using e)
  rwa [← Nat.add_assoc] at this
theorem CellsAt.take {b o : Nat} {xs : List Value} (h : CellsAt w b o xs) (k : Nat) : CellsAt w b o (xs.take k) := fun i x e => by
  rw [List.getElem?_take] at e
  split at e
  · exact h i x e
  · cases e
theorem WRel.cellsAt (h : WRel ρ G w) {b o : Nat} {xs : List Value} (hi : IsImm ρ b o xs) : CellsAt w b o xs := fun i x e => h.imm _ _ _ (hi i x e)
theorem loadCells_run {b o : Nat} : ∀ (xs : List Value) (i : Nat) (acc : Array Value), CellsAt w b (o + i) xs → (loadCellsFrom ⟨b, o, none⟩ i xs.length acc).run P w = .ok (acc ++ xs.toArray) w
  | [], i, acc, _ => by simp [loadCellsFrom]
  | x :: r, i, acc, h => by
    have h0 := h 0 x rfl
    simp only [Nat.add_zero] at h0
    simp only [List.length_cons, loadCellsFrom, Sem.run_bind, run_load, add_mk, h0, Result.andThen_ok]
    rw [loadCells_run r (i + 1) (acc.push x) (by have := h.drop 1; simpa [Nat.add_assoc] using this)]
    simp
theorem loadVar_agg {t : TypeId} (ht : tagg P t = some true) (hi : (P.info? t).isSome = true) {b o : Nat} {xs : List Value} (hl : xs.length = P.cellsOf t) (h : CellsAt w b o xs) : (loadVar t ⟨b, o, none⟩).run P w = .ok (.agg xs.toArray) w := by
  simp only [loadVar, Sem.run_bind, run_isAgg ht, Result.andThen_ok, if_true, run_sizeOf hi, loadCells]
  rw [← hl, loadCells_run xs 0 #[] (by simpa using h)]
  simp
theorem loadVar_one {t : TypeId} (ht : tagg P t = some false) {b o : Nat} {x : Value} (h : w.cell? ⟨b, o, none⟩ = some x) : (loadVar t ⟨b, o, none⟩).run P w = .ok x w := by
  simp [loadVar, run_isAgg ht, h]
theorem vread_ok {t : TypeId} {vs : List V} {xs : List Value} {b o off : Nat} {p : Prop} {v : V} (hv : VRs ρ n vs xs) (hc : CellsAt w b o xs) (h : vread P t vs off = some (p, v)) (hp : p) :
    ∃ x, (loadVar t ⟨b, o + off, none⟩).run P w = .ok x w ∧ VR ρ n v x := by
  unfold vread at h
  split at h
  · rename_i ht
    split at h
    · rename_i hi
      simp only [Option.some.injEq, Prod.mk.injEq] at h
      obtain ⟨rfl, rfl⟩ := h
      refine ⟨_, loadVar_agg ht hi (xs := (xs.drop off).take (P.cellsOf t)) ?_ ((hc.drop off).take _), ((hv.drop off).take _).agg⟩
      simp only [List.length_take, List.length_drop, hv.1]
      omega
    · cases h
  · rename_i ht
    simp only [Option.some.injEq, Prod.mk.injEq] at h
    obtain ⟨rfl, rfl⟩ := h
    have hx : off < xs.length := by rw [hv.1]; exact hp
    refine ⟨xs[off], loadVar_one ht (hc off _ (List.getElem?_eq_getElem hx)), ?_⟩
    rw [List.getD_eq_getElem?_getD, List.getElem?_eq_getElem hp]
    exact hv.2 off _ _ (List.getElem?_eq_getElem hp) (List.getElem?_eq_getElem hx)
  · cases h
theorem WRel.block (h : WRel ρ G w) {id g : Nat} {cs : List V} (hg : G.get id = some (.cells g cs)) {b cap : Nat} (hr : ρ.blk id g = some (.at b cap)) :
    ∃ c e fz, w.heap[b]? = some (.cells c e fz) ∧ c.size = cap ∧ cs.length ≤ cap ∧ VRs ρ G.next cs (c.toList.take cs.length) ∧ CellsAt w b 0 c.toList ∧ ∀ o, o < cap → ¬(fz.1 ≤ o ∧ o < fz.2) := by
  obtain ⟨r, h1, h2⟩ := h.live id _ hg
  simp only [Blk.gen] at h1
  rw [hr] at h1
  cases h1
  obtain ⟨c, e, fz, h3, h4, h5, h6, h7⟩ := h2
  refine ⟨c, e, fz, h3, h4, h5, ⟨by simp; omega, fun i v x e1 e2 => ?_⟩, fun i x e1 => ?_, h7⟩
  · rw [List.getElem?_take] at e2
    split at e2
    · exact h6 i v x e1 (by simpa using e2)
    · cases e2
  · simp only [World.cell?, h3]
    simpa using e1
theorem vload_ok (hW : WRel ρ G w) {t : TypeId} {a : V} {A : Value} {p : Prop} {v : V} (ha : VR ρ G.next a A) (h : vload P t G a = some (p, v)) (hp : p) :
    ∃ x, (Instr.loadAt t A).run P w = .ok x w ∧ VR ρ G.next v x := by
  cases a <;> simp only [vload, reduceCtorEq] at h
  case ptr id g off =>
    split at h
    · rename_i g' cs hg
      split at h
      · rename_i e; subst e
        cases ha with
        | ptr _ _ _ b cap h1 h2 =>
          obtain ⟨c, e, fz, h3, h4, h5, h6, h7, h8⟩ := hW.block hg h2
          obtain ⟨x, hx, hx'⟩ := vread_ok (P := P) (w := w) h6 (h7.take cs.length) h hp
          refine ⟨x, ?_, hx'⟩
          simp only [Nat.zero_add] at hx
          simp only [Instr.loadAt, Instr.sureAddr, Sem.run_bind, Sem.run_pure, Result.andThen_ok, hx]
      · cases h
    · cases h
  case iptr cells off =>
    cases ha with
    | iptr _ _ xs b o h1 h2 h3 h4 =>
      obtain ⟨x, hx, hx'⟩ := vread_ok (P := P) (w := w) ⟨h3, h4⟩ (hW.cellsAt h2) h hp
      refine ⟨x, ?_, hx'⟩
      simp only [Instr.loadAt, Instr.sureAddr, Sem.run_bind, Sem.run_pure, Result.andThen_ok, hx]
theorem tfield_inv {t : TypeId} {f : Nat} {o sz : Nat} {b : Bool} (h : tfield P t f = some (o, sz, b)) :
    ∃ fs fd, P.underlying t = some (.struct fs) ∧ fs[f]? = some fd ∧ fd.offset = o ∧ P.cellsOf fd.type = sz ∧ tagg P fd.type = some b ∧ (P.info? fd.type).isSome = true := by
  unfold tfield at h
  split at h
  · rename_i fs hu
    split at h
    · rename_i fd hf
      split at h
      · rename_i b' hb
        split at h
        · rename_i hi
          simp only [Option.some.injEq, Prod.mk.injEq] at h
          obtain ⟨rfl, rfl, rfl⟩ := h
          exact ⟨fs, fd, hu, hf, rfl, rfl, hb, hi⟩
        · cases h
      · cases h
    · cases h
  · cases h
theorem vfield_ok {t : TypeId} {f : Nat} {a : V} {A : Value} {p : Prop} {v : V} (ha : VR ρ n a A) (h : vfield P t f a = some (p, v)) (hp : p) :
    ∃ x, (Instr.field t A f).run P w = .ok x w ∧ VR ρ n v x := by
  cases a <;> simp only [vfield, reduceCtorEq] at h
  rename_i cs
  obtain ⟨xs, rfl, hxs⟩ := ha.agg_inv
  have key : ∀ {o sz b}, tfield P t f = some (o, sz, b) → (Instr.field t (.agg xs.toArray) f).run P w = if b = true then .ok (.agg ((xs.drop o).take sz).toArray) w else match xs[o]? with | some v => .ok v w | none => .halt (.stuck "part: no such cell") w := fun {o sz b} e => by
    obtain ⟨fs, fd, h1, h2, rfl, rfl, h5, h6⟩ := tfield_inv e
    simp only [Instr.field, Sem.run_bind, run_und h1, Result.andThen_ok, h2, asAgg, Sem.run_pure, run_part h5 h6]
    cases b
    · cases xs[fd.offset]? <;> rfl
    · rfl
  split at h
  · rename_i o sz e
    simp only [Option.some.injEq, Prod.mk.injEq] at h
    obtain ⟨rfl, rfl⟩ := h
    exact ⟨_, by rw [key e, if_pos rfl], ((hxs.drop o).take sz).agg⟩
  · rename_i o sz e
    simp only [Option.some.injEq, Prod.mk.injEq] at h
    obtain ⟨rfl, rfl⟩ := h
    have hx : o < xs.length := by rw [hxs.1]; exact hp
    refine ⟨xs[o], by rw [key e]; simp [hx], ?_⟩
    rw [List.getD_eq_getElem?_getD, List.getElem?_eq_getElem hp]
    exact hxs.2 o _ _ (List.getElem?_eq_getElem hp) (List.getElem?_eq_getElem hx)
  · cases h
theorem vfieldAddr_ok {t : TypeId} {f : Nat} {a : V} {A : Value} {p : Prop} {v : V} (ha : VR ρ n a A) (h : vfieldAddr P t f a = some (p, v)) (hp : p) :
    ∃ x, (Instr.fieldAt t A f).run P w = .ok x w ∧ VR ρ n v x := by
  have key : ∀ {o sz bb} {b off : Nat}, tfield P t f = some (o, sz, bb) → sz ≠ 0 → (Instr.fieldAt t (.pointer (some ⟨b, off, none⟩)) f).run P w = .ok (.pointer (some ⟨b, off + o, none⟩)) w := fun {o sz bb b off} e hz => by
    obtain ⟨fs, fd, h1, h2, rfl, rfl, h5, h6⟩ := tfield_inv e
    simp only [Instr.fieldAt, Sem.run_bind, run_und h1, Result.andThen_ok, h2, Instr.sureAddr, Sem.run_pure, fieldPlace, run_sizeOf h6, if_neg hz, add_mk]
  cases a <;> simp only [vfieldAddr, reduceCtorEq] at h
  case ptr id g off =>
    split at h
    · rename_i o sz bb e
      split at h
      · cases h
      · rename_i hz
        simp only [Option.some.injEq, Prod.mk.injEq] at h
        obtain ⟨rfl, rfl⟩ := h
        cases ha with
        | ptr _ _ _ b cap h1 h2 => exact ⟨_, key e hz, .ptr _ _ _ b cap h1 h2⟩
    · cases h
  case iptr cells off =>
    split at h
    · rename_i o sz bb e
      split at h
      · cases h
      · rename_i hz
        simp only [Option.some.injEq, Prod.mk.injEq] at h
        obtain ⟨rfl, rfl⟩ := h
        cases ha with
        | iptr _ _ xs b o' h1 h2 h3 h4 => exact ⟨_, key e hz, (VR.iptr _ _ xs b o' h1 h2 h3 h4).cast (by simp [Nat.add_assoc])⟩
    · cases h
theorem IsImm.drop {b o : Nat} {xs : List Value} (h : IsImm ρ b o xs) (k : Nat) : IsImm ρ b (o + k) (xs.drop k) := fun i x e => by
  have := h (k + i) x (by simpa using e)
  rwa [← Nat.add_assoc] at this
theorem IsImm.take {b o : Nat} {xs : List Value} (h : IsImm ρ b o xs) (k : Nat) : IsImm ρ b o (xs.take k) := fun i x e => by
  rw [List.getElem?_take] at e
  split at e
  · exact h i x e
  · cases e
structure SlOk (ρ : Rho) (n sz m : Nat) (cells : List V) (A : Option Addr) : Prop where
  closed : V.closedL cells = true
  len : cells.length = m * sz
  place : cells = [] ∨ ∃ b o xs, A = some ⟨b, o, none⟩ ∧ IsImm ρ b o xs ∧ VRs ρ n cells xs
theorem VR.sl_inv {sz m : Nat} {cells : List V} {x : Value} (h : VR ρ n (.sl sz m cells) x) : ∃ A cap, x = .slice A m cap ∧ m ≤ cap ∧ SlOk ρ n sz m cells A := by
  cases h with
  | sl _ _ _ xs b o cap h1 h2 h3 h4 h5 h6 => exact ⟨_, cap, rfl, h3, h1, h2, .inr ⟨b, o, xs, rfl, h4, h5, h6⟩⟩
  | sl0 _ A cap => exact ⟨A, cap, rfl, Nat.zero_le _, rfl, by simp, .inl rfl⟩
theorem VR.slc_inv {sz m : Nat} {cells : List V} {x : Value} (h : VR ρ n (.slc sz m cells) x) : ∃ A, x = .slice A m m ∧ SlOk ρ n sz m cells A := by
  cases h with
  | slc _ _ _ xs b o h1 h2 h4 h5 h6 => exact ⟨_, rfl, h1, h2, .inr ⟨b, o, xs, rfl, h4, h5, h6⟩⟩
  | slc0 _ A => exact ⟨A, rfl, rfl, by simp, .inl rfl⟩
theorem SlOk.sl {sz m cap : Nat} {cells : List V} {A : Option Addr} (h : SlOk ρ n sz m cells A) (hm : m ≤ cap) (h0 : cells = [] → m = 0) : VR ρ n (.sl sz m cells) (.slice A m cap) := by
  rcases h.place with rfl | ⟨b, o, xs, rfl, hi, hv⟩
  · obtain rfl := h0 rfl; exact .sl0 _ _ _
  · exact .sl _ _ _ xs b o cap h.closed h.len hm hi hv.1 hv.2
theorem SlOk.slc {sz m : Nat} {cells : List V} {A : Option Addr} (h : SlOk ρ n sz m cells A) (h0 : cells = [] → m = 0) : VR ρ n (.slc sz m cells) (.slice A m m) := by
  rcases h.place with rfl | ⟨b, o, xs, rfl, hi, hv⟩
  · obtain rfl := h0 rfl; exact .slc0 _ _
  · exact .slc _ _ _ xs b o h.closed h.len hi hv.1 hv.2
theorem telem_inv {t e : TypeId} (h : telem P t = some e) : P.underlying t = some (.slice e) := by
  unfold telem at h
  split at h
  · simp only [Option.some.injEq] at h; subst h; assumption
  · cases h
theorem indexAt_slice {t e : TypeId} (ht : P.underlying t = some (.slice e)) (hi : (P.info? e).isSome = true) {k : IntKind} {i : Int} {b o m cap : Nat} (h0 : 0 ≤ i) (h1 : i < (m : Int)) :
    (Instr.indexAt t (.slice (some ⟨b, o, none⟩) m cap) (.int k i)).run P w = .ok (.pointer (some ⟨b, o + i.toNat * P.cellsOf e, none⟩)) w := by
  simp only [Instr.indexAt, Sem.run_bind, asIntOf, Sem.run_pure, Result.andThen_ok, run_und ht]
  simp [h0, h1, run_sizeOf hi]
theorem vindexAddr_ok {t : TypeId} {a i : V} {A I : Value} {p : Prop} {v : V} (ha : VR ρ n a A) (hI : VR ρ n i I) (h : vindexAddr P t a i = some (p, v)) (hp : p) :
    ∃ x, (Instr.indexAt t A I).run P w = .ok x w ∧ VR ρ n v x := by
  have imm : ∀ {sz m cap : Nat} {cells : List V} {B : Option Addr} {k : IntKind} {j : Int} {e : TypeId}, SlOk ρ n sz m cells B → telem P t = some e → P.cellsOf e = sz → (P.info? e).isSome = true → 0 ≤ j → j < (m : Int) →
      0 < sz → ∃ x, (Instr.indexAt t (.slice B m cap) (.int k j)).run P w = .ok x w ∧ VR ρ n (.iptr (velem sz cells j.toNat) 0) x := fun {sz m cap cells B k j e} hs he hz hi h0 h1 hpos => by
    have hu := telem_inv he
    rcases hs.place with rfl | ⟨b, o, xs, rfl, hm, hv⟩
    · have := hs.len
      simp only [List.length_nil] at this
      have : m * sz ≠ 0 := Nat.mul_ne_zero (by omega) (by omega)
      omega
    · refine ⟨_, indexAt_slice hu hi h0 h1, ?_⟩
      subst hz
      have hv' := (hv.drop (j.toNat * P.cellsOf e)).take (P.cellsOf e)
      exact (VR.iptr (velem (P.cellsOf e) cells j.toNat) 0 _ b (o + j.toNat * P.cellsOf e) (closedL_take (closedL_drop hs.closed _) _) ((hm.drop _).take _) hv'.1 hv'.2).cast (by simp)
  cases a <;> cases i <;> simp only [vindexAddr, reduceCtorEq] at h
  case sl sz m cells k j =>
    split at h
    · rename_i e he
      split at h
      · rename_i hc
        simp only [Option.some.injEq, Prod.mk.injEq] at h
        obtain ⟨rfl, rfl⟩ := h
        obtain ⟨B, cap, rfl, hm, hs⟩ := ha.sl_inv
        obtain rfl := hI.int_inv
        exact imm hs he hc.1 hc.2.1 hp.1 hp.2 hc.2.2
      · cases h
    · cases h
  case slc sz m cells k j =>
    split at h
    · rename_i e he
      split at h
      · rename_i hc
        simp only [Option.some.injEq, Prod.mk.injEq] at h
        obtain ⟨rfl, rfl⟩ := h
        obtain ⟨B, rfl, hs⟩ := ha.slc_inv
        obtain rfl := hI.int_inv
        exact imm hs he hc.1 hc.2.1 hp.1 hp.2 hc.2.2
      · cases h
    · cases h
  case arr sz id g off m k j =>
    split at h
    · rename_i e he
      split at h
      · rename_i hc
        simp only [Option.some.injEq, Prod.mk.injEq] at h
        obtain ⟨rfl, rfl⟩ := h
        obtain rfl := hI.int_inv
        cases ha with
        | arr _ _ _ _ _ b cap c h1 h2 h3 h4 =>
          refine ⟨_, indexAt_slice (telem_inv he) hc.2.1 hp.1 hp.2, ?_⟩
          rw [hc.1]
          exact .ptr _ _ _ b cap h1 h2
        | arr0 => exact absurd hp (by omega)
      · cases h
    · cases h
end
end Go.Vf
set_option linter.unusedVariables false
set_option linter.unusedSimpArgs false
namespace Go.Vf
open Go.RowKit
section
variable {P : Program} {ρ : Rho} {G : Heap} {w : World} {n : Nat}
theorem extract_mk (s : List UInt8) (i j : Nat) : (⟨s.toArray⟩ : ByteArray).extract i j = ⟨((s.take j).drop i).toArray⟩ := by
  apply ByteArray.ext
  simp [List.drop_take]
theorem vindex_ok {t : TypeId} {a i : V} {A I : Value} {p : Prop} {v : V} (ha : VR ρ n a A) (hI : VR ρ n i I) (h : vindex P t a i = some (p, v)) (hp : p) :
    ∃ x, (Instr.index t A I).run P w = .ok x w ∧ VR ρ n v x := by
  unfold vindex at h
  split at h
  · rename_i s k j hu
    simp only [Option.some.injEq, Prod.mk.injEq] at h
    obtain ⟨rfl, rfl⟩ := h
    obtain rfl := ha.str_inv
    obtain rfl := hI.int_inv
    have hj : j.toNat < s.length := by omega
    refine ⟨.int .u8 (s[j.toNat].toNat : Int), ?_, ?_⟩
    · simp only [Instr.index, Sem.run_bind, asIntOf, Sem.run_pure, Result.andThen_ok, run_und hu, if_pos hp.1]
      have : (⟨s.toArray⟩ : ByteArray)[j.toNat]? = some s[j.toNat] := by
        show (if h : j.toNat < (⟨s.toArray⟩ : ByteArray).size then some _ else none) = _
        rw [dif_pos (by rw [size_mk]; exact hj)]
        rfl
      simp [this]
    · rw [List.getD_eq_getElem?_getD, List.getElem?_eq_getElem hj]
      exact .int _ _
  · cases h
def OptR (ρ : Rho) (n : Nat) (lo : Option V) (LO : Option Value) : Prop := match lo, LO with | none, none => True | some v, some x => VR ρ n v x | _, _ => False
theorem vlow_inv {lo : Option V} {LO : Option Value} {l : Int} (h : vlow lo = some l) (hr : OptR ρ n lo LO) :
    (lo = none ∧ LO = none ∧ l = 0) ∨ ∃ k, lo = some (.int k l) ∧ LO = some (.int k l) := by
  cases lo with
  | none => cases LO with
    | none => simp [vlow] at h; exact .inl ⟨rfl, rfl, h.symm⟩
    | some _ => exact hr.elim
  | some v => cases LO with
    | none => exact hr.elim
    | some x => cases v <;> simp [vlow] at h
                subst h; obtain rfl := VR.int_inv hr; exact .inr ⟨_, rfl, rfl⟩
theorem vhigh_inv {m : Nat} {hi : Option V} {HI : Option Value} {l : Int} (h : vhigh m hi = some l) (hr : OptR ρ n hi HI) :
    (hi = none ∧ HI = none ∧ l = m) ∨ ∃ k, hi = some (.int k l) ∧ HI = some (.int k l) := by
  cases hi with
  | none => cases HI with
    | none => simp [vhigh] at h; exact .inl ⟨rfl, rfl, h.symm⟩
    | some _ => exact hr.elim
  | some v => cases HI with
    | none => exact hr.elim
    | some x => cases v <;> simp [vhigh] at h
                subst h; obtain rfl := VR.int_inv hr; exact .inr ⟨_, rfl, rfl⟩
theorem bounds_none {isS : Bool} {len cap : Nat} {lo hi : Option V} {LO HI : Option Value} {l h : Int} (hl : vlow lo = some l) (hh : vhigh len hi = some h)
    (hlo : OptR ρ n lo LO) (hhi : OptR ρ n hi HI)
    (h0 : 0 ≤ l) (h1 : l ≤ h) (h2 : h ≤ (len : Int)) (hc : len ≤ cap) : (Instr.sliceBounds isS len cap LO HI none).run P w = .ok (l.toNat, h.toNat, cap) w := by
  rcases vlow_inv hl hlo with ⟨rfl, rfl, rfl⟩ | ⟨k, rfl, rfl⟩ <;> rcases vhigh_inv hh hhi with ⟨rfl, rfl, rfl⟩ | ⟨k', rfl, rfl⟩
  · simp [Instr.sliceBounds]
  · have : (0 : Int) ≤ h := by omega
    have h3 : h ≤ (cap : Int) := by omega
    simp [Instr.sliceBounds, Instr.sliceBound, asIntOf, this, h3]
  · simp [Instr.sliceBounds, Instr.sliceBound, asIntOf, h0, h1]
  · have : (0 : Int) ≤ h := by omega
    have h3 : h ≤ (cap : Int) := by omega
    have h4 : l ≤ max h 0 := by omega
    simp [Instr.sliceBounds, Instr.sliceBound, asIntOf, this, h3, h0, h4]
theorem bounds_max {isS : Bool} {len cap : Nat} {lo hi : Option V} {LO HI : Option Value} {l h m : Int} {kk : IntKind} (hl : vlow lo = some l) (hh : vhigh len hi = some h)
    (hlo : OptR ρ n lo LO) (hhi : OptR ρ n hi HI) (his : hi.isSome = true)
    (h0 : 0 ≤ l) (h1 : l ≤ h) (h2 : h ≤ (len : Int)) (hm : m = h) (hc : len ≤ cap) : (Instr.sliceBounds isS len cap LO HI (some (.int kk m))).run P w = .ok (l.toNat, h.toNat, h.toNat) w := by
  subst hm
  have hm0 : (0 : Int) ≤ m := by omega
  have hm1 : m ≤ (cap : Int) := by omega
  have hm2 : m ≤ max m 0 := by omega
  have hm3 : l ≤ max m 0 := by omega
  rcases vhigh_inv hh hhi with ⟨rfl, rfl, rfl⟩ | ⟨k', rfl, rfl⟩
  · cases his
  rcases vlow_inv hl hlo with ⟨rfl, rfl, rfl⟩ | ⟨k, rfl, rfl⟩
  · simp [Instr.sliceBounds, Instr.sliceBound, asIntOf, hm0, hm1, hm2]
  · simp [Instr.sliceBounds, Instr.sliceBound, asIntOf, hm0, hm1, hm2, h0, hm3]
theorem vdrop_eq {α : Type} {k : Nat} {lo : Option V} {l : Int} (h : vlow lo = some l) (xs : List α) : vdrop k lo xs = xs.drop (l.toNat * k) := by
  cases lo with
  | none => simp [vlow] at h; subst h; simp [vdrop]
  | some v => cases v <;> simp [vlow] at h; subst h; simp [vdrop]
theorem vtake_eq {α : Type} {k m : Nat} {hi : Option V} {h : Int} (hh : vhigh m hi = some h) (xs : List α) (hx : xs.length = m * k) : vtake k hi xs = xs.take (h.toNat * k) := by
  cases hi with
  | none => simp [vhigh] at hh; subst hh; simp [vtake, ← hx]
  | some v => cases v <;> simp [vhigh] at hh; subst hh; simp [vtake]
theorem vless_eq {m : Nat} {lo hi : Option V} {l h : Int} (hl : vlow lo = some l) (hh : vhigh m hi = some h) : vless m lo hi = h.toNat - l.toNat := by
  cases lo with
  | none =>
    simp [vlow] at hl; subst hl
    cases hi with
    | none => simp [vhigh] at hh; subst hh; simp [vless]
    | some v => cases v <;> simp [vhigh] at hh; subst hh; simp [vless]
  | some u =>
    cases u <;> simp [vlow] at hl
    subst hl
    cases hi with
    | none => simp [vhigh] at hh; subst hh; simp [vless]
    | some v => cases v <;> simp [vhigh] at hh; subst hh; simp [vless]
theorem SlOk.cut {sz m : Nat} {cells : List V} {A : Option Addr} (hs : SlOk ρ n sz m cells A) {l h : Nat} (h1 : l ≤ h) (h2 : h ≤ m) (mm : Nat) (hmm' : h ≤ mm) :
    SlOk ρ n sz (h - l) ((cells.take (h * sz)).drop (l * sz)) (if mm = l then A else A.map (·.add (l * sz))) ∨ h = l := by
  by_cases he : h = l
  · exact .inr he
  left
  have hlen : ((cells.take (h * sz)).drop (l * sz)).length = (h - l) * sz := by
    rw [List.length_drop, List.length_take, hs.len, Nat.sub_mul, Nat.min_eq_left (Nat.mul_le_mul_right sz h2)]
  refine ⟨closedL_drop (closedL_take hs.closed _) _, hlen, ?_⟩
  rcases hs.place with rfl | ⟨b, o, xs, rfl, hi, hv⟩
  · left; simp
  · right
    by_cases hmm : mm = l
    · omega
    · refine ⟨b, o + l * sz, (xs.take (h * sz)).drop (l * sz), by simp [hmm], (hi.take _).drop _, (hv.take _).drop _⟩
theorem slice_run {t e : TypeId} (ht : P.underlying t = some (.slice e)) (hi : (P.info? e).isSome = true) {A : Option Addr} {len cap l h m : Nat} {LO HI MX : Option Value} (hb : (Instr.sliceBounds true len cap LO HI MX).run P w = .ok (l, h, m) w) :
    (Instr.sliceAt t (.slice A len cap) LO HI MX).run P w = .ok (.slice (if m = l then A else A.map (·.add (l * P.cellsOf e))) (h - l) (m - l)) w := by
  simp only [Instr.sliceAt, Sem.run_bind, run_und ht, Result.andThen_ok, Instr.slice, hb, run_sizeOf hi, Sem.run_pure]
theorem cut_nil {α : Type} (xs : List α) (a sz : Nat) : (xs.take (a * sz)).drop (a * sz) = [] := by
  apply List.drop_eq_nil_of_le
  rw [List.length_take]; omega
theorem SlOk.cut_sl {sz m : Nat} {cells : List V} {A : Option Addr} (hs : SlOk ρ n sz m cells A) {l h : Nat} (h1 : l ≤ h) (h2 : h ≤ m) (hz : 0 < sz) {mm : Nat} (hmm : h ≤ mm) :
    VR ρ n (.sl sz (h - l) ((cells.take (h * sz)).drop (l * sz))) (.slice (if mm = l then A else A.map (·.add (l * sz))) (h - l) (mm - l)) := by
  rcases hs.cut h1 h2 mm hmm with k | rfl
  · refine k.sl (by omega) fun e => ?_
    have := k.len
    rw [e, List.length_nil] at this
    rcases Nat.mul_eq_zero.1 this.symm with h' | h' <;> omega
  · rw [cut_nil, Nat.sub_self]; exact .sl0 _ _ _
theorem SlOk.cut_slc {sz m : Nat} {cells : List V} {A : Option Addr} (hs : SlOk ρ n sz m cells A) {l h : Nat} (h1 : l ≤ h) (h2 : h ≤ m) (hz : 0 < sz) :
    VR ρ n (.slc sz (h - l) ((cells.take (h * sz)).drop (l * sz))) (.slice (if h = l then A else A.map (·.add (l * sz))) (h - l) (h - l)) := by
  rcases hs.cut h1 h2 h (Nat.le_refl _) with k | rfl
  · refine k.slc fun e => ?_
    have := k.len
    rw [e, List.length_nil] at this
    rcases Nat.mul_eq_zero.1 this.symm with h' | h' <;> omega
  · rw [cut_nil, Nat.sub_self]; exact .slc0 _ _
theorem vslice_ok {t : TypeId} {a : V} {A : Value} {lo hi mx : Option V} {LO HI MX : Option Value} {p : Prop} {v : V} (ha : VR ρ n a A) (hlo : OptR ρ n lo LO) (hhi : OptR ρ n hi HI) (hmx : OptR ρ n mx MX)
    (h : vslice P t a lo hi mx = some (p, v)) (hp : p) : ∃ x, (Instr.sliceAt t A LO HI MX).run P w = .ok x w ∧ VR ρ n v x := by
  have nomax : mx = none → MX = none := fun e => by subst e; cases MX with | none => rfl | some _ => exact hmx.elim
  have ismax : ∀ {k i}, mx = some (.int k i) → MX = some (.int k i) := fun {k i} e => by
    subst e; cases MX with
    | none => exact hmx.elim
    | some x => rw [VR.int_inv (show VR ρ n (.int k i) x from hmx)]
  have sls : ∀ {sz m cap : Nat} {cells : List V} {B : Option Addr} {e : TypeId} {l h : Int}, SlOk ρ n sz m cells B → m ≤ cap → telem P t = some e → P.cellsOf e = sz → (P.info? e).isSome = true → 0 < sz → vlow lo = some l → vhigh m hi = some h →
      0 ≤ l → l ≤ h → h ≤ (m : Int) → MX = none → ∃ x, (Instr.sliceAt t (.slice B m cap) LO HI MX).run P w = .ok x w ∧ VR ρ n (.sl sz (vless m lo hi) (vdrop sz lo (vtake sz hi cells))) x :=
    fun {sz m cap cells B e l h} hs hcap he hz hi' hpos el eh h0 h1 h2 hm => by
      subst hm; subst hz
      refine ⟨_, slice_run (telem_inv he) hi' (bounds_none el eh hlo hhi h0 h1 h2 hcap), ?_⟩
      rw [vdrop_eq el, vtake_eq eh cells hs.len, vless_eq el eh]
      exact hs.cut_sl (by omega) (by omega) hpos (by omega)
  have slcs : ∀ {sz m cap : Nat} {cells : List V} {B : Option Addr} {e : TypeId} {l h mm : Int} {kk : IntKind}, SlOk ρ n sz m cells B → m ≤ cap → telem P t = some e → P.cellsOf e = sz → (P.info? e).isSome = true → 0 < sz → vlow lo = some l → vhigh m hi = some h → hi.isSome = true →
      0 ≤ l → l ≤ h → h ≤ (m : Int) → mm = h → MX = some (.int kk mm) → ∃ x, (Instr.sliceAt t (.slice B m cap) LO HI MX).run P w = .ok x w ∧ VR ρ n (.slc sz (vless m lo hi) (vdrop sz lo (vtake sz hi cells))) x :=
    fun {sz m cap cells B e l h mm kk} hs hcap he hz hi' hpos el eh his h0 h1 h2 hmm hm => by
      subst hm; subst hz
      refine ⟨_, slice_run (telem_inv he) hi' (bounds_max el eh hlo hhi his h0 h1 h2 hmm hcap), ?_⟩
      rw [vdrop_eq el, vtake_eq eh cells hs.len, vless_eq el eh]
      exact hs.cut_slc (by omega) (by omega) hpos
  unfold vslice at h
  split at h
  · -- a text
    rename_i s
    split at h
    · rename_i l hh hu el eh
      simp only [Option.some.injEq, Prod.mk.injEq] at h
      obtain ⟨rfl, rfl⟩ := h
      obtain rfl := ha.str_inv
      obtain rfl := nomax rfl
      refine ⟨.string ⟨((s.take hh.toNat).drop l.toNat).toArray⟩, ?_, ?_⟩
      · simp only [Instr.sliceAt, Sem.run_bind, run_und hu, Result.andThen_ok, Instr.slice, Option.isSome_none, Bool.false_eq_true, if_false, Sem.run_pure]
        rw [bounds_none (n := n) (ρ := ρ) el (by rw [size_mk]; exact eh) hlo hhi hp.1 hp.2.1 (by rw [size_mk]; exact hp.2.2) (Nat.le_refl _)]
        simp only [Result.andThen_ok, Sem.run_pure, extract_mk]
      · rw [vdrop_eq el, vtake_eq eh s (by simp), Nat.mul_one, Nat.mul_one]
        exact .str _
    · cases h
  · -- nil
    split at h
    · rename_i e l hh he el eh
      by_cases hinf : (P.info? e).isSome = true
      case neg => rw [if_neg hinf] at h; cases h
      rw [if_pos hinf] at h
      simp only [Option.some.injEq, Prod.mk.injEq] at h
      obtain ⟨rfl, rfl⟩ := h
      obtain rfl : A = .slice none 0 0 := by cases ha; rfl
      obtain rfl := nomax rfl
      obtain ⟨rfl, rfl⟩ := hp
      refine ⟨.slice none 0 0, ?_, .nilsl⟩
      have hu := telem_inv he
      simp only [Instr.sliceAt, Sem.run_bind, run_und hu, Result.andThen_ok, Instr.slice]
      rw [bounds_none (n := n) (ρ := ρ) el eh hlo hhi (by omega) (by omega) (by omega) (Nat.le_refl _)]
      simp only [Result.andThen_ok, Int.toNat_zero, run_sizeOf hinf, Sem.run_pure]
      simp
    · cases h
  · rename_i sz m cells
    obtain ⟨B, cap, rfl, hcap, hs⟩ := ha.sl_inv
    split at h
    · rename_i e l hh he el eh
      split at h
      · rename_i hc
        simp only [Option.some.injEq, Prod.mk.injEq] at h
        obtain ⟨rfl, rfl⟩ := h
        exact sls hs hcap he hc.1 hc.2.1 hc.2.2 el eh hp.1 hp.2.1 hp.2.2 (nomax rfl)
      · cases h
    · rename_i e l hh k mm he el eh
      split at h
      · rename_i hc
        simp only [Option.some.injEq, Prod.mk.injEq] at h
        obtain ⟨rfl, rfl⟩ := h
        exact slcs hs hcap he hc.1 hc.2.1 hc.2.2.1 el eh hc.2.2.2 hp.1 hp.2.1 hp.2.2.1 hp.2.2.2 (ismax rfl)
      · cases h
    · cases h
  · rename_i sz m cells
    obtain ⟨B, rfl, hs⟩ := ha.slc_inv
    split at h
    · rename_i e l hh he el eh
      split at h
      · rename_i hc
        simp only [Option.some.injEq, Prod.mk.injEq] at h
        obtain ⟨rfl, rfl⟩ := h
        cases hi with
        | some u => simp only [Option.isNone_some, Bool.false_eq_true, if_false]; exact sls hs (Nat.le_refl _) he hc.1 hc.2.1 hc.2.2 el eh hp.1 hp.2.1 hp.2.2 (nomax rfl)
        | none =>
          obtain rfl : HI = none := by cases HI with | none => rfl | some _ => exact hhi.elim
          obtain rfl := nomax rfl
          obtain rfl : hh = (m : Int) := by simp [vhigh] at eh; exact eh.symm
          obtain rfl := hc.1
          simp only [Option.isNone_none, if_true]
          refine ⟨_, slice_run (telem_inv he) hc.2.1 (bounds_none (n := n) (ρ := ρ) el eh hlo trivial hp.1 hp.2.1 hp.2.2 (Nat.le_refl _)), ?_⟩
          rw [vdrop_eq el, vless_eq el eh]
          have := hs.cut_slc (l := l.toNat) (h := m) (by omega) (Nat.le_refl _) hc.2.2
          rw [List.take_of_length_le (by rw [hs.len]; exact Nat.le_refl _)] at this
          simpa using this
      · cases h
    · rename_i e l hh k mm he el eh
      split at h
      · rename_i hc
        simp only [Option.some.injEq, Prod.mk.injEq] at h
        obtain ⟨rfl, rfl⟩ := h
        exact slcs hs (Nat.le_refl _) he hc.1 hc.2.1 hc.2.2.1 el eh hc.2.2.2 hp.1 hp.2.1 hp.2.2.1 hp.2.2.2 (ismax rfl)
      · cases h
    · cases h
  · rename_i sz id g off m
    split at h
    · rename_i e l hh he el eh
      split at h
      · rename_i hc
        simp only [Option.some.injEq, Prod.mk.injEq] at h
        obtain ⟨rfl, rfl⟩ := h
        obtain rfl := hc.1
        obtain rfl := nomax rfl
        have key : ∀ {B : Option Addr} {c : Nat}, m ≤ c → (Instr.sliceAt t (.slice B m c) LO HI none).run P w = .ok (.slice (if c = l.toNat then B else B.map (·.add (l.toNat * P.cellsOf e))) (hh.toNat - l.toNat) (c - l.toNat)) w :=
          fun {B c} hm => slice_run (telem_inv he) hc.2.1 (bounds_none (n := n) (ρ := ρ) el eh hlo hhi hp.1 hp.2.1 hp.2.2.1 hm)
        rw [vless_eq el eh]
        cases ha with
        | arr _ _ _ _ _ b cap c h1 h2 h3 h4 =>
          refine ⟨_, key h4, ?_⟩
          have hle : l.toNat * P.cellsOf e ≤ c * P.cellsOf e := Nat.mul_le_mul_right _ (by omega)
          refine (VR.arr (P.cellsOf e) id g (off + l.toNat * P.cellsOf e) (hh.toNat - l.toNat) b cap (c - l.toNat) h1 h2 (by rw [Nat.sub_mul]; omega) (by omega)).cast ?_
          by_cases hcl : c = l.toNat
          · rcases hp.2.2.2 with hl0 | hl1
            · subst hl0; simp
            · omega
          · simp [hcl]
        | arr0 _ _ _ B h1 h2 =>
          refine ⟨_, key (Nat.le_refl _), ?_⟩
          have : l.toNat = 0 := by omega
          have h' : hh.toNat = 0 := by omega
          simp only [this, h', Nat.zero_mul, Nat.add_zero, Nat.sub_self]
          exact .arr0 _ _ _ _ h1 h2
      · cases h
    · cases h
  · cases h
end
end Go.Vf
set_option linter.unusedVariables false
set_option linter.unusedSimpArgs false
namespace Go.Vf
open Go.RowKit
section
variable {P : Program} {ρ : Rho} {G : Heap} {w : World} {n : Nat}
theorem WRel.lay0 (h : WRel ρ G w) {b : Nat} {c : List Value} (hb : ∀ id blk cap, G.get id = some blk → ρ.blk id blk.gen ≠ some (.at b cap)) (hno : ∀ o, ρ.imm b o = none)
    (hc : CellsAt w b 0 c) : WRel (ρ.lay b c) G w := by
  have hle := Rho.lay_le (n := G.next) ρ b c hno
  refine ⟨h.met, h.below, ?_, h.lt, h.wf, h.late, ?_, ?_, h.inj⟩
  · intro b' o x e
    simp only [Rho.lay] at e
    split at e
    · rename_i hb'; subst hb'; have := hc o x e; rwa [Nat.zero_add] at this
    · exact h.imm b' o x e
  · intro i bk e
    obtain ⟨r, h1, h2⟩ := h.live i bk e
    exact ⟨r, h1, h2.le hle (Nat.le_refl _)⟩
  · intro i bk b2 cap2 e e2
    obtain ⟨h1, h2⟩ := h.apart _ _ _ _ e e2
    refine ⟨h1, fun o => ?_⟩
    simp only [Rho.lay]
    split
    · rename_i hb'; subst hb'; exact absurd e2 (hb i bk cap2 e)
    · exact h2 o
theorem WRel.newImm (h : WRel ρ G w) {w' : World} (hb : Below w.heap.size w w') {b : Nat} (hbs : w.heap.size ≤ b) {xs : List Value} (hc : CellsAt w' b 0 xs) :
    WRel (ρ.lay b xs) G w' ∧ Rho.Le G.next ρ (ρ.lay b xs) ∧ IsImm (ρ.lay b xs) b 0 xs := by
  have hno : ∀ o, ρ.imm b o = none := fun o => by
    cases ho : ρ.imm b o with
    | none => rfl
    | some x => have := cell_block_lt (h.imm b o x ho); simp at this; omega
  refine ⟨(h.grow hb).lay0 (fun id blk cap e e2 => ?_) hno hc, Rho.lay_le ρ b xs hno, fun i x e => by simp [Rho.lay, e]⟩
  obtain ⟨r, h1, h2⟩ := h.live id blk e
  rw [e2] at h1; cases h1
  have := h2.lt; omega
theorem vlen_ok (hW : WRel ρ G w) {t : TypeId} {ts : Array TypeId} {ty : TypeId} {a : V} {A : Value} {r : List Value} {p : Prop} {v : V} (ht : ts[0]? = some t) (ha : VR ρ G.next a A) (h : vlen P t G a = some (p, v)) :
    ∃ x, (Builtin.len_ ts ty (A :: r).toArray).run P w = .ok x w ∧ VR ρ G.next v x := by
  have sl : ∀ {e : TypeId} {A' : Option Addr} {m c : Nat}, P.underlying t = some (.slice e) → (Builtin.len_ ts ty (.slice A' m c :: r).toArray).run P w = .ok (.int .i64 m) w := fun {e A' m c} hu => by
    simp [Builtin.len_, ht, run_und hu, goInt]
  cases hu : P.underlying t with
  | none => cases a <;> simp [vlen, hu] at h
  | some d =>
    cases a with
    | str s =>
      cases d <;> simp [vlen, hu] at h
      obtain ⟨_, rfl⟩ := h
      obtain rfl := ha.str_inv
      exact ⟨.int .i64 s.length, by simp [Builtin.len_, ht, run_und hu, goInt, size_mk], .int _ _⟩
    | nilsl =>
      cases d <;> simp [vlen, hu] at h
      obtain ⟨_, rfl⟩ := h
      cases ha; exact ⟨_, sl hu, .int _ _⟩
    | sl sz m cells =>
      cases d <;> simp [vlen, hu] at h
      obtain ⟨_, rfl⟩ := h
      obtain ⟨A', cap, rfl, _, _⟩ := ha.sl_inv; exact ⟨_, sl hu, .int _ _⟩
    | slc sz m cells =>
      cases d <;> simp [vlen, hu] at h
      obtain ⟨_, rfl⟩ := h
      obtain ⟨A', rfl, _⟩ := ha.slc_inv; exact ⟨_, sl hu, .int _ _⟩
    | arr sz id g off m =>
      cases d <;> simp [vlen, hu] at h
      obtain ⟨_, rfl⟩ := h
      cases ha <;> exact ⟨_, sl hu, .int _ _⟩
    | nilmap =>
      cases d <;> simp [vlen, hu] at h
      obtain ⟨_, rfl⟩ := h
      cases ha; exact ⟨.int .i64 0, by simp [Builtin.len_, ht, run_und hu, goInt], .int _ _⟩
    | map id =>
      cases d <;> simp only [vlen, hu, reduceCtorEq] at h
      split at h
      · rename_i es cl hg
        cases h
        cases ha with
        | map _ b h1 h2 =>
          obtain ⟨rr, h3, h4⟩ := hW.live _ _ hg
          simp only [Blk.gen] at h3
          rw [h2] at h3; cases h3
          obtain ⟨xs, h5, h6, h7⟩ := h4
          refine ⟨.int .i64 es.length, ?_, .int _ _⟩
          simp [Builtin.len_, ht, run_und hu, goInt, getObj, Sem.run, h5, h6]
      · cases h
    | chan id =>
      cases d <;> simp only [vlen, hu, reduceCtorEq] at h
      split at h
      · rename_i cp buf hg
        cases h
        cases ha with
        | chan _ b h1 h2 =>
          obtain ⟨rr, h3, h4⟩ := hW.live _ _ hg
          simp only [Blk.gen] at h3
          rw [h2] at h3; cases h3
          obtain ⟨xs, _, _, h5, h6⟩ := h4
          refine ⟨.int .i64 buf.length, ?_, .int _ _⟩
          have := h6.1
          simp at this
          simp [Builtin.len_, ht, run_und hu, goInt, getObj, Sem.run, h5, this]
      · cases h
    | _ => cases d <;> simp [vlen, hu] at h
theorem vfold_max : ∀ (r : List V) (R : List Value) (a : V) (A : Value) (v : V), VR ρ n a A → VRs ρ n r R → vfold vmax2 a r = some v → ∃ x, (R.foldlM Builtin.max2 A : Sem Value).run P w = .ok x w ∧ VR ρ n v x
  | [], R, a, A, v, ha, hr, h => by
    have : R = [] := List.eq_nil_of_length_eq_zero hr.1
    subst this
    simp [vfold] at h; subst h
    exact ⟨A, by simp, ha⟩
  | b :: r, R, a, A, v, ha, hr, h => by
    match R, hr with
    | B :: R, hr =>
      have hb : VR ρ n b B := hr.2 0 b B rfl rfl
      have hr' : VRs ρ n r R := hr.drop 1
      simp only [vfold] at h
      cases a with
      | int k x =>
        cases b with
        | int k' y =>
          simp only [vmax2] at h
          split at h
          · rename_i hk; subst hk
            obtain rfl := ha.int_inv; obtain rfl := hb.int_inv
            obtain ⟨z, hz, hv⟩ := vfold_max r R _ (.int k (if y > x then y else x)) v (.int _ _) hr' h
            exact ⟨z, by simp only [List.foldlM_cons, Sem.run_bind, Builtin.max2, Sem.run_pure, Result.andThen_ok, hz], hv⟩
          · cases h
        | _ => simp [vmax2] at h
      | _ => simp [vmax2] at h
theorem vfold_min : ∀ (r : List V) (R : List Value) (a : V) (A : Value) (v : V), VR ρ n a A → VRs ρ n r R → vfold vmin2 a r = some v → ∃ x, (R.foldlM Builtin.min2 A : Sem Value).run P w = .ok x w ∧ VR ρ n v x
  | [], R, a, A, v, ha, hr, h => by
    have : R = [] := List.eq_nil_of_length_eq_zero hr.1
    subst this
    simp [vfold] at h; subst h
    exact ⟨A, by simp, ha⟩
  | b :: r, R, a, A, v, ha, hr, h => by
    match R, hr with
    | B :: R, hr =>
      have hb : VR ρ n b B := hr.2 0 b B rfl rfl
      have hr' : VRs ρ n r R := hr.drop 1
      simp only [vfold] at h
      cases a with
      | int k x =>
        cases b with
        | int k' y =>
          simp only [vmin2] at h
          split at h
          · rename_i hk; subst hk
            obtain rfl := ha.int_inv; obtain rfl := hb.int_inv
            obtain ⟨z, hz, hv⟩ := vfold_min r R _ (.int k (if y < x then y else x)) v (.int _ _) hr' h
            exact ⟨z, by simp only [List.foldlM_cons, Sem.run_bind, Builtin.min2, Sem.run_pure, Result.andThen_ok, hz], hv⟩
          · cases h
        | _ => simp [vmin2] at h
      | _ => simp [vmin2] at h
theorem foldl_set (off : Nat) : ∀ (vs : List Value) (k : Nat) (A : Array Value), off + k + vs.length ≤ A.size →
    ((vs.zipIdx k).foldl (fun cs (p : Value × Nat) => cs.setIfInBounds (off + p.2) p.1) A).toList = A.toList.take (off + k) ++ vs ++ A.toList.drop (off + k + vs.length)
  | [], k, A, h => by simp
  | v :: vs, k, A, h => by
    simp only [List.length_cons] at h
    rw [List.zipIdx_cons, List.foldl_cons, foldl_set off vs (k + 1) _ (by simp; omega)]
    simp only [Array.toList_setIfInBounds]
    have hk : off + k < A.toList.length := by simp; omega
    rw [← Nat.add_assoc, List.take_succ_eq_append_getElem (by simp; omega)]
    simp only [List.getElem_set_self, List.append_assoc, List.cons_append, List.nil_append]
    rw [List.take_set_of_le (Nat.le_refl _)]
    congr 2
    rw [List.drop_set_of_lt (by omega)]
    simp only [List.length_cons]
    congr 2
    omega
theorem fill_ok {vplace place : Nat → Option (Nat × Nat)} (hpl : ∀ i r, vplace i = some r → place i = some r) : ∀ (parts : List (Nat × V)) (PARTS : List (Nat × Value)) (cells : List V) (CELLS : List Value) (cs : List V),
    VRs ρ n cells CELLS → PARTS.length = parts.length → (∀ (i : Nat) (x : Nat × V) (X : Nat × Value), parts[i]? = some x → PARTS[i]? = some X → X.1 = x.1 ∧ VR ρ n x.2 X.2) → vfill vplace cells parts = some cs →
    ∃ xs, Instr.fill place CELLS.toArray PARTS = some xs ∧ VRs ρ n cs xs.toList
  | [], PARTS, cells, CELLS, cs, hc, hl, hp, h => by
    have : PARTS = [] := List.eq_nil_of_length_eq_zero hl
    subst this
    simp [vfill] at h; subst h
    exact ⟨CELLS.toArray, rfl, by simpa using hc⟩
  | (i, v) :: rest, PARTS, cells, CELLS, cs, hc, hl, hp, h => by
    match PARTS, hl with
    | (i', V') :: REST, hl =>
      obtain ⟨e, hv⟩ := hp 0 (i, v) (i', V') rfl rfl
      simp only at e hv
      subst e
      simp only [vfill] at h
      split at h
      · rename_i off size vs hpl' hfl
        split at h
        · rename_i hc1
          have hvs := vflat_ok hv hfl
          have hVs : V'.cells.size = size := by have := hvs.1; simp at this; omega
          obtain ⟨xs, hx1, hx2⟩ := fill_ok hpl rest REST (vsplice cells off vs) (CELLS.take off ++ V'.cells.toList ++ CELLS.drop (off + V'.cells.toList.length)) cs
            (by rw [hvs.1]; exact ((hc.take off).append hvs).append (hc.drop _)) (by simpa using hl) (fun j x X e1 e2 => hp (j + 1) x X (by simpa using e1) (by simpa using e2)) h
          refine ⟨xs, ?_, hx2⟩
          simp only [Instr.fill, hpl _ _ hpl']
          have hcs : CELLS.toArray.size = cells.length := by simp [hc.1]
          have hno : ¬((decide (V'.cells.size ≠ size) || decide (off + V'.cells.size > CELLS.toArray.size)) = true) := by
            rw [hcs]
            have := hc1.2
            simp only [ne_eq, hVs, not_true_eq_false, decide_false, Bool.false_or, decide_eq_true_eq]
            omega
          rw [if_neg hno]
          rw [← hx1]
          congr 1
          apply Array.toList_inj.1
          rw [← Array.foldl_toList, Array.toList_zipIdx]
          have := foldl_set off V'.cells.toList 0 CELLS.toArray (by rw [hcs]; have := hc1.2; simp; omega)
          simp only [Nat.add_zero] at this
          rw [this]
        · cases h
      · cases h
end
end Go.Vf
set_option linter.unusedVariables false
set_option linter.unusedSimpArgs false
namespace Go.Vf
open Go.RowKit
section
variable {P : Program} {N n0 : Nat} {ρ : Rho} {E : Env} {G : Heap} {a : Act} {w : World} {n : Nat}
def QRun (P : Program) (ρ : Rho) (G : Heap) (w : World) (s : Sem Value) (v : V) : Prop :=
  ∃ x w' ρ', s.run P w = .ok x w' ∧ WRel ρ' G w' ∧ Rho.Le G.next ρ ρ' ∧ VR ρ' G.next v x
theorem QRun.same (hW : WRel ρ G w) {s : Sem Value} {v : V} (h : ∃ x, s.run P w = .ok x w ∧ VR ρ G.next v x) : QRun P ρ G w s v :=
  let ⟨x, h1, h2⟩ := h; ⟨x, w, ρ, h1, hW, Rho.Le.refl _ _, h2⟩
theorem CellsAt.alloc (w : World) (c : Array Value) (e : TypeId) (fz : Nat × Nat) : CellsAt (w.alloc (.cells c e fz)) w.heap.size 0 c.toList := fun i x h => by
  simp only [World.cell?, World.alloc, Array.getElem?_push_size, Nat.zero_add]
  simpa using h
theorem vbytes_nums : ∀ {cells : List V} {xs : List Value} {s : List UInt8}, VRs ρ n cells xs → vbytes cells = some s → ∃ ns : List Int, xs = ns.map (fun i => Value.int .u8 i) ∧ s = ns.map fun i => UInt8.ofNat i.toNat
  | [], xs, s, h, e => by
    have : xs = [] := List.eq_nil_of_length_eq_zero h.1
    simp [vbytes] at e; subst e; exact ⟨[], by simp [this], rfl⟩
  | c :: r, xs, s, h, e => by
    match xs, h with
    | x :: xs, h =>
      cases c with
      | int k i =>
        cases k <;> simp [vbytes] at e
        obtain ⟨l, e1, rfl⟩ := e
        have h0 : VR ρ n (.int .u8 i) x := h.2 0 _ _ rfl rfl
        obtain rfl := h0.int_inv
        obtain ⟨ns, h2, h3⟩ := vbytes_nums (h.drop 1) e1
        refine ⟨i :: ns, ?_, ?_⟩
        · simp at h2; simp [h2]
        · simp [h3]
      | _ => simp [vbytes] at e
theorem toBytes_run {src dst e : TypeId} (hs : P.underlying src = some (.slice e)) (he : P.underlying e = some (.int .u8)) (hd : P.underlying dst = some .string) {b o m cap : Nat} {cells : List V} {xs : List Value} {s : List UInt8}
    (hv : VRs ρ n cells xs) (hc : CellsAt w b o xs) (hm : cells.length = m) (h : vbytes cells = some s) : (convert src dst (.slice (some ⟨b, o, none⟩) m cap)).run P w = .ok (.string ⟨s.toArray⟩) w := by
  obtain ⟨ns, rfl, rfl⟩ := vbytes_nums hv h
  have hl : ns.length = m := by have := hv.1; simp at this; omega
  rw [run_convert_bytes_arg w src e hs he b o m cap ns hl (fun i hi => ?_) dst hd]
  · simp [strOfNums]
  · apply hc i
    simp [List.getD_eq_getElem?_getD, List.getElem?_eq_getElem (show i < ns.length by omega)]
theorem vconvert_ok (hW : WRel ρ G w) {src dst : TypeId} {u : V} {x : Value} {p : Prop} {v : V} (hu : VR ρ G.next u x) (h : vconvert P src dst G u = some (p, v)) (hp : p) : QRun P ρ G w (convert src dst x) v := by
  have tb : ∀ {e : TypeId}, tbyte P e = true → P.underlying e = some (.int .u8) := fun {e} h => by
    unfold tbyte at h
    split at h
    · assumption
    · cases h
  cases u with
  | int k i =>
    simp only [vconvert] at h
    split at h
    · rename_i k1 k2 h1 h2
      simp only [Option.some.injEq, Prod.mk.injEq] at h
      obtain ⟨rfl, rfl⟩ := h
      obtain rfl := hu.int_inv
      exact QRun.same hW ⟨_, by simp [convert, run_und h1, run_und h2, Conv.intToInt], .int _ _⟩
    · cases h
  | str s =>
    simp only [vconvert] at h
    obtain rfl := hu.str_inv
    split at h
    · rename_i h1 h2
      simp only [Option.some.injEq, Prod.mk.injEq] at h
      obtain ⟨rfl, rfl⟩ := h
      exact QRun.same hW ⟨_, by simp [convert, run_und h1, run_und h2], .str _⟩
    · rename_i e h1 h2
      split at h
      · rename_i hc
        simp only [Option.some.injEq, Prod.mk.injEq] at h
        obtain ⟨rfl, rfl⟩ := h
        have hb := tb hc.1
        have hrun := Lib.run_convert_string_bytes (P := P) w src dst e ⟨s.toArray⟩ h1 h2 hb
        have hbel : Below w.heap.size w (Lib.bytesWorld w e ⟨s.toArray⟩) := by
          refine ⟨?_, ?_, ?_, by rw [Lib.bytesWorld_size]; omega, fun k hk => Lib.bytesWorld_at_old _ _ _ _ hk⟩ <;> (simp [Lib.bytesWorld, World.freeze] <;> rfl)
        have hcells : CellsAt (Lib.bytesWorld w e ⟨s.toArray⟩) w.heap.size 0 (s.map fun b => Value.int .u8 (b.toNat : Int)) := fun i x hx => by
          simp only [List.getElem?_map, Option.map_eq_some_iff] at hx
          obtain ⟨c, hc1, rfl⟩ := hx
          have hi : i < s.length := by
            rcases Nat.lt_or_ge i s.length with h' | h'
            · exact h'
            · rw [List.getElem?_eq_none h'] at hc1; cases hc1
          rw [Nat.zero_add, Lib.bytesWorld_cell _ _ _ _ (by rw [size_mk]; exact hi)]
          simp [List.getD_eq_getElem?_getD, hc1]
        have hcap : s.length ≤ grownCap w s.length 0 e := by simp [grownCap, Question.cut]
        rw [size_mk] at hrun
        obtain ⟨h3, h4, h5⟩ := hW.newImm hbel (Nat.le_refl _) hcells
        refine ⟨_, _, _, hrun, h3, h4, ?_⟩
        refine .sl 1 s.length (s.map vbyte) _ _ _ _ ?_ (by simp) hcap h5 (by simp) fun (i : Nat) (v : V) (x : Value) e1 e2 => ?_
        · exact closedL_of fun v hv => by simp [vbyte] at hv; obtain ⟨_, _, rfl⟩ := hv; exact ⟨rfl, rfl⟩
        · simp only [List.getElem?_map] at e1 e2
          cases hi : s[i]? with
          | none => rw [hi] at e1; cases e1
          | some c => rw [hi] at e1 e2; simp at e1 e2; subst e1; subst e2; exact .int _ _
      · cases h
    · cases h
  | nilsl =>
    simp only [vconvert] at h
    split at h
    · rename_i e h1 h2
      split at h
      · rename_i hc
        simp only [Option.some.injEq, Prod.mk.injEq] at h
        obtain ⟨rfl, rfl⟩ := h
        obtain rfl : x = .slice none 0 0 := by cases hu; rfl
        exact QRun.same hW ⟨_, run_convert_bytes_nil w src e h1 (tb hc) 0 0 dst h2, (VR.str []).cast rfl⟩
      · cases h
    · cases h
  | sl sz m cells =>
    simp only [vconvert] at h
    split at h
    · rename_i e h1 h2
      split at h
      · rename_i hc
        split at h
        · rename_i heq; cases heq
        · rename_i m' cells' heq
          cases heq
          simp only [Option.map_eq_some_iff, Prod.mk.injEq] at h
          obtain ⟨s, hs, rfl, rfl⟩ := h
          obtain ⟨A, cap, rfl, hm, hsl⟩ := hu.sl_inv
          rcases hsl.place with rfl | ⟨b, o, xs, rfl, hi, hv⟩
          · simp [vbytes] at hs; subst hs
            have : m = 0 := by have := hsl.len; simp at this; exact this.symm
            subst this
            cases A with
            | none => exact QRun.same hW ⟨_, run_convert_bytes_nil w src e h1 (tb hc) 0 cap dst h2, (VR.str []).cast rfl⟩
            | some A =>
              refine QRun.same hW ⟨.string ⟨#[]⟩, ?_, (VR.str []).cast rfl⟩
              simp [convert, run_und h1, run_und h2, run_und (tb hc), Conv.bytesToString, loadCells, loadCellsFrom] <;> rfl
          · exact QRun.same hW ⟨_, toBytes_run h1 (tb hc) h2 hv (hW.cellsAt hi) (by have := hsl.len; omega) hs, .str _⟩
        · rename_i heq; cases heq
        · rename_i heq; cases heq
        · cases h
      · cases h
    · cases h
  | slc sz m cells =>
    simp only [vconvert] at h
    split at h
    · rename_i e h1 h2
      split at h
      · rename_i hc
        split at h
        · rename_i heq; cases heq
        · rename_i heq; cases heq
        · rename_i m' cells' heq
          cases heq
          simp only [Option.map_eq_some_iff, Prod.mk.injEq] at h
          obtain ⟨s, hs, rfl, rfl⟩ := h
          obtain ⟨A, rfl, hsl⟩ := hu.slc_inv
          rcases hsl.place with rfl | ⟨b, o, xs, rfl, hi, hv⟩
          · simp [vbytes] at hs; subst hs
            have : m = 0 := by have := hsl.len; simp at this; exact this.symm
            subst this
            cases A with
            | none => exact QRun.same hW ⟨_, run_convert_bytes_nil w src e h1 (tb hc) 0 0 dst h2, (VR.str []).cast rfl⟩
            | some A =>
              refine QRun.same hW ⟨.string ⟨#[]⟩, ?_, (VR.str []).cast rfl⟩
              simp [convert, run_und h1, run_und h2, run_und (tb hc), Conv.bytesToString, loadCells, loadCellsFrom] <;> rfl
          · exact QRun.same hW ⟨_, toBytes_run h1 (tb hc) h2 hv (hW.cellsAt hi) (by have := hsl.len; omega) hs, .str _⟩
        · rename_i heq; cases heq
        · cases h
      · cases h
    · cases h
  | arr sz id g off m =>
    simp only [vconvert] at h
    split at h
    · rename_i e h1 h2
      split at h
      · rename_i hc
        split at h
        · rename_i heq; cases heq
        · rename_i heq; cases heq
        · rename_i heq; cases heq
        · rename_i id' g' off' m' heq
          cases heq
          split at h
          · rename_i g2 cs hg
            split at h
            · rename_i heq; subst heq
              simp only [Option.map_eq_some_iff, Prod.mk.injEq] at h
              obtain ⟨s, hs, rfl, rfl⟩ := h
              cases hu with
              | arr _ _ _ _ _ b cap c k1 k2 k3 k4 =>
                obtain ⟨C, e', fz, h3, h4, h5, h6, h7, h8⟩ := hW.block hg k2
                have hv := (h6.drop off).take m
                have hc' := ((h7.take cs.length).drop off).take m
                rw [Nat.zero_add] at hc'
                exact QRun.same hW ⟨_, toBytes_run h1 (tb hc) h2 hv hc' (by simp; omega) hs, .str _⟩
              | arr0 _ _ _ A k1 k2 =>
                simp [vbytes] at hs; subst hs
                cases A with
                | none => exact QRun.same hW ⟨_, run_convert_bytes_nil w src e h1 (tb hc) 0 0 dst h2, (VR.str []).cast rfl⟩
                | some A =>
                  refine QRun.same hW ⟨.string ⟨#[]⟩, ?_, (VR.str []).cast rfl⟩
                  simp [convert, run_und h1, run_und h2, run_und (tb hc), Conv.bytesToString, loadCells, loadCellsFrom] <;> rfl
            · cases h
          · cases h
        · cases h
      · cases h
    · cases h
  | _ =>
    simp only [vconvert] at h
    split at h
    · split at h
      · cases h
      · cases h
    · cases h
end
end Go.Vf
set_option linter.unusedVariables false
set_option linter.unusedSimpArgs false
namespace Go.Vf
open Go.RowKit
section
variable {P : Program} {N n0 : Nat} {ρ : Rho} {E : Env} {G : Heap} {a : Act} {w : World} {n : Nat}
theorem tzero_inv {t : TypeId} {z : List V} (h : tzero P t = some z) : ∃ zv, (zeroValue t).run P w = .ok zv w ∧ VRs ρ n z zv.cells.toList := by
  unfold tzero at h
  split at h
  · rename_i i hi
    simp only [Option.map_eq_some_iff] at h
    obtain ⟨zv, hz, rfl⟩ := h
    refine ⟨zv, by simp [zeroValue, typeInfo, hi, hz], by simp, fun i v x e1 e2 => ?_⟩
    simp only [List.getElem?_map, e2, Option.map_some, Option.some.injEq] at e1
    subst e1
    exact vconst1_ok ρ n x
  · cases h
theorem vreps_len (k : Nat) (z : List V) : (vreps k z).length = k * z.length := by
  induction k with
  | zero => simp [vreps]
  | succ k ih => simp [vreps, ih, Nat.add_mul, Nat.add_comm]
theorem vreps_get (k : Nat) (z : List V) (i : Nat) (hi : i < k * z.length) : (vreps k z)[i]? = z[i % z.length]? := by
  induction k generalizing i with
  | zero => simp at hi
  | succ k ih =>
    simp only [vreps, List.getElem?_append]
    split
    · rename_i h; rw [Nat.mod_eq_of_lt h]
    · rename_i h
      rw [ih (i - z.length) (by rw [Nat.add_mul] at hi; omega)]
      congr 1
      rw [← Nat.mod_eq_sub_mod (by omega)]
theorem reps_ok {z : List V} {Z : Array Value} (hz : VRs ρ n z Z.toList) (k : Nat) (hpos : 0 < z.length) : VRs ρ n (vreps k z) ((Array.range (k * z.length)).map (Z[· % Z.size]!)).toList := by
  have hzs : Z.size = z.length := by have := hz.1; simpa using this
  refine ⟨by simp [vreps_len], fun i v x e1 e2 => ?_⟩
  have hi : i < k * z.length := by
    rcases Nat.lt_or_ge i (k * z.length) with h | h
    · exact h
    · rw [List.getElem?_eq_none (by rw [vreps_len]; exact h)] at e1; cases e1
  rw [vreps_get k z i hi] at e1
  simp [hi] at e2
  subst e2
  have hm : i % z.length < z.length := Nat.mod_lt _ hpos
  refine hz.2 (i % z.length) v _ e1 ?_
  rw [hzs]
  simp [hzs, hm, getElem!_pos]
theorem parts_map (h : SRel N n0 ρ E G a w) (parts : List (Nat × Operand)) (hf : (parts.map (·.2)).all (Operand.fits N) = true) :
    (parts.map fun p => (p.1, a.eval p.2)).length = (parts.map fun p => (p.1, vev E p.2)).length ∧
    ∀ (i : Nat) (x : Nat × V) (X : Nat × Value), (parts.map fun p => (p.1, vev E p.2))[i]? = some x → (parts.map fun p => (p.1, a.eval p.2))[i]? = some X → X.1 = x.1 ∧ VR ρ G.next x.2 X.2 := by
  refine ⟨by simp, fun i x X e1 e2 => ?_⟩
  simp only [List.getElem?_map, Option.map_eq_some_iff] at e1 e2
  obtain ⟨p, hp, rfl⟩ := e1
  obtain ⟨q, hq, rfl⟩ := e2
  rw [hp] at hq; cases hq
  refine ⟨rfl, h.ev ?_⟩
  simp only [List.all_eq_true, List.mem_map, forall_exists_index, and_imp] at hf
  exact hf p.2 p (List.mem_of_getElem? hp) rfl
theorem places_run : ∀ (l : List Field), (∀ f, f ∈ l → (P.info? f.type).isSome = true) → (l.mapM (fun f => do let s ← sizeOf f.type; pure (f.offset, s)) : Sem (List (Nat × Nat))).run P w = .ok (l.map fun f => (f.offset, P.cellsOf f.type)) w
  | [], _ => rfl
  | f :: r, hi => by
    rw [List.mapM_cons]
    simp only [Sem.run_bind, run_sizeOf (hi f (by simp)), Result.andThen_ok, Sem.run_pure, places_run r fun f hf => hi f (by simp [hf]), List.map_cons]
theorem build_ok (hs : SRel N n0 ρ E G a w) {t : TypeId} {parts : List (Nat × Operand)} (hf : (parts.map (·.2)).all (Operand.fits N) = true) {z cs : List V}
    (hz : tstruct P t = some z) (h : vfill (tplaces P t) z (parts.map fun p => (p.1, vev E p.2)) = some cs) : ∃ x, (Instr.build t (parts.map fun p => (p.1, a.eval p.2)).toArray).run P w = .ok x w ∧ VR ρ G.next (.agg cs) x := by
  unfold tstruct at hz
  split at hz
  · rename_i fs hu
    split at hz
    · rename_i hall
      obtain ⟨zv, h1, h2⟩ := tzero_inv (ρ := ρ) (n := G.next) (w := w) hz
      simp only [List.all_eq_true] at hall
      have hm := places_run (P := P) (w := w) fs.toList hall
      have hm' : (fs.mapM (fun f => do let s ← sizeOf f.type; pure (f.offset, s)) : Sem (Array (Nat × Nat))).run P w = .ok (fs.map fun f => (f.offset, P.cellsOf f.type)) w := by
        rw [Array.mapM_eq_mapM_toList]
        simp only [Sem.run_map, hm, Result.andThen_ok]
        congr 1
        apply Array.toList_inj.1
        simp
      obtain ⟨hl, hp⟩ := parts_map hs parts hf
      obtain ⟨xs, hx1, hx2⟩ := fill_ok (vplace := tplaces P t) (place := fun i => (fs.map fun f => (f.offset, P.cellsOf f.type))[i]?) (fun i r e => by
        simp only [tplaces, Option.map_eq_some_iff] at e
        obtain ⟨⟨o, sz, b⟩, e1, rfl⟩ := e
        obtain ⟨fs', fd, k1, k2, rfl, rfl, _, _⟩ := tfield_inv e1
        rw [hu] at k1; cases k1
        simp [k2]) _ _ z zv.cells.toList cs h2 hl hp h
      refine ⟨.agg xs, ?_, hx2.agg.cast (by simp)⟩
      simp only [Instr.build, Sem.run_bind, h1, run_und hu, Result.andThen_ok, hm', List.toList_toArray]
      have : zv.cells = zv.cells.toList.toArray := by simp
      rw [this, hx1]
      rfl
    · cases hz
  · cases hz
theorem vfill_len {place : Nat → Option (Nat × Nat)} : ∀ {parts : List (Nat × V)} {cells cs : List V}, vfill place cells parts = some cs → cs.length = cells.length
  | [], cells, cs, h => by simp [vfill] at h; rw [h]
  | (i, v) :: rest, cells, cs, h => by
    simp only [vfill] at h
    split at h
    · split at h
      · rename_i hc
        rw [vfill_len h]
        simp only [vsplice, List.length_append, List.length_take, List.length_drop]
        omega
      · cases h
    · cases h
theorem buildSlice_ok (hs : SRel N n0 ρ E G a w) {t e : TypeId} {len : Nat} {parts : List (Nat × Operand)} (hf : (parts.map (·.2)).all (Operand.fits N) = true) {z cs : List V}
    (ht : telem P t = some e) (hz : tzero P e = some z) (hc1 : len * P.cellsOf e ≤ 16777216) (hc2 : z.length = P.cellsOf e) (hc3 : 0 < P.cellsOf e) (hi : (P.info? e).isSome = true)
    (h : vfill (fun i => some (i * P.cellsOf e, P.cellsOf e)) (vreps len z) (parts.map fun p => (p.1, vev E p.2)) = some cs) :
    ∃ xs, (Instr.buildSlice t len (parts.map fun p => (p.1, a.eval p.2)).toArray).run P w = .ok (.slice (some ⟨w.heap.size, 0, none⟩) len len) (w.alloc (.cells xs e)) ∧ VRs ρ G.next cs xs.toList := by
  have hu := telem_inv ht
  obtain ⟨zv, h1, h2⟩ := tzero_inv (ρ := ρ) (n := G.next) (w := w) hz
  have hzs : zv.cells.size = z.length := by have := h2.1; simpa using this
  obtain ⟨hl, hp⟩ := parts_map hs parts hf
  have hr := reps_ok h2 len (by omega)
  rw [hc2] at hr
  obtain ⟨xs, hx1, hx2⟩ := fill_ok (fun i r e => e) _ _ _ _ cs hr hl hp h
  refine ⟨xs, ?_, hx2⟩
  simp only [Instr.buildSlice, Sem.run_bind, run_und hu, Result.andThen_ok, run_sizeOf hi]
  rw [if_neg (by omega)]
  by_cases h0 : len * P.cellsOf e = 0
  · rw [if_pos h0]
    simp only [Sem.run_bind, Sem.run_pure, Result.andThen_ok]
    have e0 : ((Array.range (len * P.cellsOf e)).map ((#[] : Array Value)[· % (#[] : Array Value).size]!)) = (((Array.range (len * P.cellsOf e)).map (zv.cells[· % zv.cells.size]!)).toList).toArray := by
      rw [h0]; simp
    rw [e0, hx1]
    rfl
  · rw [if_neg h0]
    simp only [Sem.run_bind, h1, Sem.run_pure, Result.andThen_ok]
    have e0 : ((Array.range (len * P.cellsOf e)).map (zv.cells[· % zv.cells.size]!)) = (((Array.range (len * P.cellsOf e)).map (zv.cells[· % zv.cells.size]!)).toList).toArray := Array.toArray_toList.symm
    rw [e0, hx1]
    rfl
def Op.fits (N : Nat) (op : Op) : Bool := op.operands.toList.all (Operand.fits N)
theorem vq_ok (hs : SRel N n0 ρ E G a w) {o : Oper} (hf : Op.fits N o.op = true) {p : Prop} {v : V} (h : vq P E G o.op = some (p, v)) (hp : p) :
    ∃ x w' ρ', (execOp a.eval o).run P w = .ok (.value x) w' ∧ WRel ρ' G w' ∧ Rho.Le G.next ρ ρ' ∧ VR ρ' G.next v x := by
  obtain ⟨dst, op, type, pos, after, guard⟩ := o
  have hW := hs.world
  have of : ∀ {s : Sem Value} {v : V}, QRun P ρ G w s v → ∃ x w' ρ', (do pure (Next.value (← s)) : Sem Next).run P w = .ok (.value x) w' ∧ WRel ρ' G w' ∧ Rho.Le G.next ρ ρ' ∧ VR ρ' G.next v x :=
    fun {s v} ⟨x, w', ρ', h1, h2, h3, h4⟩ => ⟨x, w', ρ', by simp only [Sem.run_bind, h1, Result.andThen_ok, Sem.run_pure], h2, h3, h4⟩
  have same : ∀ {s : Sem Value} {v : V}, (∃ x, s.run P w = .ok x w ∧ VR ρ G.next v x) → ∃ x w' ρ', (do pure (Next.value (← s)) : Sem Next).run P w = .ok (.value x) w' ∧ WRel ρ' G w' ∧ Rho.Le G.next ρ ρ' ∧ VR ρ' G.next v x :=
    fun h => of (QRun.same hW h)
  have one : ∀ {x : Operand}, Operand.fits N x = true → VR ρ G.next (vev E x) (a.eval x) := fun hx => hs.ev hx
  have opt : ∀ {x : Option Operand}, x.toList.all (Operand.fits N) = true → OptR ρ G.next (x.map (vev E)) (x.map a.eval) := fun {x} hx => by
    cases x with
    | none => exact trivial
    | some x => exact one (by simpa using hx)
  unfold Op.fits at hf
  simp only at h hf
  cases op <;> simp only [vq, reduceCtorEq] at h <;> simp only [Op.operands] at hf <;> simp only [execOp]
  case move x =>
    simp only [Option.some.injEq, Prod.mk.injEq] at h
    obtain ⟨rfl, rfl⟩ := h
    exact ⟨_, w, ρ, rfl, hW, Rho.Le.refl _ _, one (by simpa using hf)⟩
  case assign x =>
    simp only [Option.some.injEq, Prod.mk.injEq] at h
    obtain ⟨rfl, rfl⟩ := h
    exact ⟨_, w, ρ, rfl, hW, Rho.Le.refl _ _, one (by simpa using hf)⟩
  case pick c x y =>
    simp only [List.all_cons, List.all_nil, Bool.and_true, Bool.and_eq_true] at hf
    split at h
    · rename_i t ht
      simp only [Option.some.injEq, Prod.mk.injEq] at h
      obtain ⟨rfl, rfl⟩ := h
      have hc := one hf.1
      rw [ht] at hc
      have hcb := hc.bool_inv
      refine ⟨_, w, ρ, by simp only [hcb, asBool, Sem.run_bind, Sem.run_pure, Result.andThen_ok]; rfl, hW, Rho.Le.refl _ _, ?_⟩
      have hx := one hf.2.1
      have hy := one hf.2.2
      unfold vite
      split
      · rename_i b1 b2 e1 e2
        rw [e1] at hx; rw [e2] at hy
        rw [hx.bool_inv, hy.bool_inv]
        cases t <;> exact .bool _
      · cases t
        · exact hy
        · exact hx
    · cases h
  case build t parts =>
    split at h
    · rename_i z hz
      simp only [Option.map_eq_some_iff, Prod.mk.injEq] at h
      obtain ⟨cs, h1, rfl, rfl⟩ := h
      obtain ⟨x, h2, h3⟩ := build_ok hs (by simpa using hf) hz h1
      refine same ⟨x, ?_, h3⟩
      have : (parts.map fun (p : Nat × Operand) => (p.1, a.eval p.2)) = (parts.toList.map fun p => (p.1, a.eval p.2)).toArray := by
        apply Array.toList_inj.1; simp
      rw [← h2, ← this]
    · cases h
  case buildSlice t len parts =>
    split at h
    · rename_i e ht
      split at h
      · rename_i z hz
        split at h
        · rename_i hc
          simp only [Option.bind_eq_some_iff] at h
          obtain ⟨cs, h1, h2⟩ := h
          split at h2
          · rename_i hcl
            simp only [Option.some.injEq, Prod.mk.injEq] at h2
            obtain ⟨rfl, rfl⟩ := h2
            have hinf : (P.info? e).isSome = true := by
              unfold tzero at hz
              split at hz
              · rename_i i hi; simp [hi]
              · cases hz
            obtain ⟨xs, h3, h4⟩ := buildSlice_ok hs (by simpa using hf) ht hz hc.1 hc.2.1 hc.2.2 hinf h1
            have hb : Below w.heap.size w (w.alloc (.cells xs e)) := (Below.refl _ _).alloc (Nat.le_refl _) _
            obtain ⟨k1, k2, k3⟩ := hW.newImm hb (Nat.le_refl _) (CellsAt.alloc w xs e (0, 0))
            have : (parts.map fun (p : Nat × Operand) => (p.1, a.eval p.2)) = (parts.toList.map fun p => (p.1, a.eval p.2)).toArray := by
              apply Array.toList_inj.1; simp
            have hlen : cs.length = len * P.cellsOf e := by rw [vfill_len h1, vreps_len, hc.2.1]
            refine of ⟨_, _, _, by rw [this]; exact h3, k1, k2, ?_⟩
            have h4' := h4.le k2 (Nat.le_refl _)
            exact .slc _ _ _ _ _ _ hcl hlen k3 h4'.1 h4'.2
          · cases h2
        · cases h
      · cases h
    · cases h
  case load t x =>
    exact same (vload_ok hW (one (by simpa using hf)) h hp)
  case nilCheck x =>
    have hx := one (x := x) (by simpa using hf)
    split at h
    · rename_i id g off hv
      simp only [Option.some.injEq, Prod.mk.injEq] at h
      obtain ⟨rfl, rfl⟩ := h
      rw [hv] at hx
      generalize a.eval x = X at hx ⊢
      cases hx with
      | ptr _ _ _ b cap h1 h2 => exact ⟨_, w, ρ, rfl, hW, Rho.Le.refl _ _, .ptr _ _ _ b cap h1 h2⟩
    · rename_i cells off hv
      simp only [Option.some.injEq, Prod.mk.injEq] at h
      obtain ⟨rfl, rfl⟩ := h
      rw [hv] at hx
      generalize a.eval x = X at hx ⊢
      cases hx with
      | iptr _ _ xs b o h1 h2 h3 h4 => exact ⟨_, w, ρ, rfl, hW, Rho.Le.refl _ _, .iptr _ _ xs b o h1 h2 h3 h4⟩
    · rename_i f c1 c2 hv
      simp only [Option.some.injEq, Prod.mk.injEq] at h
      obtain ⟨rfl, rfl⟩ := h
      rw [hv] at hx
      generalize a.eval x = X at hx ⊢
      cases hx with
      | func _ _ _ xs ys h1 h2 h3 h4 => exact ⟨_, w, ρ, rfl, hW, Rho.Le.refl _ _, .func _ _ _ xs ys h1 h2 h3 h4⟩
    · cases h
  case binOp op t x y yt =>
    simp only [List.all_cons, List.all_nil, Bool.and_true, Bool.and_eq_true] at hf
    have hx := one hf.1
    have hy := one hf.2
    revert h hx hy
    generalize vev E x = u
    generalize vev E y = u'
    generalize a.eval x = X
    generalize a.eval y = Y
    intro h hx hy
    have fin : ∀ {z : Value} {r : V}, (eqGuard op t x y X Y).run P w = .ok () w → (binOp op t X Y).run P w = .ok z w → VR ρ G.next r z →
        ∃ x_1 w' ρ', (do pure (Next.value (← (do eqGuard op t x y X Y; binOp op t X Y))) : Sem Next).run P w = .ok (.value x_1) w' ∧ WRel ρ' G w' ∧ Rho.Le G.next ρ ρ' ∧ VR ρ' G.next r x_1 :=
      fun {z r} h1 h2 h3 => ⟨z, w, ρ, by simp only [Sem.run_bind, h1, h2, Result.andThen_ok, Sem.run_pure], hW, Rho.Le.refl _ _, h3⟩
    by_cases hint : ∃ k i k' j, u = .int k i ∧ u' = .int k' j
    · obtain ⟨k, i, k', j, rfl, rfl⟩ := hint
      obtain rfl := hx.int_inv; obtain rfl := hy.int_inv
      obtain ⟨z, h1, h2⟩ := vbin_int (P := P) (ρ := ρ) (w := w) h hp
      exact fin (eqGuard_int _ _ _ _ _ _ _ _) h1 (h2 _)
    by_cases hstr : ∃ i j, u = .str i ∧ u' = .str j
    · obtain ⟨i, j, rfl, rfl⟩ := hstr
      obtain rfl := hx.str_inv; obtain rfl := hy.str_inv
      obtain ⟨z, h1, h2⟩ := vbin_str (P := P) (ρ := ρ) (w := w) h hp
      exact fin (eqGuard_str _ _ _ _ _ _) h1 (h2 _)
    have heq : (op = .eql ∨ op = .neq) ∧ ∃ r, veq P t (isConst x) (isConst y) u u' = some r ∧ v = .bool (if op = .eql then r else !r) := by
      unfold vbin at h
      split at h
      · exact absurd ⟨_, _, _, _, rfl, rfl⟩ hint
      · exact absurd ⟨_, _, _, _, rfl, rfl⟩ hint
      · exact absurd ⟨_, _, _, _, rfl, rfl⟩ hint
      · exact absurd ⟨_, _, rfl, rfl⟩ hstr
      · simp only [Option.map_eq_some_iff, Prod.mk.injEq] at h
        obtain ⟨r, h1, _, rfl⟩ := h
        exact ⟨.inl rfl, r, h1, by simp⟩
      · simp only [Option.map_eq_some_iff, Prod.mk.injEq] at h
        obtain ⟨r, h1, _, rfl⟩ := h
        exact ⟨.inr rfl, r, h1, by simp⟩
      · cases h
    obtain ⟨hop, r, h1, rfl⟩ := heq
    obtain ⟨g1, g2, g3⟩ := veq_ok (P := P) (ρ := ρ) (w := w) h1 hx hy
    rcases hop with rfl | rfl
    · exact fin (g1 _) g2 (.bool _)
    · exact fin (g1 _) g3 (.bool _)
  case unOp op t x =>
    have hx := one (x := x) (by simpa using hf)
    revert h hx
    generalize vev E x = u
    generalize a.eval x = X
    intro h hx
    refine same ?_
    unfold vun at h
    split at h
    · obtain rfl := hx.int_inv
      split at h
      · simp only [Option.some.injEq, Prod.mk.injEq] at h
        obtain ⟨rfl, rfl⟩ := h
        exact ⟨_, by simp [Op.unary, Op.intArith], .int _ _⟩
      · simp only [Option.some.injEq, Prod.mk.injEq] at h
        obtain ⟨rfl, rfl⟩ := h
        exact ⟨_, by simp only [Op.unary, Op.intBits]; rfl, .int _ _⟩
      · cases h
    · obtain rfl := hx.bool_inv
      split at h
      · simp only [Option.some.injEq, Prod.mk.injEq] at h
        obtain ⟨rfl, rfl⟩ := h
        exact ⟨_, by simp [Op.unary], .bool _⟩
      · cases h
    · cases h
  case convert src dst x =>
    exact of (vconvert_ok hW (one (by simpa using hf)) h hp)
  case makeInterface t x =>
    have hx := one (x := x) (by simpa using hf)
    split at h
    · cases h
    · rename_i d hd hu
      simp only [Option.some.injEq, Prod.mk.injEq] at h
      obtain ⟨rfl, rfl⟩ := h
      refine same ⟨.iface t (a.eval x), ?_, .iface _ _ _ hx⟩
      simp only [Instr.makeInterface, Sem.run_bind, run_und hu, Result.andThen_ok]
      cases d with
      | interface ms => exact absurd rfl (hd ms)
      | _ => rfl
    · cases h
  case makeFunc fn b c =>
    simp only [Option.some.injEq, Prod.mk.injEq] at h
    obtain ⟨rfl, rfl⟩ := h
    simp only [Array.toList_append, List.all_append, Bool.and_eq_true] at hf
    refine same ⟨_, rfl, ?_⟩
    have h1 := hs.evs hf.1
    have h2 := hs.evs hf.2
    refine (VR.func fn _ _ _ _ h1.1 h2.1 h1.2 h2.2).cast ?_
    congr 1 <;> (apply Array.toList_inj.1; simp)
  case slice t x lo hi mx =>
    simp only [Array.toList_append, List.all_append, Bool.and_eq_true, Option.toList_toArray] at hf
    exact same (vslice_ok (one (by simpa using hf.1.1.1)) (opt hf.1.1.2) (opt hf.1.2) (opt hf.2) h hp)
  case fieldAddr t x f =>
    exact same (vfieldAddr_ok (one (by simpa using hf)) h hp)
  case field t x f =>
    exact same (vfield_ok (one (by simpa using hf)) h hp)
  case indexAddr t x i =>
    simp only [List.all_cons, List.all_nil, Bool.and_true, Bool.and_eq_true] at hf
    exact same (vindexAddr_ok (one hf.1) (one hf.2) h hp)
  case index t x i =>
    simp only [List.all_cons, List.all_nil, Bool.and_true, Bool.and_eq_true] at hf
    exact same (vindex_ok (one hf.1) (one hf.2) h hp)
  case extract x i =>
    have hx := one (x := x) (by simpa using hf)
    refine same ?_
    revert h hx
    generalize vev E x = u
    generalize a.eval x = X
    intro h hx
    cases u <;> simp only [vextract, reduceCtorEq] at h
    rename_i vs
    obtain ⟨xs, rfl, hxs⟩ := hx.tup_inv
    split at h
    · rename_i u hu
      simp only [Option.some.injEq, Prod.mk.injEq] at h
      obtain ⟨rfl, rfl⟩ := h
      obtain ⟨y, h1, h2⟩ := hxs.get hu
      exact ⟨y, by simp [Instr.extract, h1], h2⟩
    · cases h
  case call c =>
    obtain ⟨callee, args, ts⟩ := c
    cases callee with
    | builtin b =>
      simp only at h
      simp only [Call.operands, Array.empty_append] at hf
      have hargs := hs.evs hf
      have hmap : (args.map a.eval) = (args.toList.map a.eval).toArray := by apply Array.toList_inj.1; simp
      simp only [resolve, Sem.run_bind, Sem.run_pure, Result.andThen_ok, invoke, hmap]
      unfold vbuiltinQ at h
      split at h
      · rename_i t tr x xr e1 e2
        rw [e2] at hargs
        match hX : args.toList.map a.eval, hargs with
        | X :: XR, hargs =>
          obtain ⟨y, h1, h2⟩ := vlen_ok (P := P) (ts := ts) (ty := type) (r := XR) hW (t := t) (by
            have := congrArg (fun l : List TypeId => l[0]?) e1
            simpa using this) (hargs.2 0 x X rfl rfl) h
          exact ⟨y, w, ρ, by simp only [builtin, Sem.run_bind, h1, Result.andThen_ok, Sem.run_pure], hW, Rho.Le.refl _ _, h2⟩
      · rename_i x xr e2
        rw [e2] at hargs
        simp only [Option.map_eq_some_iff, Prod.mk.injEq] at h
        obtain ⟨u, h1, _, rfl⟩ := h
        match hX : args.toList.map a.eval, hargs with
        | X :: XR, hargs =>
          obtain ⟨y, h1, h2⟩ := vfold_max (P := P) (w := w) xr XR x X u (hargs.2 0 x X rfl rfl) (hargs.drop 1) h1
          exact ⟨y, w, ρ, by simp only [builtin, Builtin.max_, Sem.run_bind, h1, Result.andThen_ok, Sem.run_pure], hW, Rho.Le.refl _ _, h2⟩
      · rename_i x xr e2
        rw [e2] at hargs
        simp only [Option.map_eq_some_iff, Prod.mk.injEq] at h
        obtain ⟨u, h1, _, rfl⟩ := h
        match hX : args.toList.map a.eval, hargs with
        | X :: XR, hargs =>
          obtain ⟨y, h1, h2⟩ := vfold_min (P := P) (w := w) xr XR x X u (hargs.2 0 x X rfl rfl) (hargs.drop 1) h1
          exact ⟨y, w, ρ, by simp only [builtin, Builtin.min_, Sem.run_bind, h1, Result.andThen_ok, Sem.run_pure], hW, Rho.Le.refl _ _, h2⟩
      · cases h
    | value f => simp at h
    | invoke r m => simp at h
end
end Go.Vf
