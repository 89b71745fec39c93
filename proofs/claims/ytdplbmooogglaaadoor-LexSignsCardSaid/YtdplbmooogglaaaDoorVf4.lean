/- The quiet operations, one by one: lengths, conversions, what is built; all of them together. -/
import Derived.Test.YtdplbmooogglaaaDoorVf3
set_option linter.unusedVariables false
set_option linter.unusedSimpArgs false
namespace Go.Vf
open Go.RowKit

section
variable {P : Program} {ρ : Rho} {G : Heap} {w : World} {n : Nat}

/-- Cells of a block that nothing names become immutable. -/
theorem WRel.lay0 (h : WRel ρ G w) {b : Nat} {c : List Value} (hb : ∀ id blk cap, G.get id = some blk → ρ.blk id blk.gen ≠ some (.at b cap)) (hno : ∀ o, ρ.imm b o = none)
    (hc : CellsAt w b 0 c) : WRel (ρ.lay b c) G w := by
  have hle := Rho.lay_le (n := G.next) ρ b c hno
  refine ⟨h.met, h.below, ?_, h.lt, h.wf, h.late, ?_, ?_, h.inj⟩
  · intro b' o x e
    simp only [Rho.lay] at e
    split at e
    · rename_i hb'; subst hb'; have := hc o x e; rwa [Nat.zero_add] at this
    · exact h.imm b' o x e
  · intro i bk e
    obtain ⟨r, h1, h2⟩ := h.live i bk e
    exact ⟨r, h1, h2.le hle (Nat.le_refl _)⟩
  · intro i bk b2 cap2 e e2
    obtain ⟨h1, h2⟩ := h.apart _ _ _ _ e e2
    refine ⟨h1, fun o => ?_⟩
    simp only [Rho.lay]
    split
    · rename_i hb'; subst hb'; exact absurd e2 (hb i bk cap2 e)
    · exact h2 o

/-- A new block of cells that are immutable from the start. -/
theorem WRel.newImm (h : WRel ρ G w) {w' : World} (hb : Below w.heap.size w w') {b : Nat} (hbs : w.heap.size ≤ b) {xs : List Value} (hc : CellsAt w' b 0 xs) :
    WRel (ρ.lay b xs) G w' ∧ Rho.Le G.next ρ (ρ.lay b xs) ∧ IsImm (ρ.lay b xs) b 0 xs := by
  have hno : ∀ o, ρ.imm b o = none := fun o => by
    cases ho : ρ.imm b o with
    | none => rfl
    | some x => have := cell_block_lt (h.imm b o x ho); simp at this; omega
  refine ⟨(h.grow hb).lay0 (fun id blk cap e e2 => ?_) hno hc, Rho.lay_le ρ b xs hno, fun i x e => by simp [Rho.lay, e]⟩
  obtain ⟨r, h1, h2⟩ := h.live id blk e
  rw [e2] at h1; cases h1
  have := h2.lt; omega

theorem vlen_ok (hW : WRel ρ G w) {t : TypeId} {ts : Array TypeId} {ty : TypeId} {a : V} {A : Value} {r : List Value} {p : Prop} {v : V} (ht : ts[0]? = some t) (ha : VR ρ G.next a A) (h : vlen P t G a = some (p, v)) :
    ∃ x, (Builtin.len_ ts ty (A :: r).toArray).run P w = .ok x w ∧ VR ρ G.next v x := by
  have sl : ∀ {e : TypeId} {A' : Option Addr} {m c : Nat}, P.underlying t = some (.slice e) → (Builtin.len_ ts ty (.slice A' m c :: r).toArray).run P w = .ok (.int .i64 m) w := fun {e A' m c} hu => by
    simp [Builtin.len_, ht, run_und hu, goInt]
  cases hu : P.underlying t with
  | none => cases a <;> simp [vlen, hu] at h
  | some d =>
    cases a with
    | str s =>
      cases d <;> simp [vlen, hu] at h
      obtain ⟨_, rfl⟩ := h
      obtain rfl := ha.str_inv
      exact ⟨.int .i64 s.length, by simp [Builtin.len_, ht, run_und hu, goInt, size_mk], .int _ _⟩
    | nilsl =>
      cases d <;> simp [vlen, hu] at h
      obtain ⟨_, rfl⟩ := h
      cases ha; exact ⟨_, sl hu, .int _ _⟩
    | sl sz m cells =>
      cases d <;> simp [vlen, hu] at h
      obtain ⟨_, rfl⟩ := h
      obtain ⟨A', cap, rfl, _, _⟩ := ha.sl_inv; exact ⟨_, sl hu, .int _ _⟩
    | slc sz m cells =>
      cases d <;> simp [vlen, hu] at h
      obtain ⟨_, rfl⟩ := h
      obtain ⟨A', rfl, _⟩ := ha.slc_inv; exact ⟨_, sl hu, .int _ _⟩
    | arr sz id g off m =>
      cases d <;> simp [vlen, hu] at h
      obtain ⟨_, rfl⟩ := h
      cases ha <;> exact ⟨_, sl hu, .int _ _⟩
    | nilmap =>
      cases d <;> simp [vlen, hu] at h
      obtain ⟨_, rfl⟩ := h
      cases ha; exact ⟨.int .i64 0, by simp [Builtin.len_, ht, run_und hu, goInt], .int _ _⟩
    | map id =>
      cases d <;> simp only [vlen, hu, reduceCtorEq] at h
      split at h
      · rename_i es cl hg
        cases h
        cases ha with
        | map _ b h1 h2 =>
          obtain ⟨rr, h3, h4⟩ := hW.live _ _ hg
          simp only [Blk.gen] at h3
          rw [h2] at h3; cases h3
          obtain ⟨xs, h5, h6, h7⟩ := h4
          refine ⟨.int .i64 es.length, ?_, .int _ _⟩
          simp [Builtin.len_, ht, run_und hu, goInt, getObj, Sem.run, h5, h6]
      · cases h
    | chan id =>
      cases d <;> simp only [vlen, hu, reduceCtorEq] at h
      split at h
      · rename_i cp buf hg
        cases h
        cases ha with
        | chan _ b h1 h2 =>
          obtain ⟨rr, h3, h4⟩ := hW.live _ _ hg
          simp only [Blk.gen] at h3
          rw [h2] at h3; cases h3
          obtain ⟨xs, _, _, h5, h6⟩ := h4
          refine ⟨.int .i64 buf.length, ?_, .int _ _⟩
          have := h6.1
          simp at this
          simp [Builtin.len_, ht, run_und hu, goInt, getObj, Sem.run, h5, this]
      · cases h
    | _ => cases d <;> simp [vlen, hu] at h

theorem vfold_max : ∀ (r : List V) (R : List Value) (a : V) (A : Value) (v : V), VR ρ n a A → VRs ρ n r R → vfold vmax2 a r = some v → ∃ x, (R.foldlM Builtin.max2 A : Sem Value).run P w = .ok x w ∧ VR ρ n v x
  | [], R, a, A, v, ha, hr, h => by
    have : R = [] := List.eq_nil_of_length_eq_zero hr.1
    subst this
    simp [vfold] at h; subst h
    exact ⟨A, by simp, ha⟩
  | b :: r, R, a, A, v, ha, hr, h => by
    match R, hr with
    | B :: R, hr =>
      have hb : VR ρ n b B := hr.2 0 b B rfl rfl
      have hr' : VRs ρ n r R := hr.drop 1
      simp only [vfold] at h
      cases a with
      | int k x =>
        cases b with
        | int k' y =>
          simp only [vmax2] at h
          split at h
          · rename_i hk; subst hk
            obtain rfl := ha.int_inv; obtain rfl := hb.int_inv
            obtain ⟨z, hz, hv⟩ := vfold_max r R _ (.int k (if y > x then y else x)) v (.int _ _) hr' h
            exact ⟨z, by simp only [List.foldlM_cons, Sem.run_bind, Builtin.max2, Sem.run_pure, Result.andThen_ok, hz], hv⟩
          · cases h
        | _ => simp [vmax2] at h
      | _ => simp [vmax2] at h
theorem vfold_min : ∀ (r : List V) (R : List Value) (a : V) (A : Value) (v : V), VR ρ n a A → VRs ρ n r R → vfold vmin2 a r = some v → ∃ x, (R.foldlM Builtin.min2 A : Sem Value).run P w = .ok x w ∧ VR ρ n v x
  | [], R, a, A, v, ha, hr, h => by
    have : R = [] := List.eq_nil_of_length_eq_zero hr.1
    subst this
    simp [vfold] at h; subst h
    exact ⟨A, by simp, ha⟩
  | b :: r, R, a, A, v, ha, hr, h => by
    match R, hr with
    | B :: R, hr =>
      have hb : VR ρ n b B := hr.2 0 b B rfl rfl
      have hr' : VRs ρ n r R := hr.drop 1
      simp only [vfold] at h
      cases a with
      | int k x =>
        cases b with
        | int k' y =>
          simp only [vmin2] at h
          split at h
          · rename_i hk; subst hk
            obtain rfl := ha.int_inv; obtain rfl := hb.int_inv
            obtain ⟨z, hz, hv⟩ := vfold_min r R _ (.int k (if y < x then y else x)) v (.int _ _) hr' h
            exact ⟨z, by simp only [List.foldlM_cons, Sem.run_bind, Builtin.min2, Sem.run_pure, Result.andThen_ok, hz], hv⟩
          · cases h
        | _ => simp [vmin2] at h
      | _ => simp [vmin2] at h

/-! ### What is built -/
theorem foldl_set (off : Nat) : ∀ (vs : List Value) (k : Nat) (A : Array Value), off + k + vs.length ≤ A.size →
    ((vs.zipIdx k).foldl (fun cs (p : Value × Nat) => cs.setIfInBounds (off + p.2) p.1) A).toList = A.toList.take (off + k) ++ vs ++ A.toList.drop (off + k + vs.length)
  | [], k, A, h => by simp
  | v :: vs, k, A, h => by
    simp only [List.length_cons] at h
    rw [List.zipIdx_cons, List.foldl_cons, foldl_set off vs (k + 1) _ (by simp; omega)]
    simp only [Array.toList_setIfInBounds]
    have hk : off + k < A.toList.length := by simp; omega
    rw [← Nat.add_assoc, List.take_succ_eq_append_getElem (by simp; omega)]
    simp only [List.getElem_set_self, List.append_assoc, List.cons_append, List.nil_append]
    rw [List.take_set_of_le (Nat.le_refl _)]
    congr 2
    rw [List.drop_set_of_lt (by omega)]
    simp only [List.length_cons]
    congr 2
    omega

theorem fill_ok {vplace place : Nat → Option (Nat × Nat)} (hpl : ∀ i r, vplace i = some r → place i = some r) : ∀ (parts : List (Nat × V)) (PARTS : List (Nat × Value)) (cells : List V) (CELLS : List Value) (cs : List V),
    VRs ρ n cells CELLS → PARTS.length = parts.length → (∀ (i : Nat) (x : Nat × V) (X : Nat × Value), parts[i]? = some x → PARTS[i]? = some X → X.1 = x.1 ∧ VR ρ n x.2 X.2) → vfill vplace cells parts = some cs →
    ∃ xs, Instr.fill place CELLS.toArray PARTS = some xs ∧ VRs ρ n cs xs.toList
  | [], PARTS, cells, CELLS, cs, hc, hl, hp, h => by
    have : PARTS = [] := List.eq_nil_of_length_eq_zero hl
    subst this
    simp [vfill] at h; subst h
    exact ⟨CELLS.toArray, rfl, by simpa using hc⟩
  | (i, v) :: rest, PARTS, cells, CELLS, cs, hc, hl, hp, h => by
    match PARTS, hl with
    | (i', V') :: REST, hl =>
      obtain ⟨e, hv⟩ := hp 0 (i, v) (i', V') rfl rfl
      simp only at e hv
      subst e
      simp only [vfill] at h
      split at h
      · rename_i off size vs hpl' hfl
        split at h
        · rename_i hc1
          have hvs := vflat_ok hv hfl
          have hVs : V'.cells.size = size := by have := hvs.1; simp at this; omega
          obtain ⟨xs, hx1, hx2⟩ := fill_ok hpl rest REST (vsplice cells off vs) (CELLS.take off ++ V'.cells.toList ++ CELLS.drop (off + V'.cells.toList.length)) cs
            (by rw [hvs.1]; exact ((hc.take off).append hvs).append (hc.drop _)) (by simpa using hl) (fun j x X e1 e2 => hp (j + 1) x X (by simpa using e1) (by simpa using e2)) h
          refine ⟨xs, ?_, hx2⟩
          simp only [Instr.fill, hpl _ _ hpl']
          have hcs : CELLS.toArray.size = cells.length := by simp [hc.1]
          have hno : ¬((decide (V'.cells.size ≠ size) || decide (off + V'.cells.size > CELLS.toArray.size)) = true) := by
            rw [hcs]
            have := hc1.2
            simp only [ne_eq, hVs, not_true_eq_false, decide_false, Bool.false_or, decide_eq_true_eq]
            omega
          rw [if_neg hno]
          rw [← hx1]
          congr 1
          apply Array.toList_inj.1
          rw [← Array.foldl_toList, Array.toList_zipIdx]
          have := foldl_set off V'.cells.toList 0 CELLS.toArray (by rw [hcs]; have := hc1.2; simp; omega)
          simp only [Nat.add_zero] at this
          rw [this]
        · cases h
      · cases h
end
end Go.Vf
