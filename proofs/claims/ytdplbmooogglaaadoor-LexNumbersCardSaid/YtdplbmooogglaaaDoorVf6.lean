/- Every quiet operation does in the model what the calculus says. -/
import Derived.Test.YtdplbmooogglaaaDoorVf5
set_option linter.unusedVariables false
set_option linter.unusedSimpArgs false
namespace Go.Vf
open Go.RowKit

section
variable {P : Program} {N n0 : Nat} {ρ : Rho} {E : Env} {G : Heap} {a : Act} {w : World} {n : Nat}

theorem tzero_inv {t : TypeId} {z : List V} (h : tzero P t = some z) : ∃ zv, (zeroValue t).run P w = .ok zv w ∧ VRs ρ n z zv.cells.toList := by
  unfold tzero at h
  split at h
  · rename_i i hi
    simp only [Option.map_eq_some_iff] at h
    obtain ⟨zv, hz, rfl⟩ := h
    refine ⟨zv, by simp [zeroValue, typeInfo, hi, hz], by simp, fun i v x e1 e2 => ?_⟩
    simp only [List.getElem?_map, e2, Option.map_some, Option.some.injEq] at e1
    subst e1
    exact vconst1_ok ρ n x
  · cases h

theorem vreps_len (k : Nat) (z : List V) : (vreps k z).length = k * z.length := by
  induction k with
  | zero => simp [vreps]
  | succ k ih => simp [vreps, ih, Nat.add_mul, Nat.add_comm]
theorem vreps_get (k : Nat) (z : List V) (i : Nat) (hi : i < k * z.length) : (vreps k z)[i]? = z[i % z.length]? := by
  induction k generalizing i with
  | zero => simp at hi
  | succ k ih =>
    simp only [vreps, List.getElem?_append]
    split
    · rename_i h; rw [Nat.mod_eq_of_lt h]
    · rename_i h
      rw [ih (i - z.length) (by rw [Nat.add_mul] at hi; omega)]
      congr 1
      rw [← Nat.mod_eq_sub_mod (by omega)]
theorem reps_ok {z : List V} {Z : Array Value} (hz : VRs ρ n z Z.toList) (k : Nat) (hpos : 0 < z.length) : VRs ρ n (vreps k z) ((Array.range (k * z.length)).map (Z[· % Z.size]!)).toList := by
  have hzs : Z.size = z.length := by have := hz.1; simpa using this
  refine ⟨by simp [vreps_len], fun i v x e1 e2 => ?_⟩
  have hi : i < k * z.length := by
    rcases Nat.lt_or_ge i (k * z.length) with h | h
    · exact h
    · rw [List.getElem?_eq_none (by rw [vreps_len]; exact h)] at e1; cases e1
  rw [vreps_get k z i hi] at e1
  simp [hi] at e2
  subst e2
  have hm : i % z.length < z.length := Nat.mod_lt _ hpos
  refine hz.2 (i % z.length) v _ e1 ?_
  rw [hzs]
  simp [hzs, hm, getElem!_pos]

theorem parts_map (h : SRel N n0 ρ E G a w) (parts : List (Nat × Operand)) (hf : (parts.map (·.2)).all (Operand.fits N) = true) :
    (parts.map fun p => (p.1, a.eval p.2)).length = (parts.map fun p => (p.1, vev E p.2)).length ∧
    ∀ (i : Nat) (x : Nat × V) (X : Nat × Value), (parts.map fun p => (p.1, vev E p.2))[i]? = some x → (parts.map fun p => (p.1, a.eval p.2))[i]? = some X → X.1 = x.1 ∧ VR ρ G.next x.2 X.2 := by
  refine ⟨by simp, fun i x X e1 e2 => ?_⟩
  simp only [List.getElem?_map, Option.map_eq_some_iff] at e1 e2
  obtain ⟨p, hp, rfl⟩ := e1
  obtain ⟨q, hq, rfl⟩ := e2
  rw [hp] at hq; cases hq
  refine ⟨rfl, h.ev ?_⟩
  simp only [List.all_eq_true, List.mem_map, forall_exists_index, and_imp] at hf
  exact hf p.2 p (List.mem_of_getElem? hp) rfl

theorem places_run : ∀ (l : List Field), (∀ f, f ∈ l → (P.info? f.type).isSome = true) → (l.mapM (fun f => do let s ← sizeOf f.type; pure (f.offset, s)) : Sem (List (Nat × Nat))).run P w = .ok (l.map fun f => (f.offset, P.cellsOf f.type)) w
  | [], _ => rfl
  | f :: r, hi => by
    rw [List.mapM_cons]
    simp only [Sem.run_bind, run_sizeOf (hi f (by simp)), Result.andThen_ok, Sem.run_pure, places_run r fun f hf => hi f (by simp [hf]), List.map_cons]

theorem build_ok (hs : SRel N n0 ρ E G a w) {t : TypeId} {parts : List (Nat × Operand)} (hf : (parts.map (·.2)).all (Operand.fits N) = true) {z cs : List V}
    (hz : tstruct P t = some z) (h : vfill (tplaces P t) z (parts.map fun p => (p.1, vev E p.2)) = some cs) : ∃ x, (Instr.build t (parts.map fun p => (p.1, a.eval p.2)).toArray).run P w = .ok x w ∧ VR ρ G.next (.agg cs) x := by
  unfold tstruct at hz
  split at hz
  · rename_i fs hu
    split at hz
    · rename_i hall
      obtain ⟨zv, h1, h2⟩ := tzero_inv (ρ := ρ) (n := G.next) (w := w) hz
      simp only [List.all_eq_true] at hall
      have hm := places_run (P := P) (w := w) fs.toList hall
      have hm' : (fs.mapM (fun f => do let s ← sizeOf f.type; pure (f.offset, s)) : Sem (Array (Nat × Nat))).run P w = .ok (fs.map fun f => (f.offset, P.cellsOf f.type)) w := by
        rw [Array.mapM_eq_mapM_toList]
        simp only [Sem.run_map, hm, Result.andThen_ok]
        congr 1
        apply Array.toList_inj.1
        simp
      obtain ⟨hl, hp⟩ := parts_map hs parts hf
      obtain ⟨xs, hx1, hx2⟩ := fill_ok (vplace := tplaces P t) (place := fun i => (fs.map fun f => (f.offset, P.cellsOf f.type))[i]?) (fun i r e => by
        simp only [tplaces, Option.map_eq_some_iff] at e
        obtain ⟨⟨o, sz, b⟩, e1, rfl⟩ := e
        obtain ⟨fs', fd, k1, k2, rfl, rfl, _, _⟩ := tfield_inv e1
        rw [hu] at k1; cases k1
        simp [k2]) _ _ z zv.cells.toList cs h2 hl hp h
      refine ⟨.agg xs, ?_, hx2.agg.cast (by simp)⟩
      simp only [Instr.build, Sem.run_bind, h1, run_und hu, Result.andThen_ok, hm', List.toList_toArray]
      have : zv.cells = zv.cells.toList.toArray := by simp
      rw [this, hx1]
      rfl
    · cases hz
  · cases hz

theorem vfill_len {place : Nat → Option (Nat × Nat)} : ∀ {parts : List (Nat × V)} {cells cs : List V}, vfill place cells parts = some cs → cs.length = cells.length
  | [], cells, cs, h => by simp [vfill] at h; rw [h]
  | (i, v) :: rest, cells, cs, h => by
    simp only [vfill] at h
    split at h
    · split at h
      · rename_i hc
        rw [vfill_len h]
        simp only [vsplice, List.length_append, List.length_take, List.length_drop]
        omega
      · cases h
    · cases h

theorem buildSlice_ok (hs : SRel N n0 ρ E G a w) {t e : TypeId} {len : Nat} {parts : List (Nat × Operand)} (hf : (parts.map (·.2)).all (Operand.fits N) = true) {z cs : List V}
    (ht : telem P t = some e) (hz : tzero P e = some z) (hc1 : len * P.cellsOf e ≤ 16777216) (hc2 : z.length = P.cellsOf e) (hc3 : 0 < P.cellsOf e) (hi : (P.info? e).isSome = true)
    (h : vfill (fun i => some (i * P.cellsOf e, P.cellsOf e)) (vreps len z) (parts.map fun p => (p.1, vev E p.2)) = some cs) :
    ∃ xs, (Instr.buildSlice t len (parts.map fun p => (p.1, a.eval p.2)).toArray).run P w = .ok (.slice (some ⟨w.heap.size, 0, none⟩) len len) (w.alloc (.cells xs e)) ∧ VRs ρ G.next cs xs.toList := by
  have hu := telem_inv ht
  obtain ⟨zv, h1, h2⟩ := tzero_inv (ρ := ρ) (n := G.next) (w := w) hz
  have hzs : zv.cells.size = z.length := by have := h2.1; simpa using this
  obtain ⟨hl, hp⟩ := parts_map hs parts hf
  have hr := reps_ok h2 len (by omega)
  rw [hc2] at hr
  obtain ⟨xs, hx1, hx2⟩ := fill_ok (fun i r e => e) _ _ _ _ cs hr hl hp h
  refine ⟨xs, ?_, hx2⟩
  simp only [Instr.buildSlice, Sem.run_bind, run_und hu, Result.andThen_ok, run_sizeOf hi]
  rw [if_neg (by omega)]
  by_cases h0 : len * P.cellsOf e = 0
  · rw [if_pos h0]
    simp only [Sem.run_bind, Sem.run_pure, Result.andThen_ok]
    have e0 : ((Array.range (len * P.cellsOf e)).map ((#[] : Array Value)[· % (#[] : Array Value).size]!)) = (((Array.range (len * P.cellsOf e)).map (zv.cells[· % zv.cells.size]!)).toList).toArray := by
      rw [h0]; simp
    rw [e0, hx1]
    rfl
  · rw [if_neg h0]
    simp only [Sem.run_bind, h1, Sem.run_pure, Result.andThen_ok]
    have e0 : ((Array.range (len * P.cellsOf e)).map (zv.cells[· % zv.cells.size]!)) = (((Array.range (len * P.cellsOf e)).map (zv.cells[· % zv.cells.size]!)).toList).toArray := Array.toArray_toList.symm
    rw [e0, hx1]
    rfl

def Op.fits (N : Nat) (op : Op) : Bool := op.operands.toList.all (Operand.fits N)

/-- **A quiet operation.** -/
theorem vq_ok (hs : SRel N n0 ρ E G a w) {o : Oper} (hf : Op.fits N o.op = true) {p : Prop} {v : V} (h : vq P E G o.op = some (p, v)) (hp : p) :
    ∃ x w' ρ', (execOp a.eval o).run P w = .ok (.value x) w' ∧ WRel ρ' G w' ∧ Rho.Le G.next ρ ρ' ∧ VR ρ' G.next v x := by
  obtain ⟨dst, op, type, pos, after, guard⟩ := o
  have hW := hs.world
  have of : ∀ {s : Sem Value} {v : V}, QRun P ρ G w s v → ∃ x w' ρ', (do pure (Next.value (← s)) : Sem Next).run P w = .ok (.value x) w' ∧ WRel ρ' G w' ∧ Rho.Le G.next ρ ρ' ∧ VR ρ' G.next v x :=
    fun {s v} ⟨x, w', ρ', h1, h2, h3, h4⟩ => ⟨x, w', ρ', by simp only [Sem.run_bind, h1, Result.andThen_ok, Sem.run_pure], h2, h3, h4⟩
  have same : ∀ {s : Sem Value} {v : V}, (∃ x, s.run P w = .ok x w ∧ VR ρ G.next v x) → ∃ x w' ρ', (do pure (Next.value (← s)) : Sem Next).run P w = .ok (.value x) w' ∧ WRel ρ' G w' ∧ Rho.Le G.next ρ ρ' ∧ VR ρ' G.next v x :=
    fun h => of (QRun.same hW h)
  have one : ∀ {x : Operand}, Operand.fits N x = true → VR ρ G.next (vev E x) (a.eval x) := fun hx => hs.ev hx
  have opt : ∀ {x : Option Operand}, x.toList.all (Operand.fits N) = true → OptR ρ G.next (x.map (vev E)) (x.map a.eval) := fun {x} hx => by
    cases x with
    | none => exact trivial
    | some x => exact one (by simpa using hx)
  unfold Op.fits at hf
  simp only at h hf
  cases op <;> simp only [vq, reduceCtorEq] at h <;> simp only [Op.operands] at hf <;> simp only [execOp]
  case move x =>
    simp only [Option.some.injEq, Prod.mk.injEq] at h
    obtain ⟨rfl, rfl⟩ := h
    exact ⟨_, w, ρ, rfl, hW, Rho.Le.refl _ _, one (by simpa using hf)⟩
  case assign x =>
    simp only [Option.some.injEq, Prod.mk.injEq] at h
    obtain ⟨rfl, rfl⟩ := h
    exact ⟨_, w, ρ, rfl, hW, Rho.Le.refl _ _, one (by simpa using hf)⟩
  case pick c x y =>
    simp only [List.all_cons, List.all_nil, Bool.and_true, Bool.and_eq_true] at hf
    split at h
    · rename_i t ht
      simp only [Option.some.injEq, Prod.mk.injEq] at h
      obtain ⟨rfl, rfl⟩ := h
      have hc := one hf.1
      rw [ht] at hc
      have hcb := hc.bool_inv
      refine ⟨_, w, ρ, by simp only [hcb, asBool, Sem.run_bind, Sem.run_pure, Result.andThen_ok]; rfl, hW, Rho.Le.refl _ _, ?_⟩
      have hx := one hf.2.1
      have hy := one hf.2.2
      unfold vite
      split
      · rename_i b1 b2 e1 e2
        rw [e1] at hx; rw [e2] at hy
        rw [hx.bool_inv, hy.bool_inv]
        cases t <;> exact .bool _
      · cases t
        · exact hy
        · exact hx
    · cases h
  case build t parts =>
    split at h
    · rename_i z hz
      simp only [Option.map_eq_some_iff, Prod.mk.injEq] at h
      obtain ⟨cs, h1, rfl, rfl⟩ := h
      obtain ⟨x, h2, h3⟩ := build_ok hs (by simpa using hf) hz h1
      refine same ⟨x, ?_, h3⟩
      have : (parts.map fun (p : Nat × Operand) => (p.1, a.eval p.2)) = (parts.toList.map fun p => (p.1, a.eval p.2)).toArray := by
        apply Array.toList_inj.1; simp
      rw [← h2, ← this]
    · cases h
  case buildSlice t len parts =>
    split at h
    · rename_i e ht
      split at h
      · rename_i z hz
        split at h
        · rename_i hc
          simp only [Option.bind_eq_some_iff] at h
          obtain ⟨cs, h1, h2⟩ := h
          split at h2
          · rename_i hcl
            simp only [Option.some.injEq, Prod.mk.injEq] at h2
            obtain ⟨rfl, rfl⟩ := h2
            have hinf : (P.info? e).isSome = true := by
              unfold tzero at hz
              split at hz
              · rename_i i hi; simp [hi]
              · cases hz
            obtain ⟨xs, h3, h4⟩ := buildSlice_ok hs (by simpa using hf) ht hz hc.1 hc.2.1 hc.2.2 hinf h1
            have hb : Below w.heap.size w (w.alloc (.cells xs e)) := (Below.refl _ _).alloc (Nat.le_refl _) _
            obtain ⟨k1, k2, k3⟩ := hW.newImm hb (Nat.le_refl _) (CellsAt.alloc w xs e (0, 0))
            have : (parts.map fun (p : Nat × Operand) => (p.1, a.eval p.2)) = (parts.toList.map fun p => (p.1, a.eval p.2)).toArray := by
              apply Array.toList_inj.1; simp
            have hlen : cs.length = len * P.cellsOf e := by rw [vfill_len h1, vreps_len, hc.2.1]
            refine of ⟨_, _, _, by rw [this]; exact h3, k1, k2, ?_⟩
            have h4' := h4.le k2 (Nat.le_refl _)
            exact .slc _ _ _ _ _ _ hcl hlen k3 h4'.1 h4'.2
          · cases h2
        · cases h
      · cases h
    · cases h
  case load t x =>
    exact same (vload_ok hW (one (by simpa using hf)) h hp)
  case nilCheck x =>
    have hx := one (x := x) (by simpa using hf)
    split at h
    · rename_i id g off hv
      simp only [Option.some.injEq, Prod.mk.injEq] at h
      obtain ⟨rfl, rfl⟩ := h
      rw [hv] at hx
      generalize a.eval x = X at hx ⊢
      cases hx with
      | ptr _ _ _ b cap h1 h2 => exact ⟨_, w, ρ, rfl, hW, Rho.Le.refl _ _, .ptr _ _ _ b cap h1 h2⟩
    · rename_i cells off hv
      simp only [Option.some.injEq, Prod.mk.injEq] at h
      obtain ⟨rfl, rfl⟩ := h
      rw [hv] at hx
      generalize a.eval x = X at hx ⊢
      cases hx with
      | iptr _ _ xs b o h1 h2 h3 h4 => exact ⟨_, w, ρ, rfl, hW, Rho.Le.refl _ _, .iptr _ _ xs b o h1 h2 h3 h4⟩
    · rename_i f c1 c2 hv
      simp only [Option.some.injEq, Prod.mk.injEq] at h
      obtain ⟨rfl, rfl⟩ := h
      rw [hv] at hx
      generalize a.eval x = X at hx ⊢
      cases hx with
      | func _ _ _ xs ys h1 h2 h3 h4 => exact ⟨_, w, ρ, rfl, hW, Rho.Le.refl _ _, .func _ _ _ xs ys h1 h2 h3 h4⟩
    · cases h
  case binOp op t x y yt =>
    simp only [List.all_cons, List.all_nil, Bool.and_true, Bool.and_eq_true] at hf
    have hx := one hf.1
    have hy := one hf.2
    revert h hx hy
    generalize vev E x = u
    generalize vev E y = u'
    generalize a.eval x = X
    generalize a.eval y = Y
    intro h hx hy
    have fin : ∀ {z : Value} {r : V}, (eqGuard op t x y X Y).run P w = .ok () w → (binOp op t X Y).run P w = .ok z w → VR ρ G.next r z →
        ∃ x_1 w' ρ', (do pure (Next.value (← (do eqGuard op t x y X Y; binOp op t X Y))) : Sem Next).run P w = .ok (.value x_1) w' ∧ WRel ρ' G w' ∧ Rho.Le G.next ρ ρ' ∧ VR ρ' G.next r x_1 :=
      fun {z r} h1 h2 h3 => ⟨z, w, ρ, by simp only [Sem.run_bind, h1, h2, Result.andThen_ok, Sem.run_pure], hW, Rho.Le.refl _ _, h3⟩
    by_cases hint : ∃ k i k' j, u = .int k i ∧ u' = .int k' j
    · obtain ⟨k, i, k', j, rfl, rfl⟩ := hint
      obtain rfl := hx.int_inv; obtain rfl := hy.int_inv
      obtain ⟨z, h1, h2⟩ := vbin_int (P := P) (ρ := ρ) (w := w) h hp
      exact fin (eqGuard_int _ _ _ _ _ _ _ _) h1 (h2 _)
    by_cases hstr : ∃ i j, u = .str i ∧ u' = .str j
    · obtain ⟨i, j, rfl, rfl⟩ := hstr
      obtain rfl := hx.str_inv; obtain rfl := hy.str_inv
      obtain ⟨z, h1, h2⟩ := vbin_str (P := P) (ρ := ρ) (w := w) h hp
      exact fin (eqGuard_str _ _ _ _ _ _) h1 (h2 _)
    have heq : (op = .eql ∨ op = .neq) ∧ ∃ r, veq P t (isConst x) (isConst y) u u' = some r ∧ v = .bool (if op = .eql then r else !r) := by
      unfold vbin at h
      split at h
      · exact absurd ⟨_, _, _, _, rfl, rfl⟩ hint
      · exact absurd ⟨_, _, _, _, rfl, rfl⟩ hint
      · exact absurd ⟨_, _, _, _, rfl, rfl⟩ hint
      · exact absurd ⟨_, _, rfl, rfl⟩ hstr
      · simp only [Option.map_eq_some_iff, Prod.mk.injEq] at h
        obtain ⟨r, h1, _, rfl⟩ := h
        exact ⟨.inl rfl, r, h1, by simp⟩
      · simp only [Option.map_eq_some_iff, Prod.mk.injEq] at h
        obtain ⟨r, h1, _, rfl⟩ := h
        exact ⟨.inr rfl, r, h1, by simp⟩
      · cases h
    obtain ⟨hop, r, h1, rfl⟩ := heq
    obtain ⟨g1, g2, g3⟩ := veq_ok (P := P) (ρ := ρ) (w := w) h1 hx hy
    rcases hop with rfl | rfl
    · exact fin (g1 _) g2 (.bool _)
    · exact fin (g1 _) g3 (.bool _)
  case unOp op t x =>
    have hx := one (x := x) (by simpa using hf)
    revert h hx
    generalize vev E x = u
    generalize a.eval x = X
    intro h hx
    refine same ?_
    unfold vun at h
    split at h
    · obtain rfl := hx.int_inv
      split at h
      · simp only [Option.some.injEq, Prod.mk.injEq] at h
        obtain ⟨rfl, rfl⟩ := h
        exact ⟨_, by simp [Op.unary, Op.intArith], .int _ _⟩
      · simp only [Option.some.injEq, Prod.mk.injEq] at h
        obtain ⟨rfl, rfl⟩ := h
        exact ⟨_, by simp only [Op.unary, Op.intBits]; rfl, .int _ _⟩
      · cases h
    · obtain rfl := hx.bool_inv
      split at h
      · simp only [Option.some.injEq, Prod.mk.injEq] at h
        obtain ⟨rfl, rfl⟩ := h
        exact ⟨_, by simp [Op.unary], .bool _⟩
      · cases h
    · cases h
  case convert src dst x =>
    exact of (vconvert_ok hW (one (by simpa using hf)) h hp)
  case makeInterface t x =>
    have hx := one (x := x) (by simpa using hf)
    split at h
    · cases h
    · rename_i d hd hu
      simp only [Option.some.injEq, Prod.mk.injEq] at h
      obtain ⟨rfl, rfl⟩ := h
      refine same ⟨.iface t (a.eval x), ?_, .iface _ _ _ hx⟩
      simp only [Instr.makeInterface, Sem.run_bind, run_und hu, Result.andThen_ok]
      cases d with
      | interface ms => exact absurd rfl (hd ms)
      | _ => rfl
    · cases h
  case makeFunc fn b c =>
    simp only [Option.some.injEq, Prod.mk.injEq] at h
    obtain ⟨rfl, rfl⟩ := h
    simp only [Array.toList_append, List.all_append, Bool.and_eq_true] at hf
    refine same ⟨_, rfl, ?_⟩
    have h1 := hs.evs hf.1
    have h2 := hs.evs hf.2
    refine (VR.func fn _ _ _ _ h1.1 h2.1 h1.2 h2.2).cast ?_
    congr 1 <;> (apply Array.toList_inj.1; simp)
  case slice t x lo hi mx =>
    simp only [Array.toList_append, List.all_append, Bool.and_eq_true, Option.toList_toArray] at hf
    exact same (vslice_ok (one (by simpa using hf.1.1.1)) (opt hf.1.1.2) (opt hf.1.2) (opt hf.2) h hp)
  case fieldAddr t x f =>
    exact same (vfieldAddr_ok (one (by simpa using hf)) h hp)
  case field t x f =>
    exact same (vfield_ok (one (by simpa using hf)) h hp)
  case indexAddr t x i =>
    simp only [List.all_cons, List.all_nil, Bool.and_true, Bool.and_eq_true] at hf
    exact same (vindexAddr_ok (one hf.1) (one hf.2) h hp)
  case index t x i =>
    simp only [List.all_cons, List.all_nil, Bool.and_true, Bool.and_eq_true] at hf
    exact same (vindex_ok (one hf.1) (one hf.2) h hp)
  case extract x i =>
    have hx := one (x := x) (by simpa using hf)
    refine same ?_
    revert h hx
    generalize vev E x = u
    generalize a.eval x = X
    intro h hx
    cases u <;> simp only [vextract, reduceCtorEq] at h
    rename_i vs
    obtain ⟨xs, rfl, hxs⟩ := hx.tup_inv
    split at h
    · rename_i u hu
      simp only [Option.some.injEq, Prod.mk.injEq] at h
      obtain ⟨rfl, rfl⟩ := h
      obtain ⟨y, h1, h2⟩ := hxs.get hu
      exact ⟨y, by simp [Instr.extract, h1], h2⟩
    · cases h
  case call c =>
    obtain ⟨callee, args, ts⟩ := c
    cases callee with
    | builtin b =>
      simp only at h
      simp only [Call.operands, Array.empty_append] at hf
      have hargs := hs.evs hf
      have hmap : (args.map a.eval) = (args.toList.map a.eval).toArray := by apply Array.toList_inj.1; simp
      simp only [resolve, Sem.run_bind, Sem.run_pure, Result.andThen_ok, invoke, hmap]
      unfold vbuiltinQ at h
      split at h
      · rename_i t tr x xr e1 e2
        rw [e2] at hargs
        match hX : args.toList.map a.eval, hargs with
        | X :: XR, hargs =>
          obtain ⟨y, h1, h2⟩ := vlen_ok (P := P) (ts := ts) (ty := type) (r := XR) hW (t := t) (by
            have := congrArg (fun l : List TypeId => l[0]?) e1
            simpa using this) (hargs.2 0 x X rfl rfl) h
          exact ⟨y, w, ρ, by simp only [builtin, Sem.run_bind, h1, Result.andThen_ok, Sem.run_pure], hW, Rho.Le.refl _ _, h2⟩
      · rename_i x xr e2
        rw [e2] at hargs
        simp only [Option.map_eq_some_iff, Prod.mk.injEq] at h
        obtain ⟨u, h1, _, rfl⟩ := h
        match hX : args.toList.map a.eval, hargs with
        | X :: XR, hargs =>
          obtain ⟨y, h1, h2⟩ := vfold_max (P := P) (w := w) xr XR x X u (hargs.2 0 x X rfl rfl) (hargs.drop 1) h1
          exact ⟨y, w, ρ, by simp only [builtin, Builtin.max_, Sem.run_bind, h1, Result.andThen_ok, Sem.run_pure], hW, Rho.Le.refl _ _, h2⟩
      · rename_i x xr e2
        rw [e2] at hargs
        simp only [Option.map_eq_some_iff, Prod.mk.injEq] at h
        obtain ⟨u, h1, _, rfl⟩ := h
        match hX : args.toList.map a.eval, hargs with
        | X :: XR, hargs =>
          obtain ⟨y, h1, h2⟩ := vfold_min (P := P) (w := w) xr XR x X u (hargs.2 0 x X rfl rfl) (hargs.drop 1) h1
          exact ⟨y, w, ρ, by simp only [builtin, Builtin.min_, Sem.run_bind, h1, Result.andThen_ok, Sem.run_pure], hW, Rho.Le.refl _ _, h2⟩
      · cases h
    | value f => simp at h
    | invoke r m => simp at h
end
end Go.Vf
