/- All operations that turn memory, but for calls. -/
import Derived.Test.YtdplbmooogglaaaDoorVg2
import Derived.Laws.MakeOwn
set_option linter.unusedVariables false
set_option linter.unusedSimpArgs false
namespace Go.Vf
open Go.RowKit

section
variable {P : Program} {N n0 : Nat} {ρ : Rho} {E : Env} {G : Heap} {a : Act} {w : World} {n : Nat}

theorem newVar_run (hW : WRel ρ G w) {t : TypeId} {v : Value} {vs : List V} (hv : VRs ρ G.next vs v.cells.toList) (hs : V.scalarL vs = true) :
    ∃ w' ρ', (do pure (Next.value (.pointer (some (← newVar t v)))) : Sem Next).run P w = .ok (.value (.pointer (some ⟨w.heap.size, 0, none⟩))) w' ∧ WRel ρ' (G.alloc (.cells 0 vs)) w' ∧ Rho.Le G.next ρ ρ' ∧ VR ρ' (G.next + 1) (.ptr G.next 0 0) (.pointer (some ⟨w.heap.size, 0, none⟩)) := by
  obtain ⟨g1, g2, g3⟩ := new_cells (c := v.cells) (e := t) hW (by rw [List.take_of_length_le (by rw [hv.1]; exact Nat.le_refl _)]; exact hv) (by have := hv.1; simp at this; omega) hs (Below.refl _ w) rfl
  exact ⟨w.alloc (.cells v.cells t), _, by simp [newVar, newRow], g1, g2, .ptr _ _ _ _ _ (Nat.lt_succ_self _) g3⟩

theorem alloc_ok (hW : WRel ρ G w) (hlow : n0 ≤ G.next) {t : TypeId} {z : List V} (hz : tzero P t = some z) (hs : V.scalarL z = true) {K : V → Heap → Prop} (hK : K (.ptr G.next 0 0) (G.alloc (.cells 0 z))) :
    LRun P n0 ρ w (do pure (Next.value (← Instr.alloc t true (.tuple #[])))) K := by
  obtain ⟨zv, h1, h2⟩ := tzero_inv (ρ := ρ) (n := G.next) (w := w) hz
  obtain ⟨w', ρ', k1, k2, k3, k4⟩ := newVar_run (P := P) (t := t) hW h2 hs
  refine ⟨w', ρ', _, _, k2, k3.mono hlow, by simp; omega, hK, .inl ⟨_, ?_, k4⟩⟩
  simpa [Instr.alloc, h1] using k1
theorem box_ok (hW : WRel ρ G w) (hlow : n0 ≤ G.next) {t : TypeId} {x : V} {X : Value} {vs : List V} (hx : VR ρ G.next x X) (hf : vflat x = some vs) (hs : V.scalarL vs = true) {K : V → Heap → Prop} (hK : K (.ptr G.next 0 0) (G.alloc (.cells 0 vs))) :
    LRun P n0 ρ w (do pure (Next.value (← Instr.box t X))) K := by
  obtain ⟨w', ρ', k1, k2, k3, k4⟩ := newVar_run (P := P) (t := t) hW (vflat_ok hx hf) hs
  refine ⟨w', ρ', _, _, k2, k3.mono hlow, by simp; omega, hK, .inl ⟨_, ?_, k4⟩⟩
  simpa [Instr.box] using k1

/-- Cells of a live block are written. -/
theorem write_cells (hW : WRel ρ G w) {id g : Nat} {cs vs : List V} (hg : G.get id = some (.cells g cs)) {b cap off : Nat} (hr : ρ.blk id g = some (.at b cap)) {xs : List Value} (hv : VRs ρ G.next vs xs) (hs : V.scalarL vs = true) (hfit : off + vs.length ≤ cs.length) :
    ∃ w', (storeCells ⟨b, off, none⟩ xs).run P w = .ok () w' ∧ WRel ρ (G.put id (.cells g (vsplice cs off vs))) w' := by
  obtain ⟨c, e, fz, h1, h2, h3, h4, h5, h6⟩ := hW.block hg hr
  have hwf := hW.wf _ _ hg
  simp only [Blk.under, Bool.and_eq_true] at hwf
  obtain ⟨w', s1, s2, s3, s4, s5, s6, c', s7, s8⟩ := storeCells_run (P := P) (b := b) (o := off) (e := e) (fz := fz) xs 0 w c h1 (by rw [hv.1]; omega) (by rw [h2]; exact h6) (hv.oneCell hs)
  have hlen : (vsplice cs off vs).length = cs.length := by simp only [vsplice, List.length_append, List.length_take, List.length_drop]; omega
  refine ⟨w', s1, hW.put hg hr s2 s3 s4 s5 s6 rfl ?_ ?_⟩
  · have hc's : c'.size = cap := by
      have := congrArg List.length s8
      simp only [List.length_append, List.length_take, List.length_drop, Array.length_toList, hv.1] at this
      omega
    refine ⟨c', e, fz, s7, hc's, by rw [hlen]; exact h3, fun i v x e1 e2 => ?_, h6⟩
    have e2' : c'.toList[i]? = some x := by simpa using e2
    rw [s8, Nat.add_zero] at e2'
    have hVR : VRs ρ G.next (vsplice cs off vs) ((c.toList.take off ++ xs ++ c.toList.drop (off + xs.length)).take cs.length) := by
      have a1 : VRs ρ G.next (cs.take off) (c.toList.take off) := by
        have := h4.take off
        rwa [List.take_take, Nat.min_eq_left (by omega)] at this
      have a2 := h4.drop (off + vs.length)
      have : ((c.toList.take off ++ xs ++ c.toList.drop (off + xs.length)).take cs.length) = c.toList.take off ++ xs ++ (c.toList.take cs.length).drop (off + vs.length) := by
        rw [List.take_append, List.take_of_length_le (by simp [hv.1]; omega), hv.1, List.drop_take]
        congr 2
        simp [hv.1]
        omega
      rw [this]
      exact (a1.append hv).append a2
    have hi : i < cs.length := by
      have := (List.getElem?_eq_some_iff.1 e1).1
      omega
    exact hVR.2 i v x e1 (by rw [List.getElem?_take, if_pos hi]; exact e2')
  · simp only [Blk.under, Bool.and_eq_true]
    have hmem : ∀ v, v ∈ vsplice cs off vs → v ∈ cs ∨ v ∈ vs := fun v hv => by
      simp only [vsplice, List.mem_append] at hv
      rcases hv with (hv | hv) | hv
      · exact .inl (List.mem_of_mem_take hv)
      · exact .inr hv
      · exact .inl (List.mem_of_mem_drop hv)
    refine ⟨underL_of fun i v e => ?_, scalarL_of fun v hv => ?_⟩
    · rcases hmem v (List.mem_of_getElem? e) with h | h
      · obtain ⟨j, hj⟩ := List.getElem?_of_mem h; exact underL_get hwf.1 hj
      · obtain ⟨j, hj⟩ := List.getElem?_of_mem h; exact underL_get (hv.under _ (Nat.le_refl _)) hj
    · rcases hmem v hv with h | h
      · exact scalarL_mem hwf.2 h
      · exact scalarL_mem hs h

theorem store_ok (hW : WRel ρ G w) (hlow : n0 ≤ G.next) {t : TypeId} {x y : V} {X Y : Value} (hx : VR ρ G.next x X) (hy : VR ρ G.next y Y) {K : V → Heap → Prop} (h : vstore P t G x y K) :
    LRun P n0 ρ w (do Instr.storeAt t X Y; pure .skip) K := by
  unfold vstore at h
  split at h
  · rename_i id g off vs hvf
    split at h
    · rename_i g' cs hg
      obtain ⟨rfl, hl, hi, hs, hfit, hK⟩ := h
      have hvs := vflat_ok hy hvf
      cases hx with
      | ptr _ _ _ b cap h1 h2 =>
        obtain ⟨w', s1, s2⟩ := write_cells (P := P) hW hg h2 hvs hs hfit
        refine ⟨w', ρ, _, _, s2, Rho.Le.refl _ _, hlow, hK, .inr ⟨?_, .top _⟩⟩
        have hsz : Y.cells.size = P.cellsOf t := by have := hvs.1; simp at this; omega
        simp only [Instr.storeAt, Instr.sureAddr, Sem.run_bind, Sem.run_pure, Result.andThen_ok, storeVar, run_sizeOf hi, hsz, ne_eq, not_true_eq_false, if_false, s1]
    · exact h.elim
  · exact h.elim

theorem vreps_take {l c : Nat} (h : l ≤ c) {z : List V} : (vreps c z).take (l * z.length) = vreps l z := by
  apply List.ext_getElem?
  intro i
  rw [List.getElem?_take]
  split
  · rename_i hi
    rw [vreps_get _ _ _ hi, vreps_get _ _ _ (Nat.lt_of_lt_of_le hi (Nat.mul_le_mul_right _ h))]
  · rename_i hi
    rw [List.getElem?_eq_none (by rw [vreps_len]; omega)]
theorem vreps_scalar (k : Nat) {z : List V} (h : V.scalarL z = true) : V.scalarL (vreps k z) = true := by
  induction k with
  | zero => rfl
  | succ k ih => simp [vreps, scalarL_append, h, ih]

theorem make_ok (hW : WRel ρ G w) (hlow : n0 ≤ G.next) {t : TypeId} {x y : V} {X Y : Value} (hx : VR ρ G.next x X) (hy : VR ρ G.next y Y) {K : V → Heap → Prop} (h : vmake P t G x y K) :
    LRun P n0 ρ w (do pure (Next.value (← Instr.makeSlice t X Y))) K := by
  unfold vmake at h
  split at h
  · rename_i k l k' c e he
    obtain rfl := hx.int_inv; obtain rfl := hy.int_inv
    split at h
    · rename_i z hz
      obtain ⟨h0, h1, h2, h3, h4, h5, h6, hK⟩ := h
      obtain ⟨zv, z1, z2⟩ := tzero_inv (ρ := ρ) (n := G.next) (w := w) hz
      obtain ⟨i, zv', hi, hzi, rfl⟩ : ∃ i zv', P.info? e = some i ∧ i.zero = some zv' ∧ zv' = zv := by
        unfold tzero at hz
        split at hz
        · rename_i i hi
          simp only [Option.map_eq_some_iff] at hz
          obtain ⟨zz, h7, _⟩ := hz
          refine ⟨i, zz, hi, h7, ?_⟩
          have : (zeroValue e).run P w = .ok zz w := by simp [zeroValue, typeInfo, hi, h7]
          rw [this] at z1; cases z1; rfl
        · cases hz
      have hb : P.bytesOf e = i.bytes := by simp [Program.bytesOf, hi]
      have hsz : P.cellsOf e = i.size := by simp [Program.cellsOf, hi]
      have hzs : zv'.cells.size = P.cellsOf e := by have := z2.1; simp at this; omega
      have hrun := run_make (P := P) w t e i zv' (telem_inv he) hi hzi k k' l c h0 h1 (by rw [← hb]; omega) (by omega)
      rw [← hsz] at hrun
      have hC : VRs ρ G.next (vreps c.toNat z) (madeCells zv'.cells (c.toNat * P.cellsOf e)).toList := by have := reps_ok z2 c.toNat (by omega); rw [h5] at this; exact this
      have hCs : (madeCells zv'.cells (c.toNat * P.cellsOf e)).size = c.toNat * P.cellsOf e := by simp [madeCells]
      have hle : l.toNat ≤ c.toNat := by omega
      have hC' := hC.take (l.toNat * z.length)
      rw [vreps_take hle] at hC'
      have hlen := vreps_len l.toNat z
      have hle' : (vreps l.toNat z).length ≤ c.toNat * P.cellsOf e := by rw [hlen, h5]; exact Nat.mul_le_mul_right _ hle
      rw [← hlen] at hC'
      obtain ⟨g1, g2, g3⟩ := new_cells (e := e) hW hC' (by rw [hCs]; exact hle') (vreps_scalar _ h6) (Below.refl _ w) rfl
      refine ⟨_, _, _, _, g1, g2.mono hlow, by simp; omega, hK, .inl ⟨.slice (some ⟨w.heap.size, 0, none⟩) l.toNat c.toNat, by simp only [Sem.run_bind, hrun, Result.andThen_ok, Sem.run_pure], ?_⟩⟩
      exact .arr _ _ _ _ _ _ _ c.toNat (by simp) g3 (by rw [hCs]; omega) hle
    · exact h.elim
  · exact h.elim

theorem clear_ok (hW : WRel ρ G w) (hlow : n0 ≤ G.next) {ts : Array TypeId} {ty : TypeId} {x : V} {X : Value} (hx : VR ρ G.next x X) {K : V → Heap → Prop} (h : vclear P ts.toList G x K) :
    LRun P n0 ρ w (do pure (Next.value (← Builtin.clear_ ts ty #[X]))) K := by
  unfold vclear at h
  split at h
  · rename_i t tr hts
    have ht0 : ts[0]? = some t := by have := congrArg (fun l : List TypeId => l[0]?) hts; simpa using this
    split at h
    · rename_i e he
      obtain rfl : X = .slice none 0 0 := by cases hx; rfl
      exact ⟨w, ρ, _, _, hW, Rho.Le.refl _ _, hlow, h, .inl ⟨.tuple #[], by simp [Builtin.clear_, ht0, run_und (telem_inv he)], VRs.nil.tup⟩⟩
    · rename_i e sz id g off m he
      split at h
      · rename_i z g' cs hz hg
        obtain ⟨rfl, rfl, h1, h2, h3, h4, hK⟩ := h
        obtain ⟨zv, z1, z2⟩ := tzero_inv (ρ := ρ) (n := G.next) (w := w) hz
        have hzs : zv.cells.size = P.cellsOf e := by have := z2.1; simp at this; omega
        have hR : VRs ρ G.next (vreps m z) (Builtin.zeroCells zv.cells m).toList := by
          have := reps_ok z2 m (by omega)
          rw [h1, ← hzs] at this
          exact this
        have hlen := vreps_len m z
        rw [h1] at hlen
        have nothing : m = 0 → K (.tup []) G := fun h0 => by
          subst h0
          have e1 : vsplice cs off (vreps 0 z) = cs := by simp [vsplice, vreps]
          rw [e1] at hK
          have : G.put id (.cells g cs) = G := by
            unfold Heap.put
            congr 1
            funext j
            split
            · rename_i hj; subst hj; exact hg.symm
            · rfl
          rwa [this] at hK
        have zero : ∀ {A : Option Addr} {c : Nat}, m = 0 → LRun P n0 ρ w (do pure (Next.value (← Builtin.clear_ ts ty #[.slice A m c]))) K := fun {A c} h0 => by
          have hK' := nothing h0
          subst h0
          refine ⟨w, ρ, _, _, hW, Rho.Le.refl _ _, hlow, hK', .inl ⟨.tuple #[], ?_, VRs.nil.tup⟩⟩
          cases A <;> simp [Builtin.clear_, ht0, run_und (telem_inv he)]
        cases hx with
        | arr _ _ _ _ _ b cap c k1 k2 k3 k4 =>
          by_cases h0 : m = 0
          · exact zero h0
          · obtain ⟨w', s1, s2⟩ := write_cells (P := P) hW hg k2 hR (vreps_scalar _ h3) (by rw [hlen]; exact h4)
            refine ⟨w', ρ, _, _, s2, Rho.Le.refl _ _, hlow, hK, .inl ⟨.tuple #[], ?_, VRs.nil.tup⟩⟩
            have hne : ∀ (x : Nat), m = x + 1 → True := fun _ _ => trivial
            obtain ⟨m', rfl⟩ : ∃ m', m = m' + 1 := ⟨m - 1, by omega⟩
            simp [Builtin.clear_, ht0, run_und (telem_inv he), z1, s1]
        | arr0 _ _ _ A k1 k2 => exact zero rfl
      · exact h.elim
    · exact h.elim
  · exact h.elim

theorem range_ok (hW : WRel ρ G w) (hlow : n0 ≤ G.next) {t : TypeId} (hu : P.underlying t = some .string) {s : List UInt8} {X : Value} (hx : VR ρ G.next (.str s) X) {K : V → Heap → Prop} (hK : K (.ptr G.next 0 0) (G.alloc (.iter s 0))) :
    LRun P n0 ρ w (do pure (Next.value (← Instr.range t X))) K := by
  obtain rfl := hx.str_inv
  have g := hW.new (blk := .iter s 0) (r := .at w.heap.size 0) (below_alloc w (.stringIter ⟨s.toArray⟩ 0)) (by show (w.heap.push _)[w.heap.size]? = _; simp) (fun b cap e => by cases e; exact Nat.le_refl _) rfl
  refine ⟨_, _, _, _, g, (Rho.set_le_new (n := G.next) ρ 0 _ (Nat.le_refl _)).mono hlow, by simp; omega, hK, .inl ⟨.pointer (some ⟨w.heap.size, 0, none⟩), ?_, ?_⟩⟩
  · simp [Instr.range, run_und hu]
  · exact .ptr _ _ _ _ 0 (by simp) (Rho.set_same ..)

theorem next_ok (hW : WRel ρ G w) (hlow : n0 ≤ G.next) {ty : TypeId} {id : Nat} {X : Value} (hx : VR ρ G.next (.ptr id 0 0) X) {s : List UInt8} {pos : Nat} (hg : G.get id = some (.iter s pos)) {K : V → Heap → Prop}
    (h : if pos < s.length then K (.tup [.bool true, .int .i64 (pos : Int), .int .i32 ((vdecode s pos).1 : Int)]) (G.put id (.iter s (pos + (vdecode s pos).2))) else K (.tup [.bool false]) G) :
    LRun P n0 ρ w (do pure (Next.value (← Instr.next X true ty))) K := by
  cases hx with
  | ptr _ _ _ b cap h1 h2 =>
    obtain ⟨r, k1, k2⟩ := hW.live _ _ hg
    simp only [Blk.gen] at k1
    rw [h2] at k1; cases k1
    have hb : w.heap[b]? = some (.stringIter ⟨s.toArray⟩ pos) := k2
    by_cases hp : pos < s.length
    · rw [if_pos hp] at h
      refine ⟨{ w with heap := w.heap.setIfInBounds b (.stringIter ⟨s.toArray⟩ (pos + (vdecode s pos).2)) }, ρ, _, G.put id (.iter s (pos + (vdecode s pos).2)), ?_, Rho.Le.refl _ _, hlow, h, .inl ⟨.tuple #[.bool true, .int .i64 pos, .int .i32 ((vdecode s pos).1 : Nat)], ?_, ?_⟩⟩
      · refine hW.put hg h2 rfl rfl rfl (by simp) (fun k hk => ?_) rfl ?_ rfl
        · simp [Array.getElem?_setIfInBounds, Ne.symm hk]
        · have hlt := (Array.getElem?_eq_some_iff.1 hb).1
          show (w.heap.setIfInBounds b _)[b]? = _
          simp [hlt]
      · simp [Instr.next, getObj, setObj, Sem.run, hb, size_mk, hp, vdecode, goInt]
      · exact (VRs.cons (.bool true) (VRs.cons (.int _ _) (VRs.cons (.int _ _) VRs.nil))).tup.cast (by simp)
    · rw [if_neg hp] at h
      refine ⟨w, ρ, _, _, hW, Rho.Le.refl _ _, hlow, h, .inl ⟨.tuple #[.bool false], ?_, (VRs.cons (.bool false) VRs.nil).tup.cast (by simp)⟩⟩
      simp [Instr.next, getObj, Sem.run, hb, size_mk, hp]

/-- **An operation that turns memory.** -/
theorem vl_ok (hs : SRel N n0 ρ E G a w) {o : Oper} (hf : Op.fits N o.op = true) {K : V → Heap → Prop} (h : vl P E G K o.op) : LRun P n0 ρ w (execOp a.eval o) K := by
  obtain ⟨dst, op, type, pos, after, guard⟩ := o
  have hW := hs.world
  have hlow := hs.low
  have one : ∀ {x : Operand}, Operand.fits N x = true → VR ρ G.next (vev E x) (a.eval x) := fun hx => hs.ev hx
  unfold Op.fits at hf
  simp only at h hf
  cases op <;> simp only [vl] at h <;> simp only [Op.operands] at hf <;> simp only [execOp]
  case alloc t =>
    split at h
    · rename_i z hz; exact alloc_ok hW hlow hz h.1 h.2
    · exact h.elim
  case box t x =>
    split at h
    · rename_i vs hv; exact box_ok hW hlow (one (by simpa using hf)) hv h.1 h.2
    · exact h.elim
  case buildSlice t len parts =>
    split at h
    · rename_i e ht
      split at h
      · rename_i z hz
        obtain ⟨h1, h2, h3, h⟩ := h
        split at h
        · rename_i cs hcs
          have hinf : (P.info? e).isSome = true := by
            unfold tzero at hz
            split at hz
            · rename_i i hi; simp [hi]
            · cases hz
          obtain ⟨xs, k3, k4⟩ := buildSlice_ok hs (by simpa using hf) ht hz h1 h2 h3 hinf hcs
          have hlen : cs.length = len * P.cellsOf e := by rw [vfill_len hcs, vreps_len, h2]
          have hxs : xs.size = len * P.cellsOf e := by have := k4.1; simp at this; omega
          obtain ⟨g1, g2, g3⟩ := new_cells (c := xs) (e := e) hW (by rw [List.take_of_length_le (by rw [k4.1]; exact Nat.le_refl _)]; exact k4) (by omega) h.1 (Below.refl _ w) rfl
          have : (parts.map fun (p : Nat × Operand) => (p.1, a.eval p.2)) = (parts.toList.map fun p => (p.1, a.eval p.2)).toArray := by
            apply Array.toList_inj.1; simp
          refine ⟨_, _, _, _, g1, g2.mono hlow, by simp; omega, h.2, .inl ⟨.slice (some ⟨w.heap.size, 0, none⟩) len len, by rw [this]; simp only [Sem.run_bind, k3, Result.andThen_ok, Sem.run_pure], ?_⟩⟩
          exact .arr _ _ _ _ _ _ _ len (by simp) g3 (by omega) (Nat.le_refl _)
        · exact h.elim
      · exact h.elim
    · exact h.elim
  case store t x y =>
    simp only [List.all_cons, List.all_nil, Bool.and_true, Bool.and_eq_true] at hf
    exact store_ok hW hlow (one hf.1) (one hf.2) h
  case makeSlice t x y =>
    simp only [List.all_cons, List.all_nil, Bool.and_true, Bool.and_eq_true] at hf
    exact make_ok hW hlow (one hf.1) (one hf.2) h
  case range t x =>
    have hx := one (x := x) (by simpa using hf)
    split at h
    · rename_i s hu hv
      rw [hv] at hx
      exact range_ok hW hlow hu hx h
    · exact h.elim
  case next x b =>
    have hx := one (x := x) (by simpa using hf)
    cases b with
    | false => simp [vl] at h
    | true =>
      simp only [vl] at h
      split at h
      · rename_i id hv
        rw [hv] at hx
        split at h
        · rename_i s pos hg
          exact next_ok hW hlow hx hg h
        · exact h.elim
      · exact h.elim
  case call c =>
    obtain ⟨callee, args, ts⟩ := c
    cases callee with
    | builtin b =>
      simp only [Call.operands, Array.empty_append] at hf
      have hmap : (args.map a.eval) = (args.toList.map a.eval).toArray := by apply Array.toList_inj.1; simp
      simp only [resolve, Sem.run_bind, Sem.run_pure, Result.andThen_ok, invoke, hmap]
      cases b <;> simp only [vl] at h
      case append =>
        split at h
        · rename_i x y e
          rw [e] at hf ⊢
          simp only [List.all_cons, List.all_nil, Bool.and_true, Bool.and_eq_true] at hf
          obtain ⟨w', ρ', v, G', z, k1, k2, k3, k4, k5, k6⟩ := vappend_ok (ty := type) hW hlow (one hf.1) (one hf.2) h
          refine ⟨w', ρ', v, G', k1, k2, k3, k4, .inl ⟨z, ?_, k6⟩⟩
          simp only [List.map_cons, List.map_nil, pure_bind, builtin, Sem.run_bind, k5, Result.andThen_ok, Sem.run_pure]
        · exact h.elim
      case clear =>
        split at h
        · rename_i x e
          rw [e] at hf ⊢
          simp only [List.all_cons, List.all_nil, Bool.and_true] at hf
          have := clear_ok (ty := type) hW hlow (one hf) h
          simpa only [List.map_cons, List.map_nil, pure_bind, builtin] using this
        · exact h.elim
    | value f => simp [vl] at h
    | invoke r m => simp [vl] at h
end
end Go.Vf
