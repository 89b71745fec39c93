/- The operations that turn memory do in the model what the calculus says. -/
import Derived.Test.YtdplbmooogglaaaDoorVg1
import Derived.Deep.AppendSrc
import Derived.Deep.Upon
set_option linter.unusedVariables false
set_option linter.unusedSimpArgs false
namespace Go.Vf
open Go.RowKit

section
variable {P : Program} {N n0 : Nat} {ρ : Rho} {E : Env} {G : Heap} {a : Act} {w : World} {n : Nat}

theorem CellsAt.heap {w' : World} (e : w'.heap = w.heap) {b o : Nat} {xs : List Value} (h : CellsAt w b o xs) : CellsAt w' b o xs := fun i x hx => by
  have := h i x hx
  simp only [World.cell?] at this ⊢
  rw [e]; exact this

/-- A row that is read. -/
theorem vrow_ok (hW : WRel ρ G w) {sz : Nat} {x : V} {X : Value} {p : Prop} {m : Nat} {new : List V} (hx : VR ρ G.next x X) (h : vrow sz G x = some (p, m, new)) (hp : p) :
    ∃ xs : List Value, VRs ρ G.next new xs ∧ new.length = m * sz ∧ V.scalarL new = true ∧ (∀ w', (Builtin.lenOf X).run P w' = .ok m w') ∧ ∀ w', w'.heap = w.heap → (Builtin.firstCells sz m X).run P w' = .ok xs.toArray w' := by
  have imm : ∀ {m cap : Nat} {cells : List V} {A : Option Addr}, SlOk ρ G.next sz m cells A → ∃ xs : List Value, VRs ρ G.next cells xs ∧ cells.length = m * sz ∧ V.scalarL cells = true ∧
      (∀ w', (Builtin.lenOf (.slice A m cap)).run P w' = .ok m w') ∧ ∀ w', w'.heap = w.heap → (Builtin.firstCells sz m (.slice A m cap)).run P w' = .ok xs.toArray w' := fun {m cap cells A} hs => by
    rcases hs.place with rfl | ⟨b, o, xs, rfl, hi, hv⟩
    · refine ⟨[], VRs.nil, hs.len, rfl, fun _ => rfl, fun w' _ => ?_⟩
      have h0 : m * sz = 0 := by have := hs.len; simpa using this.symm
      cases A with
      | none => rfl
      | some A => simp [Builtin.firstCells, loadCells, h0, loadCellsFrom]
    · refine ⟨xs, hv, hs.len, scalarL_of_closedL hs.closed, fun _ => rfl, fun w' hw' => ?_⟩
      simp only [Builtin.firstCells, loadCells]
      rw [← hs.len, ← hv.1, loadCells_run xs 0 #[] (by simpa using (hW.cellsAt hi).heap hw')]
      simp
  cases x <;> simp only [vrow, reduceCtorEq] at h
  case nilsl =>
    simp only [Option.some.injEq, Prod.mk.injEq] at h
    obtain ⟨rfl, rfl, rfl⟩ := h
    cases hx
    exact ⟨[], VRs.nil, by simp, rfl, fun _ => rfl, fun _ _ => rfl⟩
  case sl s k cells =>
    split at h
    · rename_i e; subst e
      simp only [Option.some.injEq, Prod.mk.injEq] at h
      obtain ⟨rfl, rfl, rfl⟩ := h
      obtain ⟨A, cap, rfl, _, hs⟩ := hx.sl_inv
      exact imm hs
    · cases h
  case slc s k cells =>
    split at h
    · rename_i e; subst e
      simp only [Option.some.injEq, Prod.mk.injEq] at h
      obtain ⟨rfl, rfl, rfl⟩ := h
      obtain ⟨A, rfl, hs⟩ := hx.slc_inv
      exact imm hs
    · cases h
  case arr s id g off k =>
    split at h
    · rename_i e; subst e
      split at h
      · rename_i g' cs hg
        split at h
        · rename_i e; subst e
          simp only [Option.some.injEq, Prod.mk.injEq] at h
          obtain ⟨rfl, rfl, rfl⟩ := h
          have hsc : V.scalarL cs = true := by have := hW.wf _ _ hg; simp only [Blk.under, Bool.and_eq_true] at this; exact this.2
          cases hx with
          | arr _ _ _ _ _ b cap c h1 h2 h3 h4 =>
            obtain ⟨C, e', fz, k1, k2, k3, k4, k5, k6⟩ := hW.block hg h2
            have hv := (k4.drop off).take (k * s)
            have hl : ((cs.drop off).take (k * s)).length = k * s := by rw [List.length_take, List.length_drop]; omega
            refine ⟨_, hv, hl, scalarL_sub hsc fun v hv => List.mem_of_mem_drop (List.mem_of_mem_take hv), fun _ => rfl, fun w' hw' => ?_⟩
            simp only [Builtin.firstCells, loadCells]
            rw [← hl, ← hv.1, loadCells_run _ 0 #[] ?_]
            · simp
            · have := (((k5.take cs.length).drop off).take (k * s)).heap hw'
              simpa using this
          | arr0 _ _ _ A h1 h2 =>
            refine ⟨[], by simpa using VRs.nil, by simp, by simp [V.scalarL], fun _ => rfl, fun w' _ => ?_⟩
            cases A with
            | none => rfl
            | some A => simp [Builtin.firstCells, loadCells, loadCellsFrom]
        · cases h
      · cases h
    · cases h
  case str s =>
    split at h
    · rename_i e; subst e
      simp only [Option.some.injEq, Prod.mk.injEq] at h
      obtain ⟨rfl, rfl, rfl⟩ := h
      obtain rfl := hx.str_inv
      refine ⟨s.map fun b => Value.int .u8 (b.toNat : Int), ⟨by simp, fun i v x e1 e2 => ?_⟩, by simp, scalarL_of fun v hv => ?_, fun _ => ?_, fun w' _ => ?_⟩
      · simp only [List.getElem?_map, Option.map_eq_some_iff] at e1 e2
        obtain ⟨c, hc, rfl⟩ := e1
        obtain ⟨c', hc', rfl⟩ := e2
        rw [hc] at hc'; cases hc'
        exact .int _ _
      · simp at hv; obtain ⟨_, _, rfl⟩ := hv; rfl
      · simp [Builtin.lenOf, size_mk]
      · simp only [Builtin.firstCells, extract_mk, Sem.run_pure]
        congr 1
        apply Array.toList_inj.1
        simp
    · cases h

theorem tsrc_inv {t : TypeId} (h : tsrc P t = true) : (∃ e, P.underlying t = some (.slice e)) ∨ P.underlying t = some .string := by
  unfold tsrc at h
  split at h
  · exact .inl ⟨_, by assumption⟩
  · exact .inr (by assumption)
  · cases h

theorem src_ok (hW : WRel ρ G w) {sz : Nat} {t2 : TypeId} (ht : tsrc P t2 = true) {x : V} {X : Value} {p : Prop} {m : Nat} {new : List V} (hx : VR ρ G.next x X) (h : vrow sz G x = some (p, m, new)) (hp : p) :
    ∃ xs : List Value, VRs ρ G.next new xs ∧ V.scalarL new = true ∧ new.length = m * sz ∧ Src P sz t2 X m xs w := by
  obtain ⟨xs, h1, h2, h3, h4, h5⟩ := vrow_ok (P := P) hW hx h hp
  exact ⟨xs, h1, h3, h2, tsrc_inv ht, h4, h5 w rfl, h5 w.drew rfl, by rw [h1.1]; exact h2, h1.oneCell h3⟩

theorem tgrow_inv {e : TypeId} (h : tgrow P e = true) : ∃ i z, P.info? e = some i ∧ i.zero = some z ∧ z.cells.size = P.cellsOf e ∧ 0 < P.cellsOf e ∧ 0 < P.bytesOf e := by
  unfold tgrow at h
  split at h
  · rename_i zv hz
    simp only [Bool.and_eq_true, decide_eq_true_eq] at h
    unfold tzero at hz
    split at hz
    · rename_i i hi
      simp only [Option.map_eq_some_iff] at hz
      obtain ⟨z, h1, rfl⟩ := hz
      exact ⟨i, z, hi, h1, by simpa using h.1.1, h.1.2, h.2⟩
    · cases hz
  · cases h

/-- The room that an append owes. -/
theorem room_ok {e : TypeId} (hi : (P.info? e).isSome = true) (hpos : 0 < P.bytesOf e) {need old : Nat} (hg : old < need) (h : need * P.bytesOf e ≤ roomB) :
    ∃ i, P.info? e = some i ∧ i.size = P.cellsOf e ∧ ((need : Nat) : Int) ≤ 9223372036854775807 ∧ Builtin.nextslicecap need old * i.bytes ≤ 281474976710656 := by
  obtain ⟨i, hinfo⟩ := Option.isSome_iff_exists.1 hi
  have hb : P.bytesOf e = i.bytes := by simp [Program.bytesOf, hinfo]
  refine ⟨i, hinfo, by simp [Program.cellsOf, hinfo], ?_, growslice_fits hg (by rw [← hb]; exact h)⟩
  have : need * 1 ≤ need * P.bytesOf e := Nat.mul_le_mul_left _ hpos
  unfold roomB at h
  omega

/-- An append that makes a new row: of old cells that are read, and new ones. -/
theorem append_new (hW : WRel ρ G w) {t t2 e : TypeId} {ty : TypeId} (ht : telem P t = some e) (hgr : tgrow P e = true) {base : Option Addr} {sLen sCap : Nat} {olds : List Value} {oldV newV : List V} {X : Value} {m : Nat} {news : List Value}
    (hold : (Builtin.firstCells (P.cellsOf e) sLen (.slice base sLen sCap)).run P w.drew = .ok olds.toArray w.drew) (hov : VRs ρ G.next oldV olds) (hol : oldV.length = sLen * P.cellsOf e) (hos : V.scalarL oldV = true)
    (hs : Src P (P.cellsOf e) t2 X m news w) (hnv : VRs ρ G.next newV news) (hnl : newV.length = m * P.cellsOf e) (hns : V.scalarL newV = true) (hg : sCap < sLen + m) (hroom : (sLen + m) * P.bytesOf e ≤ roomB) :
    ∃ nc c, sLen + m ≤ nc ∧ (Builtin.append_ #[t, t2] ty #[.slice base sLen sCap, X]).run P w = .ok (.slice (some ⟨w.heap.size, 0, none⟩) (sLen + m) nc) (w.drew.alloc (.cells c e)) ∧
      c.size = nc * P.cellsOf e ∧ VRs ρ G.next (oldV ++ newV) (c.toList.take (oldV ++ newV).length) := by
  obtain ⟨i, z, hinfo, hz', hzs, hcp, hpos⟩ := tgrow_inv hgr
  obtain ⟨i', hinfo', hsz, h63, hfit⟩ := room_ok (by rw [hinfo]; rfl) hpos hg hroom
  rw [hinfo] at hinfo'
  cases hinfo'
  rw [← hsz] at hold hs
  have hrun := run_append_grow_src (ty := ty) w t t2 e i z (telem_inv ht) hinfo hz' base sLen sCap olds hold X m news hs hg h63 hfit
  have hnc : sLen + m ≤ grownCap w (sLen + m) sCap e := by simp [grownCap, Question.cut]
  refine ⟨_, _, hnc, hrun, ?_, ?_⟩
  · have h1 := hov.1
    have h2 := hnv.1
    simp only [Builtin.zeroCells, Array.size_append, List.size_toArray, List.length_append, Array.size_map, Array.size_range, h1, h2, hol, hnl, hzs]
    rw [← Nat.add_mul, ← Nat.add_mul]
    congr 1
    omega
  · have : ((oldV ++ newV).length) = (olds ++ news).length := by simp [hov.1, hnv.1]
    rw [this]
    simp only [Array.toList_append, List.toList_toArray]
    rw [List.take_left']
    · exact hov.append hnv
    · rfl

/-- **append.** -/
theorem vappend_ok (hW : WRel ρ G w) (hlow : n0 ≤ G.next) {ts : Array TypeId} {ty : TypeId} {s x : V} {S X : Value} {K : V → Heap → Prop} (hs : VR ρ G.next s S) (hx : VR ρ G.next x X) (h : vappend P ts.toList G s x K) :
    ∃ w' ρ' v G' y, WRel ρ' G' w' ∧ Rho.Le n0 ρ ρ' ∧ n0 ≤ G'.next ∧ K v G' ∧ (Builtin.append_ ts ty #[S, X]).run P w = .ok y w' ∧ VR ρ' G'.next v y := by
  unfold vappend at h
  split at h
  · rename_i t t2 hts
    have htsa : ts = #[t, t2] := by apply Array.toList_inj.1; simpa using hts
    subst htsa
    split at h
    · rename_i e he hsrc
      split at h
      · rename_i p m new hrow
        obtain ⟨hp, hgr, h⟩ := h
        obtain ⟨xs, hnv, hns, hnl, hS⟩ := src_ok (P := P) hW hsrc hx hrow hp
        obtain ⟨i, z, hinfo, hz, hzs, hcp, hbp⟩ := tgrow_inv hgr
        have hu := telem_inv he
        have hisz : i.size = P.cellsOf e := by simp [Program.cellsOf, hinfo]
        have none' : ∀ {base : Option Addr} {sLen sCap : Nat}, m = 0 → sLen ≤ sCap → (Builtin.append_ #[t, t2] ty #[.slice base sLen sCap, X]).run P w = .ok (.slice base sLen sCap) w := fun {base sLen sCap} h0 hle => by
          subst h0
          have : xs = [] := List.eq_nil_of_length_eq_zero (by rw [hnv.1, hnl]; omega)
          subst this
          exact run_append_nothing w t t2 ty e i hu hinfo base sLen sCap hle X (by rw [hisz]; exact hS)
        have fresh : ∀ {base : Option Addr} {sLen sCap : Nat} {olds : List Value} {oldV : List V}, (Builtin.firstCells (P.cellsOf e) sLen (.slice base sLen sCap)).run P w.drew = .ok olds.toArray w.drew → VRs ρ G.next oldV olds → oldV.length = sLen * P.cellsOf e → V.scalarL oldV = true → sCap < sLen + m → (sLen + m) * P.bytesOf e ≤ roomB →
            K (.arr (P.cellsOf e) G.next 0 0 (sLen + m)) (G.alloc (.cells 0 (oldV ++ new))) → ∃ w' ρ' v G' y, WRel ρ' G' w' ∧ Rho.Le n0 ρ ρ' ∧ n0 ≤ G'.next ∧ K v G' ∧ (Builtin.append_ #[t, t2] ty #[.slice base sLen sCap, X]).run P w = .ok y w' ∧ VR ρ' G'.next v y :=
          fun {base sLen sCap olds oldV} h1 h2 h3 h4 h5 h6 hK => by
            obtain ⟨nc, c, k1, k2, k3, k4⟩ := append_new (ty := ty) hW he hgr h1 h2 h3 h4 hS hnv hnl hns h5 h6
            have hlen : (oldV ++ new).length = (sLen + m) * P.cellsOf e := by rw [List.length_append, h3, hnl, Nat.add_mul]
            obtain ⟨g1, g2, g3⟩ := new_cells (e := e) hW k4 (by rw [hlen, k3]; exact Nat.mul_le_mul_right _ k1) (by rw [scalarL_append, h4, hns]; rfl) (w1 := w.drew) ⟨rfl, rfl, rfl, Nat.le_refl _, fun _ _ => rfl⟩ rfl
            exact ⟨_, _, _, _, _, g1, g2.mono hlow, by simp; omega, hK, k2, .arr _ _ _ _ _ _ c.size nc (by simp) g3 (by rw [k3]; omega) k1⟩
        split at h
        · -- nil
          obtain rfl : S = .slice none 0 0 := by cases hs; rfl
          by_cases h0 : m = 0
          · exact ⟨w, ρ, _, _, _, hW, Rho.Le.refl _ _, hlow, h.1 h0, none' h0 (Nat.le_refl _), .nilsl⟩
          · obtain ⟨hr, hK⟩ := h.2 h0
            exact fresh (olds := []) (oldV := []) (by rfl) VRs.nil (by simp) rfl (by omega) (by simpa using hr) (by simpa using hK)
        · -- a row with no room
          rename_i sz k cells
          obtain ⟨rfl, hA, hB⟩ := h
          obtain ⟨A, rfl, hsl⟩ := hs.slc_inv
          by_cases h0 : m = 0
          · exact ⟨w, ρ, _, _, _, hW, Rho.Le.refl _ _, hlow, hA h0, none' h0 (Nat.le_refl _), hs⟩
          · obtain ⟨hr, hK⟩ := hB h0
            obtain ⟨olds, o1, o2, o3, o4, o5⟩ := vrow_ok (P := P) (sz := P.cellsOf e) (p := True) (m := k) (new := cells) hW hs (by simp [vrow]) trivial
            exact fresh (o5 w.drew rfl) o1 o2 o3 (by omega) hr hK
        · -- a row of its own
          rename_i sz id g off k
          split at h
          · rename_i g' cs hg
            obtain ⟨rfl, rfl, rfl, hl, hr, hK⟩ := h
            have hsc : V.scalarL cs = true := by have := hW.wf _ _ hg; simp only [Blk.under, Bool.and_eq_true] at this; exact this.2
            have hun : V.underL G.next cs = true := by have := hW.wf _ _ hg; simp only [Blk.under, Bool.and_eq_true] at this; exact this.1
            have hlen : (cs ++ new).length = (k + m) * P.cellsOf e := by rw [List.length_append, hl, hnl, Nat.add_mul]
            have hun' : (Blk.cells (g + 1) (cs ++ new)).under G.next = true := by
              simp only [Blk.under, Bool.and_eq_true, underL_append, scalarL_append]
              exact ⟨⟨hun, hnv.under _ (Nat.le_refl _)⟩, hsc, hns⟩
            have hid := hW.lt _ _ hg
            have late : ∀ j, g + 1 ≤ j → ρ.blk id j = none := fun j hj => hW.late id _ j hg (by simp only [Blk.gen]; omega)
            -- a new row, under the old name
            have regrow : ∀ {base : Option Addr} {sCap : Nat} {r : Reg}, ρ.blk id g = some r → (∀ kk cap, r = .at kk cap → ρ.blk id g = some (.at kk cap)) → S = .slice base k sCap → sCap < k + m →
                ∃ w' ρ' v G' y, WRel ρ' G' w' ∧ Rho.Le n0 ρ ρ' ∧ n0 ≤ G'.next ∧ K v G' ∧ (Builtin.append_ #[t, t2] ty #[S, X]).run P w = .ok y w' ∧ VR ρ' G'.next v y := fun {base sCap r} hr1 _ hSe hlt => by
              subst hSe
              obtain ⟨olds, o1, o2, o3, o4, o5⟩ := vrow_ok (P := P) (sz := P.cellsOf e) (p := 0 + k * P.cellsOf e ≤ cs.length) (m := k) (new := (cs.drop 0).take (k * P.cellsOf e)) hW hs (by simp [vrow, hg]) (by omega)
              have hcs : (cs.drop 0).take (k * P.cellsOf e) = cs := by rw [List.drop_zero, List.take_of_length_le (by omega)]
              rw [hcs] at o1 o2 o3
              obtain ⟨nc, c, k1, k2, k3, k4⟩ := append_new (ty := ty) hW he hgr (o5 w.drew rfl) o1 o2 o3 hS hnv hnl hns hlt hr
              have hle := Rho.set_le_late (n := G.next) ρ (id := id) (g + 1) (.at w.heap.size c.size) late
              refine ⟨w.drew.alloc (.cells c e), ρ.set id (g + 1) (.at w.heap.size c.size), _, G.put id (.cells (g + 1) (cs ++ new)), _, ?_, hle.mono hlow, hlow, hK, k2, ?_⟩
              · refine hW.next (r := r) (r' := .at w.heap.size c.size) hg hr1 rfl rfl rfl (by simp) (fun j hj _ => Below.heap_alloc w.drew _ j hj) (fun b cap e => by cases e; exact .inr (Nat.le_refl _)) ?_ hun'
                refine ⟨c, e, (0, 0), ?_, rfl, by rw [hlen, k3]; exact Nat.mul_le_mul_right _ k1, fun j v x e1 e2 => ?_, fun o _ => by omega⟩
                · show (w.heap.push _)[w.heap.size]? = _; simp
                · have hj : j < (cs ++ new).length := by
                    rcases Nat.lt_or_ge j (cs ++ new).length with h | h
                    · exact h
                    · rw [List.getElem?_eq_none h] at e1; cases e1
                  exact (k4.2 j v x e1 (by rw [List.getElem?_take, if_pos hj]; simpa using e2)).le hle (Nat.le_refl _)
              · exact .arr _ _ _ _ _ _ c.size nc hid (Rho.set_same ..) (by rw [k3]; omega) k1
            cases hs with
            | arr _ _ _ _ _ b cap c h1 h2 h3 h4 =>
              by_cases hroom : k + m ≤ c
              · -- in place
                obtain ⟨C, e', fz, c1, c2, c3, c4, c5, c6⟩ := hW.block hg h2
                have hfit : k * P.cellsOf e + xs.length ≤ C.size := by
                  rw [hnv.1, hnl, c2, ← Nat.add_mul]
                  have := Nat.mul_le_mul_right (P.cellsOf e) hroom
                  omega
                obtain ⟨w', s1, s2, s3, s4, s5, s6, C', s7, s8⟩ := storeCells_run (P := P) (b := b) (o := 0 + k * P.cellsOf e) (e := e') (fz := fz) xs 0 w C c1 (by omega) (by rw [c2]; exact c6) (hnv.oneCell hns)
                have hrun : (Builtin.append_ #[t, t2] ty #[.slice (some ⟨b, 0, none⟩) k c, X]).run P w = .ok (.slice (some ⟨b, 0, none⟩) (k + m) c) w' := by
                  rcases hS.kind with ⟨e2, hk⟩ | hk <;> simp [Builtin.append_, run_und hu, run_und hk, sizeOf, typeInfo, hinfo, hS.len, hroom, hisz, hS.cells, s1] <;> (rw [Nat.zero_add] at s1; simp [s1])
                have hle := Rho.set_le_late (n := G.next) ρ (id := id) (g + 1) (.at b cap) late
                refine ⟨w', ρ.set id (g + 1) (.at b cap), _, G.put id (.cells (g + 1) (cs ++ new)), _, ?_, hle.mono hlow, hlow, hK, hrun, ?_⟩
                · refine hW.next (r := .at b cap) (r' := .at b cap) hg h2 s2 s3 s4 (by omega) (fun j hj hne => s6 j fun e => hne cap (by rw [e])) (fun b' cap' e => by cases e; exact .inl rfl) ?_ hun'
                  have hC's : C'.size = cap := by
                    have := congrArg List.length s8
                    simp only [List.length_append, List.length_take, List.length_drop, Array.length_toList] at this
                    omega
                  refine ⟨C', e', fz, s7, hC's, by rw [hlen]; have := Nat.mul_le_mul_right (P.cellsOf e) hroom; omega, fun j v x e1 e2 => ?_, c6⟩
                  have e2' : C'.toList[j]? = some x := by simpa using e2
                  rw [s8] at e2'
                  rw [List.getElem?_append] at e1
                  split at e1
                  · rename_i hj
                    rw [List.getElem?_append_left (by simp; omega), List.getElem?_append_left (by simp; omega), List.getElem?_take, if_pos (by omega)] at e2'
                    exact (c4.2 j v x e1 (by rw [List.getElem?_take, if_pos hj]; exact e2')).le hle (Nat.le_refl _)
                  · rename_i hj
                    have hj2 : j < cs.length + new.length := by
                      have := (List.getElem?_eq_some_iff.1 e1).1
                      omega
                    have hx1 := hnv.1
                    rw [List.getElem?_append_left (by simp; omega), List.getElem?_append_right (by simp; omega)] at e2'
                    have hlt : (C.toList.take (0 + k * P.cellsOf e + 0)).length = cs.length := by simp; omega
                    rw [hlt] at e2'
                    exact (hnv.2 _ v x e1 e2').le hle (Nat.le_refl _)
                · exact .arr _ _ _ _ _ _ cap c hid (Rho.set_same ..) h3 hroom
              · exact regrow h2 (fun kk cap' e => by rw [h2, e]) rfl (by omega)
            | arr0 _ _ _ A h1 h2 =>
              by_cases h0 : m = 0
              · subst h0
                have hnew : new = [] := List.eq_nil_of_length_eq_zero (by rw [hnl]; omega)
                have hcs : cs = [] := List.eq_nil_of_length_eq_zero (by omega)
                subst hnew; subst hcs
                have hle := Rho.set_le_late (n := G.next) ρ (id := id) (g + 1) .none late
                refine ⟨w, ρ.set id (g + 1) .none, _, G.put id (.cells (g + 1) ([] ++ [])), _, ?_, hle.mono hlow, hlow, hK, none' rfl (Nat.le_refl _), ?_⟩
                · exact hW.next (r := .none) (r' := .none) hg h2 rfl rfl rfl (Nat.le_refl _) (fun _ _ _ => rfl) (fun b cap e => by cases e) rfl hun'
                · exact .arr0 _ _ _ _ hid (Rho.set_same ..)
              · exact regrow h2 (fun kk cap' e => by rw [h2, e]) rfl (by omega)
          · exact h.elim
        · exact h.elim
      · exact h.elim
    · exact h.elim
  · exact h.elim
end
end Go.Vf
