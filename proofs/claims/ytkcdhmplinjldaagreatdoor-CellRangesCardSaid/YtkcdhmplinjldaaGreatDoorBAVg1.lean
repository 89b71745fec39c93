/- A part of the proof: Vg1, Vg2, Vg3. -/
import Derived.Test.YtkcdhmplinjldaaGreatDoorBAVf1
import Derived.Laws.Append
import Derived.Deep.AppendSrc
import Derived.Deep.Upon
import Derived.Laws.MakeOwn
set_option linter.unusedVariables false
set_option linter.unusedSimpArgs false
namespace Go.Vf
open Go.RowKit
def roomB : Nat := 140737488355328
def vrow (sz : Nat) (G : Heap) : V → Option (Prop × Nat × List V)
  | .nilsl => some (True, 0, [])
  | .sl s n cells | .slc s n cells => if s = sz then some (True, n, cells) else none
  | .arr s id g off n => if s = sz then match G.get id with
    | some (.cells g' cs) => if g = g' then some (off + n * sz ≤ cs.length, n, (cs.drop off).take (n * sz)) else none
    | _ => none else none
  | .str s => if sz = 1 then some (True, s.length, s.map vbyte) else none
  | _ => none
def tsrc (P : Program) (t : TypeId) : Bool := match P.underlying t with | some (.slice _) | some .string => true | _ => false
def tgrow (P : Program) (e : TypeId) : Bool := match tzero P e with | some z => decide (z.length = P.cellsOf e) && decide (0 < P.cellsOf e) && decide (0 < P.bytesOf e) | none => false
def vappend (P : Program) (ts : List TypeId) (G : Heap) (s x : V) (K : V → Heap → Prop) : Prop :=
  match ts with
  | [t, t2] => match telem P t, tsrc P t2 with
    | some e, true => match vrow (P.cellsOf e) G x with
      | some (p, m, new) => p ∧ tgrow P e = true ∧ match s with
        | .nilsl => (m = 0 → K .nilsl G) ∧ (m ≠ 0 → m * P.bytesOf e ≤ roomB ∧ K (.arr (P.cellsOf e) G.next 0 0 m) (G.alloc (.cells 0 new)))
        | .slc sz n cells => sz = P.cellsOf e ∧ (m = 0 → K (.slc sz n cells) G) ∧ (m ≠ 0 → (n + m) * P.bytesOf e ≤ roomB ∧ K (.arr (P.cellsOf e) G.next 0 0 (n + m)) (G.alloc (.cells 0 (cells ++ new))))
        | .arr sz id g off n => match G.get id with
          | some (.cells g' cs) => sz = P.cellsOf e ∧ off = 0 ∧ g = g' ∧ cs.length = n * sz ∧ (n + m) * P.bytesOf e ≤ roomB ∧ K (.arr (P.cellsOf e) id (g + 1) 0 (n + m)) (G.put id (.cells (g + 1) (cs ++ new)))
          | _ => False
        | _ => False
      | none => False
    | _, _ => False
  | _ => False
def vdecode (s : List UInt8) (i : Nat) : Nat × Nat := Utf8.decode ⟨s.toArray⟩ i
def vstore (P : Program) (t : TypeId) (G : Heap) (a x : V) (K : V → Heap → Prop) : Prop :=
  match a, vflat x with
  | .ptr id g off, some vs => match G.get id with
    | some (.cells g' cs) => g = g' ∧ vs.length = P.cellsOf t ∧ (P.info? t).isSome = true ∧ V.scalarL vs = true ∧ off + vs.length ≤ cs.length ∧ K .top (G.put id (.cells g (vsplice cs off vs)))
    | _ => False
  | _, _ => False
def vmake (P : Program) (t : TypeId) (G : Heap) (l c : V) (K : V → Heap → Prop) : Prop :=
  match l, c, telem P t with
  | .int _ l, .int _ c, some e => match tzero P e with
    | some z => 0 ≤ l ∧ l ≤ c ∧ c ≤ 4611686018427387904 ∧ (P.bytesOf e : Int) * c ≤ 140737488355328 ∧ 0 < P.cellsOf e ∧ z.length = P.cellsOf e ∧ V.scalarL z = true ∧
        K (.arr (P.cellsOf e) G.next 0 0 l.toNat) (G.alloc (.cells 0 (vreps l.toNat z)))
    | none => False
  | _, _, _ => False
def vclear (P : Program) (ts : List TypeId) (G : Heap) (x : V) (K : V → Heap → Prop) : Prop :=
  match ts with
  | t :: _ => match telem P t, x with
    | some e, .nilsl => K (.tup []) G
    | some e, .arr sz id g off n => match tzero P e, G.get id with
      | some z, some (.cells g' cs) => g = g' ∧ sz = P.cellsOf e ∧ z.length = sz ∧ 0 < sz ∧ V.scalarL z = true ∧ off + n * sz ≤ cs.length ∧ K (.tup []) (G.put id (.cells g (vsplice cs off (vreps n z))))
      | _, _ => False
    | _, _ => False
  | _ => False
def vl (P : Program) (E : Env) (G : Heap) (K : V → Heap → Prop) : Op → Prop
  | .alloc t => match tzero P t with
    | some z => V.scalarL z = true ∧ K (.ptr G.next 0 0) (G.alloc (.cells 0 z))
    | none => False
  | .box t x => match vflat (vev E x) with
    | some vs => V.scalarL vs = true ∧ K (.ptr G.next 0 0) (G.alloc (.cells 0 vs))
    | none => False
  | .buildSlice t len parts => match telem P t with
    | some e => match tzero P e with
      | some z => len * P.cellsOf e ≤ 16777216 ∧ z.length = P.cellsOf e ∧ 0 < P.cellsOf e ∧
          match vfill (fun i => some (i * P.cellsOf e, P.cellsOf e)) (vreps len z) (parts.toList.map fun p => (p.1, vev E p.2)) with
          | some cs => V.scalarL cs = true ∧ K (.arr (P.cellsOf e) G.next 0 0 len) (G.alloc (.cells 0 cs))
          | none => False
      | none => False
    | none => False
  | .store t a x => vstore P t G (vev E a) (vev E x) K
  | .makeSlice t l c => vmake P t G (vev E l) (vev E c) K
  | .range t x => match P.underlying t, vev E x with
    | some .string, .str s => K (.ptr G.next 0 0) (G.alloc (.iter s 0))
    | _, _ => False
  | .next x true => match vev E x with
    | .ptr id 0 0 => match G.get id with
      | some (.iter s pos) => if pos < s.length then K (.tup [.bool true, .int .i64 (pos : Int), .int .i32 ((vdecode s pos).1 : Int)]) (G.put id (.iter s (pos + (vdecode s pos).2))) else K (.tup [.bool false]) G
      | _ => False
    | _ => False
  | .call { callee := .builtin .append, args, argTypes } => match args.toList with
    | [s, x] => vappend P argTypes.toList G (vev E s) (vev E x) K
    | _ => False
  | .call { callee := .builtin .clear, args, argTypes } => match args.toList with
    | [x] => vclear P argTypes.toList G (vev E x) K
    | _ => False
  | _ => False
section
variable {P : Program} {N n0 : Nat} {ρ : Rho} {E : Env} {G : Heap} {a : Act} {w : World} {n : Nat}
def LRun (P : Program) (n0 : Nat) (ρ : Rho) (w : World) (s : Sem Next) (K : V → Heap → Prop) : Prop :=
  ∃ w' ρ' v G', WRel ρ' G' w' ∧ Rho.Le n0 ρ ρ' ∧ n0 ≤ G'.next ∧ K v G' ∧ ((∃ x, s.run P w = .ok (.value x) w' ∧ VR ρ' G'.next v x) ∨ (s.run P w = .ok .skip w' ∧ VR ρ' G'.next v undef))
theorem below_alloc (w : World) (o : Obj) : Below w.heap.size w (w.alloc o) := (Below.refl _ _).alloc (Nat.le_refl _) o
theorem VRs.under {vs : List V} {xs : List Value} (h : VRs ρ n vs xs) (k : Nat) (hk : n ≤ k) : V.underL k vs = true := underL_of fun i v e => by
  obtain ⟨x, hx, hv⟩ := h.get e
  exact V.under_mono (ρ := ρ) hk hv.isUnder
theorem VRs.oneCell {vs : List V} {xs : List Value} (h : VRs ρ n vs xs) (hs : V.scalarL vs = true) : ∀ x, x ∈ xs → x.oneCell' = true := fun x hx => by
  obtain ⟨i, hi⟩ := List.getElem?_of_mem hx
  obtain ⟨v, hv, hr⟩ := h.back hi
  exact hr.oneCell (scalarL_get hs hv)
theorem new_cells (hW : WRel ρ G w) {vs : List V} {c : Array Value} {e : TypeId} (hv : VRs ρ G.next vs (c.toList.take vs.length)) (hl : vs.length ≤ c.size) (hs : V.scalarL vs = true) {w1 : World} (hb : Below w.heap.size w w1) (hsz : w1.heap.size = w.heap.size) :
    WRel (ρ.set G.next 0 (.at w.heap.size c.size)) (G.alloc (.cells 0 vs)) (w1.alloc (.cells c e)) ∧ Rho.Le G.next ρ (ρ.set G.next 0 (.at w.heap.size c.size)) ∧
      (ρ.set G.next 0 (.at w.heap.size c.size)).blk G.next 0 = some (.at w.heap.size c.size) := by
  have hle := Rho.set_le_new (n := G.next) ρ 0 (.at w.heap.size c.size) (Nat.le_refl _)
  refine ⟨?_, hle, Rho.set_same ..⟩
  refine hW.new (blk := .cells 0 vs) (hb.trans ((below_alloc w1 _).mono (by omega))) ?_ (fun b cap e => by cases e; omega) ?_
  · refine ⟨c, e, (0, 0), ?_, rfl, hl, fun i v x e1 e2 => ?_, fun o _ => by omega⟩
    · rw [← hsz]; show (w1.heap.push _)[w1.heap.size]? = _; simp
    · have hi : i < vs.length := by
        rcases Nat.lt_or_ge i vs.length with h | h
        · exact h
        · rw [List.getElem?_eq_none h] at e1; cases e1
      exact (hv.2 i v x e1 (by rw [List.getElem?_take, if_pos hi]; simpa using e2)).le hle (Nat.le_succ _)
  · simp only [Blk.under, Bool.and_eq_true]
    exact ⟨hv.under _ (Nat.le_succ _), hs⟩
theorem storeCells_run {b o : Nat} {e : TypeId} {fz : Nat × Nat} : ∀ (vs : List Value) (i : Nat) (w : World) (c : Array Value), w.heap[b]? = some (.cells c e fz) → o + i + vs.length ≤ c.size → (∀ k, k < c.size → ¬(fz.1 ≤ k ∧ k < fz.2)) → (∀ x, x ∈ vs → x.oneCell' = true) →
    ∃ w', (storeCells ⟨b, o, none⟩ vs i).run P w = .ok () w' ∧ w'.os = w.os ∧ w'.tape = w.tape ∧ w'.output = w.output ∧ w'.heap.size = w.heap.size ∧ (∀ k, k ≠ b → w'.heap[k]? = w.heap[k]?) ∧
      ∃ c', w'.heap[b]? = some (.cells c' e fz) ∧ c'.toList = c.toList.take (o + i) ++ vs ++ c.toList.drop (o + i + vs.length)
  | [], i, w, c, hb, hl, hf, hs => ⟨w, rfl, rfl, rfl, rfl, rfl, fun _ _ => rfl, c, hb, by simp⟩
  | v :: vs, i, w, c, hb, hl, hf, hs => by
    simp only [List.length_cons] at hl
    have hcell : w.cell? ⟨b, o + i, none⟩ = some c[o + i] := by
      simp only [World.cell?, hb]
      simp [show o + i < c.size by omega]
    have hfr : w.frozen? ⟨b, o + i, none⟩ = false := by
      simp only [World.frozen?, hb]
      have := hf (o + i) (by omega)
      simp only [Bool.and_eq_false_iff, decide_eq_false_iff_not]
      by_cases h1 : fz.1 ≤ o + i
      · right; exact fun h2 => this ⟨h1, h2⟩
      · left; exact h1
    have hb' : (w.setCell ⟨b, o + i, none⟩ v).heap[b]? = some (.cells (c.setIfInBounds (o + i) v) e fz) := by
      simp [World.setCell, Array.getElem?_modify, hb]
    obtain ⟨w', h1, h2, h3, h4, h5, h6, c', h7, h8⟩ := storeCells_run (b := b) (o := o) (e := e) (fz := fz) vs (i + 1) (w.setCell ⟨b, o + i, none⟩ v) (c.setIfInBounds (o + i) v) hb' (by simp; omega) (by simpa using hf) (fun x hx => hs x (by simp [hx]))
    refine ⟨w', ?_, h2, h3, h4, ?_, ?_, c', h7, ?_⟩
    · simp only [storeCells, Sem.run_bind, add_mk, run_store _ _ _ _ _ (hs v (by simp)), hcell, hfr, Bool.false_eq_true, if_false, Result.andThen_ok, h1]
    · rw [h5]; simp [World.setCell]
    · intro k hk
      rw [h6 k hk]
      simp only [World.setCell, Array.getElem?_modify]
      rw [if_neg (by omega)]
    · rw [h8]
      have hk : o + i < c.toList.length := by simp; omega
      simp only [Array.toList_setIfInBounds]
      rw [← Nat.add_assoc, List.take_succ_eq_append_getElem (by simp; omega)]
      simp only [List.getElem_set_self, List.append_assoc, List.cons_append, List.nil_append]
      rw [List.take_set_of_le (Nat.le_refl _)]
      congr 2
      rw [List.drop_set_of_lt (by omega)]
      simp only [List.length_cons]
      congr 2
      omega
end
end Go.Vf
set_option linter.unusedVariables false
set_option linter.unusedSimpArgs false
namespace Go.Vf
open Go.RowKit
section
variable {P : Program} {N n0 : Nat} {ρ : Rho} {E : Env} {G : Heap} {a : Act} {w : World} {n : Nat}
theorem CellsAt.heap {w' : World} (e : w'.heap = w.heap) {b o : Nat} {xs : List Value} (h : CellsAt w b o xs) : CellsAt w' b o xs := fun i x hx => by
  have := h i x hx
  simp only [World.cell?] at this ⊢
  rw [e]; exact this
theorem vrow_ok (hW : WRel ρ G w) {sz : Nat} {x : V} {X : Value} {p : Prop} {m : Nat} {new : List V} (hx : VR ρ G.next x X) (h : vrow sz G x = some (p, m, new)) (hp : p) :
    ∃ xs : List Value, VRs ρ G.next new xs ∧ new.length = m * sz ∧ V.scalarL new = true ∧ (∀ w', (Builtin.lenOf X).run P w' = .ok m w') ∧ ∀ w', w'.heap = w.heap → (Builtin.firstCells sz m X).run P w' = .ok xs.toArray w' := by
  have imm : ∀ {m cap : Nat} {cells : List V} {A : Option Addr}, SlOk ρ G.next sz m cells A → ∃ xs : List Value, VRs ρ G.next cells xs ∧ cells.length = m * sz ∧ V.scalarL cells = true ∧
      (∀ w', (Builtin.lenOf (.slice A m cap)).run P w' = .ok m w') ∧ ∀ w', w'.heap = w.heap → (Builtin.firstCells sz m (.slice A m cap)).run P w' = .ok xs.toArray w' := fun {m cap cells A} hs => by
    rcases hs.place with rfl | ⟨b, o, xs, rfl, hi, hv⟩
    · refine ⟨[], VRs.nil, hs.len, rfl, fun _ => rfl, fun w' _ => ?_⟩
      have h0 : m * sz = 0 := by have := hs.len; simpa using this.symm
      cases A with
      | none => rfl
      | some A => simp [Builtin.firstCells, loadCells, h0, loadCellsFrom]
    · refine ⟨xs, hv, hs.len, scalarL_of_closedL hs.closed, fun _ => rfl, fun w' hw' => ?_⟩
      simp only [Builtin.firstCells, loadCells]
      rw [← hs.len, ← hv.1, loadCells_run xs 0 #[] (by simpa using (hW.cellsAt hi).heap hw')]
      simp
  cases x <;> simp only [vrow, reduceCtorEq] at h
  case nilsl =>
    simp only [Option.some.injEq, Prod.mk.injEq] at h
    obtain ⟨rfl, rfl, rfl⟩ := h
    cases hx
    exact ⟨[], VRs.nil, by simp, rfl, fun _ => rfl, fun _ _ => rfl⟩
  case sl s k cells =>
    split at h
    · rename_i e; subst e
      simp only [Option.some.injEq, Prod.mk.injEq] at h
      obtain ⟨rfl, rfl, rfl⟩ := h
      obtain ⟨A, cap, rfl, _, hs⟩ := hx.sl_inv
      exact imm hs
    · cases h
  case slc s k cells =>
    split at h
    · rename_i e; subst e
      simp only [Option.some.injEq, Prod.mk.injEq] at h
      obtain ⟨rfl, rfl, rfl⟩ := h
      obtain ⟨A, rfl, hs⟩ := hx.slc_inv
      exact imm hs
    · cases h
  case arr s id g off k =>
    split at h
    · rename_i e; subst e
      split at h
      · rename_i g' cs hg
        split at h
        · rename_i e; subst e
          simp only [Option.some.injEq, Prod.mk.injEq] at h
          obtain ⟨rfl, rfl, rfl⟩ := h
          have hsc : V.scalarL cs = true := by have := hW.wf _ _ hg; simp only [Blk.under, Bool.and_eq_true] at this; exact this.2
          cases hx with
          | arr _ _ _ _ _ b cap c h1 h2 h3 h4 =>
            obtain ⟨C, e', fz, k1, k2, k3, k4, k5, k6⟩ := hW.block hg h2
            have hv := (k4.drop off).take (k * s)
            have hl : ((cs.drop off).take (k * s)).length = k * s := by rw [List.length_take, List.length_drop]; omega
            refine ⟨_, hv, hl, scalarL_sub hsc fun v hv => List.mem_of_mem_drop (List.mem_of_mem_take hv), fun _ => rfl, fun w' hw' => ?_⟩
            simp only [Builtin.firstCells, loadCells]
            rw [← hl, ← hv.1, loadCells_run _ 0 #[] ?_]
            · simp
            · have := (((k5.take cs.length).drop off).take (k * s)).heap hw'
              simpa using this
          | arr0 _ _ _ A h1 h2 =>
            refine ⟨[], by simpa using VRs.nil, by simp, by simp [V.scalarL], fun _ => rfl, fun w' _ => ?_⟩
            cases A with
            | none => rfl
            | some A => simp [Builtin.firstCells, loadCells, loadCellsFrom]
        · cases h
      · cases h
    · cases h
  case str s =>
    split at h
    · rename_i e; subst e
      simp only [Option.some.injEq, Prod.mk.injEq] at h
      obtain ⟨rfl, rfl, rfl⟩ := h
      obtain rfl := hx.str_inv
      refine ⟨s.map fun b => Value.int .u8 (b.toNat : Int), ⟨by simp, fun i v x e1 e2 => ?_⟩, by simp, scalarL_of fun v hv => ?_, fun _ => ?_, fun w' _ => ?_⟩
      · simp only [List.getElem?_map, Option.map_eq_some_iff] at e1 e2
        obtain ⟨c, hc, rfl⟩ := e1
        obtain ⟨c', hc', rfl⟩ := e2
        rw [hc] at hc'; cases hc'
        exact .int _ _
      · simp at hv; obtain ⟨_, _, rfl⟩ := hv; rfl
      · simp [Builtin.lenOf, size_mk]
      · simp only [Builtin.firstCells, extract_mk, Sem.run_pure]
        congr 1
        apply Array.toList_inj.1
        simp
    · cases h
theorem tsrc_inv {t : TypeId} (h : tsrc P t = true) : (∃ e, P.underlying t = some (.slice e)) ∨ P.underlying t = some .string := by
  unfold tsrc at h
  split at h
  · exact .inl ⟨_, by assumption⟩
  · exact .inr (by assumption)
  · cases h
theorem src_ok (hW : WRel ρ G w) {sz : Nat} {t2 : TypeId} (ht : tsrc P t2 = true) {x : V} {X : Value} {p : Prop} {m : Nat} {new : List V} (hx : VR ρ G.next x X) (h : vrow sz G x = some (p, m, new)) (hp : p) :
    ∃ xs : List Value, VRs ρ G.next new xs ∧ V.scalarL new = true ∧ new.length = m * sz ∧ Src P sz t2 X m xs w := by
  obtain ⟨xs, h1, h2, h3, h4, h5⟩ := vrow_ok (P := P) hW hx h hp
  exact ⟨xs, h1, h3, h2, tsrc_inv ht, h4, h5 w rfl, h5 w.drew rfl, by rw [h1.1]; exact h2, h1.oneCell h3⟩
theorem tgrow_inv {e : TypeId} (h : tgrow P e = true) : ∃ i z, P.info? e = some i ∧ i.zero = some z ∧ z.cells.size = P.cellsOf e ∧ 0 < P.cellsOf e ∧ 0 < P.bytesOf e := by
  unfold tgrow at h
  split at h
  · rename_i zv hz
    simp only [Bool.and_eq_true, decide_eq_true_eq] at h
    unfold tzero at hz
    split at hz
    · rename_i i hi
      simp only [Option.map_eq_some_iff] at hz
      obtain ⟨z, h1, rfl⟩ := hz
      exact ⟨i, z, hi, h1, by simpa using h.1.1, h.1.2, h.2⟩
    · cases hz
  · cases h
theorem room_ok {e : TypeId} (hi : (P.info? e).isSome = true) (hpos : 0 < P.bytesOf e) {need old : Nat} (hg : old < need) (h : need * P.bytesOf e ≤ roomB) :
    ∃ i, P.info? e = some i ∧ i.size = P.cellsOf e ∧ ((need : Nat) : Int) ≤ 9223372036854775807 ∧ Builtin.nextslicecap need old * i.bytes ≤ 281474976710656 := by
  obtain ⟨i, hinfo⟩ := Option.isSome_iff_exists.1 hi
  have hb : P.bytesOf e = i.bytes := by simp [Program.bytesOf, hinfo]
  refine ⟨i, hinfo, by simp [Program.cellsOf, hinfo], ?_, growslice_fits hg (by rw [← hb]; exact h)⟩
  have : need * 1 ≤ need * P.bytesOf e := Nat.mul_le_mul_left _ hpos
  unfold roomB at h
  omega
theorem append_new (hW : WRel ρ G w) {t t2 e : TypeId} {ty : TypeId} (ht : telem P t = some e) (hgr : tgrow P e = true) {base : Option Addr} {sLen sCap : Nat} {olds : List Value} {oldV newV : List V} {X : Value} {m : Nat} {news : List Value}
    (hold : (Builtin.firstCells (P.cellsOf e) sLen (.slice base sLen sCap)).run P w.drew = .ok olds.toArray w.drew) (hov : VRs ρ G.next oldV olds) (hol : oldV.length = sLen * P.cellsOf e) (hos : V.scalarL oldV = true)
    (hs : Src P (P.cellsOf e) t2 X m news w) (hnv : VRs ρ G.next newV news) (hnl : newV.length = m * P.cellsOf e) (hns : V.scalarL newV = true) (hg : sCap < sLen + m) (hroom : (sLen + m) * P.bytesOf e ≤ roomB) :
    ∃ nc c, sLen + m ≤ nc ∧ (Builtin.append_ #[t, t2] ty #[.slice base sLen sCap, X]).run P w = .ok (.slice (some ⟨w.heap.size, 0, none⟩) (sLen + m) nc) (w.drew.alloc (.cells c e)) ∧
      c.size = nc * P.cellsOf e ∧ VRs ρ G.next (oldV ++ newV) (c.toList.take (oldV ++ newV).length) := by
  obtain ⟨i, z, hinfo, hz', hzs, hcp, hpos⟩ := tgrow_inv hgr
  obtain ⟨i', hinfo', hsz, h63, hfit⟩ := room_ok (by rw [hinfo]; rfl) hpos hg hroom
  rw [hinfo] at hinfo'
  cases hinfo'
  rw [← hsz] at hold hs
  have hrun := run_append_grow_src (ty := ty) w t t2 e i z (telem_inv ht) hinfo hz' base sLen sCap olds hold X m news hs hg h63 hfit
  have hnc : sLen + m ≤ grownCap w (sLen + m) sCap e := by simp [grownCap, Question.cut]
  refine ⟨_, _, hnc, hrun, ?_, ?_⟩
  · have h1 := hov.1
    have h2 := hnv.1
    simp only [Builtin.zeroCells, Array.size_append, List.size_toArray, List.length_append, Array.size_map, Array.size_range, h1, h2, hol, hnl, hzs]
    rw [← Nat.add_mul, ← Nat.add_mul]
    congr 1
    omega
  · have : ((oldV ++ newV).length) = (olds ++ news).length := by simp [hov.1, hnv.1]
    rw [this]
    simp only [Array.toList_append, List.toList_toArray]
    rw [List.take_left']
    · exact hov.append hnv
    · rfl
theorem vappend_ok (hW : WRel ρ G w) (hlow : n0 ≤ G.next) {ts : Array TypeId} {ty : TypeId} {s x : V} {S X : Value} {K : V → Heap → Prop} (hs : VR ρ G.next s S) (hx : VR ρ G.next x X) (h : vappend P ts.toList G s x K) :
    ∃ w' ρ' v G' y, WRel ρ' G' w' ∧ Rho.Le n0 ρ ρ' ∧ n0 ≤ G'.next ∧ K v G' ∧ (Builtin.append_ ts ty #[S, X]).run P w = .ok y w' ∧ VR ρ' G'.next v y := by
  unfold vappend at h
  split at h
  · rename_i t t2 hts
    have htsa : ts = #[t, t2] := by apply Array.toList_inj.1; simpa using hts
    subst htsa
    split at h
    · rename_i e he hsrc
      split at h
      · rename_i p m new hrow
        obtain ⟨hp, hgr, h⟩ := h
        obtain ⟨xs, hnv, hns, hnl, hS⟩ := src_ok (P := P) hW hsrc hx hrow hp
        obtain ⟨i, z, hinfo, hz, hzs, hcp, hbp⟩ := tgrow_inv hgr
        have hu := telem_inv he
        have hisz : i.size = P.cellsOf e := by simp [Program.cellsOf, hinfo]
        have none' : ∀ {base : Option Addr} {sLen sCap : Nat}, m = 0 → sLen ≤ sCap → (Builtin.append_ #[t, t2] ty #[.slice base sLen sCap, X]).run P w = .ok (.slice base sLen sCap) w := fun {base sLen sCap} h0 hle => by
          subst h0
          have : xs = [] := List.eq_nil_of_length_eq_zero (by rw [hnv.1, hnl]; omega)
          subst this
          exact run_append_nothing w t t2 ty e i hu hinfo base sLen sCap hle X (by rw [hisz]; exact hS)
        have fresh : ∀ {base : Option Addr} {sLen sCap : Nat} {olds : List Value} {oldV : List V}, (Builtin.firstCells (P.cellsOf e) sLen (.slice base sLen sCap)).run P w.drew = .ok olds.toArray w.drew → VRs ρ G.next oldV olds → oldV.length = sLen * P.cellsOf e → V.scalarL oldV = true → sCap < sLen + m → (sLen + m) * P.bytesOf e ≤ roomB →
            K (.arr (P.cellsOf e) G.next 0 0 (sLen + m)) (G.alloc (.cells 0 (oldV ++ new))) → ∃ w' ρ' v G' y, WRel ρ' G' w' ∧ Rho.Le n0 ρ ρ' ∧ n0 ≤ G'.next ∧ K v G' ∧ (Builtin.append_ #[t, t2] ty #[.slice base sLen sCap, X]).run P w = .ok y w' ∧ VR ρ' G'.next v y :=
          fun {base sLen sCap olds oldV} h1 h2 h3 h4 h5 h6 hK => by
            obtain ⟨nc, c, k1, k2, k3, k4⟩ := append_new (ty := ty) hW he hgr h1 h2 h3 h4 hS hnv hnl hns h5 h6
            have hlen : (oldV ++ new).length = (sLen + m) * P.cellsOf e := by rw [List.length_append, h3, hnl, Nat.add_mul]
            obtain ⟨g1, g2, g3⟩ := new_cells (e := e) hW k4 (by rw [hlen, k3]; exact Nat.mul_le_mul_right _ k1) (by rw [scalarL_append, h4, hns]; rfl) (w1 := w.drew) ⟨rfl, rfl, rfl, Nat.le_refl _, fun _ _ => rfl⟩ rfl
            exact ⟨_, _, _, _, _, g1, g2.mono hlow, by simp; omega, hK, k2, .arr _ _ _ _ _ _ c.size nc (by simp) g3 (by rw [k3]; omega) k1⟩
        split at h
        · -- nil
          obtain rfl : S = .slice none 0 0 := by cases hs; rfl
          by_cases h0 : m = 0
          · exact ⟨w, ρ, _, _, _, hW, Rho.Le.refl _ _, hlow, h.1 h0, none' h0 (Nat.le_refl _), .nilsl⟩
          · obtain ⟨hr, hK⟩ := h.2 h0
            exact fresh (olds := []) (oldV := []) (by rfl) VRs.nil (by simp) rfl (by omega) (by simpa using hr) (by simpa using hK)
        · -- a row with no room
          rename_i sz k cells
          obtain ⟨rfl, hA, hB⟩ := h
          obtain ⟨A, rfl, hsl⟩ := hs.slc_inv
          by_cases h0 : m = 0
          · exact ⟨w, ρ, _, _, _, hW, Rho.Le.refl _ _, hlow, hA h0, none' h0 (Nat.le_refl _), hs⟩
          · obtain ⟨hr, hK⟩ := hB h0
            obtain ⟨olds, o1, o2, o3, o4, o5⟩ := vrow_ok (P := P) (sz := P.cellsOf e) (p := True) (m := k) (new := cells) hW hs (by simp [vrow]) trivial
            exact fresh (o5 w.drew rfl) o1 o2 o3 (by omega) hr hK
        · -- a row of its own
          rename_i sz id g off k
          split at h
          · rename_i g' cs hg
            obtain ⟨rfl, rfl, rfl, hl, hr, hK⟩ := h
            have hsc : V.scalarL cs = true := by have := hW.wf _ _ hg; simp only [Blk.under, Bool.and_eq_true] at this; exact this.2
            have hun : V.underL G.next cs = true := by have := hW.wf _ _ hg; simp only [Blk.under, Bool.and_eq_true] at this; exact this.1
            have hlen : (cs ++ new).length = (k + m) * P.cellsOf e := by rw [List.length_append, hl, hnl, Nat.add_mul]
            have hun' : (Blk.cells (g + 1) (cs ++ new)).under G.next = true := by
              simp only [Blk.under, Bool.and_eq_true, underL_append, scalarL_append]
              exact ⟨⟨hun, hnv.under _ (Nat.le_refl _)⟩, hsc, hns⟩
            have hid := hW.lt _ _ hg
            have late : ∀ j, g + 1 ≤ j → ρ.blk id j = none := fun j hj => hW.late id _ j hg (by simp only [Blk.gen]; omega)
            -- a new row, under the old name
            have regrow : ∀ {base : Option Addr} {sCap : Nat} {r : Reg}, ρ.blk id g = some r → (∀ kk cap, r = .at kk cap → ρ.blk id g = some (.at kk cap)) → S = .slice base k sCap → sCap < k + m →
                ∃ w' ρ' v G' y, WRel ρ' G' w' ∧ Rho.Le n0 ρ ρ' ∧ n0 ≤ G'.next ∧ K v G' ∧ (Builtin.append_ #[t, t2] ty #[S, X]).run P w = .ok y w' ∧ VR ρ' G'.next v y := fun {base sCap r} hr1 _ hSe hlt => by
              subst hSe
              obtain ⟨olds, o1, o2, o3, o4, o5⟩ := vrow_ok (P := P) (sz := P.cellsOf e) (p := 0 + k * P.cellsOf e ≤ cs.length) (m := k) (new := (cs.drop 0).take (k * P.cellsOf e)) hW hs (by simp [vrow, hg]) (by omega)
              have hcs : (cs.drop 0).take (k * P.cellsOf e) = cs := by rw [List.drop_zero, List.take_of_length_le (by omega)]
              rw [hcs] at o1 o2 o3
              obtain ⟨nc, c, k1, k2, k3, k4⟩ := append_new (ty := ty) hW he hgr (o5 w.drew rfl) o1 o2 o3 hS hnv hnl hns hlt hr
              have hle := Rho.set_le_late (n := G.next) ρ (id := id) (g + 1) (.at w.heap.size c.size) late
              refine ⟨w.drew.alloc (.cells c e), ρ.set id (g + 1) (.at w.heap.size c.size), _, G.put id (.cells (g + 1) (cs ++ new)), _, ?_, hle.mono hlow, hlow, hK, k2, ?_⟩
              · refine hW.next (r := r) (r' := .at w.heap.size c.size) hg hr1 rfl rfl rfl (by simp) (fun j hj _ => Below.heap_alloc w.drew _ j hj) (fun b cap e => by cases e; exact .inr (Nat.le_refl _)) ?_ hun'
                refine ⟨c, e, (0, 0), ?_, rfl, by rw [hlen, k3]; exact Nat.mul_le_mul_right _ k1, fun j v x e1 e2 => ?_, fun o _ => by omega⟩
                · show (w.heap.push _)[w.heap.size]? = _; simp
                · have hj : j < (cs ++ new).length := by
                    rcases Nat.lt_or_ge j (cs ++ new).length with h | h
                    · exact h
                    · rw [List.getElem?_eq_none h] at e1; cases e1
                  exact (k4.2 j v x e1 (by rw [List.getElem?_take, if_pos hj]; simpa using e2)).le hle (Nat.le_refl _)
              · exact .arr _ _ _ _ _ _ c.size nc hid (Rho.set_same ..) (by rw [k3]; omega) k1
            cases hs with
            | arr _ _ _ _ _ b cap c h1 h2 h3 h4 =>
              by_cases hroom : k + m ≤ c
              · -- in place
                obtain ⟨C, e', fz, c1, c2, c3, c4, c5, c6⟩ := hW.block hg h2
                have hfit : k * P.cellsOf e + xs.length ≤ C.size := by
                  rw [hnv.1, hnl, c2, ← Nat.add_mul]
                  have := Nat.mul_le_mul_right (P.cellsOf e) hroom
                  omega
                obtain ⟨w', s1, s2, s3, s4, s5, s6, C', s7, s8⟩ := storeCells_run (P := P) (b := b) (o := 0 + k * P.cellsOf e) (e := e') (fz := fz) xs 0 w C c1 (by omega) (by rw [c2]; exact c6) (hnv.oneCell hns)
                have hrun : (Builtin.append_ #[t, t2] ty #[.slice (some ⟨b, 0, none⟩) k c, X]).run P w = .ok (.slice (some ⟨b, 0, none⟩) (k + m) c) w' := by
                  rcases hS.kind with ⟨e2, hk⟩ | hk <;> simp [Builtin.append_, run_und hu, run_und hk, sizeOf, typeInfo, hinfo, hS.len, hroom, hisz, hS.cells, s1] <;> (rw [Nat.zero_add] at s1; simp [s1])
                have hle := Rho.set_le_late (n := G.next) ρ (id := id) (g + 1) (.at b cap) late
                refine ⟨w', ρ.set id (g + 1) (.at b cap), _, G.put id (.cells (g + 1) (cs ++ new)), _, ?_, hle.mono hlow, hlow, hK, hrun, ?_⟩
                · refine hW.next (r := .at b cap) (r' := .at b cap) hg h2 s2 s3 s4 (by omega) (fun j hj hne => s6 j fun e => hne cap (by rw [e])) (fun b' cap' e => by cases e; exact .inl rfl) ?_ hun'
                  have hC's : C'.size = cap := by
                    have := congrArg List.length s8
                    simp only [List.length_append, List.length_take, List.length_drop, Array.length_toList] at this
                    omega
                  refine ⟨C', e', fz, s7, hC's, by rw [hlen]; have := Nat.mul_le_mul_right (P.cellsOf e) hroom; omega, fun j v x e1 e2 => ?_, c6⟩
                  have e2' : C'.toList[j]? = some x := by simpa using e2
                  rw [s8] at e2'
                  rw [List.getElem?_append] at e1
                  split at e1
                  · rename_i hj
                    rw [List.getElem?_append_left (by simp; omega), List.getElem?_append_left (by simp; omega), List.getElem?_take, if_pos (by omega)] at e2'
                    exact (c4.2 j v x e1 (by rw [List.getElem?_take, if_pos hj]; exact e2')).le hle (Nat.le_refl _)
                  · rename_i hj
                    have hj2 : j < cs.length + new.length := by
                      have := (List.getElem?_eq_some_iff.1 e1).1
                      omega
                    have hx1 := hnv.1
                    rw [List.getElem?_append_left (by simp; omega), List.getElem?_append_right (by simp; omega)] at e2'
                    have hlt : (C.toList.take (0 + k * P.cellsOf e + 0)).length = cs.length := by simp; omega
                    rw [hlt] at e2'
                    exact (hnv.2 _ v x e1 e2').le hle (Nat.le_refl _)
                · exact .arr _ _ _ _ _ _ cap c hid (Rho.set_same ..) h3 hroom
              · exact regrow h2 (fun kk cap' e => by rw [h2, e]) rfl (by omega)
            | arr0 _ _ _ A h1 h2 =>
              by_cases h0 : m = 0
              · subst h0
                have hnew : new = [] := List.eq_nil_of_length_eq_zero (by rw [hnl]; omega)
                have hcs : cs = [] := List.eq_nil_of_length_eq_zero (by omega)
                subst hnew; subst hcs
                have hle := Rho.set_le_late (n := G.next) ρ (id := id) (g + 1) .none late
                refine ⟨w, ρ.set id (g + 1) .none, _, G.put id (.cells (g + 1) ([] ++ [])), _, ?_, hle.mono hlow, hlow, hK, none' rfl (Nat.le_refl _), ?_⟩
                · exact hW.next (r := .none) (r' := .none) hg h2 rfl rfl rfl (Nat.le_refl _) (fun _ _ _ => rfl) (fun b cap e => by cases e) rfl hun'
                · exact .arr0 _ _ _ _ hid (Rho.set_same ..)
              · exact regrow h2 (fun kk cap' e => by rw [h2, e]) rfl (by omega)
          · exact h.elim
        · exact h.elim
      · exact h.elim
    · exact h.elim
  · exact h.elim
end
end Go.Vf
set_option linter.unusedVariables false
set_option linter.unusedSimpArgs false
namespace Go.Vf
open Go.RowKit
section
variable {P : Program} {N n0 : Nat} {ρ : Rho} {E : Env} {G : Heap} {a : Act} {w : World} {n : Nat}
theorem newVar_run (hW : WRel ρ G w) {t : TypeId} {v : Value} {vs : List V} (hv : VRs ρ G.next vs v.cells.toList) (hs : V.scalarL vs = true) :
    ∃ w' ρ', (do pure (Next.value (.pointer (some (← newVar t v)))) : Sem Next).run P w = .ok (.value (.pointer (some ⟨w.heap.size, 0, none⟩))) w' ∧ WRel ρ' (G.alloc (.cells 0 vs)) w' ∧ Rho.Le G.next ρ ρ' ∧ VR ρ' (G.next + 1) (.ptr G.next 0 0) (.pointer (some ⟨w.heap.size, 0, none⟩)) := by
  obtain ⟨g1, g2, g3⟩ := new_cells (c := v.cells) (e := t) hW (by rw [List.take_of_length_le (by rw [hv.1]; exact Nat.le_refl _)]; exact hv) (by have := hv.1; simp at this; omega) hs (Below.refl _ w) rfl
  exact ⟨w.alloc (.cells v.cells t), _, by simp [newVar, newRow], g1, g2, .ptr _ _ _ _ _ (Nat.lt_succ_self _) g3⟩
theorem alloc_ok (hW : WRel ρ G w) (hlow : n0 ≤ G.next) {t : TypeId} {z : List V} (hz : tzero P t = some z) (hs : V.scalarL z = true) {K : V → Heap → Prop} (hK : K (.ptr G.next 0 0) (G.alloc (.cells 0 z))) :
    LRun P n0 ρ w (do pure (Next.value (← Instr.alloc t true (.tuple #[])))) K := by
  obtain ⟨zv, h1, h2⟩ := tzero_inv (ρ := ρ) (n := G.next) (w := w) hz
  obtain ⟨w', ρ', k1, k2, k3, k4⟩ := newVar_run (P := P) (t := t) hW h2 hs
  refine ⟨w', ρ', _, _, k2, k3.mono hlow, by simp; omega, hK, .inl ⟨_, ?_, k4⟩⟩
  simpa [Instr.alloc, h1] using k1
theorem box_ok (hW : WRel ρ G w) (hlow : n0 ≤ G.next) {t : TypeId} {x : V} {X : Value} {vs : List V} (hx : VR ρ G.next x X) (hf : vflat x = some vs) (hs : V.scalarL vs = true) {K : V → Heap → Prop} (hK : K (.ptr G.next 0 0) (G.alloc (.cells 0 vs))) :
    LRun P n0 ρ w (do pure (Next.value (← Instr.box t X))) K := by
  obtain ⟨w', ρ', k1, k2, k3, k4⟩ := newVar_run (P := P) (t := t) hW (vflat_ok hx hf) hs
  refine ⟨w', ρ', _, _, k2, k3.mono hlow, by simp; omega, hK, .inl ⟨_, ?_, k4⟩⟩
  simpa [Instr.box] using k1
theorem write_cells (hW : WRel ρ G w) {id g : Nat} {cs vs : List V} (hg : G.get id = some (.cells g cs)) {b cap off : Nat} (hr : ρ.blk id g = some (.at b cap)) {xs : List Value} (hv : VRs ρ G.next vs xs) (hs : V.scalarL vs = true) (hfit : off + vs.length ≤ cs.length) :
    ∃ w', (storeCells ⟨b, off, none⟩ xs).run P w = .ok () w' ∧ WRel ρ (G.put id (.cells g (vsplice cs off vs))) w' := by
  obtain ⟨c, e, fz, h1, h2, h3, h4, h5, h6⟩ := hW.block hg hr
  have hwf := hW.wf _ _ hg
  simp only [Blk.under, Bool.and_eq_true] at hwf
  obtain ⟨w', s1, s2, s3, s4, s5, s6, c', s7, s8⟩ := storeCells_run (P := P) (b := b) (o := off) (e := e) (fz := fz) xs 0 w c h1 (by rw [hv.1]; omega) (by rw [h2]; exact h6) (hv.oneCell hs)
  have hlen : (vsplice cs off vs).length = cs.length := by simp only [vsplice, List.length_append, List.length_take, List.length_drop]; omega
  refine ⟨w', s1, hW.put hg hr s2 s3 s4 s5 s6 rfl ?_ ?_⟩
  · have hc's : c'.size = cap := by
      have := congrArg List.length s8
      simp only [List.length_append, List.length_take, List.length_drop, Array.length_toList, hv.1] at this
      omega
    refine ⟨c', e, fz, s7, hc's, by rw [hlen]; exact h3, fun i v x e1 e2 => ?_, h6⟩
    have e2' : c'.toList[i]? = some x := by simpa using e2
    rw [s8, Nat.add_zero] at e2'
    have hVR : VRs ρ G.next (vsplice cs off vs) ((c.toList.take off ++ xs ++ c.toList.drop (off + xs.length)).take cs.length) := by
      have a1 : VRs ρ G.next (cs.take off) (c.toList.take off) := by
        have := h4.take off
        rwa [List.take_take, Nat.min_eq_left (by omega)] at this
      have a2 := h4.drop (off + vs.length)
      have : ((c.toList.take off ++ xs ++ c.toList.drop (off + xs.length)).take cs.length) = c.toList.take off ++ xs ++ (c.toList.take cs.length).drop (off + vs.length) := by
        rw [List.take_append, List.take_of_length_le (by simp [hv.1]; omega), hv.1, List.drop_take]
        congr 2
        simp [hv.1]
        omega
      rw [this]
      exact (a1.append hv).append a2
    have hi : i < cs.length := by
      have := (List.getElem?_eq_some_iff.1 e1).1
      omega
    exact hVR.2 i v x e1 (by rw [List.getElem?_take, if_pos hi]; exact e2')
  · simp only [Blk.under, Bool.and_eq_true]
    have hmem : ∀ v, v ∈ vsplice cs off vs → v ∈ cs ∨ v ∈ vs := fun v hv => by
      simp only [vsplice, List.mem_append] at hv
      rcases hv with (hv | hv) | hv
      · exact .inl (List.mem_of_mem_take hv)
      · exact .inr hv
      · exact .inl (List.mem_of_mem_drop hv)
    refine ⟨underL_of fun i v e => ?_, scalarL_of fun v hv => ?_⟩
    · rcases hmem v (List.mem_of_getElem? e) with h | h
      · obtain ⟨j, hj⟩ := List.getElem?_of_mem h; exact underL_get hwf.1 hj
      · obtain ⟨j, hj⟩ := List.getElem?_of_mem h; exact underL_get (hv.under _ (Nat.le_refl _)) hj
    · rcases hmem v hv with h | h
      · exact scalarL_mem hwf.2 h
      · exact scalarL_mem hs h
theorem store_ok (hW : WRel ρ G w) (hlow : n0 ≤ G.next) {t : TypeId} {x y : V} {X Y : Value} (hx : VR ρ G.next x X) (hy : VR ρ G.next y Y) {K : V → Heap → Prop} (h : vstore P t G x y K) :
    LRun P n0 ρ w (do Instr.storeAt t X Y; pure .skip) K := by
  unfold vstore at h
  split at h
  · rename_i id g off vs hvf
    split at h
    · rename_i g' cs hg
      obtain ⟨rfl, hl, hi, hs, hfit, hK⟩ := h
      have hvs := vflat_ok hy hvf
      cases hx with
      | ptr _ _ _ b cap h1 h2 =>
        obtain ⟨w', s1, s2⟩ := write_cells (P := P) hW hg h2 hvs hs hfit
        refine ⟨w', ρ, _, _, s2, Rho.Le.refl _ _, hlow, hK, .inr ⟨?_, .top _⟩⟩
        have hsz : Y.cells.size = P.cellsOf t := by have := hvs.1; simp at this; omega
        simp only [Instr.storeAt, Instr.sureAddr, Sem.run_bind, Sem.run_pure, Result.andThen_ok, storeVar, run_sizeOf hi, hsz, ne_eq, not_true_eq_false, if_false, s1]
    · exact h.elim
  · exact h.elim
theorem vreps_take {l c : Nat} (h : l ≤ c) {z : List V} : (vreps c z).take (l * z.length) = vreps l z := by
  apply List.ext_getElem?
  intro i
  rw [List.getElem?_take]
  split
  · rename_i hi
    rw [vreps_get _ _ _ hi, vreps_get _ _ _ (Nat.lt_of_lt_of_le hi (Nat.mul_le_mul_right _ h))]
  · rename_i hi
    rw [List.getElem?_eq_none (by rw [vreps_len]; omega)]
theorem vreps_scalar (k : Nat) {z : List V} (h : V.scalarL z = true) : V.scalarL (vreps k z) = true := by
  induction k with
  | zero => rfl
  | succ k ih => simp [vreps, scalarL_append, h, ih]
theorem make_ok (hW : WRel ρ G w) (hlow : n0 ≤ G.next) {t : TypeId} {x y : V} {X Y : Value} (hx : VR ρ G.next x X) (hy : VR ρ G.next y Y) {K : V → Heap → Prop} (h : vmake P t G x y K) :
    LRun P n0 ρ w (do pure (Next.value (← Instr.makeSlice t X Y))) K := by
  unfold vmake at h
  split at h
  · rename_i k l k' c e he
    obtain rfl := hx.int_inv; obtain rfl := hy.int_inv
    split at h
    · rename_i z hz
      obtain ⟨h0, h1, h2, h3, h4, h5, h6, hK⟩ := h
      obtain ⟨zv, z1, z2⟩ := tzero_inv (ρ := ρ) (n := G.next) (w := w) hz
      obtain ⟨i, zv', hi, hzi, rfl⟩ : ∃ i zv', P.info? e = some i ∧ i.zero = some zv' ∧ zv' = zv := by
        unfold tzero at hz
        split at hz
        · rename_i i hi
          simp only [Option.map_eq_some_iff] at hz
          obtain ⟨zz, h7, _⟩ := hz
          refine ⟨i, zz, hi, h7, ?_⟩
          have : (zeroValue e).run P w = .ok zz w := by simp [zeroValue, typeInfo, hi, h7]
          rw [this] at z1; cases z1; rfl
        · cases hz
      have hb : P.bytesOf e = i.bytes := by simp [Program.bytesOf, hi]
      have hsz : P.cellsOf e = i.size := by simp [Program.cellsOf, hi]
      have hzs : zv'.cells.size = P.cellsOf e := by have := z2.1; simp at this; omega
      have hrun := run_make (P := P) w t e i zv' (telem_inv he) hi hzi k k' l c h0 h1 (by rw [← hb]; omega) (by omega)
      rw [← hsz] at hrun
      have hC : VRs ρ G.next (vreps c.toNat z) (madeCells zv'.cells (c.toNat * P.cellsOf e)).toList := by have := reps_ok z2 c.toNat (by omega); rw [h5] at this; exact this
      have hCs : (madeCells zv'.cells (c.toNat * P.cellsOf e)).size = c.toNat * P.cellsOf e := by simp [madeCells]
      have hle : l.toNat ≤ c.toNat := by omega
      have hC' := hC.take (l.toNat * z.length)
      rw [vreps_take hle] at hC'
      have hlen := vreps_len l.toNat z
      have hle' : (vreps l.toNat z).length ≤ c.toNat * P.cellsOf e := by rw [hlen, h5]; exact Nat.mul_le_mul_right _ hle
      rw [← hlen] at hC'
      obtain ⟨g1, g2, g3⟩ := new_cells (e := e) hW hC' (by rw [hCs]; exact hle') (vreps_scalar _ h6) (Below.refl _ w) rfl
      refine ⟨_, _, _, _, g1, g2.mono hlow, by simp; omega, hK, .inl ⟨.slice (some ⟨w.heap.size, 0, none⟩) l.toNat c.toNat, by simp only [Sem.run_bind, hrun, Result.andThen_ok, Sem.run_pure], ?_⟩⟩
      exact .arr _ _ _ _ _ _ _ c.toNat (by simp) g3 (by rw [hCs]; omega) hle
    · exact h.elim
  · exact h.elim
theorem clear_ok (hW : WRel ρ G w) (hlow : n0 ≤ G.next) {ts : Array TypeId} {ty : TypeId} {x : V} {X : Value} (hx : VR ρ G.next x X) {K : V → Heap → Prop} (h : vclear P ts.toList G x K) :
    LRun P n0 ρ w (do pure (Next.value (← Builtin.clear_ ts ty #[X]))) K := by
  unfold vclear at h
  split at h
  · rename_i t tr hts
    have ht0 : ts[0]? = some t := by have := congrArg (fun l : List TypeId => l[0]?) hts; simpa using this
    split at h
    · rename_i e he
      obtain rfl : X = .slice none 0 0 := by cases hx; rfl
      exact ⟨w, ρ, _, _, hW, Rho.Le.refl _ _, hlow, h, .inl ⟨.tuple #[], by simp [Builtin.clear_, ht0, run_und (telem_inv he)], VRs.nil.tup⟩⟩
    · rename_i e sz id g off m he
      split at h
      · rename_i z g' cs hz hg
        obtain ⟨rfl, rfl, h1, h2, h3, h4, hK⟩ := h
        obtain ⟨zv, z1, z2⟩ := tzero_inv (ρ := ρ) (n := G.next) (w := w) hz
        have hzs : zv.cells.size = P.cellsOf e := by have := z2.1; simp at this; omega
        have hR : VRs ρ G.next (vreps m z) (Builtin.zeroCells zv.cells m).toList := by
          have := reps_ok z2 m (by omega)
          rw [h1, ← hzs] at this
          exact this
        have hlen := vreps_len m z
        rw [h1] at hlen
        have nothing : m = 0 → K (.tup []) G := fun h0 => by
          subst h0
          have e1 : vsplice cs off (vreps 0 z) = cs := by simp [vsplice, vreps]
          rw [e1] at hK
          have : G.put id (.cells g cs) = G := by
            unfold Heap.put
            congr 1
            funext j
            split
            · rename_i hj; subst hj; exact hg.symm
            · rfl
          rwa [this] at hK
        have zero : ∀ {A : Option Addr} {c : Nat}, m = 0 → LRun P n0 ρ w (do pure (Next.value (← Builtin.clear_ ts ty #[.slice A m c]))) K := fun {A c} h0 => by
          have hK' := nothing h0
          subst h0
          refine ⟨w, ρ, _, _, hW, Rho.Le.refl _ _, hlow, hK', .inl ⟨.tuple #[], ?_, VRs.nil.tup⟩⟩
          cases A <;> simp [Builtin.clear_, ht0, run_und (telem_inv he)]
        cases hx with
        | arr _ _ _ _ _ b cap c k1 k2 k3 k4 =>
          by_cases h0 : m = 0
          · exact zero h0
          · obtain ⟨w', s1, s2⟩ := write_cells (P := P) hW hg k2 hR (vreps_scalar _ h3) (by rw [hlen]; exact h4)
            refine ⟨w', ρ, _, _, s2, Rho.Le.refl _ _, hlow, hK, .inl ⟨.tuple #[], ?_, VRs.nil.tup⟩⟩
            have hne : ∀ (x : Nat), m = x + 1 → True := fun _ _ => trivial
            obtain ⟨m', rfl⟩ : ∃ m', m = m' + 1 := ⟨m - 1, by omega⟩
            simp [Builtin.clear_, ht0, run_und (telem_inv he), z1, s1]
        | arr0 _ _ _ A k1 k2 => exact zero rfl
      · exact h.elim
    · exact h.elim
  · exact h.elim
theorem range_ok (hW : WRel ρ G w) (hlow : n0 ≤ G.next) {t : TypeId} (hu : P.underlying t = some .string) {s : List UInt8} {X : Value} (hx : VR ρ G.next (.str s) X) {K : V → Heap → Prop} (hK : K (.ptr G.next 0 0) (G.alloc (.iter s 0))) :
    LRun P n0 ρ w (do pure (Next.value (← Instr.range t X))) K := by
  obtain rfl := hx.str_inv
  have g := hW.new (blk := .iter s 0) (r := .at w.heap.size 0) (below_alloc w (.stringIter ⟨s.toArray⟩ 0)) (by show (w.heap.push _)[w.heap.size]? = _; simp) (fun b cap e => by cases e; exact Nat.le_refl _) rfl
  refine ⟨_, _, _, _, g, (Rho.set_le_new (n := G.next) ρ 0 _ (Nat.le_refl _)).mono hlow, by simp; omega, hK, .inl ⟨.pointer (some ⟨w.heap.size, 0, none⟩), ?_, ?_⟩⟩
  · simp [Instr.range, run_und hu]
  · exact .ptr _ _ _ _ 0 (by simp) (Rho.set_same ..)
theorem next_ok (hW : WRel ρ G w) (hlow : n0 ≤ G.next) {ty : TypeId} {id : Nat} {X : Value} (hx : VR ρ G.next (.ptr id 0 0) X) {s : List UInt8} {pos : Nat} (hg : G.get id = some (.iter s pos)) {K : V → Heap → Prop}
    (h : if pos < s.length then K (.tup [.bool true, .int .i64 (pos : Int), .int .i32 ((vdecode s pos).1 : Int)]) (G.put id (.iter s (pos + (vdecode s pos).2))) else K (.tup [.bool false]) G) :
    LRun P n0 ρ w (do pure (Next.value (← Instr.next X true ty))) K := by
  cases hx with
  | ptr _ _ _ b cap h1 h2 =>
    obtain ⟨r, k1, k2⟩ := hW.live _ _ hg
    simp only [Blk.gen] at k1
    rw [h2] at k1; cases k1
    have hb : w.heap[b]? = some (.stringIter ⟨s.toArray⟩ pos) := k2
    by_cases hp : pos < s.length
    · rw [if_pos hp] at h
      refine ⟨{ w with heap := w.heap.setIfInBounds b (.stringIter ⟨s.toArray⟩ (pos + (vdecode s pos).2)) }, ρ, _, G.put id (.iter s (pos + (vdecode s pos).2)), ?_, Rho.Le.refl _ _, hlow, h, .inl ⟨.tuple #[.bool true, .int .i64 pos, .int .i32 ((vdecode s pos).1 : Nat)], ?_, ?_⟩⟩
      · refine hW.put hg h2 rfl rfl rfl (by simp) (fun k hk => ?_) rfl ?_ rfl
        · simp [Array.getElem?_setIfInBounds, Ne.symm hk]
        · have hlt := (Array.getElem?_eq_some_iff.1 hb).1
          show (w.heap.setIfInBounds b _)[b]? = _
          simp [hlt]
      · simp [Instr.next, getObj, setObj, Sem.run, hb, size_mk, hp, vdecode, goInt]
      · exact (VRs.cons (.bool true) (VRs.cons (.int _ _) (VRs.cons (.int _ _) VRs.nil))).tup.cast (by simp)
    · rw [if_neg hp] at h
      refine ⟨w, ρ, _, _, hW, Rho.Le.refl _ _, hlow, h, .inl ⟨.tuple #[.bool false], ?_, (VRs.cons (.bool false) VRs.nil).tup.cast (by simp)⟩⟩
      simp [Instr.next, getObj, Sem.run, hb, size_mk, hp]
theorem vl_ok (hs : SRel N n0 ρ E G a w) {o : Oper} (hf : Op.fits N o.op = true) {K : V → Heap → Prop} (h : vl P E G K o.op) : LRun P n0 ρ w (execOp a.eval o) K := by
  obtain ⟨dst, op, type, pos, after, guard⟩ := o
  have hW := hs.world
  have hlow := hs.low
  have one : ∀ {x : Operand}, Operand.fits N x = true → VR ρ G.next (vev E x) (a.eval x) := fun hx => hs.ev hx
  unfold Op.fits at hf
  simp only at h hf
  cases op <;> simp only [vl] at h <;> simp only [Op.operands] at hf <;> simp only [execOp]
  case alloc t =>
    split at h
    · rename_i z hz; exact alloc_ok hW hlow hz h.1 h.2
    · exact h.elim
  case box t x =>
    split at h
    · rename_i vs hv; exact box_ok hW hlow (one (by simpa using hf)) hv h.1 h.2
    · exact h.elim
  case buildSlice t len parts =>
    split at h
    · rename_i e ht
      split at h
      · rename_i z hz
        obtain ⟨h1, h2, h3, h⟩ := h
        split at h
        · rename_i cs hcs
          have hinf : (P.info? e).isSome = true := by
            unfold tzero at hz
            split at hz
            · rename_i i hi; simp [hi]
            · cases hz
          obtain ⟨xs, k3, k4⟩ := buildSlice_ok hs (by simpa using hf) ht hz h1 h2 h3 hinf hcs
          have hlen : cs.length = len * P.cellsOf e := by rw [vfill_len hcs, vreps_len, h2]
          have hxs : xs.size = len * P.cellsOf e := by have := k4.1; simp at this; omega
          obtain ⟨g1, g2, g3⟩ := new_cells (c := xs) (e := e) hW (by rw [List.take_of_length_le (by rw [k4.1]; exact Nat.le_refl _)]; exact k4) (by omega) h.1 (Below.refl _ w) rfl
          have : (parts.map fun (p : Nat × Operand) => (p.1, a.eval p.2)) = (parts.toList.map fun p => (p.1, a.eval p.2)).toArray := by
            apply Array.toList_inj.1; simp
          refine ⟨_, _, _, _, g1, g2.mono hlow, by simp; omega, h.2, .inl ⟨.slice (some ⟨w.heap.size, 0, none⟩) len len, by rw [this]; simp only [Sem.run_bind, k3, Result.andThen_ok, Sem.run_pure], ?_⟩⟩
          exact .arr _ _ _ _ _ _ _ len (by simp) g3 (by omega) (Nat.le_refl _)
        · exact h.elim
      · exact h.elim
    · exact h.elim
  case store t x y =>
    simp only [List.all_cons, List.all_nil, Bool.and_true, Bool.and_eq_true] at hf
    exact store_ok hW hlow (one hf.1) (one hf.2) h
  case makeSlice t x y =>
    simp only [List.all_cons, List.all_nil, Bool.and_true, Bool.and_eq_true] at hf
    exact make_ok hW hlow (one hf.1) (one hf.2) h
  case range t x =>
    have hx := one (x := x) (by simpa using hf)
    split at h
    · rename_i s hu hv
      rw [hv] at hx
      exact range_ok hW hlow hu hx h
    · exact h.elim
  case next x b =>
    have hx := one (x := x) (by simpa using hf)
    cases b with
    | false => simp [vl] at h
    | true =>
      simp only [vl] at h
      split at h
      · rename_i id hv
        rw [hv] at hx
        split at h
        · rename_i s pos hg
          exact next_ok hW hlow hx hg h
        · exact h.elim
      · exact h.elim
  case call c =>
    obtain ⟨callee, args, ts⟩ := c
    cases callee with
    | builtin b =>
      simp only [Call.operands, Array.empty_append] at hf
      have hmap : (args.map a.eval) = (args.toList.map a.eval).toArray := by apply Array.toList_inj.1; simp
      simp only [resolve, Sem.run_bind, Sem.run_pure, Result.andThen_ok, invoke, hmap]
      cases b <;> simp only [vl] at h
      case append =>
        split at h
        · rename_i x y e
          rw [e] at hf ⊢
          simp only [List.all_cons, List.all_nil, Bool.and_true, Bool.and_eq_true] at hf
          obtain ⟨w', ρ', v, G', z, k1, k2, k3, k4, k5, k6⟩ := vappend_ok (ty := type) hW hlow (one hf.1) (one hf.2) h
          refine ⟨w', ρ', v, G', k1, k2, k3, k4, .inl ⟨z, ?_, k6⟩⟩
          simp only [List.map_cons, List.map_nil, pure_bind, builtin, Sem.run_bind, k5, Result.andThen_ok, Sem.run_pure]
        · exact h.elim
      case clear =>
        split at h
        · rename_i x e
          rw [e] at hf ⊢
          simp only [List.all_cons, List.all_nil, Bool.and_true] at hf
          have := clear_ok (ty := type) hW hlow (one hf) h
          simpa only [List.map_cons, List.map_nil, pure_bind, builtin] using this
        · exact h.elim
    | value f => simp [vl] at h
    | invoke r m => simp [vl] at h
end
end Go.Vf
