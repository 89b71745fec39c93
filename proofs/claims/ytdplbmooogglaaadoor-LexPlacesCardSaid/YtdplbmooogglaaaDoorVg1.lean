/- The operations that turn memory: new blocks, stores, appends, iterators. -/
import Derived.Test.YtdplbmooogglaaaDoorVf6
import Derived.Laws.Append
set_option linter.unusedVariables false
set_option linter.unusedSimpArgs false
namespace Go.Vf
open Go.RowKit

/-- How many bytes a slice that grows may take. -/
def roomB : Nat := 140737488355328

/-- A row that can be read: what must hold, how many elements, their cells. -/
def vrow (sz : Nat) (G : Heap) : V → Option (Prop × Nat × List V)
  | .nilsl => some (True, 0, [])
  | .sl s n cells | .slc s n cells => if s = sz then some (True, n, cells) else none
  | .arr s id g off n => if s = sz then match G.get id with
    | some (.cells g' cs) => if g = g' then some (off + n * sz ≤ cs.length, n, (cs.drop off).take (n * sz)) else none
    | _ => none else none
  | .str s => if sz = 1 then some (True, s.length, s.map vbyte) else none
  | _ => none

/-- May a value of this type be appended to a slice? -/
def tsrc (P : Program) (t : TypeId) : Bool := match P.underlying t with | some (.slice _) | some .string => true | _ => false

/-- May a slice of this type of elements grow? -/
def tgrow (P : Program) (e : TypeId) : Bool := match tzero P e with | some z => decide (z.length = P.cellsOf e) && decide (0 < P.cellsOf e) && decide (0 < P.bytesOf e) | none => false

def vappend (P : Program) (ts : List TypeId) (G : Heap) (s x : V) (K : V → Heap → Prop) : Prop :=
  match ts with
  | [t, t2] => match telem P t, tsrc P t2 with
    | some e, true => match vrow (P.cellsOf e) G x with
      | some (p, m, new) => p ∧ tgrow P e = true ∧ match s with
        | .nilsl => (m = 0 → K .nilsl G) ∧ (m ≠ 0 → m * P.bytesOf e ≤ roomB ∧ K (.arr (P.cellsOf e) G.next 0 0 m) (G.alloc (.cells 0 new)))
        | .slc sz n cells => sz = P.cellsOf e ∧ (m = 0 → K (.slc sz n cells) G) ∧ (m ≠ 0 → (n + m) * P.bytesOf e ≤ roomB ∧ K (.arr (P.cellsOf e) G.next 0 0 (n + m)) (G.alloc (.cells 0 (cells ++ new))))
        | .arr sz id g off n => match G.get id with
          | some (.cells g' cs) => sz = P.cellsOf e ∧ off = 0 ∧ g = g' ∧ cs.length = n * sz ∧ (n + m) * P.bytesOf e ≤ roomB ∧ K (.arr (P.cellsOf e) id (g + 1) 0 (n + m)) (G.put id (.cells (g + 1) (cs ++ new)))
          | _ => False
        | _ => False
      | none => False
    | _, _ => False
  | _ => False

def vdecode (s : List UInt8) (i : Nat) : Nat × Nat := Utf8.decode ⟨s.toArray⟩ i

def vstore (P : Program) (t : TypeId) (G : Heap) (a x : V) (K : V → Heap → Prop) : Prop :=
  match a, vflat x with
  | .ptr id g off, some vs => match G.get id with
    | some (.cells g' cs) => g = g' ∧ vs.length = P.cellsOf t ∧ (P.info? t).isSome = true ∧ V.scalarL vs = true ∧ off + vs.length ≤ cs.length ∧ K .top (G.put id (.cells g (vsplice cs off vs)))
    | _ => False
  | _, _ => False

def vmake (P : Program) (t : TypeId) (G : Heap) (l c : V) (K : V → Heap → Prop) : Prop :=
  match l, c, telem P t with
  | .int _ l, .int _ c, some e => match tzero P e with
    | some z => 0 ≤ l ∧ l ≤ c ∧ c ≤ 4611686018427387904 ∧ (P.bytesOf e : Int) * c ≤ 140737488355328 ∧ 0 < P.cellsOf e ∧ z.length = P.cellsOf e ∧ V.scalarL z = true ∧
        K (.arr (P.cellsOf e) G.next 0 0 l.toNat) (G.alloc (.cells 0 (vreps l.toNat z)))
    | none => False
  | _, _, _ => False

def vclear (P : Program) (ts : List TypeId) (G : Heap) (x : V) (K : V → Heap → Prop) : Prop :=
  match ts with
  | t :: _ => match telem P t, x with
    | some e, .nilsl => K (.tup []) G
    | some e, .arr sz id g off n => match tzero P e, G.get id with
      | some z, some (.cells g' cs) => g = g' ∧ sz = P.cellsOf e ∧ z.length = sz ∧ 0 < sz ∧ V.scalarL z = true ∧ off + n * sz ≤ cs.length ∧ K (.tup []) (G.put id (.cells g (vsplice cs off (vreps n z))))
      | _, _ => False
    | _, _ => False
  | _ => False

/-- Operations that turn the heap, but for calls. -/
def vl (P : Program) (E : Env) (G : Heap) (K : V → Heap → Prop) : Op → Prop
  | .alloc t => match tzero P t with
    | some z => V.scalarL z = true ∧ K (.ptr G.next 0 0) (G.alloc (.cells 0 z))
    | none => False
  | .box t x => match vflat (vev E x) with
    | some vs => V.scalarL vs = true ∧ K (.ptr G.next 0 0) (G.alloc (.cells 0 vs))
    | none => False
  | .buildSlice t len parts => match telem P t with
    | some e => match tzero P e with
      | some z => len * P.cellsOf e ≤ 16777216 ∧ z.length = P.cellsOf e ∧ 0 < P.cellsOf e ∧
          match vfill (fun i => some (i * P.cellsOf e, P.cellsOf e)) (vreps len z) (parts.toList.map fun p => (p.1, vev E p.2)) with
          | some cs => V.scalarL cs = true ∧ K (.arr (P.cellsOf e) G.next 0 0 len) (G.alloc (.cells 0 cs))
          | none => False
      | none => False
    | none => False
  | .store t a x => vstore P t G (vev E a) (vev E x) K
  | .makeSlice t l c => vmake P t G (vev E l) (vev E c) K
  | .range t x => match P.underlying t, vev E x with
    | some .string, .str s => K (.ptr G.next 0 0) (G.alloc (.iter s 0))
    | _, _ => False
  | .next x true => match vev E x with
    | .ptr id 0 0 => match G.get id with
      | some (.iter s pos) => if pos < s.length then K (.tup [.bool true, .int .i64 (pos : Int), .int .i32 ((vdecode s pos).1 : Int)]) (G.put id (.iter s (pos + (vdecode s pos).2))) else K (.tup [.bool false]) G
      | _ => False
    | _ => False
  | .call { callee := .builtin .append, args, argTypes } => match args.toList with
    | [s, x] => vappend P argTypes.toList G (vev E s) (vev E x) K
    | _ => False
  | .call { callee := .builtin .clear, args, argTypes } => match args.toList with
    | [x] => vclear P argTypes.toList G (vev E x) K
    | _ => False
  | _ => False

section
variable {P : Program} {N n0 : Nat} {ρ : Rho} {E : Env} {G : Heap} {a : Act} {w : World} {n : Nat}

/-- What an operation that turns memory comes to. -/
def LRun (P : Program) (n0 : Nat) (ρ : Rho) (w : World) (s : Sem Next) (K : V → Heap → Prop) : Prop :=
  ∃ w' ρ' v G', WRel ρ' G' w' ∧ Rho.Le n0 ρ ρ' ∧ n0 ≤ G'.next ∧ K v G' ∧ ((∃ x, s.run P w = .ok (.value x) w' ∧ VR ρ' G'.next v x) ∨ (s.run P w = .ok .skip w' ∧ VR ρ' G'.next v undef))

theorem below_alloc (w : World) (o : Obj) : Below w.heap.size w (w.alloc o) := (Below.refl _ _).alloc (Nat.le_refl _) o

theorem VRs.under {vs : List V} {xs : List Value} (h : VRs ρ n vs xs) (k : Nat) (hk : n ≤ k) : V.underL k vs = true := underL_of fun i v e => by
  obtain ⟨x, hx, hv⟩ := h.get e
  exact V.under_mono (ρ := ρ) hk hv.isUnder
theorem VRs.oneCell {vs : List V} {xs : List Value} (h : VRs ρ n vs xs) (hs : V.scalarL vs = true) : ∀ x, x ∈ xs → x.oneCell' = true := fun x hx => by
  obtain ⟨i, hi⟩ := List.getElem?_of_mem hx
  obtain ⟨v, hv, hr⟩ := h.back hi
  exact hr.oneCell (scalarL_get hs hv)

/-- A new block of cells. -/
theorem new_cells (hW : WRel ρ G w) {vs : List V} {c : Array Value} {e : TypeId} (hv : VRs ρ G.next vs (c.toList.take vs.length)) (hl : vs.length ≤ c.size) (hs : V.scalarL vs = true) {w1 : World} (hb : Below w.heap.size w w1) (hsz : w1.heap.size = w.heap.size) :
    WRel (ρ.set G.next 0 (.at w.heap.size c.size)) (G.alloc (.cells 0 vs)) (w1.alloc (.cells c e)) ∧ Rho.Le G.next ρ (ρ.set G.next 0 (.at w.heap.size c.size)) ∧
      (ρ.set G.next 0 (.at w.heap.size c.size)).blk G.next 0 = some (.at w.heap.size c.size) := by
  have hle := Rho.set_le_new (n := G.next) ρ 0 (.at w.heap.size c.size) (Nat.le_refl _)
  refine ⟨?_, hle, Rho.set_same ..⟩
  refine hW.new (blk := .cells 0 vs) (hb.trans ((below_alloc w1 _).mono (by omega))) ?_ (fun b cap e => by cases e; omega) ?_
  · refine ⟨c, e, (0, 0), ?_, rfl, hl, fun i v x e1 e2 => ?_, fun o _ => by omega⟩
    · rw [← hsz]; show (w1.heap.push _)[w1.heap.size]? = _; simp
    · have hi : i < vs.length := by
        rcases Nat.lt_or_ge i vs.length with h | h
        · exact h
        · rw [List.getElem?_eq_none h] at e1; cases e1
      exact (hv.2 i v x e1 (by rw [List.getElem?_take, if_pos hi]; simpa using e2)).le hle (Nat.le_succ _)
  · simp only [Blk.under, Bool.and_eq_true]
    exact ⟨hv.under _ (Nat.le_succ _), hs⟩

/-- Cells are stored, one by one, into a block. -/
theorem storeCells_run {b o : Nat} {e : TypeId} {fz : Nat × Nat} : ∀ (vs : List Value) (i : Nat) (w : World) (c : Array Value), w.heap[b]? = some (.cells c e fz) → o + i + vs.length ≤ c.size → (∀ k, k < c.size → ¬(fz.1 ≤ k ∧ k < fz.2)) → (∀ x, x ∈ vs → x.oneCell' = true) →
    ∃ w', (storeCells ⟨b, o, none⟩ vs i).run P w = .ok () w' ∧ w'.os = w.os ∧ w'.tape = w.tape ∧ w'.output = w.output ∧ w'.heap.size = w.heap.size ∧ (∀ k, k ≠ b → w'.heap[k]? = w.heap[k]?) ∧
      ∃ c', w'.heap[b]? = some (.cells c' e fz) ∧ c'.toList = c.toList.take (o + i) ++ vs ++ c.toList.drop (o + i + vs.length)
  | [], i, w, c, hb, hl, hf, hs => ⟨w, rfl, rfl, rfl, rfl, rfl, fun _ _ => rfl, c, hb, by simp⟩
  | v :: vs, i, w, c, hb, hl, hf, hs => by
    simp only [List.length_cons] at hl
    have hcell : w.cell? ⟨b, o + i, none⟩ = some c[o + i] := by
      simp only [World.cell?, hb]
      simp [show o + i < c.size by omega]
    have hfr : w.frozen? ⟨b, o + i, none⟩ = false := by
      simp only [World.frozen?, hb]
      have := hf (o + i) (by omega)
      simp only [Bool.and_eq_false_iff, decide_eq_false_iff_not]
      by_cases h1 : fz.1 ≤ o + i
      · right; exact fun h2 => this ⟨h1, h2⟩
      · left; exact h1
    have hb' : (w.setCell ⟨b, o + i, none⟩ v).heap[b]? = some (.cells (c.setIfInBounds (o + i) v) e fz) := by
      simp [World.setCell, Array.getElem?_modify, hb]
    obtain ⟨w', h1, h2, h3, h4, h5, h6, c', h7, h8⟩ := storeCells_run (b := b) (o := o) (e := e) (fz := fz) vs (i + 1) (w.setCell ⟨b, o + i, none⟩ v) (c.setIfInBounds (o + i) v) hb' (by simp; omega) (by simpa using hf) (fun x hx => hs x (by simp [hx]))
    refine ⟨w', ?_, h2, h3, h4, ?_, ?_, c', h7, ?_⟩
    · simp only [storeCells, Sem.run_bind, add_mk, run_store _ _ _ _ _ (hs v (by simp)), hcell, hfr, Bool.false_eq_true, if_false, Result.andThen_ok, h1]
    · rw [h5]; simp [World.setCell]
    · intro k hk
      rw [h6 k hk]
      simp only [World.setCell, Array.getElem?_modify]
      rw [if_neg (by omega)]
    · rw [h8]
      have hk : o + i < c.toList.length := by simp; omega
      simp only [Array.toList_setIfInBounds]
      rw [← Nat.add_assoc, List.take_succ_eq_append_getElem (by simp; omega)]
      simp only [List.getElem_set_self, List.append_assoc, List.cons_append, List.nil_append]
      rw [List.take_set_of_le (Nat.le_refl _)]
      congr 2
      rw [List.drop_set_of_lt (by omega)]
      simp only [List.length_cons]
      congr 2
      omega
end
end Go.Vf
