/- The small heap, what it says of the model's world, and the steps under which it goes on saying it. -/
import Derived.Test.YtdplbmooogglaaaDoorVa
set_option linter.unusedVariables false
set_option linter.unusedSimpArgs false
namespace Go.Vf
open Go.RowKit

inductive Blk where
  | cells (g : Nat) (cs : List V)
  | iter (s : List UInt8) (pos : Nat)
  | map (es : List (V × V × Nat)) (clock : Nat)
  | chan (cap : Nat) (buf : List V)

def Blk.gen : Blk → Nat
  | .cells g _ => g
  | _ => 0

structure Heap where
  next : Nat
  get : Nat → Option Blk

def Heap.put (G : Heap) (id : Nat) (b : Blk) : Heap := { G with get := fun j => if j = id then some b else G.get j }
def Heap.del (G : Heap) (id : Nat) : Heap := { G with get := fun j => if j = id then none else G.get j }
def Heap.alloc (G : Heap) (b : Blk) : Heap := { next := G.next + 1, get := fun j => if j = G.next then some b else G.get j }

@[simp] theorem Heap.put_next (G : Heap) (id : Nat) (b : Blk) : (G.put id b).next = G.next := rfl
@[simp] theorem Heap.del_next (G : Heap) (id : Nat) : (G.del id).next = G.next := rfl
@[simp] theorem Heap.alloc_next (G : Heap) (b : Blk) : (G.alloc b).next = G.next + 1 := rfl
theorem Heap.put_get (G : Heap) (id : Nat) (b : Blk) (j : Nat) : (G.put id b).get j = if j = id then some b else G.get j := rfl
theorem Heap.del_get (G : Heap) (id : Nat) (j : Nat) : (G.del id).get j = if j = id then none else G.get j := rfl
theorem Heap.alloc_get (G : Heap) (b : Blk) (j : Nat) : (G.alloc b).get j = if j = G.next then some b else G.get j := rfl

/-- Everything in a block names only what is below. -/
def Blk.under (n : Nat) : Blk → Bool
  | .cells _ cs => V.underL n cs && V.scalarL cs
  | .iter .. => true
  | .map es _ => es.all fun e => e.1.under n && e.2.1.under n
  | .chan _ buf => V.underL n buf

structure Heap.Wf (G : Heap) : Prop where
  lt : ∀ {id : Nat} {b : Blk}, G.get id = some b → id < G.next
  under : ∀ {id : Nat} {b : Blk}, G.get id = some b → b.under G.next = true

def BRel (ρ : Rho) (n : Nat) (w : World) : Blk → Reg → Prop
  | .cells _ cs, .none => cs = []
  | .cells _ cs, .at b cap => ∃ c e fz, w.heap[b]? = some (.cells c e fz) ∧ c.size = cap ∧ cs.length ≤ cap ∧
      (∀ (i : Nat) (v : V) (x : Value), cs[i]? = some v → c[i]? = some x → VR ρ n v x) ∧ ∀ o, o < cap → ¬(fz.1 ≤ o ∧ o < fz.2)
  | .iter s pos, .at b _ => w.heap[b]? = some (.stringIter ⟨s.toArray⟩ pos)
  | .map es clock, .at b _ => ∃ xs, w.heap[b]? = some (.map xs clock) ∧ xs.size = es.length ∧
      ∀ (i : Nat) (e : V × V × Nat) (x : MapEntry), es[i]? = some e → xs[i]? = some x → VR ρ n e.1 x.key ∧ VR ρ n e.2.1 x.val ∧ x.born = e.2.2
  | .chan cap buf, .at b _ => ∃ xs snt rc, w.heap[b]? = some (.chan cap xs false snt rc false) ∧ VRs ρ n buf xs.toList
  | .cells _ _, .pend => True
  | _, .none => False
  | _, .pend => False

theorem BRel.le {ρ ρ' : Rho} {n n' : Nat} (h : Rho.Le n ρ ρ') (hn : n ≤ n') {w : World} {blk : Blk} {r : Reg} (k : BRel ρ n w blk r) : BRel ρ' n' w blk r := by
  cases blk with
  | cells g cs =>
    cases r with
    | none => exact k
    | pend => exact k
    | «at» b cap => obtain ⟨c, e, fz, h1, h2, h3, h4, h5⟩ := k; exact ⟨c, e, fz, h1, h2, h3, fun i v x e1 e2 => (h4 i v x e1 e2).le h hn, h5⟩
  | iter s pos => cases r with
    | none => exact k
    | pend => exact k
    | «at» b cap => exact k
  | map es clock => cases r with
    | none => exact k
    | pend => exact k
    | «at» b cap =>
      obtain ⟨xs, h1, h2, h3⟩ := k
      exact ⟨xs, h1, h2, fun i e x e1 e2 => ⟨(h3 i e x e1 e2).1.le h hn, (h3 i e x e1 e2).2.1.le h hn, (h3 i e x e1 e2).2.2⟩⟩
  | chan cap buf => cases r with
    | none => exact k
    | pend => exact k
    | «at» b cap => obtain ⟨xs, s, r, h1, h2, h3⟩ := k; exact ⟨xs, s, r, h1, h2, fun i v x e1 e2 => (h3 i v x e1 e2).le h hn⟩

/-- The block's own place is all that is looked at. -/
theorem BRel.world {ρ : Rho} {n : Nat} {w w' : World} {blk : Blk} {r : Reg} (k : BRel ρ n w blk r) (h : ∀ b cap, r = .at b cap → w'.heap[b]? = w.heap[b]?) : BRel ρ n w' blk r := by
  cases r with
  | none => cases blk <;> exact k
  | pend => cases blk <;> exact k
  | «at» b cap =>
    have h := h b cap rfl
    cases blk with
    | cells g cs => obtain ⟨c, e, fz, h1, h2⟩ := k; exact ⟨c, e, fz, by rw [h]; exact h1, h2⟩
    | iter s pos => show _ = _; rw [h]; exact k
    | map es clock => obtain ⟨xs, h1, h2⟩ := k; exact ⟨xs, by rw [h]; exact h1, h2⟩
    | chan cp buf => obtain ⟨xs, s, r, h1, h2⟩ := k; exact ⟨xs, s, r, by rw [h]; exact h1, h2⟩

theorem BRel.lt {ρ : Rho} {n : Nat} {w : World} {blk : Blk} {b cap : Nat} (k : BRel ρ n w blk (.at b cap)) : b < w.heap.size := by
  have : ∃ o, w.heap[b]? = some o := by
    cases blk with
    | cells g cs => obtain ⟨c, e, fz, h1, _⟩ := k; exact ⟨_, h1⟩
    | iter s pos => exact ⟨_, k⟩
    | map es clock => obtain ⟨xs, h1, _⟩ := k; exact ⟨_, h1⟩
    | chan cp buf => obtain ⟨xs, s, r, h1, _⟩ := k; exact ⟨_, h1⟩
  obtain ⟨o, ho⟩ := this
  exact (Array.getElem?_eq_some_iff.1 ho).1

theorem BRel.under {ρ : Rho} {n : Nat} (n' : Nat) {w : World} {blk : Blk} {r : Reg} (k : BRel ρ n w blk r) (h : blk.under n' = true) : BRel ρ n' w blk r := by
  cases blk with
  | cells g cs =>
    cases r with
    | none => exact k
    | pend => exact k
    | «at» b cap => obtain ⟨c, e, fz, h1, h2, h3, h4, h5⟩ := k; exact ⟨c, e, fz, h1, h2, h3, fun i v x e1 e2 => (h4 i v x e1 e2).under n' (underL_get (by simp only [Blk.under, Bool.and_eq_true] at h; exact h.1) e1), h5⟩
  | iter s pos => cases r with
    | none => exact k
    | pend => exact k
    | «at» b cap => exact k
  | map es clock => cases r with
    | none => exact k
    | pend => exact k
    | «at» b cap =>
      obtain ⟨xs, h1, h2, h3⟩ := k
      refine ⟨xs, h1, h2, fun i e x e1 e2 => ?_⟩
      simp only [Blk.under, List.all_eq_true, Bool.and_eq_true] at h
      have := h e (List.mem_of_getElem? e1)
      exact ⟨(h3 i e x e1 e2).1.under n' this.1, (h3 i e x e1 e2).2.1.under n' this.2, (h3 i e x e1 e2).2.2⟩
  | chan cap buf => cases r with
    | none => exact k
    | pend => exact k
    | «at» b cap => obtain ⟨xs, s, r, h1, h2, h3⟩ := k; exact ⟨xs, s, r, h1, h2, fun i v x e1 e2 => (h3 i v x e1 e2).under n' (underL_get h e1)⟩

structure WRel (ρ : Rho) (G : Heap) (w : World) : Prop where
  met : Met ρ.base
  below : Below ρ.base.heap.size ρ.base w
  imm : ∀ b o x, ρ.imm b o = some x → w.cell? ⟨b, o, none⟩ = some x
  lt : ∀ id blk, G.get id = some blk → id < G.next
  wf : ∀ id blk, G.get id = some blk → blk.under G.next = true
  late : ∀ id blk g, G.get id = some blk → blk.gen < g → ρ.blk id g = none
  live : ∀ id blk, G.get id = some blk → ∃ r, ρ.blk id blk.gen = some r ∧ BRel ρ G.next w blk r
  apart : ∀ id blk b cap, G.get id = some blk → ρ.blk id blk.gen = some (.at b cap) → ρ.base.heap.size ≤ b ∧ ∀ o, ρ.imm b o = none
  inj : ∀ id id' blk blk' b cap cap', G.get id = some blk → G.get id' = some blk' → ρ.blk id blk.gen = some (.at b cap) → ρ.blk id' blk'.gen = some (.at b cap') → id = id'

theorem WRel.heapWf {ρ : Rho} {G : Heap} {w : World} (h : WRel ρ G w) : G.Wf := ⟨fun e => h.lt _ _ e, fun e => h.wf _ _ e⟩

theorem cell_block_lt {w : World} {a : Addr} {v : Value} (h : w.cell? a = some v) : a.block < w.heap.size := World.block_lt_of_cell? w a h

/-- A world in which no old block has turned. -/
theorem WRel.grow {ρ : Rho} {G : Heap} {w w' : World} (h : WRel ρ G w) (hb : Below w.heap.size w w') : WRel ρ G w' where
  met := h.met
  below := h.below.trans (hb.mono h.below.size)
  imm b o x e := by
    have := h.imm b o x e
    rw [hb.cell (p := ⟨b, o, none⟩) (cell_block_lt this)]
    exact this
  lt := h.lt
  wf := h.wf
  late := h.late
  live id blk e := by
    obtain ⟨r, h1, h2⟩ := h.live id blk e
    refine ⟨r, h1, h2.world fun b cap er => ?_⟩
    subst er
    exact hb.block b h2.lt
  apart := h.apart
  inj := h.inj

theorem WRel.drew {ρ : Rho} {G : Heap} {w : World} (h : WRel ρ G w) : WRel ρ G w.drew := h.grow ⟨rfl, rfl, rfl, Nat.le_refl _, fun _ _ => rfl⟩

/-- Some blocks may be forgotten, and the numbers behind all that is left. -/
theorem WRel.drop {ρ : Rho} {G G' : Heap} {w : World} (h : WRel ρ G w) (hs : ∀ id blk, G'.get id = some blk → G.get id = some blk) (hw : G'.Wf) : WRel ρ G' w where
  met := h.met
  below := h.below
  imm := h.imm
  lt id blk e := hw.lt e
  wf id blk e := hw.under e
  late id blk g e := h.late id blk g (hs _ _ e)
  live id blk e := by
    obtain ⟨r, h1, h2⟩ := h.live id blk (hs _ _ e)
    exact ⟨r, h1, h2.under _ (hw.under e)⟩
  apart id blk b cap e := h.apart id blk b cap (hs _ _ e)
  inj id id' blk blk' b cap cap' e e' := h.inj id id' blk blk' b cap cap' (hs _ _ e) (hs _ _ e')

/-- A name gets a place. -/
def Rho.set (ρ : Rho) (id g : Nat) (r : Reg) : Rho := { ρ with blk := fun i k => if i = id then (if k = g then some r else if g < k then none else ρ.blk i k) else ρ.blk i k }

theorem Rho.set_same (ρ : Rho) (id g : Nat) (r : Reg) : (ρ.set id g r).blk id g = some r := by simp [Rho.set]
theorem Rho.set_other (ρ : Rho) (id g : Nat) (r : Reg) {i k : Nat} (h : i ≠ id) : (ρ.set id g r).blk i k = ρ.blk i k := by simp [Rho.set, h]

theorem Rho.set_le_new {n : Nat} (ρ : Rho) {id : Nat} (g : Nat) (r : Reg) (h : n ≤ id) : Rho.Le n ρ (ρ.set id g r) :=
  ⟨rfl, fun _ _ _ e => e, fun i k r' hi e => by rw [Rho.set_other _ _ _ _ (by omega)]; exact .inl e⟩

theorem Rho.set_le_late {n : Nat} (ρ : Rho) {id : Nat} (g : Nat) (r : Reg) (h : ∀ k, g ≤ k → ρ.blk id k = none) : Rho.Le n ρ (ρ.set id g r) := by
  refine ⟨rfl, fun _ _ _ e => e, fun i k r' hi e => ?_⟩
  by_cases hid : i = id
  · subst hid
    have hk : k < g := by
      rcases Nat.lt_or_ge k g with h' | h'
      · exact h'
      · rw [h k h'] at e; cases e
    simp only [Rho.set, if_true]
    rw [if_neg (by omega), if_neg (by omega)]
    exact .inl e
  · rw [Rho.set_other _ _ _ _ hid]; exact .inl e

/-- A new block, or a block anew: the world is the old one below its size, or but for the block itself. -/
theorem WRel.put {ρ : Rho} {G : Heap} {w w' : World} (h : WRel ρ G w) {id : Nat} {blk blk' : Blk} {b cap : Nat} (hg : G.get id = some blk) (hr : ρ.blk id blk.gen = some (.at b cap))
    (hos : w'.os = w.os) (htape : w'.tape = w.tape) (hout : w'.output = w.output) (hsize : w'.heap.size = w.heap.size)
    (hold : ∀ k, k ≠ b → w'.heap[k]? = w.heap[k]?) (hgen : blk'.gen = blk.gen) (hn : BRel ρ G.next w' blk' (.at b cap)) (hu : blk'.under G.next = true) : WRel ρ (G.put id blk') w' where
  met := h.met
  below := by
    have hb := (h.apart id blk b cap hg hr).1
    exact h.below.trans ⟨hos, htape, hout, by omega, fun k hk => hold k (by omega)⟩
  imm b' o x e := by
    have hne : b' ≠ b := fun e' => by
      have := (h.apart id blk b cap hg hr).2 o
      rw [← e', e] at this
      cases this
    have hc : w'.cell? ⟨b', o, none⟩ = w.cell? ⟨b', o, none⟩ := by simp only [World.cell?]; rw [hold b' hne]
    rw [hc]
    exact h.imm b' o x e
  lt i bk e := by
    rw [Heap.put_get] at e
    split at e
    · rename_i hi; subst hi; exact h.lt _ _ hg
    · exact h.lt _ _ e
  wf i bk e := by
    rw [Heap.put_get] at e
    split at e
    · cases e; exact hu
    · exact h.wf _ _ e
  late i bk g e hgt := by
    rw [Heap.put_get] at e
    split at e
    · rename_i hi; cases e; subst hi; exact h.late _ _ g hg (by omega)
    · exact h.late _ _ g e hgt
  live i bk e := by
    rw [Heap.put_get] at e
    split at e
    · rename_i hi; cases e; subst hi; exact ⟨_, by rw [hgen]; exact hr, hn⟩
    · rename_i hi
      obtain ⟨r, h1, h2⟩ := h.live i bk e
      refine ⟨r, h1, h2.world fun b2 cap2 er => hold b2 fun e2 => ?_⟩
      subst er; subst e2
      exact hi (h.inj _ _ _ _ _ _ _ e hg h1 hr)
  apart i bk b2 cap2 e e2 := by
    rw [Heap.put_get] at e
    split at e
    · rename_i hi; cases e; subst hi; rw [hgen] at e2; exact h.apart _ _ _ _ hg e2
    · exact h.apart _ _ _ _ e e2
  inj i j bi bj b2 c1 c2 e1 e2 r1 r2 := by
    rw [Heap.put_get] at e1 e2
    split at e1 <;> split at e2
    · simp_all
    · rename_i hi _; cases e1; subst hi; rw [hgen] at r1; exact h.inj _ _ _ _ _ _ _ hg e2 r1 r2
    · rename_i _ hj; cases e2; subst hj; rw [hgen] at r2; exact h.inj _ _ _ _ _ _ _ e1 hg r1 r2
    · exact h.inj _ _ _ _ _ _ _ e1 e2 r1 r2

/-- A new name, at a block that is new. -/
theorem WRel.new {ρ : Rho} {G : Heap} {w w' : World} (h : WRel ρ G w) (hb : Below w.heap.size w w') {blk : Blk} {r : Reg} (hn : BRel (ρ.set G.next blk.gen r) (G.next + 1) w' blk r)
    (hr : ∀ b cap, r = .at b cap → w.heap.size ≤ b) (hu : blk.under (G.next + 1) = true) : WRel (ρ.set G.next blk.gen r) (G.alloc blk) w' := by
  have h' := h.grow hb
  have hle := Rho.set_le_new (n := G.next) ρ blk.gen r (Nat.le_refl _)
  have immlt : ∀ b o x, ρ.imm b o = some x → b < w.heap.size := fun b o x e => cell_block_lt (h.imm b o x e)
  refine ⟨h.met, h'.below, h'.imm, ?_, ?_, ?_, ?_, ?_, ?_⟩
  · intro i bk e
    rw [Heap.alloc_get] at e
    split at e
    · rename_i hi; subst hi; simp
    · have := h.lt _ _ e; simp; omega
  · intro i bk e
    rw [Heap.alloc_get] at e
    split at e
    · cases e; exact hu
    · have := h.wf _ _ e
      cases bk with
      | cells g cs => simp only [Blk.under, Bool.and_eq_true] at this ⊢; exact ⟨V.under_mono.go (ρ := ρ) (Nat.le_succ _) cs this.1, this.2⟩
      | iter => rfl
      | map es cl =>
        simp only [Blk.under, List.all_eq_true, Bool.and_eq_true] at this ⊢
        exact fun e he => ⟨V.under_mono (ρ := ρ) (Nat.le_succ _) (this e he).1, V.under_mono (ρ := ρ) (Nat.le_succ _) (this e he).2⟩
      | chan c buf => exact V.under_mono.go (ρ := ρ) (Nat.le_succ _) buf this
  · intro i bk g e hgt
    rw [Heap.alloc_get] at e
    split at e
    · rename_i hi; cases e; subst hi
      simp only [Rho.set, if_true]
      rw [if_neg (by omega), if_pos hgt]
    · rename_i hi
      rw [Rho.set_other _ _ _ _ hi]
      exact h.late _ _ g e hgt
  · intro i bk e
    rw [Heap.alloc_get] at e
    split at e
    · rename_i hi; cases e; subst hi
      exact ⟨r, Rho.set_same .., hn⟩
    · rename_i hi
      obtain ⟨r', h1, h2⟩ := h'.live i bk e
      exact ⟨r', by rw [Rho.set_other _ _ _ _ hi]; exact h1, h2.le hle (Nat.le_succ _)⟩
  · intro i bk b cap e e2
    rw [Heap.alloc_get] at e
    split at e
    · rename_i hi; cases e; subst hi
      rw [Rho.set_same] at e2
      cases e2
      have := hr b cap rfl
      refine ⟨Nat.le_trans h.below.size this, fun o => ?_⟩
      cases ho : ρ.imm b o with
      | none => exact ho
      | some x => exact absurd (immlt b o x ho) (by omega)
    · rename_i hi
      rw [Rho.set_other _ _ _ _ hi] at e2
      exact h.apart _ _ _ _ e e2
  · intro i j bi bj b2 c1 c2 e1 e2 r1 r2
    have old : ∀ i bi c, G.get i = some bi → ρ.blk i bi.gen = some (.at b2 c) → b2 < w.heap.size := fun i bi c e r => by
      obtain ⟨r', h1, h2⟩ := h.live i bi e
      rw [r] at h1; cases h1
      exact h2.lt
    rw [Heap.alloc_get] at e1 e2
    split at e1 <;> split at e2
    · simp_all
    · rename_i hi hj; cases e1; subst hi
      rw [Rho.set_same] at r1; rw [Rho.set_other _ _ _ _ hj] at r2; cases r1
      have := hr b2 c1 rfl; have := old _ _ _ e2 r2; omega
    · rename_i hi hj; cases e2; subst hj
      rw [Rho.set_same] at r2; rw [Rho.set_other _ _ _ _ hi] at r1; cases r2
      have := hr b2 c2 rfl; have := old _ _ _ e1 r1; omega
    · rename_i hi hj
      rw [Rho.set_other _ _ _ _ hi] at r1; rw [Rho.set_other _ _ _ _ hj] at r2
      exact h.inj _ _ _ _ _ _ _ e1 e2 r1 r2

/-- A block of cells goes on under its name, one generation later, at a place of its own (the old one, or a new one). -/
theorem WRel.next {ρ : Rho} {G : Heap} {w w' : World} (h : WRel ρ G w) {id g : Nat} {cs cs' : List V} {r r' : Reg} (hg : G.get id = some (.cells g cs)) (hr : ρ.blk id g = some r)
    (hos : w'.os = w.os) (htape : w'.tape = w.tape) (hout : w'.output = w.output) (hsize : w.heap.size ≤ w'.heap.size)
    (hold : ∀ k, k < w.heap.size → (∀ cap, r ≠ .at k cap) → w'.heap[k]? = w.heap[k]?)
    (hplace : ∀ b cap, r' = .at b cap → r = .at b cap ∨ w.heap.size ≤ b)
    (hn : BRel (ρ.set id (g + 1) r') G.next w' (.cells (g + 1) cs') r') (hu : (Blk.cells (g + 1) cs').under G.next = true) : WRel (ρ.set id (g + 1) r') (G.put id (.cells (g + 1) cs')) w' := by
  have hle : Rho.Le G.next ρ (ρ.set id (g + 1) r') := Rho.set_le_late ρ (g + 1) r' fun k hk => h.late id _ k hg (by simp [Blk.gen]; omega)
  have immlt : ∀ b o x, ρ.imm b o = some x → b < w.heap.size := fun b o x e => cell_block_lt (h.imm b o x e)
  have imm_ne : ∀ b o x, ρ.imm b o = some x → ∀ cap, r ≠ .at b cap := fun b o x e cap er => by
    subst er
    have := (h.apart id _ b cap hg hr).2 o
    rw [e] at this; cases this
  have base_ne : ∀ k, k < ρ.base.heap.size → ∀ cap, r ≠ .at k cap := fun k hk cap er => by
    subst er
    have := (h.apart id _ k cap hg hr).1
    omega
  have live_ne : ∀ i bk b cap, i ≠ id → G.get i = some bk → ρ.blk i bk.gen = some (.at b cap) → ∀ cap', r ≠ .at b cap' := fun i bk b cap hi e e2 cap' er => by
    subst er
    exact hi (h.inj _ _ _ _ _ _ _ e hg e2 hr)
  refine ⟨h.met, ?_, ?_, ?_, ?_, ?_, ?_, ?_, ?_⟩
  · exact h.below.trans ⟨hos, htape, hout, hsize, fun k hk => hold k (Nat.lt_of_lt_of_le hk h.below.size) (base_ne k hk)⟩
  · intro b o x e
    have hc : w'.cell? ⟨b, o, none⟩ = w.cell? ⟨b, o, none⟩ := by simp only [World.cell?]; rw [hold b (immlt b o x e) (imm_ne b o x e)]
    rw [hc]
    exact h.imm b o x e
  · intro i bk e
    rw [Heap.put_get] at e
    split at e
    · rename_i hi; subst hi; exact h.lt _ _ hg
    · exact h.lt _ _ e
  · intro i bk e
    rw [Heap.put_get] at e
    split at e
    · cases e; exact hu
    · exact h.wf _ _ e
  · intro i bk k e hgt
    rw [Heap.put_get] at e
    split at e
    · rename_i hi; cases e; subst hi
      simp only [Blk.gen] at hgt
      simp only [Rho.set, if_true]
      rw [if_neg (by omega), if_pos hgt]
    · rename_i hi
      rw [Rho.set_other _ _ _ _ hi]
      exact h.late _ _ k e hgt
  · intro i bk e
    rw [Heap.put_get] at e
    split at e
    · rename_i hi; cases e; subst hi
      exact ⟨r', Rho.set_same .., hn⟩
    · rename_i hi
      obtain ⟨r2, h1, h2⟩ := h.live i bk e
      refine ⟨r2, by rw [Rho.set_other _ _ _ _ hi]; exact h1, (h2.world fun b cap er => ?_).le hle (Nat.le_refl _)⟩
      subst er
      exact hold b h2.lt (live_ne i bk b cap hi e h1)
  · intro i bk b cap e e2
    rw [Heap.put_get] at e
    split at e
    · rename_i hi; cases e; subst hi
      rw [show (Blk.cells (g + 1) cs').gen = g + 1 from rfl, Rho.set_same] at e2
      cases e2
      rcases hplace b cap rfl with er | er
      · subst er; exact h.apart _ _ _ _ hg hr
      · refine ⟨Nat.le_trans h.below.size er, fun o => ?_⟩
        show ρ.imm b o = none
        cases ho : ρ.imm b o with
        | none => rfl
        | some x => exact absurd (immlt b o x ho) (by omega)
    · rename_i hi
      rw [Rho.set_other _ _ _ _ hi] at e2
      exact h.apart _ _ _ _ e e2
  · intro i j bi bj b2 c1 c2 e1 e2 r1 r2
    have key : ∀ i bi c c', i ≠ id → G.get i = some bi → ρ.blk i bi.gen = some (.at b2 c) → r' = .at b2 c' → False := fun i bi c c' hi e r er => by
      rcases hplace b2 c' er with e3 | e3
      · exact live_ne i bi b2 c hi e r c' e3
      · obtain ⟨r3, h1, h2⟩ := h.live i bi e
        rw [r] at h1; cases h1
        have := h2.lt; omega
    rw [Heap.put_get] at e1 e2
    split at e1 <;> split at e2
    · simp_all
    · rename_i hi hj; cases e1; subst hi
      rw [show (Blk.cells (g + 1) cs').gen = g + 1 from rfl, Rho.set_same] at r1; rw [Rho.set_other _ _ _ _ hj] at r2; cases r1
      exact (key _ _ _ _ hj e2 r2 rfl).elim
    · rename_i hi hj; cases e2; subst hj
      rw [show (Blk.cells (g + 1) cs').gen = g + 1 from rfl, Rho.set_same] at r2; rw [Rho.set_other _ _ _ _ hi] at r1; cases r2
      exact (key _ _ _ _ hi e1 r1 rfl).elim
    · rename_i hi hj
      rw [Rho.set_other _ _ _ _ hi] at r1; rw [Rho.set_other _ _ _ _ hj] at r2
      exact h.inj _ _ _ _ _ _ _ e1 e2 r1 r2

/-- The cells of a block become immutable; its name is gone. -/
def Rho.lay (ρ : Rho) (b : Nat) (c : List Value) : Rho := { ρ with imm := fun b' o => if b' = b then c[o]? else ρ.imm b' o }

theorem Rho.lay_le {n : Nat} (ρ : Rho) (b : Nat) (c : List Value) (h : ∀ o, ρ.imm b o = none) : Rho.Le n ρ (ρ.lay b c) := by
  refine ⟨rfl, fun b' o x e => ?_, fun _ _ _ _ e => .inl e⟩
  simp only [Rho.lay]
  split
  · rename_i hb; subst hb; rw [h o] at e; cases e
  · exact e

theorem WRel.lay {ρ : Rho} {G : Heap} {w : World} (h : WRel ρ G w) {id : Nat} {blk : Blk} {b cap : Nat} {c : List Value} (hg : G.get id = some blk) (hr : ρ.blk id blk.gen = some (.at b cap))
    (hc : ∀ o x, c[o]? = some x → w.cell? ⟨b, o, none⟩ = some x) : WRel (ρ.lay b c) (G.del id) w := by
  have hno := (h.apart id blk b cap hg hr).2
  have hle := Rho.lay_le (n := G.next) ρ b c hno
  have sub : ∀ i bk, (G.del id).get i = some bk → G.get i = some bk ∧ i ≠ id := fun i bk e => by
    rw [Heap.del_get] at e
    split at e
    · cases e
    · exact ⟨e, by assumption⟩
  refine ⟨h.met, h.below, ?_, fun i bk e => h.lt _ _ (sub i bk e).1, fun i bk e => h.wf _ _ (sub i bk e).1, fun i bk g e => h.late i bk g (sub i bk e).1, ?_, ?_, fun i j bi bj b2 c1 c2 e1 e2 => h.inj _ _ _ _ _ _ _ (sub _ _ e1).1 (sub _ _ e2).1⟩
  · intro b' o x e
    simp only [Rho.lay] at e
    split at e
    · rename_i hb; subst hb; exact hc o x e
    · exact h.imm b' o x e
  · intro i bk e
    obtain ⟨r, h1, h2⟩ := h.live i bk (sub i bk e).1
    exact ⟨r, h1, h2.le hle (Nat.le_refl _)⟩
  · intro i bk b2 cap2 e e2
    obtain ⟨h1, h2⟩ := h.apart _ _ _ _ (sub i bk e).1 e2
    refine ⟨h1, fun o => ?_⟩
    simp only [Rho.lay]
    split
    · rename_i hb; subst hb
      exact absurd (h.inj _ _ _ _ _ _ _ (sub i bk e).1 hg e2 hr) (sub i bk e).2
    · exact h2 o

/-- A name whose block is still to come: put there now, without a place. -/
theorem WRel.pend {ρ : Rho} {G : Heap} {w : World} (h : WRel ρ G w) {cs : List V} (hu : (Blk.cells 0 cs).under (G.next + 1) = true) : WRel (ρ.set G.next 0 .pend) (G.alloc (.cells 0 cs)) w :=
  h.new (blk := .cells 0 cs) (Below.refl _ _) trivial (fun b cap e => by cases e) hu

/-- The block comes. -/
def Rho.fill (ρ : Rho) (id : Nat) (r : Reg) : Rho := { ρ with blk := fun i k => if i = id ∧ k = 0 then some r else ρ.blk i k }
theorem Rho.fill_le {n : Nat} (ρ : Rho) (id : Nat) (r : Reg) (h : ρ.blk id 0 = some .pend) : Rho.Le n ρ (ρ.fill id r) := by
  refine ⟨rfl, fun _ _ _ e => e, fun i k r' hi e => ?_⟩
  by_cases hc : i = id ∧ k = 0
  · obtain ⟨rfl, rfl⟩ := hc
    rw [h] at e; cases e; exact .inr rfl
  · simp only [Rho.fill]; rw [if_neg hc]; exact .inl e
theorem WRel.fill {ρ : Rho} {G : Heap} {w w' : World} (h : WRel ρ G w) (hb : Below w.heap.size w w') {id : Nat} {cs : List V} (hg : G.get id = some (.cells 0 cs)) (hr : ρ.blk id 0 = some .pend) {cap : Nat}
    (hn : BRel ρ G.next w' (.cells 0 cs) (.at w.heap.size cap)) : WRel (ρ.fill id (.at w.heap.size cap)) G w' := by
  have h' := h.grow hb
  have hle : Rho.Le G.next ρ (ρ.fill id (.at w.heap.size cap)) := Rho.fill_le ρ id _ hr
  have immlt : ∀ b o x, ρ.imm b o = some x → b < w.heap.size := fun b o x e => cell_block_lt (h.imm b o x e)
  have other : ∀ i k, ¬(i = id ∧ k = 0) → (ρ.fill id (.at w.heap.size cap)).blk i k = ρ.blk i k := fun i k hc => by simp only [Rho.fill]; rw [if_neg hc]
  have same : (ρ.fill id (.at w.heap.size cap)).blk id 0 = some (.at w.heap.size cap) := by simp [Rho.fill]
  have gen0 : ∀ {i bk}, G.get i = some bk → i = id → bk = .cells 0 cs := fun e hi => by subst hi; rw [hg] at e; cases e; rfl
  refine ⟨h.met, h'.below, h'.imm, h.lt, h.wf, ?_, ?_, ?_, ?_⟩
  · intro i bk g e hgt
    rw [other i g (fun hc => by omega)]
    exact h.late i bk g e hgt
  · intro i bk e
    by_cases hi : i = id
    · obtain rfl := gen0 e hi; subst hi
      exact ⟨_, same, hn.le hle (Nat.le_refl _)⟩
    · obtain ⟨r, h1, h2⟩ := h'.live i bk e
      exact ⟨r, by rw [other _ _ (fun hc => hi hc.1)]; exact h1, h2.le hle (Nat.le_refl _)⟩
  · intro i bk b cap' e e2
    by_cases hi : i = id
    · obtain rfl := gen0 e hi; subst hi
      rw [show (Blk.cells 0 cs).gen = 0 from rfl, same] at e2
      cases e2
      refine ⟨h.below.size, fun o => ?_⟩
      show ρ.imm w.heap.size o = none
      cases ho : ρ.imm w.heap.size o with
      | none => rfl
      | some x => exact absurd (immlt _ o x ho) (by omega)
    · rw [other _ _ (fun hc => hi hc.1)] at e2
      exact h.apart _ _ _ _ e e2
  · intro i j bi bj b2 c1 c2 e1 e2 r1 r2
    have old : ∀ i bi c, i ≠ id → G.get i = some bi → (ρ.fill id (.at w.heap.size cap)).blk i bi.gen = some (.at b2 c) → b2 < w.heap.size := fun i bi c hi e r => by
      rw [other _ _ (fun hc => hi hc.1)] at r
      obtain ⟨r', h1, h2⟩ := h.live i bi e
      rw [r] at h1; cases h1
      exact h2.lt
    by_cases hi : i = id <;> by_cases hj : j = id
    · rw [hi, hj]
    · obtain rfl := gen0 e1 hi; subst hi
      rw [show (Blk.cells 0 cs).gen = 0 from rfl, same] at r1; cases r1
      have := old _ _ _ hj e2 r2; omega
    · obtain rfl := gen0 e2 hj; subst hj
      rw [show (Blk.cells 0 cs).gen = 0 from rfl, same] at r2; cases r2
      have := old _ _ _ hi e1 r1; omega
    · rw [other _ _ (fun hc => hi hc.1)] at r1; rw [other _ _ (fun hc => hj hc.1)] at r2
      exact h.inj _ _ _ _ _ _ _ e1 e2 r1 r2
end Go.Vf
