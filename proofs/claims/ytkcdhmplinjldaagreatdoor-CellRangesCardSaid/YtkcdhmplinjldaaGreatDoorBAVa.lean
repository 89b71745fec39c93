/- A part of the proof: Va, Vb, Vc, Vd, Ve. -/
import Derived.Test.YtkcdhmplinjldaaGreatDoorBAV0
import Derived.Below
import Derived.Calls
import Derived.Orders
import Derived.Deep.Draws
import Derived.Laws.Sem
import Derived.Laws.Strings
import Derived.Tactics
import Derived.Laws.StructEq
set_option linter.unusedVariables false
set_option linter.unusedSimpArgs false
namespace Go.Vf
open Go.RowKit
inductive V where
  | int (k : IntKind) (n : Int)
  | bool (b : Bool)
  | str (s : List UInt8)
  | nilptr
  | ptr (id g off : Nat)
  | iptr (cells : List V) (off : Nat)
  | nilsl
  | sl (sz n : Nat) (cells : List V)
  | slc (sz n : Nat) (cells : List V)
  | arr (sz id g off n : Nat)
  | agg (cells : List V)
  | tup (vs : List V)
  | func (f : Fn) (first captured : List V)
  | nilfunc
  | nilmap
  | map (id : Nat)
  | chan (id : Nat)
  | iface (t : TypeId) (v : V)
  | niliface
  | top
inductive Reg where
  | none
  | at (b cap : Nat)
  | pend
structure Rho where
  base : World
  imm : Nat → Nat → Option Value
  blk : Nat → Nat → Option Reg
def IsImm (ρ : Rho) (b o : Nat) (xs : List Value) : Prop := ∀ i x, xs[i]? = some x → ρ.imm b (o + i) = some x
def V.scalar : V → Bool
  | .agg _ | .tup _ | .top => false
  | _ => true
def V.scalarL : List V → Bool
  | [] => true
  | v :: r => v.scalar && V.scalarL r
mutual
def V.closed : V → Bool
  | .ptr .. | .arr .. | .map _ | .chan _ | .top => false
  | .agg cs | .tup cs => V.closedL cs
  | .func _ a b => V.closedL a && V.closedL b
  | .iface _ v => v.closed
  | _ => true
def V.closedL : List V → Bool
  | [] => true
  | v :: r => v.scalar && (v.closed && V.closedL r)
end
mutual
def V.under (n : Nat) : V → Bool
  | .ptr id _ _ | .arr _ id _ _ _ | .map id | .chan id => decide (id < n)
  | .agg cs | .tup cs => V.underL n cs
  | .func _ a b => V.underL n a && V.underL n b
  | .iface _ v => v.under n
  | _ => true
def V.underL (n : Nat) : List V → Bool
  | [] => true
  | v :: r => v.under n && V.underL n r
end
inductive VR (ρ : Rho) (n : Nat) : V → Value → Prop
  | int (k : IntKind) (i : Int) : VR ρ n (.int k i) (.int k i)
  | bool (b : Bool) : VR ρ n (.bool b) (.bool b)
  | str (s : List UInt8) : VR ρ n (.str s) (.string ⟨s.toArray⟩)
  | nilptr : VR ρ n .nilptr (.pointer none)
  | ptr (id g off b cap : Nat) : id < n → ρ.blk id g = some (.at b cap) → VR ρ n (.ptr id g off) (.pointer (some ⟨b, off, none⟩))
  | iptr (cells : List V) (off : Nat) (xs : List Value) (b o : Nat) : V.closedL cells = true → IsImm ρ b o xs → xs.length = cells.length →
      (∀ (i : Nat) (v : V) (x : Value), cells[i]? = some v → xs[i]? = some x → VR ρ n v x) → VR ρ n (.iptr cells off) (.pointer (some ⟨b, o + off, none⟩))
  | nilsl : VR ρ n .nilsl (.slice none 0 0)
  | sl (sz m : Nat) (cells : List V) (xs : List Value) (b o cap : Nat) : V.closedL cells = true → cells.length = m * sz → m ≤ cap → IsImm ρ b o xs → xs.length = cells.length →
      (∀ (i : Nat) (v : V) (x : Value), cells[i]? = some v → xs[i]? = some x → VR ρ n v x) → VR ρ n (.sl sz m cells) (.slice (some ⟨b, o, none⟩) m cap)
  | sl0 (sz : Nat) (A : Option Addr) (cap : Nat) : VR ρ n (.sl sz 0 []) (.slice A 0 cap)
  | slc (sz m : Nat) (cells : List V) (xs : List Value) (b o : Nat) : V.closedL cells = true → cells.length = m * sz → IsImm ρ b o xs → xs.length = cells.length →
      (∀ (i : Nat) (v : V) (x : Value), cells[i]? = some v → xs[i]? = some x → VR ρ n v x) → VR ρ n (.slc sz m cells) (.slice (some ⟨b, o, none⟩) m m)
  | slc0 (sz : Nat) (A : Option Addr) : VR ρ n (.slc sz 0 []) (.slice A 0 0)
  | arr (sz id g off m b cap c : Nat) : id < n → ρ.blk id g = some (.at b cap) → off + c * sz ≤ cap → m ≤ c → VR ρ n (.arr sz id g off m) (.slice (some ⟨b, off, none⟩) m c)
  | arr0 (sz id g : Nat) (A : Option Addr) : id < n → ρ.blk id g = some .none → VR ρ n (.arr sz id g 0 0) (.slice A 0 0)
  | agg (cells : List V) (xs : List Value) : xs.length = cells.length → (∀ (i : Nat) (v : V) (x : Value), cells[i]? = some v → xs[i]? = some x → VR ρ n v x) → VR ρ n (.agg cells) (.agg xs.toArray)
  | tup (cells : List V) (xs : List Value) : xs.length = cells.length → (∀ (i : Nat) (v : V) (x : Value), cells[i]? = some v → xs[i]? = some x → VR ρ n v x) → VR ρ n (.tup cells) (.tuple xs.toArray)
  | func (f : Fn) (a b : List V) (xs ys : List Value) : xs.length = a.length → ys.length = b.length →
      (∀ (i : Nat) (v : V) (x : Value), a[i]? = some v → xs[i]? = some x → VR ρ n v x) → (∀ (i : Nat) (v : V) (x : Value), b[i]? = some v → ys[i]? = some x → VR ρ n v x) → VR ρ n (.func f a b) (.func f xs.toArray ys.toArray)
  | nilfunc : VR ρ n .nilfunc .nilFunc
  | nilmap : VR ρ n .nilmap (.map none)
  | map (id b : Nat) : id < n → ρ.blk id 0 = some (.at b 0) → VR ρ n (.map id) (.map (some b))
  | chan (id b : Nat) : id < n → ρ.blk id 0 = some (.at b 0) → VR ρ n (.chan id) (.chan (some b))
  | iface (t : TypeId) (v : V) (x : Value) : VR ρ n v x → VR ρ n (.iface t v) (.iface t x)
  | niliface : VR ρ n .niliface .nilIface
  | top (x : Value) : VR ρ n .top x
def VRs (ρ : Rho) (n : Nat) (vs : List V) (xs : List Value) : Prop := xs.length = vs.length ∧ ∀ (i : Nat) (v : V) (x : Value), vs[i]? = some v → xs[i]? = some x → VR ρ n v x
structure Rho.Le (n : Nat) (ρ ρ' : Rho) : Prop where
  base : ρ'.base = ρ.base
  imm : ∀ b o x, ρ.imm b o = some x → ρ'.imm b o = some x
  blk : ∀ id g r, id < n → ρ.blk id g = some r → ρ'.blk id g = some r ∨ r = .pend
theorem Rho.Le.refl (n : Nat) (ρ : Rho) : Rho.Le n ρ ρ := ⟨rfl, fun _ _ _ h => h, fun _ _ _ _ h => .inl h⟩
theorem Rho.Le.trans {n m : Nat} {a b c : Rho} (h : Rho.Le n a b) (k : Rho.Le m b c) (hnm : n ≤ m) : Rho.Le n a c :=
  ⟨k.base.trans h.base, fun _ _ _ e => k.imm _ _ _ (h.imm _ _ _ e), fun _ _ _ hi e => (h.blk _ _ _ hi e).elim (fun e' => k.blk _ _ _ (Nat.lt_of_lt_of_le hi hnm) e') .inr⟩
theorem Rho.Le.at {n : Nat} {a b : Rho} (h : Rho.Le n a b) {id g : Nat} {r : Reg} (hi : id < n) (e : a.blk id g = some r) (hr : r ≠ .pend) : b.blk id g = some r := (h.blk _ _ _ hi e).resolve_right hr
theorem Rho.Le.mono {n m : Nat} {a b : Rho} (h : Rho.Le m a b) (hnm : n ≤ m) : Rho.Le n a b :=
  ⟨h.base, h.imm, fun _ _ _ hi e => h.blk _ _ _ (Nat.lt_of_lt_of_le hi hnm) e⟩
theorem IsImm.le {n : Nat} {ρ ρ' : Rho} (h : Rho.Le n ρ ρ') {b o : Nat} {xs : List Value} (k : IsImm ρ b o xs) : IsImm ρ' b o xs := fun i x e => h.imm _ _ _ (k i x e)
theorem VR.le {ρ ρ' : Rho} {n n' : Nat} (h : Rho.Le n ρ ρ') (hn : n ≤ n') {v : V} {x : Value} (k : VR ρ n v x) : VR ρ' n' v x := by
  induction k with
  | int k i => exact .int k i
  | bool b => exact .bool b
  | str s => exact .str s
  | nilptr => exact .nilptr
  | ptr id g off b cap h1 h2 => exact .ptr id g off b cap (Nat.lt_of_lt_of_le h1 hn) (h.at h1 h2 (by simp))
  | iptr cells off xs b o h1 h2 h3 _ ih => exact .iptr cells off xs b o h1 (h2.le h) h3 ih
  | nilsl => exact .nilsl
  | sl sz m cells xs b o cap h1 h2 h3 h4 h5 _ ih => exact .sl sz m cells xs b o cap h1 h2 h3 (h4.le h) h5 ih
  | sl0 sz A cap => exact .sl0 sz A cap
  | slc sz m cells xs b o h1 h2 h3 h4 _ ih => exact .slc sz m cells xs b o h1 h2 (h3.le h) h4 ih
  | slc0 sz A => exact .slc0 sz A
  | arr sz id g off m b cap c h1 h2 h3 h4 => exact .arr sz id g off m b cap c (Nat.lt_of_lt_of_le h1 hn) (h.at h1 h2 (by simp)) h3 h4
  | arr0 sz id g A h1 h2 => exact .arr0 sz id g A (Nat.lt_of_lt_of_le h1 hn) (h.at h1 h2 (by simp))
  | agg cells xs h1 _ ih => exact .agg cells xs h1 ih
  | tup cells xs h1 _ ih => exact .tup cells xs h1 ih
  | func f a b xs ys h1 h2 _ _ ih1 ih2 => exact .func f a b xs ys h1 h2 ih1 ih2
  | nilfunc => exact .nilfunc
  | nilmap => exact .nilmap
  | map id b h1 h2 => exact .map id b (Nat.lt_of_lt_of_le h1 hn) (h.at h1 h2 (by simp))
  | chan id b h1 h2 => exact .chan id b (Nat.lt_of_lt_of_le h1 hn) (h.at h1 h2 (by simp))
  | iface t v x _ ih => exact .iface t v x ih
  | niliface => exact .niliface
  | top x => exact .top x
theorem scalarL_get {cs : List V} (h : V.scalarL cs = true) : ∀ {i : Nat} {v : V}, cs[i]? = some v → v.scalar = true := by
  induction cs with
  | nil => intro i v e; simp at e
  | cons c r ih =>
    intro i v e
    simp only [V.scalarL, Bool.and_eq_true] at h
    cases i with
    | zero => simp at e; exact e ▸ h.1
    | succ i => exact ih h.2 (by simpa using e)
theorem scalarL_of {cs : List V} (h : ∀ v, v ∈ cs → v.scalar = true) : V.scalarL cs = true := by
  induction cs with
  | nil => rfl
  | cons c r ih => simp only [V.scalarL, Bool.and_eq_true]; exact ⟨h c (by simp), ih fun v hv => h v (by simp [hv])⟩
theorem scalarL_mem {cs : List V} (h : V.scalarL cs = true) {v : V} (hv : v ∈ cs) : v.scalar = true := by
  obtain ⟨i, hi⟩ := List.getElem?_of_mem hv
  exact scalarL_get h hi
theorem scalarL_sub {cs ds : List V} (h : V.scalarL cs = true) (hs : ∀ v, v ∈ ds → v ∈ cs) : V.scalarL ds = true := scalarL_of fun v hv => scalarL_mem h (hs v hv)
theorem scalarL_append (a b : List V) : V.scalarL (a ++ b) = (V.scalarL a && V.scalarL b) := by
  induction a with
  | nil => simp [V.scalarL]
  | cons c r ih => simp [V.scalarL, ih, Bool.and_assoc]
theorem scalarL_of_closedL {cs : List V} (h : V.closedL cs = true) : V.scalarL cs = true := by
  induction cs with
  | nil => rfl
  | cons c r ih => simp only [V.closedL, V.scalarL, Bool.and_eq_true] at h ⊢; exact ⟨h.1, ih h.2.2⟩
theorem closedL_get {cs : List V} (h : V.closedL cs = true) : ∀ {i : Nat} {v : V}, cs[i]? = some v → v.closed = true := by
  induction cs with
  | nil => intro i v e; simp at e
  | cons c r ih =>
    intro i v e
    simp only [V.closedL, Bool.and_eq_true] at h
    cases i with
    | zero => simp at e; exact e ▸ h.2.1
    | succ i => exact ih h.2.2 (by simpa using e)
theorem underL_get {n : Nat} {cs : List V} (h : V.underL n cs = true) : ∀ {i : Nat} {v : V}, cs[i]? = some v → v.under n = true := by
  induction cs with
  | nil => intro i v e; simp at e
  | cons c r ih =>
    intro i v e
    simp only [V.underL, Bool.and_eq_true] at h
    cases i with
    | zero => simp at e; exact e ▸ h.1
    | succ i => exact ih h.2 (by simpa using e)
theorem closedL_append (a b : List V) : V.closedL (a ++ b) = (V.closedL a && V.closedL b) := by
  induction a with
  | nil => simp [V.closedL]
  | cons c r ih => simp [V.closedL, ih, Bool.and_assoc]
theorem underL_append (n : Nat) (a b : List V) : V.underL n (a ++ b) = (V.underL n a && V.underL n b) := by
  induction a with
  | nil => simp [V.underL]
  | cons c r ih => simp [V.underL, ih, Bool.and_assoc]
theorem closedL_of {cs : List V} (h : ∀ v, v ∈ cs → v.scalar = true ∧ v.closed = true) : V.closedL cs = true := by
  induction cs with
  | nil => rfl
  | cons c r ih => simp only [V.closedL, Bool.and_eq_true]; exact ⟨(h c (by simp)).1, (h c (by simp)).2, ih fun v hv => h v (by simp [hv])⟩
theorem closedL_mem {cs : List V} (h : V.closedL cs = true) {v : V} (hv : v ∈ cs) : v.scalar = true ∧ v.closed = true := by
  obtain ⟨i, hi⟩ := List.getElem?_of_mem hv
  exact ⟨scalarL_get (scalarL_of_closedL h) hi, closedL_get h hi⟩
theorem closedL_sub {cs ds : List V} (h : V.closedL cs = true) (hs : ∀ v, v ∈ ds → v ∈ cs) : V.closedL ds = true := closedL_of fun v hv => closedL_mem h (hs v hv)
theorem closedL_drop {cs : List V} (h : V.closedL cs = true) (n : Nat) : V.closedL (cs.drop n) = true := closedL_sub h fun _ hv => List.mem_of_mem_drop hv
theorem closedL_take {cs : List V} (h : V.closedL cs = true) (n : Nat) : V.closedL (cs.take n) = true := closedL_sub h fun _ hv => List.mem_of_mem_take hv
theorem VR.closed {ρ : Rho} {n : Nat} (n' : Nat) {v : V} {x : Value} (k : VR ρ n v x) : v.closed = true → VR ρ n' v x := by
  induction k with
  | int k i => intro _; exact .int k i
  | bool b => intro _; exact .bool b
  | str s => intro _; exact .str s
  | nilptr => intro _; exact .nilptr
  | ptr id g off b cap h1 h2 => intro h; simp [V.closed] at h
  | iptr cells off xs b o h1 h2 h3 _ ih => intro _; exact .iptr cells off xs b o h1 h2 h3 fun i v x e e' => ih i v x e e' (closedL_get h1 e)
  | nilsl => intro _; exact .nilsl
  | sl sz m cells xs b o cap h1 h2 h3 h4 h5 _ ih => intro _; exact .sl sz m cells xs b o cap h1 h2 h3 h4 h5 fun i v x e e' => ih i v x e e' (closedL_get h1 e)
  | sl0 sz A cap => intro _; exact .sl0 sz A cap
  | slc sz m cells xs b o h1 h2 h3 h4 _ ih => intro _; exact .slc sz m cells xs b o h1 h2 h3 h4 fun i v x e e' => ih i v x e e' (closedL_get h1 e)
  | slc0 sz A => intro _; exact .slc0 sz A
  | arr sz id g off m b cap c h1 h2 h3 h4 => intro h; simp [V.closed] at h
  | arr0 sz id g A h1 h2 => intro h; simp [V.closed] at h
  | agg cells xs h1 _ ih => intro h; simp only [V.closed] at h; exact .agg cells xs h1 fun i v x e e' => ih i v x e e' (closedL_get h e)
  | tup cells xs h1 _ ih => intro h; simp only [V.closed] at h; exact .tup cells xs h1 fun i v x e e' => ih i v x e e' (closedL_get h e)
  | func f a b xs ys h1 h2 _ _ ih1 ih2 =>
    intro h; simp only [V.closed, Bool.and_eq_true] at h
    exact .func f a b xs ys h1 h2 (fun i v x e e' => ih1 i v x e e' (closedL_get h.1 e)) (fun i v x e e' => ih2 i v x e e' (closedL_get h.2 e))
  | nilfunc => intro _; exact .nilfunc
  | nilmap => intro _; exact .nilmap
  | map id b h1 h2 => intro h; simp [V.closed] at h
  | chan id b h1 h2 => intro h; simp [V.closed] at h
  | iface t v x _ ih => intro h; exact .iface t v x (ih (by simpa [V.closed] using h))
  | niliface => intro _; exact .niliface
  | top x => intro h; simp [V.closed] at h
theorem VR.under {ρ : Rho} {n : Nat} (n' : Nat) {v : V} {x : Value} (k : VR ρ n v x) : v.under n' = true → VR ρ n' v x := by
  induction k with
  | int k i => intro _; exact .int k i
  | bool b => intro _; exact .bool b
  | str s => intro _; exact .str s
  | nilptr => intro _; exact .nilptr
  | ptr id g off b cap h1 h2 => intro h; exact .ptr id g off b cap (by simpa [V.under] using h) h2
  | iptr cells off xs b o h1 h2 h3 h4 ih => intro _; exact .iptr cells off xs b o h1 h2 h3 fun i v x e e' => (h4 i v x e e').closed n' (closedL_get h1 e)
  | nilsl => intro _; exact .nilsl
  | sl sz m cells xs b o cap h1 h2 h3 h4 h5 h6 ih => intro _; exact .sl sz m cells xs b o cap h1 h2 h3 h4 h5 fun i v x e e' => (h6 i v x e e').closed n' (closedL_get h1 e)
  | sl0 sz A cap => intro _; exact .sl0 sz A cap
  | slc sz m cells xs b o h1 h2 h3 h4 h5 ih => intro _; exact .slc sz m cells xs b o h1 h2 h3 h4 fun i v x e e' => (h5 i v x e e').closed n' (closedL_get h1 e)
  | slc0 sz A => intro _; exact .slc0 sz A
  | arr sz id g off m b cap c h1 h2 h3 h4 => intro h; exact .arr sz id g off m b cap c (by simpa [V.under] using h) h2 h3 h4
  | arr0 sz id g A h1 h2 => intro h; exact .arr0 sz id g A (by simpa [V.under] using h) h2
  | agg cells xs h1 _ ih => intro h; simp only [V.under] at h; exact .agg cells xs h1 fun i v x e e' => ih i v x e e' (underL_get h e)
  | tup cells xs h1 _ ih => intro h; simp only [V.under] at h; exact .tup cells xs h1 fun i v x e e' => ih i v x e e' (underL_get h e)
  | func f a b xs ys h1 h2 _ _ ih1 ih2 =>
    intro h; simp only [V.under, Bool.and_eq_true] at h
    exact .func f a b xs ys h1 h2 (fun i v x e e' => ih1 i v x e e' (underL_get h.1 e)) (fun i v x e e' => ih2 i v x e e' (underL_get h.2 e))
  | nilfunc => intro _; exact .nilfunc
  | nilmap => intro _; exact .nilmap
  | map id b h1 h2 => intro h; exact .map id b (by simpa [V.under] using h) h2
  | chan id b h1 h2 => intro h; exact .chan id b (by simpa [V.under] using h) h2
  | iface t v x _ ih => intro h; exact .iface t v x (ih (by simpa [V.under] using h))
  | niliface => intro _; exact .niliface
  | top x => intro _; exact .top x
theorem V.under_mono {n n' : Nat} (hn : n ≤ n') {ρ : Rho} : ∀ {v : V}, v.under n = true → v.under n' = true
  | .int .., _ | .bool _, _ | .str _, _ | .nilptr, _ | .iptr .., _ | .nilsl, _ | .sl .., _ | .slc .., _ | .nilfunc, _ | .nilmap, _ | .niliface, _ | .top, _ => by simp [V.under]
  | .ptr .., h | .arr .., h | .map _, h | .chan _, h => by simp only [V.under, decide_eq_true_eq] at h ⊢; omega
  | .agg cs, h | .tup cs, h => by simp only [V.under] at h ⊢; exact go cs h
  | .func _ a b, h => by simp only [V.under, Bool.and_eq_true] at h ⊢; exact ⟨go a h.1, go b h.2⟩
  | .iface _ v, h => by simp only [V.under] at h ⊢; exact V.under_mono hn (ρ := ρ) h
where go : ∀ (cs : List V), V.underL n cs = true → V.underL n' cs = true
  | [], _ => rfl
  | v :: r, h => by simp only [V.underL, Bool.and_eq_true] at h ⊢; exact ⟨V.under_mono hn (ρ := ρ) h.1, go r h.2⟩
theorem underL_of {n : Nat} {cs : List V} (h : ∀ (i : Nat) (v : V), cs[i]? = some v → v.under n = true) : V.underL n cs = true := by
  induction cs with
  | nil => rfl
  | cons c r ih =>
    simp only [V.underL, Bool.and_eq_true]
    exact ⟨h 0 c rfl, ih fun i v e => h (i + 1) v (by simpa using e)⟩
theorem get_of_len {α β : Type} {cs : List α} {xs : List β} (hl : xs.length = cs.length) {i : Nat} {v : α} (e : cs[i]? = some v) : ∃ x, xs[i]? = some x := by
  have hi : i < xs.length := by
    rcases Nat.lt_or_ge i cs.length with h | h
    · omega
    · rw [List.getElem?_eq_none h] at e; cases e
  exact ⟨_, List.getElem?_eq_getElem hi⟩
theorem VR.isUnder {ρ : Rho} {n : Nat} {v : V} {x : Value} (k : VR ρ n v x) : v.under n = true := by
  induction k with
  | ptr id g off b cap h1 h2 => simpa [V.under] using h1
  | arr sz id g off m b cap c h1 => simpa [V.under] using h1
  | arr0 sz id g A h1 => simpa [V.under] using h1
  | map id b h1 => simpa [V.under] using h1
  | chan id b h1 => simpa [V.under] using h1
  | agg cells xs h1 _ ih =>
    simp only [V.under]
    refine underL_of fun i v e => ?_
    obtain ⟨x, hx⟩ := get_of_len h1 e
    exact ih i v x e hx
  | tup cells xs h1 _ ih =>
    simp only [V.under]
    refine underL_of fun i v e => ?_
    obtain ⟨x, hx⟩ := get_of_len h1 e
    exact ih i v x e hx
  | func f a b xs ys h1 h2 _ _ ih1 ih2 =>
    simp only [V.under, Bool.and_eq_true]
    refine ⟨underL_of fun i v e => ?_, underL_of fun i v e => ?_⟩
    · obtain ⟨x, hx⟩ := get_of_len h1 e
      exact ih1 i v x e hx
    · obtain ⟨x, hx⟩ := get_of_len h2 e
      exact ih2 i v x e hx
  | iface t v x _ ih => simpa [V.under] using ih
  | _ => rfl
theorem VR.oneCell {ρ : Rho} {n : Nat} {v : V} {x : Value} (k : VR ρ n v x) (h : v.scalar = true) : x.oneCell' = true := by
  cases k <;> first | rfl | (simp [V.scalar] at h)
end Go.Vf
set_option linter.unusedVariables false
set_option linter.unusedSimpArgs false
namespace Go.Vf
open Go.RowKit
inductive Blk where
  | cells (g : Nat) (cs : List V)
  | iter (s : List UInt8) (pos : Nat)
  | map (es : List (V × V × Nat)) (clock : Nat)
  | chan (cap : Nat) (buf : List V)
def Blk.gen : Blk → Nat
  | .cells g _ => g
  | _ => 0
structure Heap where
  next : Nat
  get : Nat → Option Blk
def Heap.put (G : Heap) (id : Nat) (b : Blk) : Heap := { G with get := fun j => if j = id then some b else G.get j }
def Heap.del (G : Heap) (id : Nat) : Heap := { G with get := fun j => if j = id then none else G.get j }
def Heap.alloc (G : Heap) (b : Blk) : Heap := { next := G.next + 1, get := fun j => if j = G.next then some b else G.get j }

@[simp] theorem Heap.put_next (G : Heap) (id : Nat) (b : Blk) : (G.put id b).next = G.next := rfl
@[simp] theorem Heap.del_next (G : Heap) (id : Nat) : (G.del id).next = G.next := rfl
@[simp] theorem Heap.alloc_next (G : Heap) (b : Blk) : (G.alloc b).next = G.next + 1 := rfl
theorem Heap.put_get (G : Heap) (id : Nat) (b : Blk) (j : Nat) : (G.put id b).get j = if j = id then some b else G.get j := rfl
theorem Heap.del_get (G : Heap) (id : Nat) (j : Nat) : (G.del id).get j = if j = id then none else G.get j := rfl
theorem Heap.alloc_get (G : Heap) (b : Blk) (j : Nat) : (G.alloc b).get j = if j = G.next then some b else G.get j := rfl
def Blk.under (n : Nat) : Blk → Bool
  | .cells _ cs => V.underL n cs && V.scalarL cs
  | .iter .. => true
  | .map es _ => es.all fun e => e.1.under n && e.2.1.under n
  | .chan _ buf => V.underL n buf
structure Heap.Wf (G : Heap) : Prop where
  lt : ∀ {id : Nat} {b : Blk}, G.get id = some b → id < G.next
  under : ∀ {id : Nat} {b : Blk}, G.get id = some b → b.under G.next = true
def BRel (ρ : Rho) (n : Nat) (w : World) : Blk → Reg → Prop
  | .cells _ cs, .none => cs = []
  | .cells _ cs, .at b cap => ∃ c e fz, w.heap[b]? = some (.cells c e fz) ∧ c.size = cap ∧ cs.length ≤ cap ∧
      (∀ (i : Nat) (v : V) (x : Value), cs[i]? = some v → c[i]? = some x → VR ρ n v x) ∧ ∀ o, o < cap → ¬(fz.1 ≤ o ∧ o < fz.2)
  | .iter s pos, .at b _ => w.heap[b]? = some (.stringIter ⟨s.toArray⟩ pos)
  | .map es clock, .at b _ => ∃ xs, w.heap[b]? = some (.map xs clock) ∧ xs.size = es.length ∧
      ∀ (i : Nat) (e : V × V × Nat) (x : MapEntry), es[i]? = some e → xs[i]? = some x → VR ρ n e.1 x.key ∧ VR ρ n e.2.1 x.val ∧ x.born = e.2.2
  | .chan cap buf, .at b _ => ∃ xs snt rc, w.heap[b]? = some (.chan cap xs false snt rc false) ∧ VRs ρ n buf xs.toList
  | .cells _ _, .pend => True
  | _, .none => False
  | _, .pend => False
theorem BRel.le {ρ ρ' : Rho} {n n' : Nat} (h : Rho.Le n ρ ρ') (hn : n ≤ n') {w : World} {blk : Blk} {r : Reg} (k : BRel ρ n w blk r) : BRel ρ' n' w blk r := by
  cases blk with
  | cells g cs =>
    cases r with
    | none => exact k
    | pend => exact k
    | «at» b cap => obtain ⟨c, e, fz, h1, h2, h3, h4, h5⟩ := k; exact ⟨c, e, fz, h1, h2, h3, fun i v x e1 e2 => (h4 i v x e1 e2).le h hn, h5⟩
  | iter s pos => cases r with
    | none => exact k
    | pend => exact k
    | «at» b cap => exact k
  | map es clock => cases r with
    | none => exact k
    | pend => exact k
    | «at» b cap =>
      obtain ⟨xs, h1, h2, h3⟩ := k
      exact ⟨xs, h1, h2, fun i e x e1 e2 => ⟨(h3 i e x e1 e2).1.le h hn, (h3 i e x e1 e2).2.1.le h hn, (h3 i e x e1 e2).2.2⟩⟩
  | chan cap buf => cases r with
    | none => exact k
    | pend => exact k
    | «at» b cap => obtain ⟨xs, s, r, h1, h2, h3⟩ := k; exact ⟨xs, s, r, h1, h2, fun i v x e1 e2 => (h3 i v x e1 e2).le h hn⟩
theorem BRel.world {ρ : Rho} {n : Nat} {w w' : World} {blk : Blk} {r : Reg} (k : BRel ρ n w blk r) (h : ∀ b cap, r = .at b cap → w'.heap[b]? = w.heap[b]?) : BRel ρ n w' blk r := by
  cases r with
  | none => cases blk <;> exact k
  | pend => cases blk <;> exact k
  | «at» b cap =>
    have h := h b cap rfl
    cases blk with
    | cells g cs => obtain ⟨c, e, fz, h1, h2⟩ := k; exact ⟨c, e, fz, by rw [h]; exact h1, h2⟩
    | iter s pos => show _ = _; rw [h]; exact k
    | map es clock => obtain ⟨xs, h1, h2⟩ := k; exact ⟨xs, by rw [h]; exact h1, h2⟩
    | chan cp buf => obtain ⟨xs, s, r, h1, h2⟩ := k; exact ⟨xs, s, r, by rw [h]; exact h1, h2⟩
theorem BRel.lt {ρ : Rho} {n : Nat} {w : World} {blk : Blk} {b cap : Nat} (k : BRel ρ n w blk (.at b cap)) : b < w.heap.size := by
  have : ∃ o, w.heap[b]? = some o := by
    cases blk with
    | cells g cs => obtain ⟨c, e, fz, h1, _⟩ := k; exact ⟨_, h1⟩
    | iter s pos => exact ⟨_, k⟩
    | map es clock => obtain ⟨xs, h1, _⟩ := k; exact ⟨_, h1⟩
    | chan cp buf => obtain ⟨xs, s, r, h1, _⟩ := k; exact ⟨_, h1⟩
  obtain ⟨o, ho⟩ := this
  exact (Array.getElem?_eq_some_iff.1 ho).1
theorem BRel.under {ρ : Rho} {n : Nat} (n' : Nat) {w : World} {blk : Blk} {r : Reg} (k : BRel ρ n w blk r) (h : blk.under n' = true) : BRel ρ n' w blk r := by
  cases blk with
  | cells g cs =>
    cases r with
    | none => exact k
    | pend => exact k
    | «at» b cap => obtain ⟨c, e, fz, h1, h2, h3, h4, h5⟩ := k; exact ⟨c, e, fz, h1, h2, h3, fun i v x e1 e2 => (h4 i v x e1 e2).under n' (underL_get (by simp only [Blk.under, Bool.and_eq_true] at h; exact h.1) e1), h5⟩
  | iter s pos => cases r with
    | none => exact k
    | pend => exact k
    | «at» b cap => exact k
  | map es clock => cases r with
    | none => exact k
    | pend => exact k
    | «at» b cap =>
      obtain ⟨xs, h1, h2, h3⟩ := k
      refine ⟨xs, h1, h2, fun i e x e1 e2 => ?_⟩
      simp only [Blk.under, List.all_eq_true, Bool.and_eq_true] at h
      have := h e (List.mem_of_getElem? e1)
      exact ⟨(h3 i e x e1 e2).1.under n' this.1, (h3 i e x e1 e2).2.1.under n' this.2, (h3 i e x e1 e2).2.2⟩
  | chan cap buf => cases r with
    | none => exact k
    | pend => exact k
    | «at» b cap => obtain ⟨xs, s, r, h1, h2, h3⟩ := k; exact ⟨xs, s, r, h1, h2, fun i v x e1 e2 => (h3 i v x e1 e2).under n' (underL_get h e1)⟩
structure WRel (ρ : Rho) (G : Heap) (w : World) : Prop where
  met : Met ρ.base
  below : Below ρ.base.heap.size ρ.base w
  imm : ∀ b o x, ρ.imm b o = some x → w.cell? ⟨b, o, none⟩ = some x
  lt : ∀ id blk, G.get id = some blk → id < G.next
  wf : ∀ id blk, G.get id = some blk → blk.under G.next = true
  late : ∀ id blk g, G.get id = some blk → blk.gen < g → ρ.blk id g = none
  live : ∀ id blk, G.get id = some blk → ∃ r, ρ.blk id blk.gen = some r ∧ BRel ρ G.next w blk r
  apart : ∀ id blk b cap, G.get id = some blk → ρ.blk id blk.gen = some (.at b cap) → ρ.base.heap.size ≤ b ∧ ∀ o, ρ.imm b o = none
  inj : ∀ id id' blk blk' b cap cap', G.get id = some blk → G.get id' = some blk' → ρ.blk id blk.gen = some (.at b cap) → ρ.blk id' blk'.gen = some (.at b cap') → id = id'
theorem WRel.heapWf {ρ : Rho} {G : Heap} {w : World} (h : WRel ρ G w) : G.Wf := ⟨fun e => h.lt _ _ e, fun e => h.wf _ _ e⟩
theorem cell_block_lt {w : World} {a : Addr} {v : Value} (h : w.cell? a = some v) : a.block < w.heap.size := World.block_lt_of_cell? w a h
theorem WRel.grow {ρ : Rho} {G : Heap} {w w' : World} (h : WRel ρ G w) (hb : Below w.heap.size w w') : WRel ρ G w' where
  met := h.met
  below := h.below.trans (hb.mono h.below.size)
  imm b o x e := by
    have := h.imm b o x e
    rw [hb.cell (p := ⟨b, o, none⟩) (cell_block_lt this)]
    exact this
  lt := h.lt
  wf := h.wf
  late := h.late
  live id blk e := by
    obtain ⟨r, h1, h2⟩ := h.live id blk e
    refine ⟨r, h1, h2.world fun b cap er => ?_⟩
    subst er
    exact hb.block b h2.lt
  apart := h.apart
  inj := h.inj
theorem WRel.drew {ρ : Rho} {G : Heap} {w : World} (h : WRel ρ G w) : WRel ρ G w.drew := h.grow ⟨rfl, rfl, rfl, Nat.le_refl _, fun _ _ => rfl⟩
theorem WRel.drop {ρ : Rho} {G G' : Heap} {w : World} (h : WRel ρ G w) (hs : ∀ id blk, G'.get id = some blk → G.get id = some blk) (hw : G'.Wf) : WRel ρ G' w where
  met := h.met
  below := h.below
  imm := h.imm
  lt id blk e := hw.lt e
  wf id blk e := hw.under e
  late id blk g e := h.late id blk g (hs _ _ e)
  live id blk e := by
    obtain ⟨r, h1, h2⟩ := h.live id blk (hs _ _ e)
    exact ⟨r, h1, h2.under _ (hw.under e)⟩
  apart id blk b cap e := h.apart id blk b cap (hs _ _ e)
  inj id id' blk blk' b cap cap' e e' := h.inj id id' blk blk' b cap cap' (hs _ _ e) (hs _ _ e')
def Rho.set (ρ : Rho) (id g : Nat) (r : Reg) : Rho := { ρ with blk := fun i k => if i = id then (if k = g then some r else if g < k then none else ρ.blk i k) else ρ.blk i k }
theorem Rho.set_same (ρ : Rho) (id g : Nat) (r : Reg) : (ρ.set id g r).blk id g = some r := by simp [Rho.set]
theorem Rho.set_other (ρ : Rho) (id g : Nat) (r : Reg) {i k : Nat} (h : i ≠ id) : (ρ.set id g r).blk i k = ρ.blk i k := by simp [Rho.set, h]
theorem Rho.set_le_new {n : Nat} (ρ : Rho) {id : Nat} (g : Nat) (r : Reg) (h : n ≤ id) : Rho.Le n ρ (ρ.set id g r) :=
  ⟨rfl, fun _ _ _ e => e, fun i k r' hi e => by rw [Rho.set_other _ _ _ _ (by omega)]; exact .inl e⟩
theorem Rho.set_le_late {n : Nat} (ρ : Rho) {id : Nat} (g : Nat) (r : Reg) (h : ∀ k, g ≤ k → ρ.blk id k = none) : Rho.Le n ρ (ρ.set id g r) := by
  refine ⟨rfl, fun _ _ _ e => e, fun i k r' hi e => ?_⟩
  by_cases hid : i = id
  · subst hid
    have hk : k < g := by
      rcases Nat.lt_or_ge k g with h' | h'
      · exact h'
      · rw [h k h'] at e; cases e
    simp only [Rho.set, if_true]
    rw [if_neg (by omega), if_neg (by omega)]
    exact .inl e
  · rw [Rho.set_other _ _ _ _ hid]; exact .inl e
theorem WRel.put {ρ : Rho} {G : Heap} {w w' : World} (h : WRel ρ G w) {id : Nat} {blk blk' : Blk} {b cap : Nat} (hg : G.get id = some blk) (hr : ρ.blk id blk.gen = some (.at b cap))
    (hos : w'.os = w.os) (htape : w'.tape = w.tape) (hout : w'.output = w.output) (hsize : w'.heap.size = w.heap.size)
    (hold : ∀ k, k ≠ b → w'.heap[k]? = w.heap[k]?) (hgen : blk'.gen = blk.gen) (hn : BRel ρ G.next w' blk' (.at b cap)) (hu : blk'.under G.next = true) : WRel ρ (G.put id blk') w' where
  met := h.met
  below := by
    have hb := (h.apart id blk b cap hg hr).1
    exact h.below.trans ⟨hos, htape, hout, by omega, fun k hk => hold k (by omega)⟩
  imm b' o x e := by
    have hne : b' ≠ b := fun e' => by
      have := (h.apart id blk b cap hg hr).2 o
      rw [← e', e] at this
      cases this
    have hc : w'.cell? ⟨b', o, none⟩ = w.cell? ⟨b', o, none⟩ := by simp only [World.cell?]; rw [hold b' hne]
    rw [hc]
    exact h.imm b' o x e
  lt i bk e := by
    rw [Heap.put_get] at e
    split at e
    · rename_i hi; subst hi; exact h.lt _ _ hg
    · exact h.lt _ _ e
  wf i bk e := by
    rw [Heap.put_get] at e
    split at e
    · cases e; exact hu
    · exact h.wf _ _ e
  late i bk g e hgt := by
    rw [Heap.put_get] at e
    split at e
    · rename_i hi; cases e; subst hi; exact h.late _ _ g hg (by omega)
    · exact h.late _ _ g e hgt
  live i bk e := by
    rw [Heap.put_get] at e
    split at e
    · rename_i hi; cases e; subst hi; exact ⟨_, by rw [hgen]; exact hr, hn⟩
    · rename_i hi
      obtain ⟨r, h1, h2⟩ := h.live i bk e
      refine ⟨r, h1, h2.world fun b2 cap2 er => hold b2 fun e2 => ?_⟩
      subst er; subst e2
      exact hi (h.inj _ _ _ _ _ _ _ e hg h1 hr)
  apart i bk b2 cap2 e e2 := by
    rw [Heap.put_get] at e
    split at e
    · rename_i hi; cases e; subst hi; rw [hgen] at e2; exact h.apart _ _ _ _ hg e2
    · exact h.apart _ _ _ _ e e2
  inj i j bi bj b2 c1 c2 e1 e2 r1 r2 := by
    rw [Heap.put_get] at e1 e2
    split at e1 <;> split at e2
    · simp_all
    · rename_i hi _; cases e1; subst hi; rw [hgen] at r1; exact h.inj _ _ _ _ _ _ _ hg e2 r1 r2
    · rename_i _ hj; cases e2; subst hj; rw [hgen] at r2; exact h.inj _ _ _ _ _ _ _ e1 hg r1 r2
    · exact h.inj _ _ _ _ _ _ _ e1 e2 r1 r2
theorem WRel.new {ρ : Rho} {G : Heap} {w w' : World} (h : WRel ρ G w) (hb : Below w.heap.size w w') {blk : Blk} {r : Reg} (hn : BRel (ρ.set G.next blk.gen r) (G.next + 1) w' blk r)
    (hr : ∀ b cap, r = .at b cap → w.heap.size ≤ b) (hu : blk.under (G.next + 1) = true) : WRel (ρ.set G.next blk.gen r) (G.alloc blk) w' := by
  have h' := h.grow hb
  have hle := Rho.set_le_new (n := G.next) ρ blk.gen r (Nat.le_refl _)
  have immlt : ∀ b o x, ρ.imm b o = some x → b < w.heap.size := fun b o x e => cell_block_lt (h.imm b o x e)
  refine ⟨h.met, h'.below, h'.imm, ?_, ?_, ?_, ?_, ?_, ?_⟩
  · intro i bk e
    rw [Heap.alloc_get] at e
    split at e
    · rename_i hi; subst hi; simp
    · have := h.lt _ _ e; simp; omega
  · intro i bk e
    rw [Heap.alloc_get] at e
    split at e
    · cases e; exact hu
    · have := h.wf _ _ e
      cases bk with
      | cells g cs => simp only [Blk.under, Bool.and_eq_true] at this ⊢; exact ⟨V.under_mono.go (ρ := ρ) (Nat.le_succ _) cs this.1, this.2⟩
      | iter => rfl
      | map es cl =>
        simp only [Blk.under, List.all_eq_true, Bool.and_eq_true] at this ⊢
        exact fun e he => ⟨V.under_mono (ρ := ρ) (Nat.le_succ _) (this e he).1, V.under_mono (ρ := ρ) (Nat.le_succ _) (this e he).2⟩
      | chan c buf => exact V.under_mono.go (ρ := ρ) (Nat.le_succ _) buf this
  · intro i bk g e hgt
    rw [Heap.alloc_get] at e
    split at e
    · rename_i hi; cases e; subst hi
      simp only [Rho.set, if_true]
      rw [if_neg (by omega), if_pos hgt]
    · rename_i hi
      rw [Rho.set_other _ _ _ _ hi]
      exact h.late _ _ g e hgt
  · intro i bk e
    rw [Heap.alloc_get] at e
    split at e
    · rename_i hi; cases e; subst hi
      exact ⟨r, Rho.set_same .., hn⟩
    · rename_i hi
      obtain ⟨r', h1, h2⟩ := h'.live i bk e
      exact ⟨r', by rw [Rho.set_other _ _ _ _ hi]; exact h1, h2.le hle (Nat.le_succ _)⟩
  · intro i bk b cap e e2
    rw [Heap.alloc_get] at e
    split at e
    · rename_i hi; cases e; subst hi
      rw [Rho.set_same] at e2
      cases e2
      have := hr b cap rfl
      refine ⟨Nat.le_trans h.below.size this, fun o => ?_⟩
      cases ho : ρ.imm b o with
      | none => exact ho
      | some x => exact absurd (immlt b o x ho) (by omega)
    · rename_i hi
      rw [Rho.set_other _ _ _ _ hi] at e2
      exact h.apart _ _ _ _ e e2
  · intro i j bi bj b2 c1 c2 e1 e2 r1 r2
    have old : ∀ i bi c, G.get i = some bi → ρ.blk i bi.gen = some (.at b2 c) → b2 < w.heap.size := fun i bi c e r => by
      obtain ⟨r', h1, h2⟩ := h.live i bi e
      rw [r] at h1; cases h1
      exact h2.lt
    rw [Heap.alloc_get] at e1 e2
    split at e1 <;> split at e2
    · simp_all
    · rename_i hi hj; cases e1; subst hi
      rw [Rho.set_same] at r1; rw [Rho.set_other _ _ _ _ hj] at r2; cases r1
      have := hr b2 c1 rfl; have := old _ _ _ e2 r2; omega
    · rename_i hi hj; cases e2; subst hj
      rw [Rho.set_same] at r2; rw [Rho.set_other _ _ _ _ hi] at r1; cases r2
      have := hr b2 c2 rfl; have := old _ _ _ e1 r1; omega
    · rename_i hi hj
      rw [Rho.set_other _ _ _ _ hi] at r1; rw [Rho.set_other _ _ _ _ hj] at r2
      exact h.inj _ _ _ _ _ _ _ e1 e2 r1 r2
theorem WRel.next {ρ : Rho} {G : Heap} {w w' : World} (h : WRel ρ G w) {id g : Nat} {cs cs' : List V} {r r' : Reg} (hg : G.get id = some (.cells g cs)) (hr : ρ.blk id g = some r)
    (hos : w'.os = w.os) (htape : w'.tape = w.tape) (hout : w'.output = w.output) (hsize : w.heap.size ≤ w'.heap.size)
    (hold : ∀ k, k < w.heap.size → (∀ cap, r ≠ .at k cap) → w'.heap[k]? = w.heap[k]?)
    (hplace : ∀ b cap, r' = .at b cap → r = .at b cap ∨ w.heap.size ≤ b)
    (hn : BRel (ρ.set id (g + 1) r') G.next w' (.cells (g + 1) cs') r') (hu : (Blk.cells (g + 1) cs').under G.next = true) : WRel (ρ.set id (g + 1) r') (G.put id (.cells (g + 1) cs')) w' := by
  have hle : Rho.Le G.next ρ (ρ.set id (g + 1) r') := Rho.set_le_late ρ (g + 1) r' fun k hk => h.late id _ k hg (by simp [Blk.gen]; omega)
  have immlt : ∀ b o x, ρ.imm b o = some x → b < w.heap.size := fun b o x e => cell_block_lt (h.imm b o x e)
  have imm_ne : ∀ b o x, ρ.imm b o = some x → ∀ cap, r ≠ .at b cap := fun b o x e cap er => by
    subst er
    have := (h.apart id _ b cap hg hr).2 o
    rw [e] at this; cases this
  have base_ne : ∀ k, k < ρ.base.heap.size → ∀ cap, r ≠ .at k cap := fun k hk cap er => by
    subst er
    have := (h.apart id _ k cap hg hr).1
    omega
  have live_ne : ∀ i bk b cap, i ≠ id → G.get i = some bk → ρ.blk i bk.gen = some (.at b cap) → ∀ cap', r ≠ .at b cap' := fun i bk b cap hi e e2 cap' er => by
    subst er
    exact hi (h.inj _ _ _ _ _ _ _ e hg e2 hr)
  refine ⟨h.met, ?_, ?_, ?_, ?_, ?_, ?_, ?_, ?_⟩
  · exact h.below.trans ⟨hos, htape, hout, hsize, fun k hk => hold k (Nat.lt_of_lt_of_le hk h.below.size) (base_ne k hk)⟩
  · intro b o x e
    have hc : w'.cell? ⟨b, o, none⟩ = w.cell? ⟨b, o, none⟩ := by simp only [World.cell?]; rw [hold b (immlt b o x e) (imm_ne b o x e)]
    rw [hc]
    exact h.imm b o x e
  · intro i bk e
    rw [Heap.put_get] at e
    split at e
    · rename_i hi; subst hi; exact h.lt _ _ hg
    · exact h.lt _ _ e
  · intro i bk e
    rw [Heap.put_get] at e
    split at e
    · cases e; exact hu
    · exact h.wf _ _ e
  · intro i bk k e hgt
    rw [Heap.put_get] at e
    split at e
    · rename_i hi; cases e; subst hi
      simp only [Blk.gen] at hgt
      simp only [Rho.set, if_true]
      rw [if_neg (by omega), if_pos hgt]
    · rename_i hi
      rw [Rho.set_other _ _ _ _ hi]
      exact h.late _ _ k e hgt
  · intro i bk e
    rw [Heap.put_get] at e
    split at e
    · rename_i hi; cases e; subst hi
      exact ⟨r', Rho.set_same .., hn⟩
    · rename_i hi
      obtain ⟨r2, h1, h2⟩ := h.live i bk e
      refine ⟨r2, by rw [Rho.set_other _ _ _ _ hi]; exact h1, (h2.world fun b cap er => ?_).le hle (Nat.le_refl _)⟩
      subst er
      exact hold b h2.lt (live_ne i bk b cap hi e h1)
  · intro i bk b cap e e2
    rw [Heap.put_get] at e
    split at e
    · rename_i hi; cases e; subst hi
      rw [show (Blk.cells (g + 1) cs').gen = g + 1 from rfl, Rho.set_same] at e2
      cases e2
      rcases hplace b cap rfl with er | er
      · subst er; exact h.apart _ _ _ _ hg hr
      · refine ⟨Nat.le_trans h.below.size er, fun o => ?_⟩
        show ρ.imm b o = none
        cases ho : ρ.imm b o with
        | none => rfl
        | some x => exact absurd (immlt b o x ho) (by omega)
    · rename_i hi
      rw [Rho.set_other _ _ _ _ hi] at e2
      exact h.apart _ _ _ _ e e2
  · intro i j bi bj b2 c1 c2 e1 e2 r1 r2
    have key : ∀ i bi c c', i ≠ id → G.get i = some bi → ρ.blk i bi.gen = some (.at b2 c) → r' = .at b2 c' → False := fun i bi c c' hi e r er => by
      rcases hplace b2 c' er with e3 | e3
      · exact live_ne i bi b2 c hi e r c' e3
      · obtain ⟨r3, h1, h2⟩ := h.live i bi e
        rw [r] at h1; cases h1
        have := h2.lt; omega
    rw [Heap.put_get] at e1 e2
    split at e1 <;> split at e2
    · simp_all
    · rename_i hi hj; cases e1; subst hi
      rw [show (Blk.cells (g + 1) cs').gen = g + 1 from rfl, Rho.set_same] at r1; rw [Rho.set_other _ _ _ _ hj] at r2; cases r1
      exact (key _ _ _ _ hj e2 r2 rfl).elim
    · rename_i hi hj; cases e2; subst hj
      rw [show (Blk.cells (g + 1) cs').gen = g + 1 from rfl, Rho.set_same] at r2; rw [Rho.set_other _ _ _ _ hi] at r1; cases r2
      exact (key _ _ _ _ hi e1 r1 rfl).elim
    · rename_i hi hj
      rw [Rho.set_other _ _ _ _ hi] at r1; rw [Rho.set_other _ _ _ _ hj] at r2
      exact h.inj _ _ _ _ _ _ _ e1 e2 r1 r2
def Rho.lay (ρ : Rho) (b : Nat) (c : List Value) : Rho := { ρ with imm := fun b' o => if b' = b then c[o]? else ρ.imm b' o }
theorem Rho.lay_le {n : Nat} (ρ : Rho) (b : Nat) (c : List Value) (h : ∀ o, ρ.imm b o = none) : Rho.Le n ρ (ρ.lay b c) := by
  refine ⟨rfl, fun b' o x e => ?_, fun _ _ _ _ e => .inl e⟩
  simp only [Rho.lay]
  split
  · rename_i hb; subst hb; rw [h o] at e; cases e
  · exact e
theorem WRel.lay {ρ : Rho} {G : Heap} {w : World} (h : WRel ρ G w) {id : Nat} {blk : Blk} {b cap : Nat} {c : List Value} (hg : G.get id = some blk) (hr : ρ.blk id blk.gen = some (.at b cap))
    (hc : ∀ o x, c[o]? = some x → w.cell? ⟨b, o, none⟩ = some x) : WRel (ρ.lay b c) (G.del id) w := by
  have hno := (h.apart id blk b cap hg hr).2
  have hle := Rho.lay_le (n := G.next) ρ b c hno
  have sub : ∀ i bk, (G.del id).get i = some bk → G.get i = some bk ∧ i ≠ id := fun i bk e => by
    rw [Heap.del_get] at e
    split at e
    · cases e
    · exact ⟨e, by assumption⟩
  refine ⟨h.met, h.below, ?_, fun i bk e => h.lt _ _ (sub i bk e).1, fun i bk e => h.wf _ _ (sub i bk e).1, fun i bk g e => h.late i bk g (sub i bk e).1, ?_, ?_, fun i j bi bj b2 c1 c2 e1 e2 => h.inj _ _ _ _ _ _ _ (sub _ _ e1).1 (sub _ _ e2).1⟩
  · intro b' o x e
    simp only [Rho.lay] at e
    split at e
    · rename_i hb; subst hb; exact hc o x e
    · exact h.imm b' o x e
  · intro i bk e
    obtain ⟨r, h1, h2⟩ := h.live i bk (sub i bk e).1
    exact ⟨r, h1, h2.le hle (Nat.le_refl _)⟩
  · intro i bk b2 cap2 e e2
    obtain ⟨h1, h2⟩ := h.apart _ _ _ _ (sub i bk e).1 e2
    refine ⟨h1, fun o => ?_⟩
    simp only [Rho.lay]
    split
    · rename_i hb; subst hb
      exact absurd (h.inj _ _ _ _ _ _ _ (sub i bk e).1 hg e2 hr) (sub i bk e).2
    · exact h2 o
theorem WRel.pend {ρ : Rho} {G : Heap} {w : World} (h : WRel ρ G w) {cs : List V} (hu : (Blk.cells 0 cs).under (G.next + 1) = true) : WRel (ρ.set G.next 0 .pend) (G.alloc (.cells 0 cs)) w :=
  h.new (blk := .cells 0 cs) (Below.refl _ _) trivial (fun b cap e => by cases e) hu
def Rho.fill (ρ : Rho) (id : Nat) (r : Reg) : Rho := { ρ with blk := fun i k => if i = id ∧ k = 0 then some r else ρ.blk i k }
theorem Rho.fill_le {n : Nat} (ρ : Rho) (id : Nat) (r : Reg) (h : ρ.blk id 0 = some .pend) : Rho.Le n ρ (ρ.fill id r) := by
  refine ⟨rfl, fun _ _ _ e => e, fun i k r' hi e => ?_⟩
  by_cases hc : i = id ∧ k = 0
  · obtain ⟨rfl, rfl⟩ := hc
    rw [h] at e; cases e; exact .inr rfl
  · simp only [Rho.fill]; rw [if_neg hc]; exact .inl e
theorem WRel.fill {ρ : Rho} {G : Heap} {w w' : World} (h : WRel ρ G w) (hb : Below w.heap.size w w') {id : Nat} {cs : List V} (hg : G.get id = some (.cells 0 cs)) (hr : ρ.blk id 0 = some .pend) {cap : Nat}
    (hn : BRel ρ G.next w' (.cells 0 cs) (.at w.heap.size cap)) : WRel (ρ.fill id (.at w.heap.size cap)) G w' := by
  have h' := h.grow hb
  have hle : Rho.Le G.next ρ (ρ.fill id (.at w.heap.size cap)) := Rho.fill_le ρ id _ hr
  have immlt : ∀ b o x, ρ.imm b o = some x → b < w.heap.size := fun b o x e => cell_block_lt (h.imm b o x e)
  have other : ∀ i k, ¬(i = id ∧ k = 0) → (ρ.fill id (.at w.heap.size cap)).blk i k = ρ.blk i k := fun i k hc => by simp only [Rho.fill]; rw [if_neg hc]
  have same : (ρ.fill id (.at w.heap.size cap)).blk id 0 = some (.at w.heap.size cap) := by simp [Rho.fill]
  have gen0 : ∀ {i bk}, G.get i = some bk → i = id → bk = .cells 0 cs := fun e hi => by subst hi; rw [hg] at e; cases e; rfl
  refine ⟨h.met, h'.below, h'.imm, h.lt, h.wf, ?_, ?_, ?_, ?_⟩
  · intro i bk g e hgt
    rw [other i g (fun hc => by omega)]
    exact h.late i bk g e hgt
  · intro i bk e
    by_cases hi : i = id
    · obtain rfl := gen0 e hi; subst hi
      exact ⟨_, same, hn.le hle (Nat.le_refl _)⟩
    · obtain ⟨r, h1, h2⟩ := h'.live i bk e
      exact ⟨r, by rw [other _ _ (fun hc => hi hc.1)]; exact h1, h2.le hle (Nat.le_refl _)⟩
  · intro i bk b cap' e e2
    by_cases hi : i = id
    · obtain rfl := gen0 e hi; subst hi
      rw [show (Blk.cells 0 cs).gen = 0 from rfl, same] at e2
      cases e2
      refine ⟨h.below.size, fun o => ?_⟩
      show ρ.imm w.heap.size o = none
      cases ho : ρ.imm w.heap.size o with
      | none => rfl
      | some x => exact absurd (immlt _ o x ho) (by omega)
    · rw [other _ _ (fun hc => hi hc.1)] at e2
      exact h.apart _ _ _ _ e e2
  · intro i j bi bj b2 c1 c2 e1 e2 r1 r2
    have old : ∀ i bi c, i ≠ id → G.get i = some bi → (ρ.fill id (.at w.heap.size cap)).blk i bi.gen = some (.at b2 c) → b2 < w.heap.size := fun i bi c hi e r => by
      rw [other _ _ (fun hc => hi hc.1)] at r
      obtain ⟨r', h1, h2⟩ := h.live i bi e
      rw [r] at h1; cases h1
      exact h2.lt
    by_cases hi : i = id <;> by_cases hj : j = id
    · rw [hi, hj]
    · obtain rfl := gen0 e1 hi; subst hi
      rw [show (Blk.cells 0 cs).gen = 0 from rfl, same] at r1; cases r1
      have := old _ _ _ hj e2 r2; omega
    · obtain rfl := gen0 e2 hj; subst hj
      rw [show (Blk.cells 0 cs).gen = 0 from rfl, same] at r2; cases r2
      have := old _ _ _ hi e1 r1; omega
    · rw [other _ _ (fun hc => hi hc.1)] at r1; rw [other _ _ (fun hc => hj hc.1)] at r2
      exact h.inj _ _ _ _ _ _ _ e1 e2 r1 r2
end Go.Vf
set_option linter.unusedVariables false
set_option linter.unusedSimpArgs false
namespace Go.Vf
open Go.RowKit
abbrev Env := Nat → V
def Env.put (E : Env) (d : Nat) (v : V) : Env := fun t => if t = d then v else E t
def Env.putO (E : Env) : Option Nat → V → Env
  | some d, v => E.put d v
  | none, _ => E
def Env.of : List (Nat × V) → Env
  | [] => fun _ => .top
  | (d, v) :: r => fun t => if t = d then v else Env.of r t
theorem Env.put_at (E : Env) (d : Nat) (v : V) (t : Nat) : E.put d v t = if t = d then v else E t := rfl
theorem Env.of_nil (t : Nat) : Env.of [] t = .top := rfl
theorem Env.of_cons (d : Nat) (v : V) (r : List (Nat × V)) (t : Nat) : Env.of ((d, v) :: r) t = if t = d then v else Env.of r t := rfl
theorem Env.putO_some (E : Env) (d : Nat) (v : V) : E.putO (some d) v = E.put d v := rfl
theorem Env.putO_none (E : Env) (v : V) : E.putO none v = E := rfl
def vconst1 : Value → V
  | .int k n => .int k n
  | .bool b => .bool b
  | .string s => .str s.data.toList
  | .pointer none => .nilptr
  | .slice none 0 0 => .nilsl
  | .map none => .nilmap
  | .nilFunc => .nilfunc
  | .nilIface => .niliface
  | _ => .top
def vconst : Value → V
  | .agg cs => .agg (cs.toList.map vconst1)
  | x => vconst1 x
def vev (E : Env) : Operand → V
  | .tmp t => E t
  | .const v => vconst v
  | .global _ => .top
  | .func f => .func (.func f) [] []
def telem (P : Program) (t : TypeId) : Option TypeId := match P.underlying t with | some (.slice e) => some e | _ => none
def tagg (P : Program) (t : TypeId) : Option Bool := match P.underlying t with | some (.struct _) | some (.array _ _) => some true | some _ => some false | none => none
def tzero (P : Program) (t : TypeId) : Option (List V) := match P.info? t with | some i => i.zero.map fun z => z.cells.toList.map vconst1 | none => none
def tfield (P : Program) (t : TypeId) (i : Nat) : Option (Nat × Nat × Bool) := match P.underlying t with
  | some (.struct fs) => match fs[i]? with
    | some f => match tagg P f.type with
      | some b => if (P.info? f.type).isSome then some (f.offset, P.cellsOf f.type, b) else none
      | none => none
    | none => none
  | _ => none
def vite (t : Bool) : V → V → V
  | .bool x, .bool y => .bool (if t = true then x else y)
  | a, b => if t = true then a else b
def vflat : V → Option (List V)
  | .agg cs => some cs
  | .tup _ | .top => none
  | v => some [v]
def vsplice (cells : List V) (off : Nat) (vs : List V) : List V := cells.take off ++ vs ++ cells.drop (off + vs.length)
def vfill (place : Nat → Option (Nat × Nat)) (cells : List V) : List (Nat × V) → Option (List V)
  | [] => some cells
  | (i, v) :: rest => match place i, vflat v with
    | some (off, size), some vs => if vs.length = size ∧ off + vs.length ≤ cells.length then vfill place (vsplice cells off vs) rest else none
    | _, _ => none
def tstruct (P : Program) (t : TypeId) : Option (List V) := match P.underlying t with
  | some (.struct fs) => if fs.toList.all (fun f => (P.info? f.type).isSome) = true then tzero P t else none
  | _ => none
def tplaces (P : Program) (t : TypeId) (i : Nat) : Option (Nat × Nat) := (tfield P t i).map fun x => (x.1, x.2.1)
def vreps (n : Nat) (zero : List V) : List V := match n with | 0 => [] | n + 1 => zero ++ vreps n zero
def vbits (op : BinOp) (k : IntKind) (a b : Int) : Int :=
  let x := BitVec.ofInt k.bits a
  let y := BitVec.ofInt k.bits b
  match op with
  | .and => k.wrap (x &&& y).toNat
  | .or => k.wrap (x ||| y).toNat
  | .xor => k.wrap (x ^^^ y).toNat
  | _ => k.wrap (x &&& ~~~y).toNat
def strLess : List UInt8 → List UInt8 → Bool
  | _, [] => false
  | [], _ :: _ => true
  | a :: x, b :: y => a < b || (a == b && strLess x y)
def veq1 : V → V → Option Bool
  | .int k a, .int k' b => if k = k' then some (decide (a = b)) else none
  | .bool a, .bool b => some (decide (a = b))
  | .str a, .str b => some (decide (a = b))
  | _, _ => none
def vtag : Nat → V → Bool
  | 0, .bool _ => true
  | 1, .int .. => true
  | 2, .str _ => true
  | _, _ => false
def veqK : List Nat → List V → List V → Option Bool
  | [], [], [] => some true
  | k :: ks, a :: x, b :: y => if vtag k a = true then match veq1 a b, veqK ks x y with
    | some p, some q => some (p && q)
    | _, _ => none else none
  | _, _, _ => none
def tkindsGo (P : Program) (g : TypeId → Option (List Nat)) : List Field → Nat → Option (List Nat)
  | [], _ => some []
  | f :: r, o => if f.name != "_" && f.offset == o then match g f.type, tkindsGo P g r (o + P.cellsOf f.type) with
    | some a, some b => if a.length = P.cellsOf f.type then some (a ++ b) else none
    | _, _ => none else none
def tkinds (P : Program) : Nat → TypeId → Option (List Nat)
  | 0, _ => none
  | d + 1, t => if (P.info? t).isSome then match P.underlying t with
    | some .bool => if P.cellsOf t = 1 then some [0] else none
    | some (.int _) => if P.cellsOf t = 1 then some [1] else none
    | some .string => if P.cellsOf t = 1 then some [2] else none
    | some (.struct fs) => if P.stoodInHeld t then none else tkindsGo P (tkinds P d) fs.toList 0
    | _ => none else none
def isConst : Operand → Bool | .const _ => true | _ => false
def veq (P : Program) (t : TypeId) (cx cy : Bool) : V → V → Option Bool
  | .agg a, .agg b => match tkinds P 8 t with | some ks => if tagg P t = some true then veqK ks a b else none | none => none
  | .nilptr, .nilptr => match P.underlying t with | some (.pointer _) => some true | _ => none
  | .nilptr, .ptr .. | .nilptr, .iptr .. | .ptr .., .nilptr | .iptr .., .nilptr => match P.underlying t with | some (.pointer _) => some false | _ => none
  | .niliface, .niliface => match P.underlying t with | some (.interface _) => if cx || cy then some true else none | _ => none
  | .niliface, .iface .. | .iface .., .niliface => match P.underlying t with | some (.interface _) => some false | _ => none
  | .nilfunc, .nilfunc => match P.underlying t with | some (.func ..) => some true | _ => none
  | .nilfunc, .func .. | .func .., .nilfunc => match P.underlying t with | some (.func ..) => some false | _ => none
  | .bool a, .bool b => match P.underlying t with | some .bool => some (decide (a = b)) | _ => none
  | _, _ => none
def vbin (P : Program) (op : BinOp) (t : TypeId) (cx cy : Bool) (a b : V) : Option (Prop × V) :=
  match op, a, b with
  | .shl, .int k x, .int _ y => some (0 ≤ y, .int k (k.wrap (x * 2 ^ (min y.toNat k.bits))))
  | .shr, .int k x, .int _ y => some (0 ≤ y, .int k (x.fdiv (2 ^ (min y.toNat k.bits))))
  | op, .int k x, .int k' y => if k = k' then match op with
    | .add => some (True, .int k (k.wrap (x + y)))
    | .sub => some (True, .int k (k.wrap (x - y)))
    | .mul => some (True, .int k (k.wrap (x * y)))
    | .quo => some (y ≠ 0, .int k (k.wrap (x.tdiv y)))
    | .rem => some (y ≠ 0, .int k (x.tmod y))
    | .and => some (True, .int k (vbits .and k x y))
    | .or => some (True, .int k (vbits .or k x y))
    | .xor => some (True, .int k (vbits .xor k x y))
    | .andNot => some (True, .int k (vbits .andNot k x y))
    | .eql => some (True, .bool (decide (x = y)))
    | .neq => some (True, .bool (decide (x ≠ y)))
    | .lss => some (True, .bool (decide (x < y)))
    | .leq => some (True, .bool (decide (x ≤ y)))
    | .gtr => some (True, .bool (decide (y < x)))
    | .geq => some (True, .bool (decide (y ≤ x)))
    | _ => none else none
  | op, .str x, .str y => match op with
    | .add => some (x.length + y.length ≤ 9223372036854775807, .str (x ++ y))
    | .eql => some (True, .bool (decide (x = y)))
    | .neq => some (True, .bool (decide (x ≠ y)))
    | .lss => some (True, .bool (strLess x y))
    | .leq => some (True, .bool (strLess x y || decide (x = y)))
    | .gtr => some (True, .bool (!(strLess x y || decide (x = y))))
    | .geq => some (True, .bool (!strLess x y))
    | _ => none
  | .eql, a, b => (veq P t cx cy a b).map fun r => (True, .bool r)
  | .neq, a, b => (veq P t cx cy a b).map fun r => (True, .bool (!r))
  | _, _, _ => none
def vun (op : UnOp) : V → Option (Prop × V)
  | .int k x => match op with
    | .neg => some (True, .int k (k.wrap (0 - x)))
    | .xor => some (True, .int k (vbits .xor k (if k.signed = true then -1 else k.max) x))
    | _ => none
  | .bool b => match op with
    | .not => some (True, .bool (!b))
    | _ => none
  | _ => none
def vbyte (b : UInt8) : V := .int .u8 (b.toNat : Int)
def vbytes : List V → Option (List UInt8)
  | [] => some []
  | .int .u8 n :: r => (vbytes r).map fun l => UInt8.ofNat n.toNat :: l
  | _ :: _ => none
def tbyte (P : Program) (e : TypeId) : Bool := match P.underlying e with | some (.int .u8) => true | _ => false
def vconvert (P : Program) (src dst : TypeId) (G : Heap) : V → Option (Prop × V)
  | .int _ n => match P.underlying src, P.underlying dst with
    | some (.int _), some (.int k) => some (True, .int k (k.wrap n))
    | _, _ => none
  | .str s => match P.underlying src, P.underlying dst with
    | some .string, some .string => some (True, .str s)
    | some .string, some (.slice e) => if tbyte P e = true ∧ (P.info? e).isSome then some (True, .sl 1 s.length (s.map vbyte)) else none
    | _, _ => none
  | v => match P.underlying src, P.underlying dst with
    | some (.slice e), some .string => if tbyte P e = true then match v with
      | .nilsl => some (True, .str [])
      | .sl 1 n cells | .slc 1 n cells => (vbytes cells).map fun s => (True, .str s)
      | .arr 1 id g off n => match G.get id with
        | some (.cells g' cs) => if g = g' then (vbytes ((cs.drop off).take n)).map fun s => (off + n ≤ cs.length, .str s) else none
        | _ => none
      | _ => none else none
    | _, _ => none
def vlow : Option V → Option Int
  | none => some 0
  | some (.int _ i) => some i
  | _ => none
def vhigh (n : Nat) : Option V → Option Int
  | none => some n
  | some (.int _ i) => some i
  | _ => none
def vdrop {α : Type} (k : Nat) (lo : Option V) (l : List α) : List α := match lo with | some (.int _ i) => l.drop (i.toNat * k) | _ => l
def vtake {α : Type} (k : Nat) (hi : Option V) (l : List α) : List α := match hi with | some (.int _ i) => l.take (i.toNat * k) | _ => l
def vless (n : Nat) (lo hi : Option V) : Nat := match hi, lo with
  | some (.int _ h), some (.int _ l) => h.toNat - l.toNat
  | some (.int _ h), _ => h.toNat
  | _, some (.int _ l) => n - l.toNat
  | _, _ => n
def vslice (P : Program) (t : TypeId) (x : V) (lo hi mx : Option V) : Option (Prop × V) :=
  match x, mx with
  | .str s, none => match P.underlying t, vlow lo, vhigh s.length hi with
    | some .string, some l, some h => some (0 ≤ l ∧ l ≤ h ∧ h ≤ (s.length : Int), .str (vdrop 1 lo (vtake 1 hi s)))
    | _, _, _ => none
  | .nilsl, none => match telem P t, vlow lo, vhigh 0 hi with
    | some e, some l, some h => if (P.info? e).isSome then some (l = 0 ∧ h = 0, .nilsl) else none
    | _, _, _ => none
  | .sl sz n cells, mx => match telem P t, vlow lo, vhigh n hi, mx with
    | some e, some l, some h, none => if P.cellsOf e = sz ∧ (P.info? e).isSome ∧ 0 < sz then some (0 ≤ l ∧ l ≤ h ∧ h ≤ (n : Int), .sl sz (vless n lo hi) (vdrop sz lo (vtake sz hi cells))) else none
    | some e, some l, some h, some (.int _ m) => if P.cellsOf e = sz ∧ (P.info? e).isSome ∧ 0 < sz ∧ hi.isSome then some (0 ≤ l ∧ l ≤ h ∧ h ≤ (n : Int) ∧ m = h, .slc sz (vless n lo hi) (vdrop sz lo (vtake sz hi cells))) else none
    | _, _, _, _ => none
  | .slc sz n cells, mx => match telem P t, vlow lo, vhigh n hi, mx with
    | some e, some l, some h, none => if P.cellsOf e = sz ∧ (P.info? e).isSome ∧ 0 < sz then some (0 ≤ l ∧ l ≤ h ∧ h ≤ (n : Int), if hi.isNone then .slc sz (vless n lo hi) (vdrop sz lo cells) else .sl sz (vless n lo hi) (vdrop sz lo (vtake sz hi cells))) else none
    | some e, some l, some h, some (.int _ m) => if P.cellsOf e = sz ∧ (P.info? e).isSome ∧ 0 < sz ∧ hi.isSome then some (0 ≤ l ∧ l ≤ h ∧ h ≤ (n : Int) ∧ m = h, .slc sz (vless n lo hi) (vdrop sz lo (vtake sz hi cells))) else none
    | _, _, _, _ => none
  | .arr sz id g off n, none => match telem P t, vlow lo, vhigh n hi with
    | some e, some l, some h => if P.cellsOf e = sz ∧ (P.info? e).isSome ∧ 0 < sz then some (0 ≤ l ∧ l ≤ h ∧ h ≤ (n : Int) ∧ (l = 0 ∨ l < (n : Int)), .arr sz id g (off + l.toNat * sz) (vless n lo hi)) else none
    | _, _, _ => none
  | _, _ => none
def velem (sz : Nat) (cells : List V) (i : Nat) : List V := (cells.drop (i * sz)).take sz
def vindexAddr (P : Program) (t : TypeId) (x i : V) : Option (Prop × V) :=
  match x, i with
  | .sl sz n cells, .int _ i | .slc sz n cells, .int _ i => match telem P t with
    | some e => if P.cellsOf e = sz ∧ (P.info? e).isSome ∧ 0 < sz then some (0 ≤ i ∧ i < (n : Int), .iptr (velem sz cells i.toNat) 0) else none
    | none => none
  | .arr sz id g off n, .int _ i => match telem P t with
    | some e => if P.cellsOf e = sz ∧ (P.info? e).isSome ∧ 0 < sz then some (0 ≤ i ∧ i < (n : Int), .ptr id g (off + i.toNat * sz)) else none
    | none => none
  | _, _ => none
def vindex (P : Program) (t : TypeId) (x i : V) : Option (Prop × V) :=
  match x, i, P.underlying t with
  | .str s, .int _ i, some .string => some (0 ≤ i ∧ i < (s.length : Int), vbyte (s.getD i.toNat 0))
  | _, _, _ => none
def vread (P : Program) (t : TypeId) (cs : List V) (off : Nat) : Option (Prop × V) :=
  match tagg P t with
  | some true => if (P.info? t).isSome then some (off + P.cellsOf t ≤ cs.length, .agg ((cs.drop off).take (P.cellsOf t))) else none
  | some false => some (off < cs.length, cs.getD off .top)
  | none => none
def vload (P : Program) (t : TypeId) (G : Heap) : V → Option (Prop × V)
  | .ptr id g off => match G.get id with
    | some (.cells g' cs) => if g = g' then vread P t cs off else none
    | _ => none
  | .iptr cells off => vread P t cells off
  | _ => none
def vfield (P : Program) (t : TypeId) (f : Nat) : V → Option (Prop × V)
  | .agg cs => match tfield P t f with
    | some (off, sz, true) => some (off + sz ≤ cs.length, .agg ((cs.drop off).take sz))
    | some (off, _, false) => some (off < cs.length, cs.getD off .top)
    | none => none
  | _ => none
def vfieldAddr (P : Program) (t : TypeId) (f : Nat) : V → Option (Prop × V)
  | .ptr id g off => match tfield P t f with
    | some (o, sz, _) => if sz = 0 then none else some (True, .ptr id g (off + o))
    | none => none
  | .iptr cells off => match tfield P t f with
    | some (o, sz, _) => if sz = 0 then none else some (True, .iptr cells (off + o))
    | none => none
  | _ => none
def vlen (P : Program) (t : TypeId) (G : Heap) : V → Option (Prop × V)
  | .str s => match P.underlying t with | some .string => some (True, .int .i64 (s.length : Int)) | _ => none
  | v => match P.underlying t, v with
    | some (.slice _), .nilsl => some (True, .int .i64 0)
    | some (.slice _), .sl _ n _ | some (.slice _), .slc _ n _ | some (.slice _), .arr _ _ _ _ n => some (True, .int .i64 (n : Int))
    | some (.map _ _), .nilmap => some (True, .int .i64 0)
    | some (.map _ _), .map id => match G.get id with | some (.map es _) => some (True, .int .i64 (es.length : Int)) | _ => none
    | some (.chan _ _), .chan id => match G.get id with | some (.chan _ buf) => some (True, .int .i64 (buf.length : Int)) | _ => none
    | _, _ => none
def vmax2 : V → V → Option V
  | .int k x, .int k' y => if k = k' then some (.int k (if x < y then y else x)) else none
  | _, _ => none
def vmin2 : V → V → Option V
  | .int k x, .int k' y => if k = k' then some (.int k (if y < x then y else x)) else none
  | _, _ => none
def vfold (f : V → V → Option V) : V → List V → Option V
  | a, [] => some a
  | a, b :: r => (f a b).bind fun c => vfold f c r
def vextract (i : Nat) : V → Option (Prop × V)
  | .tup vs => match vs[i]? with | some v => some (True, v) | none => none
  | _ => none
def vbuiltinQ (P : Program) (b : Builtin) (ts : Array TypeId) (G : Heap) (args : List V) : Option (Prop × V) :=
  match b, ts.toList, args with
  | .len, t :: _, x :: _ => vlen P t G x
  | .max, _, x :: r => (vfold vmax2 x r).map fun v => (True, v)
  | .min, _, x :: r => (vfold vmin2 x r).map fun v => (True, v)
  | _, _, _ => none
def vq (P : Program) (E : Env) (G : Heap) : Op → Option (Prop × V)
  | .move x | .assign x => some (True, vev E x)
  | .pick c a b => match vev E c with
    | .bool t => some (True, vite t (vev E a) (vev E b))
    | _ => none
  | .build t parts => match tstruct P t with
    | some z => (vfill (tplaces P t) z (parts.toList.map fun p => (p.1, vev E p.2))).map fun cs => (True, .agg cs)
    | none => none
  | .buildSlice t len parts => match telem P t with
    | some e => match tzero P e with
      | some z => if len * P.cellsOf e ≤ 16777216 ∧ z.length = P.cellsOf e ∧ 0 < P.cellsOf e then
          (vfill (fun i => some (i * P.cellsOf e, P.cellsOf e)) (vreps len z) (parts.toList.map fun p => (p.1, vev E p.2))).bind fun cs =>
            if V.closedL cs = true then some (True, .slc (P.cellsOf e) len cs) else none
          else none
      | none => none
    | none => none
  | .load t a => vload P t G (vev E a)
  | .nilCheck x => match vev E x with
    | .ptr id g off => some (True, .ptr id g off)
    | .iptr cells off => some (True, .iptr cells off)
    | .func (.func f) a b => some (True, .func (.func f) a b)
    | _ => none
  | .binOp op t x y _ => vbin P op t (isConst x) (isConst y) (vev E x) (vev E y)
  | .unOp op _ x => vun op (vev E x)
  | .convert src dst x => vconvert P src dst G (vev E x)
  | .makeInterface t x => match P.underlying t with
    | some (.interface _) => none
    | some _ => some (True, .iface t (vev E x))
    | none => none
  | .makeFunc fn a b => some (True, .func fn (a.toList.map (vev E)) (b.toList.map (vev E)))
  | .slice t x lo hi mx => vslice P t (vev E x) (lo.map (vev E)) (hi.map (vev E)) (mx.map (vev E))
  | .fieldAddr t x f => vfieldAddr P t f (vev E x)
  | .field t x f => vfield P t f (vev E x)
  | .indexAddr t x i => vindexAddr P t (vev E x) (vev E i)
  | .index t x i => vindex P t (vev E x) (vev E i)
  | .extract x i => vextract i (vev E x)
  | .call { callee := .builtin b, args, argTypes } => vbuiltinQ P b argTypes G (args.toList.map (vev E))
  | _ => none
end Go.Vf
set_option linter.unusedVariables false
set_option linter.unusedSimpArgs false
namespace Go.Vf
open Go.RowKit
structure SRel (N n0 : Nat) (ρ : Rho) (E : Env) (G : Heap) (a : Act) (w : World) : Prop where
  size : a.tmps.size = N
  defers : a.defers = []
  slots : ∀ t, t < N → VR ρ G.next (E t) (a.tmps.getD t undef)
  world : WRel ρ G w
  low : n0 ≤ G.next
def Operand.fits (N : Nat) : Operand → Bool
  | .tmp t => decide (t < N)
  | _ => true
theorem VR.cast {ρ : Rho} {n : Nat} {v : V} {x y : Value} (h : VR ρ n v x) (e : x = y) : VR ρ n v y := e ▸ h
theorem VR.castV {ρ : Rho} {n : Nat} {v u : V} {x : Value} (h : VR ρ n v x) (e : v = u) : VR ρ n u x := e ▸ h
theorem vconst1_ok (ρ : Rho) (n : Nat) (x : Value) : VR ρ n (vconst1 x) x := by
  unfold vconst1
  split
  · exact .int _ _
  · exact .bool _
  · exact (VR.str _).cast (by simp)
  · exact .nilptr
  · exact .nilsl
  · exact .nilmap
  · exact .nilfunc
  · exact .niliface
  · exact .top _
theorem vconst_ok (ρ : Rho) (n : Nat) (x : Value) : VR ρ n (vconst x) x := by
  unfold vconst
  split
  · rename_i cs
    refine (VR.agg _ cs.toList (by simp) fun i v x e1 e2 => ?_).cast (by simp)
    simp only [List.getElem?_map] at e1
    rw [e2] at e1
    simp at e1
    subst e1
    exact vconst1_ok ρ n x
  · exact vconst1_ok ρ n _
section
variable {P : Program} {N n0 : Nat} {ρ : Rho} {E : Env} {G : Heap} {a : Act} {w : World}
theorem SRel.ev (h : SRel N n0 ρ E G a w) {x : Operand} (hx : Operand.fits N x = true) : VR ρ G.next (vev E x) (a.eval x) := by
  cases x with
  | tmp t => exact h.slots t (by simpa [Operand.fits] using hx)
  | const v => exact vconst_ok _ _ _
  | global g => exact .top _
  | func f => exact (VR.func (.func f) [] [] [] [] rfl rfl (by simp) (by simp)).cast rfl
theorem VR.int_inv {n : Nat} {k : IntKind} {i : Int} {x : Value} (h : VR ρ n (.int k i) x) : x = .int k i := by cases h; rfl
theorem VR.bool_inv {n : Nat} {b : Bool} {x : Value} (h : VR ρ n (.bool b) x) : x = .bool b := by cases h; rfl
theorem VR.str_inv {n : Nat} {s : List UInt8} {x : Value} (h : VR ρ n (.str s) x) : x = .string ⟨s.toArray⟩ := by cases h; rfl
theorem vflat_ok {n : Nat} {v : V} {x : Value} {vs : List V} (h : VR ρ n v x) (hf : vflat v = some vs) : VRs ρ n vs x.cells.toList := by
  have one : ∀ {v : V} {x : Value}, VR ρ n v x → x.cells = #[x] → VRs ρ n [v] x.cells.toList := fun {v x} h e => by
    rw [e]
    refine ⟨rfl, fun i v' x' e1 e2 => ?_⟩
    cases i with
    | zero => simp at e1 e2; exact e1 ▸ e2 ▸ h
    | succ i => simp at e1
  cases h <;> simp only [vflat, Option.some.injEq, reduceCtorEq] at hf <;> subst hf
  case agg cells xs h1 h2 => exact ⟨by simpa [Value.cells] using h1, fun i v x e1 e2 => h2 i v x e1 (by simpa [Value.cells] using e2)⟩
  all_goals (refine one ?_ rfl)
  case int => exact .int _ _
  case bool => exact .bool _
  case str => exact .str _
  case nilptr => exact .nilptr
  case ptr h1 h2 => exact .ptr _ _ _ _ _ h1 h2
  case iptr h1 h2 h3 h4 => exact .iptr _ _ _ _ _ h1 h2 h3 h4
  case nilsl => exact .nilsl
  case sl h1 h2 h3 h4 h5 h6 => exact .sl _ _ _ _ _ _ _ h1 h2 h3 h4 h5 h6
  case sl0 => exact .sl0 _ _ _
  case slc h1 h2 h3 h4 h5 => exact .slc _ _ _ _ _ _ h1 h2 h3 h4 h5
  case slc0 => exact .slc0 _ _
  case arr h1 h2 h3 h4 => exact .arr _ _ _ _ _ _ _ _ h1 h2 h3 h4
  case arr0 h1 h2 => exact .arr0 _ _ _ _ h1 h2
  case func h1 h2 h3 h4 => exact .func _ _ _ _ _ h1 h2 h3 h4
  case nilfunc => exact .nilfunc
  case nilmap => exact .nilmap
  case map h1 h2 => exact .map _ _ h1 h2
  case chan h1 h2 => exact .chan _ _ h1 h2
  case iface h => exact .iface _ _ _ h
  case niliface => exact .niliface
theorem VRs.get {n : Nat} {vs : List V} {xs : List Value} (h : VRs ρ n vs xs) {i : Nat} {v : V} (e : vs[i]? = some v) : ∃ x, xs[i]? = some x ∧ VR ρ n v x := by
  have hi : i < vs.length := by
    rcases Nat.lt_or_ge i vs.length with h' | h'
    · exact h'
    · rw [List.getElem?_eq_none h'] at e; cases e
  have : i < xs.length := by rw [h.1]; exact hi
  exact ⟨xs[i], List.getElem?_eq_getElem this, h.2 i v _ e (List.getElem?_eq_getElem this)⟩
theorem VRs.back {n : Nat} {vs : List V} {xs : List Value} (h : VRs ρ n vs xs) {i : Nat} {x : Value} (e : xs[i]? = some x) : ∃ v, vs[i]? = some v ∧ VR ρ n v x := by
  have hi : i < xs.length := by
    rcases Nat.lt_or_ge i xs.length with h' | h'
    · exact h'
    · rw [List.getElem?_eq_none h'] at e; cases e
  have : i < vs.length := by rw [← h.1]; exact hi
  exact ⟨vs[i], List.getElem?_eq_getElem this, h.2 i _ x (List.getElem?_eq_getElem this) e⟩
theorem VRs.drop {n : Nat} {vs : List V} {xs : List Value} (h : VRs ρ n vs xs) (k : Nat) : VRs ρ n (vs.drop k) (xs.drop k) :=
  ⟨by simp [h.1], fun i v x e1 e2 => h.2 (k + i) v x (by simpa using e1) (by simpa using e2)⟩
theorem VRs.take {n : Nat} {vs : List V} {xs : List Value} (h : VRs ρ n vs xs) (k : Nat) : VRs ρ n (vs.take k) (xs.take k) := by
  refine ⟨by simp [h.1], fun i v x e1 e2 => ?_⟩
  simp only [List.getElem?_take] at e1 e2
  split at e1
  · rename_i hi; rw [if_pos hi] at e2; exact h.2 i v x e1 e2
  · cases e1
theorem VRs.append {n : Nat} {vs us : List V} {xs ys : List Value} (h : VRs ρ n vs xs) (k : VRs ρ n us ys) : VRs ρ n (vs ++ us) (xs ++ ys) := by
  refine ⟨by simp [h.1, k.1], fun i v x e1 e2 => ?_⟩
  simp only [List.getElem?_append] at e1 e2
  split at e1
  · rename_i hi; rw [if_pos (by rw [h.1]; exact hi)] at e2; exact h.2 i v x e1 e2
  · rename_i hi; rw [if_neg (by rw [h.1]; exact hi), h.1] at e2; exact k.2 _ v x e1 e2
theorem VRs.nil {n : Nat} : VRs ρ n [] [] := ⟨rfl, by simp⟩
theorem VRs.cons {n : Nat} {v : V} {x : Value} {vs : List V} {xs : List Value} (h : VR ρ n v x) (k : VRs ρ n vs xs) : VRs ρ n (v :: vs) (x :: xs) :=
  VRs.append (vs := [v]) (xs := [x]) ⟨rfl, fun i v' x' e1 e2 => by
    cases i with
    | zero => simp at e1 e2; exact e1 ▸ e2 ▸ h
    | succ i => simp at e1⟩ k
theorem VRs.le {ρ' : Rho} {n n' : Nat} (h : Rho.Le n ρ ρ') (hn : n ≤ n') {vs : List V} {xs : List Value} (k : VRs ρ n vs xs) : VRs ρ' n' vs xs :=
  ⟨k.1, fun i v x e1 e2 => (k.2 i v x e1 e2).le h hn⟩
theorem VRs.agg {n : Nat} {vs : List V} {xs : List Value} (h : VRs ρ n vs xs) : VR ρ n (.agg vs) (.agg xs.toArray) := .agg _ _ h.1 h.2
theorem VRs.tup {n : Nat} {vs : List V} {xs : List Value} (h : VRs ρ n vs xs) : VR ρ n (.tup vs) (.tuple xs.toArray) := .tup _ _ h.1 h.2
theorem VR.agg_inv {n : Nat} {vs : List V} {x : Value} (h : VR ρ n (.agg vs) x) : ∃ xs : List Value, x = .agg xs.toArray ∧ VRs ρ n vs xs := by
  cases h with
  | agg cells xs h1 h2 => exact ⟨xs, rfl, h1, h2⟩
theorem VR.tup_inv {n : Nat} {vs : List V} {x : Value} (h : VR ρ n (.tup vs) x) : ∃ xs : List Value, x = .tuple xs.toArray ∧ VRs ρ n vs xs := by
  cases h with
  | tup cells xs h1 h2 => exact ⟨xs, rfl, h1, h2⟩
theorem SRel.evs (h : SRel N n0 ρ E G a w) {xs : List Operand} (hx : xs.all (Operand.fits N) = true) : VRs ρ G.next (xs.map (vev E)) (xs.map a.eval) := by
  induction xs with
  | nil => exact VRs.nil
  | cons x r ih =>
    simp only [List.all_cons, Bool.and_eq_true] at hx
    exact VRs.cons (h.ev hx.1) (ih hx.2)
theorem toList_mk (l : List UInt8) : (⟨l.toArray⟩ : ByteArray).toList = l := by
  rw [ByteArray.toList_eq]
theorem size_mk (l : List UInt8) : (⟨l.toArray⟩ : ByteArray).size = l.length := by simp [ByteArray.size]
theorem append_mk (a b : List UInt8) : (⟨a.toArray⟩ : ByteArray) ++ ⟨b.toArray⟩ = ⟨(a ++ b).toArray⟩ := by
  apply ByteArray.ext
  simp
theorem strLess_eq : ∀ a b : List UInt8, Op.bytesLess a b = strLess a b
  | _, [] => by cases ‹List UInt8› <;> rfl
  | [], _ :: _ => rfl
  | a :: x, b :: y => by simp [Op.bytesLess, strLess, strLess_eq x y]
theorem beq_dec (i j : List UInt8) : (i == j) = decide (i = j) := by rw [Bool.eq_iff_iff]; simp
theorem beq_int (i j : Int) : (i == j) = decide (i = j) := by rw [Bool.eq_iff_iff]; simp
theorem bne_int (i j : Int) : (i != j) = decide (i ≠ j) := by rw [Bool.eq_iff_iff]; simp
theorem eqGuard_int (op : BinOp) (t : TypeId) (X Y : Operand) (k k' : IntKind) (i j : Int) : (eqGuard op t X Y (.int k i) (.int k' j)).run P w = .ok () w := by
  unfold eqGuard
  split <;> simp
theorem eqGuard_str (op : BinOp) (t : TypeId) (X Y : Operand) (i j : ByteArray) : (eqGuard op t X Y (.string i) (.string j)).run P w = .ok () w := by
  unfold eqGuard
  split <;> simp
theorem vbin_int {op : BinOp} {t : TypeId} {cx cy : Bool} {k k' : IntKind} {i j : Int} {p : Prop} {r : V} (h : vbin P op t cx cy (.int k i) (.int k' j) = some (p, r)) (hp : p) :
    ∃ z, (binOp op t (.int k i) (.int k' j)).run P w = .ok z w ∧ ∀ n, VR ρ n r z := by
  by_cases hs : op = .shl ∨ op = .shr
  · rcases hs with rfl | rfl
    · simp only [vbin, Option.some.injEq, Prod.mk.injEq] at h
      obtain ⟨rfl, rfl⟩ := h
      exact ⟨_, by simp [binOp, Op.shift, Int.not_lt.2 hp], fun _ => .int _ _⟩
    · simp only [vbin, Option.some.injEq, Prod.mk.injEq] at h
      obtain ⟨rfl, rfl⟩ := h
      exact ⟨_, by simp [binOp, Op.shift, Int.not_lt.2 hp], fun _ => .int _ _⟩
  by_cases hk : k = k'
  case neg => cases op <;> simp [vbin, hk] at h <;> simp at hs
  subst hk
  cases op <;> simp only [vbin, if_true, Option.some.injEq, Prod.mk.injEq] at h
  case shl => simp at hs
  case shr => simp at hs
  all_goals obtain ⟨rfl, rfl⟩ := h
  case add => exact ⟨_, by simp [binOp, Op.intArith], fun _ => .int _ _⟩
  case sub => exact ⟨_, by simp [binOp, Op.intArith], fun _ => .int _ _⟩
  case mul => exact ⟨_, by simp [binOp, Op.intArith], fun _ => .int _ _⟩
  case quo => exact ⟨_, by simp [binOp, Op.intDiv, hp], fun _ => .int _ _⟩
  case rem => exact ⟨_, by simp [binOp, Op.intDiv, hp], fun _ => .int _ _⟩
  case and => exact ⟨_, by simp only [binOp, Op.intBits, ne_eq, not_true_eq_false, if_false]; rfl, fun _ => .int _ _⟩
  case or => exact ⟨_, by simp only [binOp, Op.intBits, ne_eq, not_true_eq_false, if_false]; rfl, fun _ => .int _ _⟩
  case xor => exact ⟨_, by simp only [binOp, Op.intBits, ne_eq, not_true_eq_false, if_false]; rfl, fun _ => .int _ _⟩
  case andNot => exact ⟨_, by simp only [binOp, Op.intBits, ne_eq, not_true_eq_false, if_false]; rfl, fun _ => .int _ _⟩
  case eql => exact ⟨.bool (i == j), by simp [binOp, Op.intCmp], fun _ => (VR.bool _).castV (by rw [beq_int])⟩
  case neq => exact ⟨.bool (i != j), by simp [binOp, Op.intCmp], fun _ => (VR.bool _).castV (by rw [bne_int])⟩
  case lss => exact ⟨_, by simp [binOp, Op.intCmp], fun _ => .bool _⟩
  case leq => exact ⟨_, by simp [binOp, Op.intCmp], fun _ => .bool _⟩
  case gtr => exact ⟨_, by simp [binOp, Op.intCmp], fun _ => .bool _⟩
  case geq => exact ⟨_, by simp [binOp, Op.intCmp], fun _ => .bool _⟩
theorem vbin_str {op : BinOp} {t : TypeId} {cx cy : Bool} {i j : List UInt8} {p : Prop} {r : V} (h : vbin P op t cx cy (.str i) (.str j) = some (p, r)) (hp : p) :
    ∃ z, (binOp op t (.string ⟨i.toArray⟩) (.string ⟨j.toArray⟩)).run P w = .ok z w ∧ ∀ n, VR ρ n r z := by
  cases op <;> simp only [vbin, Option.some.injEq, Prod.mk.injEq, reduceCtorEq] at h <;> obtain ⟨rfl, rfl⟩ := h
  case add =>
    refine ⟨.string ⟨(i ++ j).toArray⟩, ?_, fun _ => .str _⟩
    simp only [binOp, Op.stringOp, size_mk, append_mk]
    rw [if_neg]
    · rfl
    · have : IntKind.i64.max = 9223372036854775807 := by decide
      rw [this]; omega
  case eql => exact ⟨.bool (i == j), by simp [binOp, Op.stringOp, toList_mk], fun _ => (VR.bool _).castV (by rw [beq_dec])⟩
  case neq => exact ⟨.bool (!(i == j)), by simp [binOp, Op.stringOp, toList_mk], fun _ => (VR.bool _).castV (by rw [beq_dec]; simp)⟩
  case lss => exact ⟨.bool (strLess i j), by simp [binOp, Op.stringOp, toList_mk, strLess_eq], fun _ => VR.bool _⟩
  case leq => exact ⟨.bool (strLess i j || (i == j)), by simp [binOp, Op.stringOp, toList_mk, strLess_eq], fun _ => (VR.bool _).castV (by rw [beq_dec])⟩
  case gtr => exact ⟨.bool (!(strLess i j || (i == j))), by simp [binOp, Op.stringOp, toList_mk, strLess_eq], fun _ => (VR.bool _).castV (by rw [beq_dec])⟩
  case geq => exact ⟨.bool (!strLess i j), by simp [binOp, Op.stringOp, toList_mk, strLess_eq], fun _ => VR.bool _⟩
end
end Go.Vf
set_option linter.unusedVariables false
set_option linter.unusedSimpArgs false
namespace Go.Vf
open Go.RowKit
theorem veqK_split : ∀ {k l : List Nat} {a b c d : List V} {r : Bool}, k.length = a.length → k.length = c.length → veqK (k ++ l) (a ++ b) (c ++ d) = some r → ∃ p q, veqK k a c = some p ∧ veqK l b d = some q ∧ r = (p && q)
  | [], l, [], b, [], d, r, _, _, h => ⟨true, r, rfl, h, by simp⟩
  | k :: ks, l, x :: a, b, y :: c, d, r, hl, hl', h => by
    simp only [List.cons_append, veqK] at h
    split at h
    · rename_i hk
      cases h1 : veq1 x y with
      | none => rw [h1] at h; cases h
      | some p =>
        cases h2 : veqK (ks ++ l) (a ++ b) (c ++ d) with
        | none => rw [h1, h2] at h; cases h
        | some q =>
          rw [h1, h2] at h
          simp only [Option.some.injEq] at h
          obtain ⟨p', q', e1, e2, e3⟩ := veqK_split (by simpa using hl) (by simpa using hl') h2
          exact ⟨p && p', q', by simp [veqK, h1, e1, hk], e2, by rw [← h, e3, Bool.and_assoc]⟩
    · cases h
theorem veqK_len : ∀ {k : List Nat} {a b : List V} {r : Bool}, veqK k a b = some r → k.length = a.length ∧ k.length = b.length
  | [], [], [], _, _ => ⟨rfl, rfl⟩
  | k :: ks, x :: a, y :: b, r, h => by
    simp only [veqK] at h
    split at h
    · cases h2 : veqK ks a b with
      | none => rw [h2] at h; cases h1 : veq1 x y <;> rw [h1] at h <;> cases h
      | some q => have := veqK_len h2; simp [this.1.symm, this.2.symm]
    · cases h
  | [], _ :: _, _, _, h | [], [], _ :: _, _, h => by simp [veqK] at h
  | _ :: _, [], _, _, h | _ :: _, _ :: _, [], _, h => by simp [veqK] at h
section
variable {P : Program} {ρ : Rho} {w : World}
theorem run_sizeOf {t : TypeId} (hi : (P.info? t).isSome = true) : (sizeOf t).run P w = .ok (P.cellsOf t) w := by
  obtain ⟨i, hi⟩ := Option.isSome_iff_exists.1 hi
  simp [sizeOf, typeInfo, hi, Program.cellsOf]
theorem run_und {t : TypeId} {d : TypeDesc} (h : P.underlying t = some d) : (underlying t).run P w = .ok d w := by simp [underlying, h]
theorem run_isAgg {t : TypeId} {b : Bool} (hb : tagg P t = some b) : (isAgg t).run P w = .ok b w := by
  unfold tagg at hb
  simp only [isAgg, underlying, Sem.run_bind, run_program, Result.andThen_ok]
  split at hb
  all_goals (rename_i hu; first | (cases hb; done) | skip)
  all_goals (simp only [Option.some.injEq] at hb; subst hb; rw [hu]; simp)
theorem run_part {t : TypeId} {b : Bool} (hb : tagg P t = some b) (hi : (P.info? t).isSome = true) (xs : List Value) (off : Nat) :
    (part t xs.toArray off).run P w = if b = true then .ok (.agg ((xs.drop off).take (P.cellsOf t)).toArray) w else match xs[off]? with | some v => .ok v w | none => .halt (.stuck "part: no such cell") w := by
  simp only [part, Sem.run_bind, run_isAgg hb, Result.andThen_ok]
  cases b
  · simp
    cases xs[off]? <;> simp
  · simp [run_sizeOf hi]
theorem equalIn_bool {t : TypeId} {n : Nat} {x y : V} {a b : Value} {r : Bool} (hu : P.underlying t = some .bool) (hk : vtag 0 x = true) (hx : VR ρ n x a) (hy : VR ρ n y b) (he : veq1 x y = some r) (k : Nat) :
    (Op.equalIn (k + 1) t a b).run P w = .ok r w := by
  cases x <;> simp [vtag] at hk
  cases y <;> simp only [veq1, reduceCtorEq, Option.some.injEq] at he
  rename_i i i'
  obtain rfl := hx.bool_inv; obtain rfl := hy.bool_inv
  simp [Op.equalIn, run_und hu, ← he]
  cases i <;> cases i' <;> rfl
theorem equalIn_int {t : TypeId} {n : Nat} {x y : V} {a b : Value} {r : Bool} {kk : IntKind} (hu : P.underlying t = some (.int kk)) (hk : vtag 1 x = true) (hx : VR ρ n x a) (hy : VR ρ n y b) (he : veq1 x y = some r) (k : Nat) :
    (Op.equalIn (k + 1) t a b).run P w = .ok r w := by
  cases x <;> simp [vtag] at hk
  cases y <;> simp only [veq1, reduceCtorEq] at he
  split at he
  · rename_i hj; subst hj
    obtain rfl := hx.int_inv; obtain rfl := hy.int_inv
    simp only [Option.some.injEq] at he
    simp [Op.equalIn, run_und hu, ← he, beq_int]
  · cases he
theorem beq_mk (a b : List UInt8) : ((⟨a.toArray⟩ : ByteArray) == ⟨b.toArray⟩) = decide (a = b) := by
  rw [beq_toListBytes, toList_mk, toList_mk, beq_dec]
theorem equalIn_str {t : TypeId} {n : Nat} {x y : V} {a b : Value} {r : Bool} (hu : P.underlying t = some .string) (hk : vtag 2 x = true) (hx : VR ρ n x a) (hy : VR ρ n y b) (he : veq1 x y = some r) (k : Nat) :
    (Op.equalIn (k + 1) t a b).run P w = .ok r w := by
  cases x <;> simp [vtag] at hk
  cases y <;> simp only [veq1, reduceCtorEq, Option.some.injEq] at he
  obtain rfl := hx.str_inv; obtain rfl := hy.str_inv
  simp [Op.equalIn, run_und hu, ← he, beq_mk]
def EqOk (P : Program) (ρ : Rho) (w : World) (n k : Nat) (t : TypeId) (ks : List Nat) : Prop :=
  ∀ (a b : List V) (xs ys : List Value) (r : Bool), VRs ρ n a xs → VRs ρ n b ys → veqK ks a b = some r →
    (tagg P t = some true → (Op.equalIn k t (.agg xs.toArray) (.agg ys.toArray)).run P w = .ok r w) ∧
    (tagg P t = some false → ∀ x y, xs = [x] → ys = [y] → (Op.equalIn k t x y).run P w = .ok r w)
theorem tkinds_parts {d : Nat} {t : TypeId} {ks : List Nat} (h : tkinds P d t = some ks) : (P.info? t).isSome = true ∧ ((tagg P t = some false ∧ P.cellsOf t = 1 ∧ ks.length = 1) ∨ tagg P t = some true) := by
  cases d with
  | zero => simp [tkinds] at h
  | succ d =>
    unfold tkinds at h
    split at h
    · rename_i hi
      refine ⟨hi, ?_⟩
      split at h
      · rename_i hu
        split at h
        · cases h; exact .inl ⟨by simp [tagg, hu], by assumption, rfl⟩
        · cases h
      · rename_i hu
        split at h
        · cases h; exact .inl ⟨by simp [tagg, hu], by assumption, rfl⟩
        · cases h
      · rename_i hu
        split at h
        · cases h; exact .inl ⟨by simp [tagg, hu], by assumption, rfl⟩
        · cases h
      · rename_i hu; exact .inr (by simp [tagg, hu])
      · cases h
    · cases h
theorem eqFields_ok {n k : Nat} {g : TypeId → Option (List Nat)} (hg : ∀ t ks, g t = some ks → EqOk P ρ w n k t ks ∧ (P.info? t).isSome = true ∧ ((tagg P t = some false ∧ P.cellsOf t = 1) ∨ tagg P t = some true)) :
    ∀ (fs : List Field) (o : Nat) (ks : List Nat), tkindsGo P g fs o = some ks → ∀ (A B : List V) (XS YS : List Value) (r : Bool), VRs ρ n A XS → VRs ρ n B YS → veqK ks (A.drop o) (B.drop o) = some r →
      (Op.eqFields k XS.toArray YS.toArray fs).run P w = .ok r w := by
  intro fs
  induction fs with
  | nil =>
    intro o ks h A B XS YS r hA hB he
    simp only [tkindsGo, Option.some.injEq] at h
    subst h
    cases h1 : A.drop o with
    | nil =>
      cases h2 : B.drop o with
      | nil => rw [h1, h2] at he; simp [veqK] at he; subst he; simp [Op.eqFields]
      | cons => rw [h1, h2] at he; simp [veqK] at he
    | cons => rw [h1] at he; simp [veqK] at he
  | cons f fs ih =>
    intro o ks h A B XS YS r hA hB he
    simp only [tkindsGo] at h
    split at h
    · rename_i hc
      simp only [Bool.and_eq_true, bne_iff_ne, beq_iff_eq] at hc
      obtain ⟨hname, rfl⟩ := hc
      cases h1 : g f.type with
      | none => rw [h1] at h; cases h
      | some k1 =>
        cases h2 : tkindsGo P g fs (f.offset + P.cellsOf f.type) with
        | none => rw [h1, h2] at h; cases h
        | some k2 =>
          rw [h1, h2] at h
          simp only at h
          split at h
          · rename_i hlen
            cases h
            obtain ⟨hq, hi, ht⟩ := hg _ _ h1
            have hsz : P.cellsOf f.type ≤ (A.drop f.offset).length ∧ P.cellsOf f.type ≤ (B.drop f.offset).length := by
              have := veqK_len he
              simp only [List.length_append] at this
              omega
            rw [← List.take_append_drop (P.cellsOf f.type) (A.drop f.offset), ← List.take_append_drop (P.cellsOf f.type) (B.drop f.offset)] at he
            obtain ⟨p, q, e1, e2, e3⟩ := veqK_split (by simp only [List.length_take]; omega) (by simp only [List.length_take]; omega) he
            obtain ⟨g1, g2⟩ := hq _ _ _ _ _ ((hA.drop f.offset).take (P.cellsOf f.type)) ((hB.drop f.offset).take (P.cellsOf f.type)) e1
            rw [List.drop_drop, List.drop_drop] at e2
            have hrest := ih _ _ h2 A B XS YS q hA hB e2
            unfold Op.eqFields
            rw [if_pos hname]
            simp only [Sem.run_bind]
            rcases ht with ⟨hb, hs1⟩ | hb
            · have hx : f.offset < XS.length := by rw [hA.1]; simp only [List.length_drop] at hsz; omega
              have hy : f.offset < YS.length := by rw [hB.1]; simp only [List.length_drop] at hsz; omega
              simp only [run_part hb hi, Bool.false_eq_true, if_false, List.getElem?_eq_getElem hx, List.getElem?_eq_getElem hy, Result.andThen_ok]
              rw [g2 hb XS[f.offset] YS[f.offset] (by rw [hs1, List.drop_eq_getElem_cons hx]; rfl) (by rw [hs1, List.drop_eq_getElem_cons hy]; rfl)]
              simp only [Result.andThen_ok]
              subst e3
              cases p
              · simp
              · simpa using hrest
            · simp only [run_part hb hi, if_true, Result.andThen_ok]
              rw [g1 hb]
              simp only [Result.andThen_ok]
              subst e3
              cases p
              · simp
              · simpa using hrest
          · cases h
    · cases h
theorem tkinds_eq {n : Nat} : ∀ {d : Nat} {t : TypeId} {ks : List Nat}, tkinds P d t = some ks → ∀ k, d ≤ k → EqOk P ρ w n k t ks
  | 0, t, ks, h, k, hd => by simp [tkinds] at h
  | d + 1, t, ks, h, k, hd => by
    obtain ⟨k, rfl⟩ : ∃ m, k = m + 1 := ⟨k - 1, by omega⟩
    have hp := tkinds_parts h
    unfold tkinds at h
    rw [if_pos hp.1] at h
    intro a b xs ys r ha hb he
    have one : ∀ {tg : Nat}, ks = [tg] → ∃ x y, a = [x] ∧ b = [y] ∧ vtag tg x = true ∧ veq1 x y = some r := fun {tg} e => by
      subst e
      have hl := veqK_len he
      match a, b, hl, he with
      | [x], [y], _, he =>
        simp only [veqK] at he
        split at he
        · rename_i hk
          cases h1 : veq1 x y with
          | none => rw [h1] at he; cases he
          | some p => rw [h1] at he; simp at he; exact ⟨x, y, rfl, rfl, hk, by rw [h1, he]⟩
        · cases he
    have scal : ∀ {tg : Nat}, ks = [tg] → tagg P t = some false → (∀ x y u v, VR ρ n x u → VR ρ n y v → vtag tg x = true → veq1 x y = some r → (Op.equalIn (k + 1) t u v).run P w = .ok r w) →
        (tagg P t = some true → (Op.equalIn (k + 1) t (.agg xs.toArray) (.agg ys.toArray)).run P w = .ok r w) ∧ (tagg P t = some false → ∀ x y, xs = [x] → ys = [y] → (Op.equalIn (k + 1) t x y).run P w = .ok r w) := fun {tg} e ht hk => by
      refine ⟨fun h' => (by rw [ht] at h'; cases h'), fun _ u v e1 e2 => ?_⟩
      obtain ⟨x, y, rfl, rfl, h1, h2⟩ := one e
      subst e1; subst e2
      exact hk x y u v (ha.2 0 x u rfl rfl) (hb.2 0 y v rfl rfl) h1 h2
    split at h
    · rename_i hu
      split at h
      · cases h
        exact scal rfl (by simp [tagg, hu]) fun x y u v h1 h2 h3 h4 => equalIn_bool hu h3 h1 h2 h4 k
      · cases h
    · rename_i hu
      split at h
      · cases h
        exact scal rfl (by simp [tagg, hu]) fun x y u v h1 h2 h3 h4 => equalIn_int hu h3 h1 h2 h4 k
      · cases h
    · rename_i hu
      split at h
      · cases h
        exact scal rfl (by simp [tagg, hu]) fun x y u v h1 h2 h3 h4 => equalIn_str hu h3 h1 h2 h4 k
      · cases h
    · rename_i fs hu
      split at h
      · cases h
      · rename_i hst
        refine ⟨fun _ => ?_, fun h' => by simp [tagg, hu] at h'⟩
        have hf : P.fieldsOf t = fs := by simp [Program.fieldsOf, hu]
        rw [run_equalIn_struct (P := P) w k t xs.toArray ys.toArray (by rw [hf]; exact hu) (by simpa using hst), hf]
        exact eqFields_ok (n := n) (k := k) (fun t' ks' e => ⟨tkinds_eq e k (by omega), (tkinds_parts e).1, (tkinds_parts e).2.imp (fun x => ⟨x.1, x.2.1⟩) id⟩) _ _ _ h a b xs ys r ha hb (by simpa using he)
    · cases h
theorem tkindsGo_guard {g : TypeId → Option (List Nat)} {D : Nat} (hg : ∀ t ks, g t = some ks → P.eqGuardType D t = false) : ∀ (fs : List Field) (o : Nat) (ks : List Nat), tkindsGo P g fs o = some ks → (fs.any fun f => f.name != "_" && P.eqGuardType D f.type) = false
  | [], _, _, _ => rfl
  | f :: r, o, ks, h => by
    simp only [tkindsGo] at h
    split at h
    · cases h1 : g f.type with
      | none => rw [h1] at h; cases h
      | some k1 =>
        cases h2 : tkindsGo P g r (o + P.cellsOf f.type) with
        | none => rw [h1, h2] at h; cases h
        | some k2 => simp [hg _ _ h1, tkindsGo_guard hg r _ _ h2]
    · cases h
theorem tkinds_guard : ∀ {d : Nat} {t : TypeId} {ks : List Nat}, tkinds P d t = some ks → ∀ D, d ≤ D → P.eqGuardType D t = false
  | 0, t, ks, h, D, hd => by simp [tkinds] at h
  | d + 1, t, ks, h, D, hd => by
    obtain ⟨D, rfl⟩ : ∃ m, D = m + 1 := ⟨D - 1, by omega⟩
    unfold tkinds at h
    unfold Program.eqGuardType
    split at h
    · split at h
      · rename_i hu; rw [hu]
      · rename_i hu; rw [hu]
      · rename_i hu; rw [hu]
      · rename_i fs hu
        rw [hu]
        split at h
        · cases h
        · show (fs.any fun f => f.name != "_" && P.eqGuardType D f.type) = false
          rw [← Array.any_toList]
          exact tkindsGo_guard (fun t' ks' e => tkinds_guard e D (by omega)) _ _ _ h
      · cases h
    · cases h
end
end Go.Vf
