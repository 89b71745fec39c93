/- The values and the small heap of a calculus above the kit's wp: what a value says of the model's memory, and that it goes on saying it. -/
import Derived.Test.YtdplbmooogglaaaDoorV0
import Derived.Below
import Derived.Calls
import Derived.Orders
import Derived.Deep.Draws
import Derived.Laws.Sem
set_option linter.unusedVariables false
set_option linter.unusedSimpArgs false
namespace Go.Vf
open Go.RowKit

/-- A value without memory: what is immutable is told by its cells, what is not by a name. -/
inductive V where
  | int (k : IntKind) (n : Int)
  | bool (b : Bool)
  | str (s : List UInt8)
  | nilptr
  | ptr (id g off : Nat)
  | iptr (cells : List V) (off : Nat)
  | nilsl
  | sl (sz n : Nat) (cells : List V)
  | slc (sz n : Nat) (cells : List V)
  | arr (sz id g off n : Nat)
  | agg (cells : List V)
  | tup (vs : List V)
  | func (f : Fn) (first captured : List V)
  | nilfunc
  | nilmap
  | map (id : Nat)
  | chan (id : Nat)
  | iface (t : TypeId) (v : V)
  | niliface
  | top

/-- Where a name's block lies. -/
inductive Reg where
  | none
  | at (b cap : Nat)
  | pend

structure Rho where
  base : World
  imm : Nat → Nat → Option Value
  blk : Nat → Nat → Option Reg

/-- These cells lie, immutable, from a place on. -/
def IsImm (ρ : Rho) (b o : Nat) (xs : List Value) : Prop := ∀ i x, xs[i]? = some x → ρ.imm b (o + i) = some x

/-- May it lie in one cell? -/
def V.scalar : V → Bool
  | .agg _ | .tup _ | .top => false
  | _ => true
def V.scalarL : List V → Bool
  | [] => true
  | v :: r => v.scalar && V.scalarL r

mutual
/-- No name of a block is in it. -/
def V.closed : V → Bool
  | .ptr .. | .arr .. | .map _ | .chan _ | .top => false
  | .agg cs | .tup cs => V.closedL cs
  | .func _ a b => V.closedL a && V.closedL b
  | .iface _ v => v.closed
  | _ => true
def V.closedL : List V → Bool
  | [] => true
  | v :: r => v.scalar && (v.closed && V.closedL r)
end

mutual
/-- All names in it are below. -/
def V.under (n : Nat) : V → Bool
  | .ptr id _ _ | .arr _ id _ _ _ | .map id | .chan id => decide (id < n)
  | .agg cs | .tup cs => V.underL n cs
  | .func _ a b => V.underL n a && V.underL n b
  | .iface _ v => v.under n
  | _ => true
def V.underL (n : Nat) : List V → Bool
  | [] => true
  | v :: r => v.under n && V.underL n r
end

/-- What a value says of the model's value. -/
inductive VR (ρ : Rho) (n : Nat) : V → Value → Prop
  | int (k : IntKind) (i : Int) : VR ρ n (.int k i) (.int k i)
  | bool (b : Bool) : VR ρ n (.bool b) (.bool b)
  | str (s : List UInt8) : VR ρ n (.str s) (.string ⟨s.toArray⟩)
  | nilptr : VR ρ n .nilptr (.pointer none)
  | ptr (id g off b cap : Nat) : id < n → ρ.blk id g = some (.at b cap) → VR ρ n (.ptr id g off) (.pointer (some ⟨b, off, none⟩))
  | iptr (cells : List V) (off : Nat) (xs : List Value) (b o : Nat) : V.closedL cells = true → IsImm ρ b o xs → xs.length = cells.length →
      (∀ (i : Nat) (v : V) (x : Value), cells[i]? = some v → xs[i]? = some x → VR ρ n v x) → VR ρ n (.iptr cells off) (.pointer (some ⟨b, o + off, none⟩))
  | nilsl : VR ρ n .nilsl (.slice none 0 0)
  | sl (sz m : Nat) (cells : List V) (xs : List Value) (b o cap : Nat) : V.closedL cells = true → cells.length = m * sz → m ≤ cap → IsImm ρ b o xs → xs.length = cells.length →
      (∀ (i : Nat) (v : V) (x : Value), cells[i]? = some v → xs[i]? = some x → VR ρ n v x) → VR ρ n (.sl sz m cells) (.slice (some ⟨b, o, none⟩) m cap)
  | sl0 (sz : Nat) (A : Option Addr) (cap : Nat) : VR ρ n (.sl sz 0 []) (.slice A 0 cap)
  | slc (sz m : Nat) (cells : List V) (xs : List Value) (b o : Nat) : V.closedL cells = true → cells.length = m * sz → IsImm ρ b o xs → xs.length = cells.length →
      (∀ (i : Nat) (v : V) (x : Value), cells[i]? = some v → xs[i]? = some x → VR ρ n v x) → VR ρ n (.slc sz m cells) (.slice (some ⟨b, o, none⟩) m m)
  | slc0 (sz : Nat) (A : Option Addr) : VR ρ n (.slc sz 0 []) (.slice A 0 0)
  | arr (sz id g off m b cap c : Nat) : id < n → ρ.blk id g = some (.at b cap) → off + c * sz ≤ cap → m ≤ c → VR ρ n (.arr sz id g off m) (.slice (some ⟨b, off, none⟩) m c)
  | arr0 (sz id g : Nat) (A : Option Addr) : id < n → ρ.blk id g = some .none → VR ρ n (.arr sz id g 0 0) (.slice A 0 0)
  | agg (cells : List V) (xs : List Value) : xs.length = cells.length → (∀ (i : Nat) (v : V) (x : Value), cells[i]? = some v → xs[i]? = some x → VR ρ n v x) → VR ρ n (.agg cells) (.agg xs.toArray)
  | tup (cells : List V) (xs : List Value) : xs.length = cells.length → (∀ (i : Nat) (v : V) (x : Value), cells[i]? = some v → xs[i]? = some x → VR ρ n v x) → VR ρ n (.tup cells) (.tuple xs.toArray)
  | func (f : Fn) (a b : List V) (xs ys : List Value) : xs.length = a.length → ys.length = b.length →
      (∀ (i : Nat) (v : V) (x : Value), a[i]? = some v → xs[i]? = some x → VR ρ n v x) → (∀ (i : Nat) (v : V) (x : Value), b[i]? = some v → ys[i]? = some x → VR ρ n v x) → VR ρ n (.func f a b) (.func f xs.toArray ys.toArray)
  | nilfunc : VR ρ n .nilfunc .nilFunc
  | nilmap : VR ρ n .nilmap (.map none)
  | map (id b : Nat) : id < n → ρ.blk id 0 = some (.at b 0) → VR ρ n (.map id) (.map (some b))
  | chan (id b : Nat) : id < n → ρ.blk id 0 = some (.at b 0) → VR ρ n (.chan id) (.chan (some b))
  | iface (t : TypeId) (v : V) (x : Value) : VR ρ n v x → VR ρ n (.iface t v) (.iface t x)
  | niliface : VR ρ n .niliface .nilIface
  | top (x : Value) : VR ρ n .top x

/-- Rows of values, one by one. -/
def VRs (ρ : Rho) (n : Nat) (vs : List V) (xs : List Value) : Prop := xs.length = vs.length ∧ ∀ (i : Nat) (v : V) (x : Value), vs[i]? = some v → xs[i]? = some x → VR ρ n v x

structure Rho.Le (n : Nat) (ρ ρ' : Rho) : Prop where
  base : ρ'.base = ρ.base
  imm : ∀ b o x, ρ.imm b o = some x → ρ'.imm b o = some x
  blk : ∀ id g r, id < n → ρ.blk id g = some r → ρ'.blk id g = some r ∨ r = .pend

theorem Rho.Le.refl (n : Nat) (ρ : Rho) : Rho.Le n ρ ρ := ⟨rfl, fun _ _ _ h => h, fun _ _ _ _ h => .inl h⟩
theorem Rho.Le.trans {n m : Nat} {a b c : Rho} (h : Rho.Le n a b) (k : Rho.Le m b c) (hnm : n ≤ m) : Rho.Le n a c :=
  ⟨k.base.trans h.base, fun _ _ _ e => k.imm _ _ _ (h.imm _ _ _ e), fun _ _ _ hi e => (h.blk _ _ _ hi e).elim (fun e' => k.blk _ _ _ (Nat.lt_of_lt_of_le hi hnm) e') .inr⟩
/-- A place that is known stays. -/
theorem Rho.Le.at {n : Nat} {a b : Rho} (h : Rho.Le n a b) {id g : Nat} {r : Reg} (hi : id < n) (e : a.blk id g = some r) (hr : r ≠ .pend) : b.blk id g = some r := (h.blk _ _ _ hi e).resolve_right hr
theorem Rho.Le.mono {n m : Nat} {a b : Rho} (h : Rho.Le m a b) (hnm : n ≤ m) : Rho.Le n a b :=
  ⟨h.base, h.imm, fun _ _ _ hi e => h.blk _ _ _ (Nat.lt_of_lt_of_le hi hnm) e⟩
theorem IsImm.le {n : Nat} {ρ ρ' : Rho} (h : Rho.Le n ρ ρ') {b o : Nat} {xs : List Value} (k : IsImm ρ b o xs) : IsImm ρ' b o xs := fun i x e => h.imm _ _ _ (k i x e)

theorem VR.le {ρ ρ' : Rho} {n n' : Nat} (h : Rho.Le n ρ ρ') (hn : n ≤ n') {v : V} {x : Value} (k : VR ρ n v x) : VR ρ' n' v x := by
  induction k with
  | int k i => exact .int k i
  | bool b => exact .bool b
  | str s => exact .str s
  | nilptr => exact .nilptr
  | ptr id g off b cap h1 h2 => exact .ptr id g off b cap (Nat.lt_of_lt_of_le h1 hn) (h.at h1 h2 (by simp))
  | iptr cells off xs b o h1 h2 h3 _ ih => exact .iptr cells off xs b o h1 (h2.le h) h3 ih
  | nilsl => exact .nilsl
  | sl sz m cells xs b o cap h1 h2 h3 h4 h5 _ ih => exact .sl sz m cells xs b o cap h1 h2 h3 (h4.le h) h5 ih
  | sl0 sz A cap => exact .sl0 sz A cap
  | slc sz m cells xs b o h1 h2 h3 h4 _ ih => exact .slc sz m cells xs b o h1 h2 (h3.le h) h4 ih
  | slc0 sz A => exact .slc0 sz A
  | arr sz id g off m b cap c h1 h2 h3 h4 => exact .arr sz id g off m b cap c (Nat.lt_of_lt_of_le h1 hn) (h.at h1 h2 (by simp)) h3 h4
  | arr0 sz id g A h1 h2 => exact .arr0 sz id g A (Nat.lt_of_lt_of_le h1 hn) (h.at h1 h2 (by simp))
  | agg cells xs h1 _ ih => exact .agg cells xs h1 ih
  | tup cells xs h1 _ ih => exact .tup cells xs h1 ih
  | func f a b xs ys h1 h2 _ _ ih1 ih2 => exact .func f a b xs ys h1 h2 ih1 ih2
  | nilfunc => exact .nilfunc
  | nilmap => exact .nilmap
  | map id b h1 h2 => exact .map id b (Nat.lt_of_lt_of_le h1 hn) (h.at h1 h2 (by simp))
  | chan id b h1 h2 => exact .chan id b (Nat.lt_of_lt_of_le h1 hn) (h.at h1 h2 (by simp))
  | iface t v x _ ih => exact .iface t v x ih
  | niliface => exact .niliface
  | top x => exact .top x

theorem scalarL_get {cs : List V} (h : V.scalarL cs = true) : ∀ {i : Nat} {v : V}, cs[i]? = some v → v.scalar = true := by
  induction cs with
  | nil => intro i v e; simp at e
  | cons c r ih =>
    intro i v e
    simp only [V.scalarL, Bool.and_eq_true] at h
    cases i with
    | zero => simp at e; exact e ▸ h.1
    | succ i => exact ih h.2 (by simpa using e)
theorem scalarL_of {cs : List V} (h : ∀ v, v ∈ cs → v.scalar = true) : V.scalarL cs = true := by
  induction cs with
  | nil => rfl
  | cons c r ih => simp only [V.scalarL, Bool.and_eq_true]; exact ⟨h c (by simp), ih fun v hv => h v (by simp [hv])⟩
theorem scalarL_mem {cs : List V} (h : V.scalarL cs = true) {v : V} (hv : v ∈ cs) : v.scalar = true := by
  obtain ⟨i, hi⟩ := List.getElem?_of_mem hv
  exact scalarL_get h hi
theorem scalarL_sub {cs ds : List V} (h : V.scalarL cs = true) (hs : ∀ v, v ∈ ds → v ∈ cs) : V.scalarL ds = true := scalarL_of fun v hv => scalarL_mem h (hs v hv)
theorem scalarL_append (a b : List V) : V.scalarL (a ++ b) = (V.scalarL a && V.scalarL b) := by
  induction a with
  | nil => simp [V.scalarL]
  | cons c r ih => simp [V.scalarL, ih, Bool.and_assoc]
theorem scalarL_of_closedL {cs : List V} (h : V.closedL cs = true) : V.scalarL cs = true := by
  induction cs with
  | nil => rfl
  | cons c r ih => simp only [V.closedL, V.scalarL, Bool.and_eq_true] at h ⊢; exact ⟨h.1, ih h.2.2⟩
theorem closedL_get {cs : List V} (h : V.closedL cs = true) : ∀ {i : Nat} {v : V}, cs[i]? = some v → v.closed = true := by
  induction cs with
  | nil => intro i v e; simp at e
  | cons c r ih =>
    intro i v e
    simp only [V.closedL, Bool.and_eq_true] at h
    cases i with
    | zero => simp at e; exact e ▸ h.2.1
    | succ i => exact ih h.2.2 (by simpa using e)
theorem underL_get {n : Nat} {cs : List V} (h : V.underL n cs = true) : ∀ {i : Nat} {v : V}, cs[i]? = some v → v.under n = true := by
  induction cs with
  | nil => intro i v e; simp at e
  | cons c r ih =>
    intro i v e
    simp only [V.underL, Bool.and_eq_true] at h
    cases i with
    | zero => simp at e; exact e ▸ h.1
    | succ i => exact ih h.2 (by simpa using e)
theorem closedL_append (a b : List V) : V.closedL (a ++ b) = (V.closedL a && V.closedL b) := by
  induction a with
  | nil => simp [V.closedL]
  | cons c r ih => simp [V.closedL, ih, Bool.and_assoc]
theorem underL_append (n : Nat) (a b : List V) : V.underL n (a ++ b) = (V.underL n a && V.underL n b) := by
  induction a with
  | nil => simp [V.underL]
  | cons c r ih => simp [V.underL, ih, Bool.and_assoc]
theorem closedL_of {cs : List V} (h : ∀ v, v ∈ cs → v.scalar = true ∧ v.closed = true) : V.closedL cs = true := by
  induction cs with
  | nil => rfl
  | cons c r ih => simp only [V.closedL, Bool.and_eq_true]; exact ⟨(h c (by simp)).1, (h c (by simp)).2, ih fun v hv => h v (by simp [hv])⟩
theorem closedL_mem {cs : List V} (h : V.closedL cs = true) {v : V} (hv : v ∈ cs) : v.scalar = true ∧ v.closed = true := by
  obtain ⟨i, hi⟩ := List.getElem?_of_mem hv
  exact ⟨scalarL_get (scalarL_of_closedL h) hi, closedL_get h hi⟩
theorem closedL_sub {cs ds : List V} (h : V.closedL cs = true) (hs : ∀ v, v ∈ ds → v ∈ cs) : V.closedL ds = true := closedL_of fun v hv => closedL_mem h (hs v hv)
theorem closedL_drop {cs : List V} (h : V.closedL cs = true) (n : Nat) : V.closedL (cs.drop n) = true := closedL_sub h fun _ hv => List.mem_of_mem_drop hv
theorem closedL_take {cs : List V} (h : V.closedL cs = true) (n : Nat) : V.closedL (cs.take n) = true := closedL_sub h fun _ hv => List.mem_of_mem_take hv

/-- What is closed says the same whatever names there are. -/
theorem VR.closed {ρ : Rho} {n : Nat} (n' : Nat) {v : V} {x : Value} (k : VR ρ n v x) : v.closed = true → VR ρ n' v x := by
  induction k with
  | int k i => intro _; exact .int k i
  | bool b => intro _; exact .bool b
  | str s => intro _; exact .str s
  | nilptr => intro _; exact .nilptr
  | ptr id g off b cap h1 h2 => intro h; simp [V.closed] at h
  | iptr cells off xs b o h1 h2 h3 _ ih => intro _; exact .iptr cells off xs b o h1 h2 h3 fun i v x e e' => ih i v x e e' (closedL_get h1 e)
  | nilsl => intro _; exact .nilsl
  | sl sz m cells xs b o cap h1 h2 h3 h4 h5 _ ih => intro _; exact .sl sz m cells xs b o cap h1 h2 h3 h4 h5 fun i v x e e' => ih i v x e e' (closedL_get h1 e)
  | sl0 sz A cap => intro _; exact .sl0 sz A cap
  | slc sz m cells xs b o h1 h2 h3 h4 _ ih => intro _; exact .slc sz m cells xs b o h1 h2 h3 h4 fun i v x e e' => ih i v x e e' (closedL_get h1 e)
  | slc0 sz A => intro _; exact .slc0 sz A
  | arr sz id g off m b cap c h1 h2 h3 h4 => intro h; simp [V.closed] at h
  | arr0 sz id g A h1 h2 => intro h; simp [V.closed] at h
  | agg cells xs h1 _ ih => intro h; simp only [V.closed] at h; exact .agg cells xs h1 fun i v x e e' => ih i v x e e' (closedL_get h e)
  | tup cells xs h1 _ ih => intro h; simp only [V.closed] at h; exact .tup cells xs h1 fun i v x e e' => ih i v x e e' (closedL_get h e)
  | func f a b xs ys h1 h2 _ _ ih1 ih2 =>
    intro h; simp only [V.closed, Bool.and_eq_true] at h
    exact .func f a b xs ys h1 h2 (fun i v x e e' => ih1 i v x e e' (closedL_get h.1 e)) (fun i v x e e' => ih2 i v x e e' (closedL_get h.2 e))
  | nilfunc => intro _; exact .nilfunc
  | nilmap => intro _; exact .nilmap
  | map id b h1 h2 => intro h; simp [V.closed] at h
  | chan id b h1 h2 => intro h; simp [V.closed] at h
  | iface t v x _ ih => intro h; exact .iface t v x (ih (by simpa [V.closed] using h))
  | niliface => intro _; exact .niliface
  | top x => intro h; simp [V.closed] at h

/-- What names only what is below a number says the same with that number. -/
theorem VR.under {ρ : Rho} {n : Nat} (n' : Nat) {v : V} {x : Value} (k : VR ρ n v x) : v.under n' = true → VR ρ n' v x := by
  induction k with
  | int k i => intro _; exact .int k i
  | bool b => intro _; exact .bool b
  | str s => intro _; exact .str s
  | nilptr => intro _; exact .nilptr
  | ptr id g off b cap h1 h2 => intro h; exact .ptr id g off b cap (by simpa [V.under] using h) h2
  | iptr cells off xs b o h1 h2 h3 h4 ih => intro _; exact .iptr cells off xs b o h1 h2 h3 fun i v x e e' => (h4 i v x e e').closed n' (closedL_get h1 e)
  | nilsl => intro _; exact .nilsl
  | sl sz m cells xs b o cap h1 h2 h3 h4 h5 h6 ih => intro _; exact .sl sz m cells xs b o cap h1 h2 h3 h4 h5 fun i v x e e' => (h6 i v x e e').closed n' (closedL_get h1 e)
  | sl0 sz A cap => intro _; exact .sl0 sz A cap
  | slc sz m cells xs b o h1 h2 h3 h4 h5 ih => intro _; exact .slc sz m cells xs b o h1 h2 h3 h4 fun i v x e e' => (h5 i v x e e').closed n' (closedL_get h1 e)
  | slc0 sz A => intro _; exact .slc0 sz A
  | arr sz id g off m b cap c h1 h2 h3 h4 => intro h; exact .arr sz id g off m b cap c (by simpa [V.under] using h) h2 h3 h4
  | arr0 sz id g A h1 h2 => intro h; exact .arr0 sz id g A (by simpa [V.under] using h) h2
  | agg cells xs h1 _ ih => intro h; simp only [V.under] at h; exact .agg cells xs h1 fun i v x e e' => ih i v x e e' (underL_get h e)
  | tup cells xs h1 _ ih => intro h; simp only [V.under] at h; exact .tup cells xs h1 fun i v x e e' => ih i v x e e' (underL_get h e)
  | func f a b xs ys h1 h2 _ _ ih1 ih2 =>
    intro h; simp only [V.under, Bool.and_eq_true] at h
    exact .func f a b xs ys h1 h2 (fun i v x e e' => ih1 i v x e e' (underL_get h.1 e)) (fun i v x e e' => ih2 i v x e e' (underL_get h.2 e))
  | nilfunc => intro _; exact .nilfunc
  | nilmap => intro _; exact .nilmap
  | map id b h1 h2 => intro h; exact .map id b (by simpa [V.under] using h) h2
  | chan id b h1 h2 => intro h; exact .chan id b (by simpa [V.under] using h) h2
  | iface t v x _ ih => intro h; exact .iface t v x (ih (by simpa [V.under] using h))
  | niliface => intro _; exact .niliface
  | top x => intro _; exact .top x

mutual
theorem V.under_of_closed (n : Nat) : ∀ v : V, v.closed = true → v.under n = true
  | .int .., _ | .bool _, _ | .str _, _ | .nilptr, _ | .iptr .., _ | .nilsl, _ | .sl .., _ | .slc .., _ | .nilfunc, _ | .nilmap, _ | .niliface, _ | .top, _ => by simp [V.under]
  | .ptr .., h | .arr .., h | .map _, h | .chan _, h => by simp [V.closed] at h
  | .agg cs, h | .tup cs, h => by simp only [V.closed] at h; simp only [V.under]; exact V.underL_of_closedL n cs h
  | .func _ a b, h => by simp only [V.closed, Bool.and_eq_true] at h; simp only [V.under, Bool.and_eq_true]; exact ⟨V.underL_of_closedL n a h.1, V.underL_of_closedL n b h.2⟩
  | .iface _ v, h => by simp only [V.closed] at h; simp only [V.under]; exact V.under_of_closed n v h
theorem V.underL_of_closedL (n : Nat) : ∀ cs : List V, V.closedL cs = true → V.underL n cs = true
  | [], _ => rfl
  | v :: r, h => by simp only [V.closedL, Bool.and_eq_true] at h; simp only [V.underL, Bool.and_eq_true]; exact ⟨V.under_of_closed n v h.2.1, V.underL_of_closedL n r h.2.2⟩
end
theorem V.under_mono {n n' : Nat} (hn : n ≤ n') {ρ : Rho} : ∀ {v : V}, v.under n = true → v.under n' = true
  | .int .., _ | .bool _, _ | .str _, _ | .nilptr, _ | .iptr .., _ | .nilsl, _ | .sl .., _ | .slc .., _ | .nilfunc, _ | .nilmap, _ | .niliface, _ | .top, _ => by simp [V.under]
  | .ptr .., h | .arr .., h | .map _, h | .chan _, h => by simp only [V.under, decide_eq_true_eq] at h ⊢; omega
  | .agg cs, h | .tup cs, h => by simp only [V.under] at h ⊢; exact go cs h
  | .func _ a b, h => by simp only [V.under, Bool.and_eq_true] at h ⊢; exact ⟨go a h.1, go b h.2⟩
  | .iface _ v, h => by simp only [V.under] at h ⊢; exact V.under_mono hn (ρ := ρ) h
where go : ∀ (cs : List V), V.underL n cs = true → V.underL n' cs = true
  | [], _ => rfl
  | v :: r, h => by simp only [V.underL, Bool.and_eq_true] at h ⊢; exact ⟨V.under_mono hn (ρ := ρ) h.1, go r h.2⟩

theorem underL_of {n : Nat} {cs : List V} (h : ∀ (i : Nat) (v : V), cs[i]? = some v → v.under n = true) : V.underL n cs = true := by
  induction cs with
  | nil => rfl
  | cons c r ih =>
    simp only [V.underL, Bool.and_eq_true]
    exact ⟨h 0 c rfl, ih fun i v e => h (i + 1) v (by simpa using e)⟩
theorem get_of_len {α β : Type} {cs : List α} {xs : List β} (hl : xs.length = cs.length) {i : Nat} {v : α} (e : cs[i]? = some v) : ∃ x, xs[i]? = some x := by
  have hi : i < xs.length := by
    rcases Nat.lt_or_ge i cs.length with h | h
    · omega
    · rw [List.getElem?_eq_none h] at e; cases e
  exact ⟨_, List.getElem?_eq_getElem hi⟩
/-- What stands for something names only what is below. -/
theorem VR.isUnder {ρ : Rho} {n : Nat} {v : V} {x : Value} (k : VR ρ n v x) : v.under n = true := by
  induction k with
  | ptr id g off b cap h1 h2 => simpa [V.under] using h1
  | arr sz id g off m b cap c h1 => simpa [V.under] using h1
  | arr0 sz id g A h1 => simpa [V.under] using h1
  | map id b h1 => simpa [V.under] using h1
  | chan id b h1 => simpa [V.under] using h1
  | agg cells xs h1 _ ih =>
    simp only [V.under]
    refine underL_of fun i v e => ?_
    obtain ⟨x, hx⟩ := get_of_len h1 e
    exact ih i v x e hx
  | tup cells xs h1 _ ih =>
    simp only [V.under]
    refine underL_of fun i v e => ?_
    obtain ⟨x, hx⟩ := get_of_len h1 e
    exact ih i v x e hx
  | func f a b xs ys h1 h2 _ _ ih1 ih2 =>
    simp only [V.under, Bool.and_eq_true]
    refine ⟨underL_of fun i v e => ?_, underL_of fun i v e => ?_⟩
    · obtain ⟨x, hx⟩ := get_of_len h1 e
      exact ih1 i v x e hx
    · obtain ⟨x, hx⟩ := get_of_len h2 e
      exact ih2 i v x e hx
  | iface t v x _ ih => simpa [V.under] using ih
  | _ => rfl

theorem VR.oneCell {ρ : Rho} {n : Nat} {v : V} {x : Value} (k : VR ρ n v x) (h : v.scalar = true) : x.oneCell' = true := by
  cases k <;> first | rfl | (simp [V.scalar] at h)
end Go.Vf
