/- The quiet operations do in the model what the calculus says of them. -/
import Derived.Test.YtdplbmooogglaaaDoorVc
import Derived.Laws.Sem
import Derived.Laws.Strings
import Derived.Tactics
set_option linter.unusedVariables false
set_option linter.unusedSimpArgs false
namespace Go.Vf
open Go.RowKit

structure SRel (N n0 : Nat) (ρ : Rho) (E : Env) (G : Heap) (a : Act) (w : World) : Prop where
  size : a.tmps.size = N
  defers : a.defers = []
  slots : ∀ t, t < N → VR ρ G.next (E t) (a.tmps.getD t undef)
  world : WRel ρ G w
  low : n0 ≤ G.next

def Operand.fits (N : Nat) : Operand → Bool
  | .tmp t => decide (t < N)
  | _ => true

theorem VR.cast {ρ : Rho} {n : Nat} {v : V} {x y : Value} (h : VR ρ n v x) (e : x = y) : VR ρ n v y := e ▸ h
theorem VR.castV {ρ : Rho} {n : Nat} {v u : V} {x : Value} (h : VR ρ n v x) (e : v = u) : VR ρ n u x := e ▸ h

theorem vconst1_ok (ρ : Rho) (n : Nat) (x : Value) : VR ρ n (vconst1 x) x := by
  unfold vconst1
  split
  · exact .int _ _
  · exact .bool _
  · exact (VR.str _).cast (by simp)
  · exact .nilptr
  · exact .nilsl
  · exact .nilmap
  · exact .nilfunc
  · exact .niliface
  · exact .top _
theorem vconst_ok (ρ : Rho) (n : Nat) (x : Value) : VR ρ n (vconst x) x := by
  unfold vconst
  split
  · rename_i cs
    refine (VR.agg _ cs.toList (by simp) fun i v x e1 e2 => ?_).cast (by simp)
    simp only [List.getElem?_map] at e1
    rw [e2] at e1
    simp at e1
    subst e1
    exact vconst1_ok ρ n x
  · exact vconst1_ok ρ n _

section
variable {P : Program} {N n0 : Nat} {ρ : Rho} {E : Env} {G : Heap} {a : Act} {w : World}

theorem SRel.ev (h : SRel N n0 ρ E G a w) {x : Operand} (hx : Operand.fits N x = true) : VR ρ G.next (vev E x) (a.eval x) := by
  cases x with
  | tmp t => exact h.slots t (by simpa [Operand.fits] using hx)
  | const v => exact vconst_ok _ _ _
  | global g => exact .top _
  | func f => exact (VR.func (.func f) [] [] [] [] rfl rfl (by simp) (by simp)).cast rfl

/-! ### What a value's form says of the model's value -/
theorem VR.int_inv {n : Nat} {k : IntKind} {i : Int} {x : Value} (h : VR ρ n (.int k i) x) : x = .int k i := by cases h; rfl
theorem VR.bool_inv {n : Nat} {b : Bool} {x : Value} (h : VR ρ n (.bool b) x) : x = .bool b := by cases h; rfl
theorem VR.str_inv {n : Nat} {s : List UInt8} {x : Value} (h : VR ρ n (.str s) x) : x = .string ⟨s.toArray⟩ := by cases h; rfl

/-- The parts of a flat value. -/
theorem vflat_ok {n : Nat} {v : V} {x : Value} {vs : List V} (h : VR ρ n v x) (hf : vflat v = some vs) : VRs ρ n vs x.cells.toList := by
  have one : ∀ {v : V} {x : Value}, VR ρ n v x → x.cells = #[x] → VRs ρ n [v] x.cells.toList := fun {v x} h e => by
    rw [e]
    refine ⟨rfl, fun i v' x' e1 e2 => ?_⟩
    cases i with
    | zero => simp at e1 e2; exact e1 ▸ e2 ▸ h
    | succ i => simp at e1
  cases h <;> simp only [vflat, Option.some.injEq, reduceCtorEq] at hf <;> subst hf
  case agg cells xs h1 h2 => exact ⟨by simpa [Value.cells] using h1, fun i v x e1 e2 => h2 i v x e1 (by simpa [Value.cells] using e2)⟩
  all_goals (refine one ?_ rfl)
  case int => exact .int _ _
  case bool => exact .bool _
  case str => exact .str _
  case nilptr => exact .nilptr
  case ptr h1 h2 => exact .ptr _ _ _ _ _ h1 h2
  case iptr h1 h2 h3 h4 => exact .iptr _ _ _ _ _ h1 h2 h3 h4
  case nilsl => exact .nilsl
  case sl h1 h2 h3 h4 h5 h6 => exact .sl _ _ _ _ _ _ _ h1 h2 h3 h4 h5 h6
  case sl0 => exact .sl0 _ _ _
  case slc h1 h2 h3 h4 h5 => exact .slc _ _ _ _ _ _ h1 h2 h3 h4 h5
  case slc0 => exact .slc0 _ _
  case arr h1 h2 h3 h4 => exact .arr _ _ _ _ _ _ _ _ h1 h2 h3 h4
  case arr0 h1 h2 => exact .arr0 _ _ _ _ h1 h2
  case func h1 h2 h3 h4 => exact .func _ _ _ _ _ h1 h2 h3 h4
  case nilfunc => exact .nilfunc
  case nilmap => exact .nilmap
  case map h1 h2 => exact .map _ _ h1 h2
  case chan h1 h2 => exact .chan _ _ h1 h2
  case iface h => exact .iface _ _ _ h
  case niliface => exact .niliface

theorem VRs.get {n : Nat} {vs : List V} {xs : List Value} (h : VRs ρ n vs xs) {i : Nat} {v : V} (e : vs[i]? = some v) : ∃ x, xs[i]? = some x ∧ VR ρ n v x := by
  have hi : i < vs.length := by
    rcases Nat.lt_or_ge i vs.length with h' | h'
    · exact h'
    · rw [List.getElem?_eq_none h'] at e; cases e
  have : i < xs.length := by rw [h.1]; exact hi
  exact ⟨xs[i], List.getElem?_eq_getElem this, h.2 i v _ e (List.getElem?_eq_getElem this)⟩
theorem VRs.back {n : Nat} {vs : List V} {xs : List Value} (h : VRs ρ n vs xs) {i : Nat} {x : Value} (e : xs[i]? = some x) : ∃ v, vs[i]? = some v ∧ VR ρ n v x := by
  have hi : i < xs.length := by
    rcases Nat.lt_or_ge i xs.length with h' | h'
    · exact h'
    · rw [List.getElem?_eq_none h'] at e; cases e
  have : i < vs.length := by rw [← h.1]; exact hi
  exact ⟨vs[i], List.getElem?_eq_getElem this, h.2 i _ x (List.getElem?_eq_getElem this) e⟩
theorem VRs.drop {n : Nat} {vs : List V} {xs : List Value} (h : VRs ρ n vs xs) (k : Nat) : VRs ρ n (vs.drop k) (xs.drop k) :=
  ⟨by simp [h.1], fun i v x e1 e2 => h.2 (k + i) v x (by simpa using e1) (by simpa using e2)⟩
theorem VRs.take {n : Nat} {vs : List V} {xs : List Value} (h : VRs ρ n vs xs) (k : Nat) : VRs ρ n (vs.take k) (xs.take k) := by
  refine ⟨by simp [h.1], fun i v x e1 e2 => ?_⟩
  simp only [List.getElem?_take] at e1 e2
  split at e1
  · rename_i hi; rw [if_pos hi] at e2; exact h.2 i v x e1 e2
  · cases e1
theorem VRs.append {n : Nat} {vs us : List V} {xs ys : List Value} (h : VRs ρ n vs xs) (k : VRs ρ n us ys) : VRs ρ n (vs ++ us) (xs ++ ys) := by
  refine ⟨by simp [h.1, k.1], fun i v x e1 e2 => ?_⟩
  simp only [List.getElem?_append] at e1 e2
  split at e1
  · rename_i hi; rw [if_pos (by rw [h.1]; exact hi)] at e2; exact h.2 i v x e1 e2
  · rename_i hi; rw [if_neg (by rw [h.1]; exact hi), h.1] at e2; exact k.2 _ v x e1 e2
theorem VRs.nil {n : Nat} : VRs ρ n [] [] := ⟨rfl, by simp⟩
theorem VRs.cons {n : Nat} {v : V} {x : Value} {vs : List V} {xs : List Value} (h : VR ρ n v x) (k : VRs ρ n vs xs) : VRs ρ n (v :: vs) (x :: xs) :=
  VRs.append (vs := [v]) (xs := [x]) ⟨rfl, fun i v' x' e1 e2 => by
    cases i with
    | zero => simp at e1 e2; exact e1 ▸ e2 ▸ h
    | succ i => simp at e1⟩ k
theorem VRs.le {ρ' : Rho} {n n' : Nat} (h : Rho.Le n ρ ρ') (hn : n ≤ n') {vs : List V} {xs : List Value} (k : VRs ρ n vs xs) : VRs ρ' n' vs xs :=
  ⟨k.1, fun i v x e1 e2 => (k.2 i v x e1 e2).le h hn⟩
theorem VRs.agg {n : Nat} {vs : List V} {xs : List Value} (h : VRs ρ n vs xs) : VR ρ n (.agg vs) (.agg xs.toArray) := .agg _ _ h.1 h.2
theorem VRs.tup {n : Nat} {vs : List V} {xs : List Value} (h : VRs ρ n vs xs) : VR ρ n (.tup vs) (.tuple xs.toArray) := .tup _ _ h.1 h.2
theorem VR.agg_inv {n : Nat} {vs : List V} {x : Value} (h : VR ρ n (.agg vs) x) : ∃ xs : List Value, x = .agg xs.toArray ∧ VRs ρ n vs xs := by
  cases h with
  | agg cells xs h1 h2 => exact ⟨xs, rfl, h1, h2⟩
theorem VR.tup_inv {n : Nat} {vs : List V} {x : Value} (h : VR ρ n (.tup vs) x) : ∃ xs : List Value, x = .tuple xs.toArray ∧ VRs ρ n vs xs := by
  cases h with
  | tup cells xs h1 h2 => exact ⟨xs, rfl, h1, h2⟩

/-- A row of operands. -/
theorem SRel.evs (h : SRel N n0 ρ E G a w) {xs : List Operand} (hx : xs.all (Operand.fits N) = true) : VRs ρ G.next (xs.map (vev E)) (xs.map a.eval) := by
  induction xs with
  | nil => exact VRs.nil
  | cons x r ih =>
    simp only [List.all_cons, Bool.and_eq_true] at hx
    exact VRs.cons (h.ev hx.1) (ih hx.2)

/-! ### Numbers, bools, strings -/
theorem toList_mk (l : List UInt8) : (⟨l.toArray⟩ : ByteArray).toList = l := by
  rw [ByteArray.toList_eq]
theorem mk_inj {a b : List UInt8} : ((⟨a.toArray⟩ : ByteArray) = ⟨b.toArray⟩) ↔ a = b := by simp
theorem size_mk (l : List UInt8) : (⟨l.toArray⟩ : ByteArray).size = l.length := by simp [ByteArray.size]
theorem append_mk (a b : List UInt8) : (⟨a.toArray⟩ : ByteArray) ++ ⟨b.toArray⟩ = ⟨(a ++ b).toArray⟩ := by
  apply ByteArray.ext
  simp
theorem strLess_eq : ∀ a b : List UInt8, Op.bytesLess a b = strLess a b
  | _, [] => by cases ‹List UInt8› <;> rfl
  | [], _ :: _ => rfl
  | a :: x, b :: y => by simp [Op.bytesLess, strLess, strLess_eq x y]

theorem beq_dec (i j : List UInt8) : (i == j) = decide (i = j) := by rw [Bool.eq_iff_iff]; simp
theorem beq_int (i j : Int) : (i == j) = decide (i = j) := by rw [Bool.eq_iff_iff]; simp
theorem bne_int (i j : Int) : (i != j) = decide (i ≠ j) := by rw [Bool.eq_iff_iff]; simp

theorem eqGuard_int (op : BinOp) (t : TypeId) (X Y : Operand) (k k' : IntKind) (i j : Int) : (eqGuard op t X Y (.int k i) (.int k' j)).run P w = .ok () w := by
  unfold eqGuard
  split <;> simp
theorem eqGuard_str (op : BinOp) (t : TypeId) (X Y : Operand) (i j : ByteArray) : (eqGuard op t X Y (.string i) (.string j)).run P w = .ok () w := by
  unfold eqGuard
  split <;> simp

theorem vbin_int {op : BinOp} {t : TypeId} {cx cy : Bool} {k k' : IntKind} {i j : Int} {p : Prop} {r : V} (h : vbin P op t cx cy (.int k i) (.int k' j) = some (p, r)) (hp : p) :
    ∃ z, (binOp op t (.int k i) (.int k' j)).run P w = .ok z w ∧ ∀ n, VR ρ n r z := by
  by_cases hs : op = .shl ∨ op = .shr
  · rcases hs with rfl | rfl
    · simp only [vbin, Option.some.injEq, Prod.mk.injEq] at h
      obtain ⟨rfl, rfl⟩ := h
      exact ⟨_, by simp [binOp, Op.shift, Int.not_lt.2 hp], fun _ => .int _ _⟩
    · simp only [vbin, Option.some.injEq, Prod.mk.injEq] at h
      obtain ⟨rfl, rfl⟩ := h
      exact ⟨_, by simp [binOp, Op.shift, Int.not_lt.2 hp], fun _ => .int _ _⟩
  by_cases hk : k = k'
  case neg => cases op <;> simp [vbin, hk] at h <;> simp at hs
  subst hk
  cases op <;> simp only [vbin, if_true, Option.some.injEq, Prod.mk.injEq] at h
  case shl => simp at hs
  case shr => simp at hs
  all_goals obtain ⟨rfl, rfl⟩ := h
  case add => exact ⟨_, by simp [binOp, Op.intArith], fun _ => .int _ _⟩
  case sub => exact ⟨_, by simp [binOp, Op.intArith], fun _ => .int _ _⟩
  case mul => exact ⟨_, by simp [binOp, Op.intArith], fun _ => .int _ _⟩
  case quo => exact ⟨_, by simp [binOp, Op.intDiv, hp], fun _ => .int _ _⟩
  case rem => exact ⟨_, by simp [binOp, Op.intDiv, hp], fun _ => .int _ _⟩
  case and => exact ⟨_, by simp only [binOp, Op.intBits, ne_eq, not_true_eq_false, if_false]; rfl, fun _ => .int _ _⟩
  case or => exact ⟨_, by simp only [binOp, Op.intBits, ne_eq, not_true_eq_false, if_false]; rfl, fun _ => .int _ _⟩
  case xor => exact ⟨_, by simp only [binOp, Op.intBits, ne_eq, not_true_eq_false, if_false]; rfl, fun _ => .int _ _⟩
  case andNot => exact ⟨_, by simp only [binOp, Op.intBits, ne_eq, not_true_eq_false, if_false]; rfl, fun _ => .int _ _⟩
  case eql => exact ⟨.bool (i == j), by simp [binOp, Op.intCmp], fun _ => (VR.bool _).castV (by rw [beq_int])⟩
  case neq => exact ⟨.bool (i != j), by simp [binOp, Op.intCmp], fun _ => (VR.bool _).castV (by rw [bne_int])⟩
  case lss => exact ⟨_, by simp [binOp, Op.intCmp], fun _ => .bool _⟩
  case leq => exact ⟨_, by simp [binOp, Op.intCmp], fun _ => .bool _⟩
  case gtr => exact ⟨_, by simp [binOp, Op.intCmp], fun _ => .bool _⟩
  case geq => exact ⟨_, by simp [binOp, Op.intCmp], fun _ => .bool _⟩

theorem vbin_str {op : BinOp} {t : TypeId} {cx cy : Bool} {i j : List UInt8} {p : Prop} {r : V} (h : vbin P op t cx cy (.str i) (.str j) = some (p, r)) (hp : p) :
    ∃ z, (binOp op t (.string ⟨i.toArray⟩) (.string ⟨j.toArray⟩)).run P w = .ok z w ∧ ∀ n, VR ρ n r z := by
  cases op <;> simp only [vbin, Option.some.injEq, Prod.mk.injEq, reduceCtorEq] at h <;> obtain ⟨rfl, rfl⟩ := h
  case add =>
    refine ⟨.string ⟨(i ++ j).toArray⟩, ?_, fun _ => .str _⟩
    simp only [binOp, Op.stringOp, size_mk, append_mk]
    rw [if_neg]
    · rfl
    · have : IntKind.i64.max = 9223372036854775807 := by decide
      rw [this]; omega
  case eql => exact ⟨.bool (i == j), by simp [binOp, Op.stringOp, toList_mk], fun _ => (VR.bool _).castV (by rw [beq_dec])⟩
  case neq => exact ⟨.bool (!(i == j)), by simp [binOp, Op.stringOp, toList_mk], fun _ => (VR.bool _).castV (by rw [beq_dec]; simp)⟩
  case lss => exact ⟨.bool (strLess i j), by simp [binOp, Op.stringOp, toList_mk, strLess_eq], fun _ => VR.bool _⟩
  case leq => exact ⟨.bool (strLess i j || (i == j)), by simp [binOp, Op.stringOp, toList_mk, strLess_eq], fun _ => (VR.bool _).castV (by rw [beq_dec])⟩
  case gtr => exact ⟨.bool (!(strLess i j || (i == j))), by simp [binOp, Op.stringOp, toList_mk, strLess_eq], fun _ => (VR.bool _).castV (by rw [beq_dec])⟩
  case geq => exact ⟨.bool (!strLess i j), by simp [binOp, Op.stringOp, toList_mk, strLess_eq], fun _ => VR.bool _⟩
end
end Go.Vf
