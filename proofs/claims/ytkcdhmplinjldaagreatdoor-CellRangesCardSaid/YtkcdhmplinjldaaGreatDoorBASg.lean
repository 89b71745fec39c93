/- A part of the proof: Sg, Si. -/
import Derived.Test.YtkcdhmplinjldaaGreatDoorBASb
set_option linter.unusedVariables false
set_option linter.unusedSimpArgs false
namespace Go.Vf
open Go.Proofs Go.RowKit
def Vl.m : Vl → Int | .mk _ _ m _ _ _ => m
def Vl.s : Vl → Int | .mk _ _ _ s _ _ => s
def Vl.t : Vl → List UInt8 | .mk _ _ _ _ t _ => t
def Vl.l : Vl → List Vl | .mk _ _ _ _ _ l => l
def areK (k : Int) : List Vl → Bool
  | [] => true
  | a :: r => decide (a.kind = k) && areK k r
def loB (lo : Bool) : List UInt8 := if lo = true then [62, 61] else [62]
def hiB (hi : Bool) : List UInt8 := if hi = true then [60, 61] else [60]
mutual
def holdsT (ev : Ex → Vl × Int) (v : Vl) : Te → Bool × Int
  | .mk k r a b lo hi ks =>
    if k = 1 then (true, 0)
    else if k = 2 then (decide ((ev a).2 = 0) && truthV (relV r v (ev a).1), (ev a).2)
    else if k = 3 then (if (ev a).2 ≠ 0 then (false, (ev a).2) else if (ev b).2 ≠ 0 then (false, (ev b).2) else (truthV (relV (loB lo) v (ev a).1) && truthV (relV (hiB hi) v (ev b).1), 0))
    else if k = 4 then (decide ((matchT ev v ks).2 = 0) && !(matchT ev v ks).1, (matchT ev v ks).2)
    else (false, 1)
def matchT (ev : Ex → Vl × Int) (v : Vl) : List Te → Bool × Int
  | [] => (false, 0)
  | t :: r => if (holdsT ev v t).1 = true ∨ (holdsT ev v t).2 ≠ 0 then holdsT ev v t else matchT ev v r
end
end Go.Vf
set_option linter.unusedVariables false
set_option linter.unusedSimpArgs false
namespace Go.Vf
open Go.Proofs Go.RowKit
theorem takeR_none2 {T : List Tok} {s : St} : ∀ ws : List (List UInt8), (∀ w, w ∈ ws → isR T s w = false) → takeR T s ws = ([], s)
  | [], _ => rfl
  | w :: r, h => by
    rw [takeR, if_neg (by rw [h w List.mem_cons_self]; decide)]
    exact takeR_none2 r fun x hx => h x (List.mem_cons_of_mem _ hx)
theorem rowP_one {T : List Tok} {kid : Kid} {op : St → List UInt8 × St} {s s' : St} {x : Ex} (hk : kid s = (x, s')) (ho : op s' = ([], s')) : rowP T kid op s = (x, s') := by
  unfold rowP
  rw [hk, rowGo, ho, if_pos rfl]
def opsAll : List (List UInt8) := [[43], [45], [42], [47], [60], [60, 61], [62], [62, 61], [61], [33, 61], inW, andW, orW]
def NoOp (T : List Tok) (s : St) : Prop := ∀ w, w ∈ opsAll → isR T s w = false
theorem noOp_of {T : List Tok} {s : St} (h : ∀ t, s.at_ < T.length → T.getD s.at_ ⟨0, [], 0⟩ = t → t.kind = 4 ∧ t.text ∉ opsAll) : NoOp T s := by
  intro w hw
  unfold isR
  by_cases hl : s.at_ < T.length
  · have h1 := h _ hl rfl
    have : decide ((T.getD s.at_ ⟨0, [], 0⟩).text = w) = false := decide_eq_false fun e => h1.2 (e ▸ hw)
    rw [this]; simp
  · simp [hl]
theorem isR_num {T : List Tok} {s : St} (h : (T.getD s.at_ ⟨0, [], 0⟩).kind = 2) (w : List UInt8) : isR T s w = false := by
  unfold isR; rw [h]; simp
def numE (d : List UInt8) : Ex := .mk 3 false (decA d).m (decA d).s [] false false []
theorem exR_num {T : List Tok} {en : Int} {a n : Nat} (ha : a < T.length) (h2 : (T.getD a ⟨0, [], 0⟩).kind = 2) (hd : (decA (T.getD a ⟨0, [], 0⟩).text).err = 0) (hn : NoOp T ⟨a + 1, 0, 0⟩) :
    exR T en decA (n + 1) ⟨a, 0, 0⟩ = (numE (T.getD a ⟨0, [], 0⟩).text, ⟨a + 1, 0, 0⟩) := by
  have hu : unR T en decA (n + 1) ⟨a, 0, 0⟩ = (numE (T.getD a ⟨0, [], 0⟩).text, ⟨a + 1, 0, 0⟩) := by
    rw [unR_succ, unSR, if_pos rfl, if_neg (by rw [isR_num h2]; decide), atomR, if_pos rfl, if_pos ha, atom1R, if_pos h2, numR, if_pos hd]
    rfl
  have hs : ∀ ws : List (List UInt8), (∀ w, w ∈ ws → w ∈ opsAll) → takeR T ⟨a + 1, 0, 0⟩ ws = ([], ⟨a + 1, 0, 0⟩) := fun ws h => takeR_none2 ws fun w hw => hn w (h w hw)
  have hmul := rowP_one (T := T) (op := opR T productsW) hu (hs productsW (by decide))
  have hadd : addR T (unR T en decA (n + 1)) ⟨a, 0, 0⟩ = (numE (T.getD a ⟨0, [], 0⟩).text, ⟨a + 1, 0, 0⟩) := rowP_one (T := T) (op := opR T sumsW) hmul (hs sumsW (by decide))
  have hcmp : cmpR T en (addR T (unR T en decA (n + 1))) (exR T en decA n) ⟨a, 0, 0⟩ = (numE (T.getD a ⟨0, [], 0⟩).text, ⟨a + 1, 0, 0⟩) := by
    unfold cmpR
    rw [hadd]
    simp only
    rw [hs relW (by decide), if_pos rfl, if_neg (by rw [hn inW (by decide)]; decide)]
  have hand : andR T en (exR T en decA n) (unR T en decA (n + 1)) ⟨a, 0, 0⟩ = (numE (T.getD a ⟨0, [], 0⟩).text, ⟨a + 1, 0, 0⟩) := rowP_one (T := T) (op := opR T [andW]) hcmp (hs [andW] (by decide))
  rw [exR_succ, exSR, if_pos rfl]
  exact rowP_one (T := T) (op := opR T [orW]) hand (hs [orW] (by decide))
theorem tk_num {T : List Tok} {en : Int} {a : Nat} (ha : a < T.length) (h2 : (T.getD a ⟨0, [], 0⟩).kind = 2) (hd : (decA (T.getD a ⟨0, [], 0⟩).text).err = 0) (hn : NoOp T ⟨a + 1, 0, 0⟩) :
    tk T en a = ⟨numE (T.getD a ⟨0, [], 0⟩).text, ((a + 1 : Nat) : Int), 0, 0⟩ := by
  unfold tk
  rw [exR_num ha h2 hd hn]
  rfl
theorem exprT_num {T : List Tok} {en : Int} {a : Nat} (ha : a < T.length) (h2 : (T.getD a ⟨0, [], 0⟩).kind = 2) (hd : (decA (T.getD a ⟨0, [], 0⟩).text).err = 0) (hn : NoOp T ⟨a + 1, 0, 0⟩) :
    exprT T en ⟨a, 0, 0⟩ = (numE (T.getD a ⟨0, [], 0⟩).text, ⟨a + 1, 0, 0⟩) := by
  unfold exprT
  rw [if_pos rfl]
  simp only [tk_num ha h2 hd hn, if_true, Int.toNat_natCast]
end Go.Vf
