/- Of what the tokens of a joined text are: plain laws of Lex. -/
import Derived.Test.YtdplbmooogglaaaDoorLo
set_option linter.unusedVariables false
set_option linter.unusedSimpArgs false
namespace Go.Vf
open Go.Proofs Go.RowKit

theorem runN_cons_out {c : UInt8} {r set : List UInt8} (h : set.contains c = false) : runN (c :: r) set = 0 := by
  rw [runN_eq, List.takeWhile_cons, h]; rfl
theorem runN_cons_in {c : UInt8} {r set : List UInt8} (h : set.contains c = true) : 0 < runN (c :: r) set := by
  rw [runN_eq, List.takeWhile_cons, if_pos h]; simp
theorem runN_app {set : List UInt8} : ∀ {d : List UInt8}, (∀ b, b ∈ d → set.contains b = true) → ∀ r, runN (d ++ r) set = d.length + runN r set
  | [], _, r => by simp
  | c :: d, h, r => by
    have ih := runN_app (d := d) (fun b hb => h b (List.mem_cons_of_mem _ hb)) r
    rw [runN_eq] at *
    rw [List.cons_append, List.takeWhile_cons, if_pos (h c (List.mem_cons_self ..)), List.length_cons, ih, List.length_cons]
    omega
theorem take_takeWhile {α : Type} (p : α → Bool) : ∀ l : List α, l.take (l.takeWhile p).length = l.takeWhile p
  | [] => rfl
  | a :: l => by
    rw [List.takeWhile_cons]
    split
    · rw [List.length_cons, List.take_succ_cons, take_takeWhile p l]
    · rfl
theorem take_runN (s set : List UInt8) : s.take (runN s set) = s.takeWhile fun b => set.contains b := by
  rw [runN_eq, take_takeWhile]
theorem takeWhile_all {α : Type} {p : α → Bool} : ∀ (l : List α) (b : α), b ∈ l.takeWhile p → p b = true
  | [], b, h => by simp at h
  | a :: l, b, h => by
    rw [List.takeWhile_cons] at h
    split at h
    · rename_i hp
      rcases List.mem_cons.1 h with e | e
      · rw [e]; exact hp
      · exact takeWhile_all l b e
    · simp at h
theorem all_runN (s set : List UInt8) : ∀ b, b ∈ s.take (runN s set) → set.contains b = true := fun b hb => by
  rw [take_runN] at hb
  exact takeWhile_all (p := fun b => set.contains b) s b hb

/-- What does not go on with a token. -/
def Stops (r : List UInt8) : Prop := r = [] ∨ ∃ r', r = 32 :: r'
theorem Stops.run {r : List UInt8} (h : Stops r) {set : List UInt8} (hs : set.contains 32 = false) : runN r set = 0 := by
  rcases h with rfl | ⟨r', rfl⟩
  · exact runN_nil _
  · exact runN_cons_out hs

theorem digit_no_letter : ∀ b, b ∈ digitsL → lettersL.contains b = false := by decide
theorem digit_first {d : List UInt8} (hd : ∀ b, b ∈ d → digitsL.contains b = true) (hne : d ≠ []) (r : List UInt8) : runN (d ++ r) lettersL = 0 := by
  cases d with
  | nil => exact (hne rfl).elim
  | cons c d => exact runN_cons_out (digit_no_letter c (by simpa using hd c (List.mem_cons_self ..)))
theorem numN_app {d r : List UInt8} (hd : ∀ b, b ∈ d → digitsL.contains b = true) (hr : runN r digitsL = 0) :
    numN (d ++ r) = if List.isPrefixOf [46] r = true ∧ 0 < runN (r.drop 1) digitsL then d.length + (1 + runN (r.drop 1) digitsL) else d.length := by
  unfold numN
  rw [runN_app hd, hr, Nat.add_zero]
  have h1 : (d ++ r).drop d.length = r := by simp
  have h2 : (d ++ r).drop (d.length + 1) = r.drop 1 := by rw [← List.drop_drop, h1]
  rw [h1, h2]
theorem next_num {d r : List UInt8} (hd : ∀ b, b ∈ d → digitsL.contains b = true) (hne : d ≠ []) : nextL (d ++ r) = ⟨2, (d ++ r).take (numN (d ++ r)), numN (d ++ r), 0⟩ := by
  have h1 := digit_first hd hne r
  have h2 : 0 < runN (d ++ r) digitsL := by
    rw [runN_app hd]
    cases d with
    | nil => exact (hne rfl).elim
    | cons c d => simp; omega
  unfold nextL
  rw [if_neg (by omega), if_pos h2]
/-- Digits that end. -/
theorem next_num1 {d r : List UInt8} (hd : ∀ b, b ∈ d → digitsL.contains b = true) (hne : d ≠ []) (hr : runN r digitsL = 0) (h : ¬(List.isPrefixOf [46] r = true ∧ 0 < runN (r.drop 1) digitsL)) : nextL (d ++ r) = ⟨2, d, d.length, 0⟩ := by
  rw [next_num hd hne, numN_app hd hr, if_neg h]
  simp
/-- Digits, a dot, digits. -/
theorem next_num2 {d e r : List UInt8} (hd : ∀ b, b ∈ d → digitsL.contains b = true) (hne : d ≠ []) (he : ∀ b, b ∈ e → digitsL.contains b = true) (hee : e ≠ []) (hr : runN r digitsL = 0) :
    nextL (d ++ (46 :: (e ++ r))) = ⟨2, d ++ (46 :: e), (d ++ (46 :: e)).length, 0⟩ := by
  have h0 : runN (46 :: (e ++ r)) digitsL = 0 := runN_cons_out (by decide)
  have h1 : runN ((46 :: (e ++ r)).drop 1) digitsL = e.length := by
    show runN (e ++ r) digitsL = _
    rw [runN_app he, hr, Nat.add_zero]
  have h2 : 0 < e.length := by cases e with | nil => exact (hee rfl).elim | cons => simp
  have h3 : numN (d ++ (46 :: (e ++ r))) = (d ++ (46 :: e)).length := by
    rw [numN_app hd h0, if_pos ⟨rfl, by rw [h1]; exact h2⟩, h1]
    simp; omega
  rw [next_num hd hne, h3]
  have : d ++ 46 :: (e ++ r) = (d ++ 46 :: e) ++ r := by simp
  rw [this, List.take_left]

/-! ### lexGo, step by step -/
theorem lexGo_step {s : List UInt8} {f p : Nat} {acc : List Tok} {k : Int} {t : List UInt8} {n : Nat} (hp : p < s.length) (hn : nextL (s.drop p) = ⟨k, t, n, 0⟩) (ha : acc.length < 60) :
    lexGo s (f + 1) p acc = lexGo s f (p + n + runN (s.drop (p + n)) [32]) (acc ++ [⟨k, t, p⟩]) := by
  rw [lexGo, if_pos hp, hn]
  simp only
  rw [if_neg (by omega), if_neg (fun h => h rfl)]
theorem lexGo_end {s : List UInt8} {f p : Nat} {acc : List Tok} (hp : s.length ≤ p) : lexGo s (f + 1) p acc = ⟨acc, s.length, 0⟩ := by
  rw [lexGo, if_neg (by omega)]
theorem lexGo_bad {s : List UInt8} {f p : Nat} {acc : List Tok} (hp : p < s.length) (hn : (nextL (s.drop p)).err ≠ 0) : lexGo s (f + 1) p acc = ⟨[], p, (nextL (s.drop p)).err⟩ := by
  rw [lexGo, if_pos hp, if_neg (fun h => hn h.1), if_pos hn]
end Go.Vf
