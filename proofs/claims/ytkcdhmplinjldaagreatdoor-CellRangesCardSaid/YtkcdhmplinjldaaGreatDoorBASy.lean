/- A part of the proof: Sy. -/
import Derived.Test.YtkcdhmplinjldaaGreatDoorBASj
set_option linter.unusedVariables false
set_option linter.unusedSimpArgs false
namespace Go.Vf
open Go.Proofs Go.RowKit
theorem dropT {T r : List Tok} {i : Nat} {t : Tok} (h : T.drop i = t :: r) : i < T.length ∧ T.getD i ⟨0, [], 0⟩ = t ∧ T.drop (i + 1) = r := by
  have hl : i < T.length := by
    rcases Nat.lt_or_ge i T.length with h' | h'
    · exact h'
    · rw [List.drop_of_length_le h'] at h; cases h
  rw [List.drop_eq_getElem_cons hl] at h
  injection h with h1 h2
  exact ⟨hl, by rw [List.getD, List.getElem?_eq_getElem hl]; exact h1, h2⟩
def EndsT (q : List Tok) : Prop := q = [] ∨ ∃ w p r, q = ⟨4, w, p⟩ :: r ∧ (w = [44] ∨ w = [41])
theorem noOp_sign {T r : List Tok} {i : Nat} {w : List UInt8} {p : Int} (h : T.drop i = ⟨4, w, p⟩ :: r) (hw : w ∉ opsAll) : NoOp T ⟨i, 0, 0⟩ :=
  noOp_of fun t _ e => by
    rw [(dropT h).2.1] at e
    subst e
    exact ⟨rfl, hw⟩
theorem noOp_end {T q : List Tok} {i : Nat} (h : T.drop i = q) (hq : EndsT q) : NoOp T ⟨i, 0, 0⟩ := by
  rcases hq with rfl | ⟨w, p, r, rfl, hw⟩
  · refine noOp_of fun t hl _ => ?_
    have : T.length ≤ i := List.drop_eq_nil_iff.1 h
    simp only at hl
    omega
  · exact noOp_sign h (by rcases hw with rfl | rfl <;> decide)
theorem isT_at {T r : List Tok} {i : Nat} {k : Int} {t w : List UInt8} {p : Int} (h : T.drop i = ⟨k, t, p⟩ :: r) : isT T ⟨i, 0, 0⟩ 4 w = (decide (k = 4) && decide (t = w)) := by
  obtain ⟨h1, h2, _⟩ := dropT h
  rw [isT_sign]
  unfold signAt
  simp only
  rw [h2, decide_eq_true h1]
  simp
theorem isT_nil {T : List Tok} {i : Nat} {w : List UInt8} (h : T.drop i = []) : isT T ⟨i, 0, 0⟩ 4 w = false := by
  have : T.length ≤ i := List.drop_eq_nil_iff.1 h
  rw [isT_sign]; unfold signAt
  simp only
  rw [decide_eq_false (by omega : ¬i < T.length)]
  simp
theorem num_at {T r : List Tok} {en : Int} {i : Nat} {d : List UInt8} {p : Int} (h : T.drop i = ⟨2, d, p⟩ :: r) (hd : Digs d) (hn : NoOp T ⟨i + 1, 0, 0⟩) : exprT T en ⟨i, 0, 0⟩ = (numE d, ⟨i + 1, 0, 0⟩) ∧ tk T en i = ⟨numE d, ((i + 1 : Nat) : Int), 0, 0⟩ := by
  obtain ⟨h1, h2, _⟩ := dropT h
  have a1 := exprT_num (en := en) h1 (by rw [h2]) (by rw [h2]; exact hd.ok) hn
  have a2 := tk_num (en := en) h1 (by rw [h2]) (by rw [h2]; exact hd.ok) hn
  rw [h2] at a1 a2
  exact ⟨a1, a2⟩
theorem isRange_no {T : List Tok} {en : Int} {s : St} (h1 : isT T s 4 [91] = false) (h2 : isT T s 4 [40] = false) : isRangeT T en s = false := by
  unfold isRangeT; rw [h1, h2]; rfl
theorem ofOk_at {T r : List Tok} {i : Nat} {k : Int} {t b : List UInt8} {p : Int} (h : T.drop i = ⟨k, t, p⟩ :: r) : ofOk T ⟨i, 0, 0⟩ b = (decide (k = 4) && Lib.contains b (([32] ++ t) ++ [32])) := by
  obtain ⟨h1, h2, _⟩ := dropT h
  unfold ofOk nowT
  rw [if_neg (fun h => h rfl)]
  simp only
  rw [h2]
theorem nowT_at {T r : List Tok} {i : Nat} {t : Tok} (h : T.drop i = t :: r) : nowT T ⟨i, 0, 0⟩ = t := by
  unfold nowT
  rw [if_neg (fun h => h rfl)]
  exact (dropT h).2.1
theorem takeT_yes {T : List Tok} {i : Nat} {w : List UInt8} (h : isT T ⟨i, 0, 0⟩ 4 w = true) : takeT T ⟨i, 0, 0⟩ 4 w = ⟨i + 1, 0, 0⟩ := by unfold takeT; rw [if_pos h]
theorem it_test {T q : List Tok} {en : Int} {i p : Nat} : ∀ {x : It}, x.good → EndsT q → T.drop i = x.toks p ++ q → testT T en ⟨i, 0, 0⟩ = (x.te, ⟨i + (x.toks p).length, 0, 0⟩) ∧ T.drop (i + (x.toks p).length) = q
  | .cmp op d, hx, hq, h => by
    obtain ⟨ho, hd⟩ := hx
    by_cases o : op = []
    · subst o
      rw [toks_nil] at h ⊢
      rw [te_nil]
      have h1 := (dropT h).2.2
      have hn := noOp_end h1 hq
      have hr := isRange_no (en := en) (by rw [isT_at h]; rfl) (by rw [isT_at h]; rfl)
      have hok : ofOk T ⟨i, 0, 0⟩ relB = false := by rw [ofOk_at h]; rfl
      refine ⟨?_, h1⟩
      have hv : ofV T ⟨i, 0, 0⟩ relB = [] := by unfold ofV; rw [hok]; rfl
      have ht : ofT T ⟨i, 0, 0⟩ relB = ⟨i, 0, 0⟩ := by unfold ofT; rw [hok]; rfl
      unfold testT relT
      rw [if_neg (by rw [hr]; decide), if_pos hv, ht, (num_at h hd hn).1]
      rfl
    · have ho := ho.resolve_left o
      rw [toks_op o] at h ⊢
      rw [te_op o]
      have h1 := (dropT h).2.2
      have h2 := (dropT h1).2.2
      have hn := noOp_end h2 hq
      have hr := isRange_no (en := en) (by rw [isT_at h]; rcases ho with rfl | rfl | rfl <;> rfl) (by rw [isT_at h]; rcases ho with rfl | rfl | rfl <;> rfl)
      have hok : ofOk T ⟨i, 0, 0⟩ relB = true := by rw [ofOk_at h]; rcases ho with rfl | rfl | rfl <;> decide +kernel
      have hv : ofV T ⟨i, 0, 0⟩ relB = op := by unfold ofV; rw [if_pos hok, nowT_at h]
      have ht : ofT T ⟨i, 0, 0⟩ relB = ⟨i + 1, 0, 0⟩ := by unfold ofT; rw [if_pos hok]
      refine ⟨?_, h2⟩
      unfold testT relT
      rw [if_neg (by rw [hr]; decide), hv, if_neg o, ht, (num_at h1 hd hn).1]
      rfl
  | .rng p0 d e q0, hx, hq, h => by
    obtain ⟨⟨hp0, hq0⟩, hd, he⟩ := hx
    rw [toks_rng] at h ⊢
    have h1 := (dropT h).2.2
    have h2 := (dropT h1).2.2
    have h3 := (dropT h2).2.2
    have h4 := (dropT h3).2.2
    have h5 := (dropT h4).2.2
    have n2 := noOp_sign h2 (by decide)
    have n4 := noOp_sign h4 (by rcases hq0 with rfl | rfl <;> decide)
    obtain ⟨x1, t1⟩ := num_at (en := en) h1 hd n2
    obtain ⟨x3, t3⟩ := num_at (en := en) h3 he n4
    have ho : isT T ⟨i, 0, 0⟩ 4 [91] = true ∨ isT T ⟨i, 0, 0⟩ 4 [40] = true := by
      rw [isT_at h, isT_at h]
      rcases hp0 with rfl | rfl
      · left; rfl
      · right; rfl
    have hor : (isT T ⟨i, 0, 0⟩ 4 [91] || isT T ⟨i, 0, 0⟩ 4 [40]) = true := by rcases ho with h | h <;> rw [h] <;> simp
    have hsd : signAt T (i + 2) [46, 46] = true := by
      have := isT_at (w := [46, 46]) h2
      rw [isT_sign] at this
      simpa using this
    have hr : isRangeT T en ⟨i, 0, 0⟩ = true := by
      unfold isRangeT
      rw [hor]
      simp only
      rw [t1]
      simp only [Int.toNat_natCast, decide_true, Bool.true_and]
      exact hsd
    have hop := (open_eq (en := en) ho).2.2
    have ho1 : isT T ⟨i, 0, 0⟩ 4 [91] = decide (p0 = 91) := by
      rw [isT_at h]
      rcases hp0 with rfl | rfl <;> rfl
    have i2 : isT T ⟨i + 2, 0, 0⟩ 4 [46, 46] = true := by rw [isT_at h2]; rfl
    have i4 : isT T ⟨i + 4, 0, 0⟩ 4 [93] = decide (q0 = 93) := by
      rw [isT_at h4]
      rcases hq0 with rfl | rfl <;> rfl
    have c4 : opT T en ⟨i + 4, 0, 0⟩ [93] [41] = ⟨i + 5, 0, 0⟩ := by
      have i41 : isT T ⟨i + 4, 0, 0⟩ 4 [41] = decide (q0 = 41) := by rw [isT_at h4]; rcases hq0 with rfl | rfl <;> rfl
      unfold opT
      rcases hq0 with rfl | rfl
      · rw [if_pos (by rw [i4]; rfl), takeT_yes (by rw [i4]; rfl)]
      · have n93 : isT T ⟨i + 4, 0, 0⟩ 4 [93] = false := by rw [i4]; rfl
        rw [if_neg (by rw [n93]; decide), takeT_no n93, i41, takeT_yes (by rw [i41]; rfl)]
        rfl
    refine ⟨?_, h5⟩
    unfold testT rangedT
    rw [if_pos hr, hop]
    simp only
    rw [x1]
    simp only
    rw [i2, takeT_yes i2]
    have m3 : mustT T en ⟨i + 2 + 1, 0, 0⟩ true = ⟨i + 3, 0, 0⟩ := rfl
    simp only [Nat.add_assoc, Nat.reduceAdd] at m3 ⊢
    rw [m3, x3]
    simp only
    rw [i4, ho1, c4]
    rfl
def EndsN (q : List Tok) : Prop := q = [] ∨ ∃ p r, q = ⟨4, [41], p⟩ :: r
theorem EndsN.t {q : List Tok} (h : EndsN q) : EndsT q := by
  rcases h with rfl | ⟨p, r, rfl⟩
  · exact .inl rfl
  · exact .inr ⟨_, _, _, rfl, .inr rfl⟩
theorem row_tests {T q : List Tok} {en : Int} : ∀ (l : List It) (i p : Nat) (acc : List Te) (f : Nat), (∀ x, x ∈ l → x.good) → l ≠ [] → l.length ≤ f → EndsN q → T.drop i = rowToks p l ++ q →
    testsT z1 T en f acc ⟨i, 0, 0⟩ = (acc ++ l.map It.te, ⟨i + (rowToks p l).length, 0, 0⟩) ∧ T.drop (i + (rowToks p l).length) = q
  | [a], i, p, acc, f, h, _, hf, hq, hd => by
    obtain ⟨f', rfl⟩ : ∃ f', f = f' + 1 := ⟨f - 1, by simp at hf; omega⟩
    obtain ⟨h1, h2⟩ := it_test (en := en) (h a List.mem_cons_self) hq.t hd
    rw [testsT, h1]
    have hc : isT T ⟨i + (a.toks p).length, 0, 0⟩ 4 [44] = false := by
      rcases hq with rfl | ⟨p', r, rfl⟩
      · exact isT_nil h2
      · rw [isT_at h2]; rfl
    simp only
    rw [if_neg (by rw [hc]; decide)]
    exact ⟨rfl, h2⟩
  | a :: b :: r, i, p, acc, f, h, _, hf, hq, hd => by
    obtain ⟨f', rfl⟩ : ∃ f', f = f' + 1 := ⟨f - 1, by simp at hf; omega⟩
    rw [rowToks, List.append_assoc] at hd
    obtain ⟨h1, h2⟩ := it_test (en := en) (h a List.mem_cons_self) (.inr ⟨_, _, _, rfl, .inl rfl⟩) hd
    rw [testsT, h1]
    have hc : isT T ⟨i + (a.toks p).length, 0, 0⟩ 4 [44] = true := by rw [isT_at h2]; rfl
    simp only
    rw [if_pos hc, takeT_yes hc]
    have h3 := (dropT h2).2.2
    obtain ⟨e1, e2⟩ := row_tests (b :: r) (i + (a.toks p).length + 1) (p + a.txt.length + 2) (acc ++ [a.te]) f' (fun x hx => h x (List.mem_cons_of_mem _ hx)) (by simp) (by simp at hf ⊢; omega) hq h3
    have el : i + (rowToks p (a :: b :: r)).length = i + (a.toks p).length + 1 + (rowToks (p + a.txt.length + 2) (b :: r)).length := by rw [rowToks]; simp; omega
    rw [el, e1]
    exact ⟨by simp, e2⟩
theorem it_toks_le (x : It) (p : Nat) (hx : x.good) : (x.toks p).length ≤ x.txt.length ∧ 1 ≤ (x.toks p).length := by
  cases x with
  | cmp op d =>
    have hd := List.length_pos_iff.2 hx.2.ne
    by_cases o : op = []
    · subst o
      rw [toks_nil, txt_nil]
      exact ⟨by simp; omega, by simp⟩
    · have := List.length_pos_iff.2 o
      rw [toks_op o, txt_op o]
      exact ⟨by simp; omega, by simp⟩
  | rng p0 d e q =>
    have hd := List.length_pos_iff.2 hx.2.1.ne
    have he := List.length_pos_iff.2 hx.2.2.ne
    rw [toks_rng, txt_rng]
    exact ⟨by simp; omega, by simp⟩
theorem row_toks_le : ∀ (l : List It) (p : Nat), (∀ x, x ∈ l → x.good) → (rowToks p l).length ≤ (rowTxt l).length
  | [], p, _ => Nat.le_refl _
  | [a], p, h => (it_toks_le a p (h a List.mem_cons_self)).1
  | a :: b :: r, p, h => by
    have h1 := (it_toks_le a p (h a List.mem_cons_self)).1
    have h2 := row_toks_le (b :: r) (p + a.txt.length + 2) fun x hx => h x (List.mem_cons_of_mem _ hx)
    rw [rowToks, rowTxt]
    simp only [List.length_append, List.length_cons] at *
    omega
theorem row_lex0 {l : List It} (h : ∀ x, x ∈ l → x.good) (hl : l ≠ []) (h6 : l.length ≤ 6) (h2 : (rowTxt l).length ≤ 200) : lexL (rowTxt l) = ⟨rowToks 0 l, (rowTxt l).length, 0⟩ := by
  have hb := row_first h hl []
  rw [List.append_nil] at hb
  have hle := row_toks_le l 0 h
  rw [lexL_short h2 hb]
  obtain ⟨m, hm⟩ : ∃ m, (rowTxt l).length + 1 = (m + 1) + (rowToks 0 l).length := ⟨(rowTxt l).length - (rowToks 0 l).length, by omega⟩
  rw [hm]
  obtain ⟨e1, e2⟩ := row_lex (f := m + 1) (acc := []) h hl (.inl rfl) (by rw [List.drop_zero, List.append_nil]) (by simp; omega)
  rw [e1, lexGo_end (by omega)]
  rfl
theorem first_tok {x : It} (hx : x.good) (p : Nat) : ∃ t r, x.toks p = t :: r ∧ (t.kind = 2 ∨ (t.kind = 4 ∧ t.text ≠ [45])) := by
  cases x with
  | cmp op d =>
    by_cases o : op = []
    · subst o
      exact ⟨_, _, rfl, .inl rfl⟩
    · rw [toks_op o]
      refine ⟨_, _, rfl, .inr ⟨rfl, ?_⟩⟩
      rcases hx.1.resolve_left o with rfl | rfl | rfl
      · exact (by decide : ([60] : List UInt8) ≠ [45])
      · exact (by decide : ([62, 61] : List UInt8) ≠ [45])
      · exact (by decide : ([33, 61] : List UInt8) ≠ [45])
  | rng p0 d e q =>
    refine ⟨_, _, rfl, .inr ⟨rfl, ?_⟩⟩
    rcases hx.1.1 with rfl | rfl
    · exact (by decide : ([91] : List UInt8) ≠ [45])
    · exact (by decide : ([40] : List UInt8) ≠ [45])
theorem row_tok {l : List It} (h : ∀ x, x ∈ l → x.good) (hl : l ≠ []) (p : Nat) : ∃ t r, rowToks p l = t :: r ∧ (t.kind = 2 ∨ (t.kind = 4 ∧ t.text ≠ [45])) := by
  cases l with
  | nil => exact (hl rfl).elim
  | cons a r =>
    obtain ⟨t, q, e1, e2⟩ := first_tok (h a List.mem_cons_self) p
    cases r with
    | nil => exact ⟨t, q, e1, e2⟩
    | cons b r => rw [rowToks, e1]; exact ⟨t, _, rfl, e2⟩
theorem parse_row {l : List It} (h : ∀ x, x ∈ l → x.good) (hl : l ≠ []) (h6 : l.length ≤ 6) (h2 : (rowTxt l).length ≤ 200) : parseC z1 (rowTxt l) = ⟨l.map It.te, (rowTxt l).length, 0⟩ := by
  have hx := row_lex0 h hl h6 h2
  obtain ⟨t, r, e1, e2⟩ := row_tok h hl 0
  have hc : cellT z1 (rowToks 0 l) (rowTxt l).length = (l.map It.te, ⟨(rowToks 0 l).length, 0, 0⟩) := by
    obtain ⟨a1, a2⟩ := row_tests (T := rowToks 0 l) (q := []) (en := (rowTxt l).length) l 0 0 [] 6 h hl h6 (.inl rfl) (by simp)
    rw [Nat.zero_add] at a1
    unfold cellT
    have g0 : (rowToks 0 l).getD 0 ⟨0, [], 0⟩ = t := by rw [e1]; rfl
    have n1 : ¬((rowToks 0 l).length = 1 ∧ signAt (rowToks 0 l) 0 [45] = true) := fun hh => by
      have := hh.2
      unfold signAt at this
      rw [g0] at this
      simp only [Bool.and_eq_true, decide_eq_true_eq] at this
      rcases e2 with e2 | e2
      · rw [e2] at this; exact absurd this.2.1 (by decide)
      · exact e2.2 this.2.2
    have n2 : ¬(((rowToks 0 l).getD 0 ⟨0, [], 0⟩).kind = 1 ∧ ((rowToks 0 l).getD 0 ⟨0, [], 0⟩).text = [110, 111, 116] ∧ signAt (rowToks 0 l) 1 [40] = true) := fun hh => by
      have := hh.1
      rw [g0] at this
      rcases e2 with e2 | e2
      · rw [e2] at this; exact absurd this (by decide)
      · rw [e2.1] at this; exact absurd this (by decide)
    rw [if_neg n1, if_neg n2, a1]
    rfl
  unfold parseC
  rw [hx]
  simp only [if_true]
  rw [hc]
  have hd : decide ((rowToks 0 l).length ≤ (rowToks 0 l).length) = true := by simp
  simp only
  rw [hd, mustT_true, if_pos rfl]
theorem not_next (r : List UInt8) : nextL (110 :: 111 :: 116 :: 40 :: r) = ⟨1, [110, 111, 116], 3, 0⟩ := by
  have h1 : 0 < runN (110 :: 111 :: 116 :: 40 :: r) lettersL := runN_cons_in (by decide)
  have h2 : runN (110 :: 111 :: 116 :: 40 :: r) namesL = 3 := by
    have := runN_app2 (set := namesL) (d := [110, 111, 116]) (by decide) (40 :: r)
    rw [runN_cons_out (by decide : namesL.contains (40 : UInt8) = false)] at this
    exact this
  unfold nextL
  rw [if_pos h1, h2, if_neg (by omega)]
  rfl
def notTxt (l : List It) : List UInt8 := [110, 111, 116, 40] ++ rowTxt l ++ [41]
def notToks (l : List It) : List Tok := ⟨1, [110, 111, 116], 0⟩ :: ⟨4, [40], 3⟩ :: (rowToks 4 l ++ [⟨4, [41], ((4 + (rowTxt l).length : Nat) : Int)⟩])
theorem not_lex {l : List It} (h : ∀ x, x ∈ l → x.good) (hl : l ≠ []) (h6 : l.length ≤ 6) (h2 : (rowTxt l).length ≤ 190) : lexL (notTxt l) = ⟨notToks l, (notTxt l).length, 0⟩ := by
  have hlen : (notTxt l).length = (rowTxt l).length + 5 := by unfold notTxt; simp only [List.length_append, List.length_cons, List.length_nil]; omega
  have hle := row_toks_le l 4 h
  have hb : runN (notTxt l) [32] = 0 := runN_cons_out (by decide)
  rw [lexL_short (by omega) hb]
  obtain ⟨m, hm⟩ : ∃ m, (notTxt l).length + 1 = m + 1 + 1 + (rowToks 4 l).length + 1 + 1 := ⟨(rowTxt l).length + 2 - (rowToks 4 l).length, by omega⟩
  have d0 : (notTxt l).drop 0 = [110, 111, 116] ++ ([40] ++ (rowTxt l ++ [41])) := by unfold notTxt; simp
  obtain ⟨a1, b1⟩ := lex_step (f := m + 1 + 1 + (rowToks 4 l).length + 1) (acc := []) d0 (by simp) (not_next _) (by simp) (runN_cons_out (by decide))
  obtain ⟨a2, b2⟩ := lex_step (f := m + 1 + 1 + (rowToks 4 l).length) (acc := [⟨1, [110, 111, 116], 0⟩]) b1 (by simp) (sign_next _ (by simp)) (by simp) (row_first h hl _)
  obtain ⟨a3, b3⟩ := row_lex (f := m + 1 + 1) (acc := [⟨1, [110, 111, 116], 0⟩, ⟨4, [40], 3⟩]) h hl (.inr (.inr ⟨[], rfl⟩)) b2 (by simp; omega)
  have b3' : (notTxt l).drop (4 + (rowTxt l).length) = [41] ++ [] := b3
  have a3' : lexGo (notTxt l) (m + 1 + 1 + (rowToks 4 l).length) 4 [⟨1, [110, 111, 116], 0⟩, ⟨4, [40], 3⟩] = lexGo (notTxt l) (m + 1 + 1) (4 + (rowTxt l).length) ([⟨1, [110, 111, 116], 0⟩, ⟨4, [40], 3⟩] ++ rowToks 4 l) := a3
  have acc3 : ([⟨1, [110, 111, 116], 0⟩, ⟨4, [40], 3⟩] ++ rowToks 4 l : List Tok).length < 60 := by
    have : ∀ (l : List It) (p : Nat), (rowToks p l).length ≤ 6 * l.length := fun l => by
      induction l with
      | nil => intro p; exact Nat.le_refl _
      | cons a r ih =>
        intro p
        have h1 := toks_le a p
        cases r with
        | nil => rw [rowToks]; simp; omega
        | cons b r => have := ih (p + a.txt.length + 2); rw [rowToks]; simp only [List.length_append, List.length_cons] at *; omega
    have := this l 4
    simp only [List.length_append, List.length_cons, List.length_nil] at *
    omega
  obtain ⟨a4, b4⟩ := lex_step (f := m + 1) (acc := [⟨1, [110, 111, 116], 0⟩, ⟨4, [40], 3⟩] ++ rowToks 4 l) b3' (by simp) (sign_next _ (by simp)) acc3 (runN_nil _)
  have a1' : lexGo (notTxt l) (m + 1 + 1 + (rowToks 4 l).length + 1 + 1) 0 [] = lexGo (notTxt l) (m + 1 + 1 + (rowToks 4 l).length + 1) 3 [⟨1, [110, 111, 116], 0⟩] := a1
  have a2' : lexGo (notTxt l) (m + 1 + 1 + (rowToks 4 l).length + 1) 3 [⟨1, [110, 111, 116], 0⟩] = lexGo (notTxt l) (m + 1 + 1 + (rowToks 4 l).length) 4 [⟨1, [110, 111, 116], 0⟩, ⟨4, [40], 3⟩] := a2
  rw [hm, a1', a2', a3', a4, lexGo_end (by rw [hlen]; simp; omega)]
  unfold notToks
  simp
theorem parse_not {l : List It} (h : ∀ x, x ∈ l → x.good) (hl : l ≠ []) (h6 : l.length ≤ 6) (h2 : (rowTxt l).length ≤ 190) : parseC z1 (notTxt l) = ⟨[.mk 4 [] Ex.zero Ex.zero false false (l.map It.te)], (notTxt l).length, 0⟩ := by
  have hx := not_lex h hl h6 h2
  have hc : cellT z1 (notToks l) (notTxt l).length = ([.mk 4 [] Ex.zero Ex.zero false false (l.map It.te)], ⟨(notToks l).length, 0, 0⟩) := by
    have hd : (notToks l).drop 2 = rowToks 4 l ++ [⟨4, [41], ((4 + (rowTxt l).length : Nat) : Int)⟩] := rfl
    obtain ⟨a1, a2⟩ := row_tests (T := notToks l) (en := (notTxt l).length) l 2 4 [] 6 h hl h6 (.inr ⟨_, _, rfl⟩) hd
    have hc : isT (notToks l) ⟨2 + (rowToks 4 l).length, 0, 0⟩ 4 [41] = true := by rw [isT_at a2]; rfl
    have hlen : (notToks l).length = 2 + (rowToks 4 l).length + 1 := by unfold notToks; simp; omega
    unfold cellT
    have n1 : ¬((notToks l).length = 1 ∧ signAt (notToks l) 0 [45] = true) := fun hh => by omega
    have n2 : ((notToks l).getD 0 ⟨0, [], 0⟩).kind = 1 ∧ ((notToks l).getD 0 ⟨0, [], 0⟩).text = [110, 111, 116] ∧ signAt (notToks l) 1 [40] = true := by
      refine ⟨rfl, rfl, ?_⟩
      unfold signAt
      have : decide (1 < (notToks l).length) = true := by rw [hlen]; simp; omega
      rw [this]; rfl
    rw [if_neg n1, if_pos n2, a1]
    simp only [List.nil_append]
    rw [hc, takeT_yes hc, mustT_true, hlen]
  unfold parseC
  rw [hx]
  simp only [if_true]
  rw [hc]
  have hd : decide ((notToks l).length ≤ (notToks l).length) = true := by simp
  simp only
  rw [hd, mustT_true, if_pos rfl]
end Go.Vf
