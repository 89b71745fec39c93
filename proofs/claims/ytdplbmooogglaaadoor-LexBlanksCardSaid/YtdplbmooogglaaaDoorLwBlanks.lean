/- LexBlanks: tokens with more blanks between are the same ones, elsewhere: the plain law and the walk. -/
import Derived.Test.YtdplbmooogglaaaDoorLu
set_option linter.unusedVariables false
set_option linter.unusedSimpArgs false
namespace Go.Vf
open Go.Proofs Go.RowKit

def rep (n : Nat) (c : List UInt8) : List UInt8 := match n with | 0 => [] | n + 1 => rep n c ++ c
theorem rep_len {c : List UInt8} (h : c.length = 1) : ∀ n, (rep n c).length = n
  | 0 => rfl
  | n + 1 => by rw [rep, List.length_append, rep_len h n, h]
theorem rep_blank : ∀ (n : Nat) (r : List UInt8), runN (rep n [32] ++ r) [32] = n + runN r [32]
  | 0, r => by simp [rep]
  | n + 1, r => by
    have h : rep (n + 1) [32] ++ r = rep n [32] ++ (32 :: r) := by simp [rep]
    rw [h, rep_blank n, runN_eq, List.takeWhile_cons, if_pos (by decide), List.length_cons, ← runN_eq]
    omega
theorem rep_cons {n : Nat} (h : 1 ≤ n) : ∃ r, rep n [32] = 32 :: r := by
  induction n with
  | zero => omega
  | succ n ih =>
    by_cases h0 : 1 ≤ n
    · obtain ⟨r, hr⟩ := ih h0
      exact ⟨r ++ [32], by rw [rep, hr]; rfl⟩
    · have : n = 0 := by omega
      subst this
      exact ⟨[], rfl⟩

/-- A token as it is written. -/
def form (k : Int) (t : List UInt8) : List UInt8 := if k = 3 then ([34] ++ t) ++ [34] else t
/-- A token that is told by its form, whatever comes behind. -/
def Good (k : Int) (t : List UInt8) : Prop := ∀ r, Stops r → nextL (form k t ++ r) = ⟨k, t, (form k t).length, 0⟩

theorem textGo_split : ∀ (l : List UInt8) (i : Nat), textGo l i ≠ 0 → ∃ u v, l = u ++ 34 :: v ∧ textGo l i = i + u.length + 1 ∧ ∀ r, textGo (u ++ 34 :: r) i = i + u.length + 1
  | [], i, h => by simp [textGo] at h
  | b :: l, i, h => by
    unfold textGo at h
    split at h
    · rename_i h1
      split at h
      · rename_i h2
        have hb : b = 34 := UInt8.toNat_inj.1 h2
        subst hb
        exact ⟨[], l, rfl, by simp [textGo], fun r => by simp [textGo]⟩
      · rename_i h2
        obtain ⟨u, v, e1, e2, e3⟩ := textGo_split l (i + 1) h
        refine ⟨b :: u, v, by rw [e1]; rfl, ?_, fun r => ?_⟩
        · rw [textGo, if_pos h1, if_neg h2, e2, List.length_cons]; omega
        · rw [List.cons_append, textGo, if_pos h1, if_neg h2, e3, List.length_cons]; omega
    · exact (h rfl).elim
theorem signs_good : ∀ x, x ∈ signsF → Good 4 x := by
  have key : ∀ x, x ∈ signsF → (∃ c x', x = c :: x' ∧ lettersL.contains c = false ∧ digitsL.contains c = false ∧ c ≠ 34) ∧ x ≠ [] ∧ ∀ r, Stops r → signL (x ++ r) = x := by
    intro x hx
    simp only [signsF, List.mem_cons, List.not_mem_nil, or_false] at hx
    rcases hx with rfl | rfl | rfl | rfl | rfl | rfl | rfl | rfl | rfl | rfl | rfl | rfl | rfl | rfl | rfl | rfl
    all_goals
      refine ⟨⟨_, _, rfl, by decide, by decide, by decide⟩, by decide, ?_⟩
      rintro r (rfl | ⟨r', rfl⟩) <;> rfl
  intro x hx r hr
  obtain ⟨⟨c, x', e, h1, h2, h3⟩, hne, hs⟩ := key x hx
  have hs := hs r hr
  unfold form
  rw [if_neg (by decide)]
  unfold nextL
  rw [hs]
  subst e
  rw [List.cons_append, runN_cons_out h1, runN_cons_out h2]
  simp [h3]
theorem signGo_mem (s : List UInt8) : ∀ l, signGo s l ≠ [] → signGo s l ∈ l
  | [], h => (h rfl).elim
  | x :: r, h => by
    unfold signGo at *
    split
    · exact List.mem_cons_self ..
    · rename_i hx
      rw [if_neg hx] at h
      exact List.mem_cons_of_mem _ (signGo_mem s r h)
theorem letters_names : ∀ b, b ∈ lettersL → namesL.contains b = true := by decide
/-- **What was taken is taken again**, if a blank, or the end, stands behind it. -/
theorem nextL_good {s : List UInt8} (h0 : s ≠ []) (h : (nextL s).err = 0) : Good (nextL s).kind (nextL s).text := by
  unfold nextL at *
  split at h
  · rename_i c1
    rw [if_pos c1]
    split at h
    · cases h
    · rename_i c2
      rw [if_neg c2]
      intro r hr
      simp only [form]
      rw [if_neg (by decide)]
      have ha := all_runN s namesL
      have hlen : (s.take (runN s namesL)).length = runN s namesL := by have := runN_le s namesL; simp; omega
      have hfirst : 0 < runN (s.take (runN s namesL) ++ r) lettersL := by
        cases s with
        | nil => exact (h0 rfl).elim
        | cons c s' =>
          have hc : lettersL.contains c = true := by
            cases hc : lettersL.contains c with
            | true => rfl
            | false => rw [runN_cons_out hc] at c1; omega
          have hn : 0 < runN (c :: s') namesL := runN_cons_in (letters_names c (by simpa using hc))
          obtain ⟨m, hm⟩ : ∃ m, runN (c :: s') namesL = m + 1 := ⟨runN (c :: s') namesL - 1, by omega⟩
          rw [hm, List.take_succ_cons, List.cons_append]
          exact runN_cons_in hc
      have hrun : runN (s.take (runN s namesL) ++ r) namesL = runN s namesL := by rw [runN_app ha, hlen, hr.run (by decide), Nat.add_zero]
      generalize hx : s.take (runN s namesL) = x at *
      unfold nextL
      rw [if_pos hfirst, hrun]
      have htake : (x ++ r).take (runN s namesL) = x := List.take_left' hlen
      rw [htake, if_neg c2, hlen]
  · rename_i c1
    rw [if_neg c1]
    split at h
    · rename_i c2
      rw [if_pos c2]
      intro r hr
      simp only [form]
      rw [if_neg (by decide)]
      have hrd : runN r digitsL = 0 := hr.run (by decide)
      have hd := all_runN s digitsL
      have hne : s.take (runN s digitsL) ≠ [] := fun e => by
        have := congrArg List.length e
        simp only [List.length_take, List.length_nil] at this
        have := runN_le s digitsL
        omega
      by_cases c3 : List.isPrefixOf [46] (s.drop (runN s digitsL)) = true ∧ 0 < runN (s.drop (runN s digitsL + 1)) digitsL
      · have hn : numN s = runN s digitsL + (1 + runN (s.drop (runN s digitsL + 1)) digitsL) := by unfold numN; rw [if_pos c3]
        have he := all_runN (s.drop (runN s digitsL + 1)) digitsL
        have hee : (s.drop (runN s digitsL + 1)).take (runN (s.drop (runN s digitsL + 1)) digitsL) ≠ [] := fun e => by
          have := congrArg List.length e
          simp only [List.length_take, List.length_nil] at this
          have := runN_le (s.drop (runN s digitsL + 1)) digitsL
          omega
        have hdot : s.drop (runN s digitsL) = 46 :: s.drop (runN s digitsL + 1) := by
          obtain ⟨t, ht⟩ := List.isPrefixOf_iff_prefix.1 c3.1
          have : s.drop (runN s digitsL + 1) = t := by rw [← List.drop_drop, ← ht]; rfl
          rw [this, ← ht]; rfl
        have htext : s.take (numN s) = s.take (runN s digitsL) ++ 46 :: (s.drop (runN s digitsL + 1)).take (runN (s.drop (runN s digitsL + 1)) digitsL) := by
          rw [hn, List.take_add, hdot, Nat.add_comm 1, List.take_succ_cons]
        rw [htext]
        have := next_num2 hd hne he hee hrd
        rw [List.append_assoc, List.cons_append]
        exact this
      · have hn : numN s = runN s digitsL := by unfold numN; rw [if_neg c3]
        rw [hn]
        refine next_num1 hd hne hrd fun h => ?_
        rcases hr with rfl | ⟨r', rfl⟩
        · cases h.1
        · exact absurd h.1 (by simp [List.isPrefixOf])
    · rename_i c2
      rw [if_neg c2]
      split at h
      · rename_i c3
        rw [if_pos c3]
        split at h
        · cases h
        · rename_i c4
          rw [if_neg c4]
          split at h
          · cases h
          · rename_i c5
            rw [if_neg c5]
            obtain ⟨c, s', rfl⟩ : ∃ c s', s = c :: s' := by cases s with | nil => exact (h0 rfl).elim | cons c s' => exact ⟨c, s', rfl⟩
            have hc : c = 34 := c3
            subst hc
            obtain ⟨u, v, e1, e2, e3⟩ := textGo_split s' 1 c4
            have hN : textN (34 :: s') = 1 + u.length + 1 := e2
            have htext : ((34 :: s').take (textN (34 :: s') - 1)).drop 1 = u := by
              rw [hN, show 1 + u.length + 1 - 1 = u.length + 1 by omega, List.take_succ_cons, List.drop_succ_cons, List.drop_zero, e1, List.take_left]
            rw [htext]
            intro r hr
            have hform : form 3 u = 34 :: (u ++ [34]) := by unfold form; rw [if_pos rfl]; rfl
            have hN' : textN (form 3 u ++ r) = u.length + 2 := by
              rw [hform]
              show textGo ((u ++ [34]) ++ r) 1 = _
              rw [List.append_assoc]
              show textGo (u ++ 34 :: r) 1 = _
              rw [e3]; omega
            have hlen : (form 3 u).length = u.length + 2 := by rw [hform]; simp
            have l1 : runN (form 3 u ++ r) lettersL = 0 := by rw [hform]; exact runN_cons_out (by decide)
            have l2 : runN (form 3 u ++ r) digitsL = 0 := by rw [hform]; exact runN_cons_out (by decide)
            have l3 : (form 3 u ++ r).getD 0 0 = 34 := by rw [hform]; rfl
            have l4 : ((form 3 u ++ r).take (u.length + 2 - 1)).drop 1 = u := by
              rw [hform, show u.length + 2 - 1 = u.length + 1 by omega, List.cons_append, List.take_succ_cons, List.drop_succ_cons, List.drop_zero, List.append_assoc, List.take_left]
            unfold nextL
            rw [l1, l2, hN', l4, hlen]
            rw [if_neg (by omega), if_neg (by omega), if_pos l3, if_neg (by omega), if_neg (by omega)]
      · rename_i c3
        rw [if_neg c3]
        split at h
        · cases h
        · rename_i c4
          rw [if_neg c4]
          exact signs_good _ (signGo_mem s signsF c4)

theorem Good.ne {k : Int} {t : List UInt8} (h : Good k t) : form k t ≠ [] := fun e => by
  have := h [] (.inl rfl)
  rw [e] at this
  have e2 := congrArg Took.err this
  rw [show (nextL ([] ++ [])).err = 2 from rfl] at e2
  exact absurd e2 (by simp)
theorem blank_next (r : List UInt8) : (nextL (32 :: r)).err = 2 := by
  have h1 : runN (32 :: r) lettersL = 0 := runN_cons_out (by decide)
  have h2 : runN (32 :: r) digitsL = 0 := runN_cons_out (by decide)
  unfold nextL
  rw [h1, h2]
  rfl
theorem Good.first {k : Int} {t : List UInt8} (h : Good k t) (r : List UInt8) : runN (form k t ++ r) [32] = 0 := by
  have hne := h.ne
  have h1 := h [] (.inl rfl)
  cases hf : form k t with
  | nil => exact (hne hf).elim
  | cons c x =>
    rw [List.cons_append]
    refine runN_cons_out ?_
    cases hc : ([32] : List UInt8).contains c with
    | false => rfl
    | true =>
      have hc : c = 32 := by simpa using hc
      subst hc
      rw [hf, List.append_nil] at h1
      have := congrArg Took.err h1
      rw [blank_next] at this
      exact absurd this (by simp)

def AllGood (l : List Tok) : Prop := ∀ t, t ∈ l → Good t.kind t.text
theorem lexGo_good {s : List UInt8} : ∀ {f p : Nat} {acc : List Tok}, AllGood acc → AllGood (lexGo s f p acc).toks
  | 0, _, _, _ => by intro t ht; simp [lexGo] at ht
  | f + 1, p, acc, h => by
    unfold lexGo
    split
    · rename_i hp
      split
      · intro t ht; simp at ht
      · split
        · intro t ht; simp at ht
        · rename_i c2
          refine lexGo_good fun t ht => ?_
          rcases List.mem_append.1 ht with ht | ht
          · exact h t ht
          · have : t = ⟨(nextL (s.drop p)).kind, (nextL (s.drop p)).text, p⟩ := by simpa using ht
            rw [this]
            exact nextL_good (by rw [ne_eq, List.drop_eq_nil_iff]; omega) (Classical.not_not.1 c2)
    · exact h
theorem lexL_good (s : List UInt8) : AllGood (lexL s).toks := by
  unfold lexL
  split
  · intro t ht; simp at ht
  · exact lexGo_good fun t ht => by simp at ht

theorem nextL_textlen {s : List UInt8} (h0 : s ≠ []) : (nextL s).text.length ≤ s.length := by
  have l4 : (signL s).length ≤ s.length := by
    rcases signGo_pre s signsF with h | h
    · unfold signL; rw [h]; simp
    · exact (List.isPrefixOf_iff_prefix.1 h).length_le
  unfold nextL
  split
  · split
    · simp
    · simp [List.length_take]; omega
  · split
    · simp [List.length_take]; omega
    · split
      · split
        · simp
        · split
          · simp
          · simp only [List.length_drop, List.length_take]; omega
      · split
        · simp
        · exact l4
theorem lexGo_textlen {s : List UInt8} : ∀ {f p : Nat} {acc : List Tok}, (∀ t, t ∈ acc → t.text.length ≤ s.length) → ∀ t, t ∈ (lexGo s f p acc).toks → t.text.length ≤ s.length
  | 0, _, _, _ => by intro t ht; simp [lexGo] at ht
  | f + 1, p, acc, h => by
    unfold lexGo
    split
    · rename_i hp
      split
      · intro t ht; simp at ht
      · split
        · intro t ht; simp at ht
        · rename_i c2
          refine lexGo_textlen fun t ht => ?_
          rcases List.mem_append.1 ht with ht | ht
          · exact h t ht
          · have : t = ⟨(nextL (s.drop p)).kind, (nextL (s.drop p)).text, p⟩ := by simpa using ht
            rw [this]
            have := nextL_textlen (s := s.drop p) (by rw [ne_eq, List.drop_eq_nil_iff]; omega)
            simp only [List.length_drop] at this
            simp only; omega
    · exact h
theorem lexL_textlen (s : List UInt8) : ∀ t, t ∈ (lexL s).toks → t.text.length ≤ s.length := by
  unfold lexL
  split
  · intro t ht; simp at ht
  · exact lexGo_textlen fun t ht => by simp at ht

/-- Tokens with blanks between. -/
def joinT (n : Nat) (l : List Tok) : List UInt8 := l.flatMap fun t => rep n [32] ++ form t.kind t.text
theorem joinT_cons (n : Nat) (t : Tok) (l : List Tok) : joinT n (t :: l) = rep n [32] ++ (form t.kind t.text ++ joinT n l) := by simp [joinT]
theorem joinT_snoc (n : Nat) (t : Tok) (l : List Tok) : joinT n (l ++ [t]) = joinT n l ++ (rep n [32] ++ form t.kind t.text) := by simp [joinT]
theorem joinT_stops {n : Nat} (h : 1 ≤ n) (l : List Tok) : Stops (joinT n l) := by
  cases l with
  | nil => exact .inl rfl
  | cons t l =>
    obtain ⟨r, hr⟩ := rep_cons h
    exact .inr ⟨r ++ (form t.kind t.text ++ joinT n l), by rw [joinT_cons, hr]; rfl⟩
theorem form_len (k : Int) (t : List UInt8) : (form k t).length ≤ t.length + 2 := by
  unfold form; split <;> simp
theorem joinT_len {n : Nat} : ∀ {l : List Tok}, (∀ t, t ∈ l → t.text.length ≤ 60) → (joinT n l).length ≤ l.length * (n + 62)
  | [], _ => by simp [joinT]
  | t :: l, h => by
    have ih := joinT_len (n := n) (l := l) fun x hx => h x (List.mem_cons_of_mem _ hx)
    have h1 := h t (List.mem_cons_self ..)
    have h2 := form_len t.kind t.text
    rw [joinT_cons]
    simp only [List.length_append, List.length_cons, rep_len (c := [32]) rfl, Nat.succ_mul]
    omega
/-- Are two tokens one but for their places? -/
def Alike : List Tok → List Tok → Prop
  | [], [] => True
  | a :: x, b :: y => (a.kind = b.kind ∧ a.text = b.text) ∧ Alike x y
  | _, _ => False
theorem Alike.snoc {a b : Tok} (h1 : a.kind = b.kind) (h2 : a.text = b.text) : ∀ {x y : List Tok}, Alike x y → Alike (x ++ [a]) (y ++ [b])
  | [], [], _ => ⟨⟨h1, h2⟩, trivial⟩
  | _ :: _, _ :: _, h => ⟨h.1, Alike.snoc h1 h2 h.2⟩
  | [], _ :: _, h => h.elim
  | _ :: _, [], h => h.elim
theorem relex {n : Nat} (hn : 1 ≤ n) {t : List UInt8} {all : List Tok} : ∀ {rest done acc : List Tok} {q f : Nat}, all = done ++ rest → AllGood rest → Alike done acc → acc.length + rest.length ≤ 60 → q ≤ t.length → t.length < q + f → t.drop q = joinT n rest →
    (lexGo t f (q + runN (t.drop q) [32]) acc).err = 0 ∧ Alike all (lexGo t f (q + runN (t.drop q) [32]) acc).toks
  | [], done, acc, q, f, ea, hg, hal, hlen, hq, hf, hd => by
    obtain ⟨f', rfl⟩ : ∃ f', f = f' + 1 := ⟨f - 1, by omega⟩
    have : t.length ≤ q := by
      have : t.drop q = [] := hd
      rwa [List.drop_eq_nil_iff] at this
    rw [hd, show joinT n [] = [] from rfl, runN_nil, show q + 0 = q from rfl, lexGo_end this]
    rw [List.append_nil] at ea
    exact ⟨rfl, ea ▸ hal⟩
  | u :: rest, done, acc, q, f, ea, hg, hal, hlen, hq, hf, hd => by
    have gu := hg u (List.mem_cons_self ..)
    rw [joinT_cons] at hd
    have hlenform : 0 < (form u.kind u.text).length := by
      have := gu.ne
      cases hh : form u.kind u.text with
      | nil => exact (this hh).elim
      | cons => simp
    have hrun : runN (t.drop q) [32] = n := by rw [hd, rep_blank, gu.first, Nat.add_zero]
    rw [hrun]
    have hl := congrArg List.length hd
    simp only [List.length_drop, List.length_append, rep_len (c := [32]) rfl] at hl
    have hd1 : t.drop (q + n) = form u.kind u.text ++ joinT n rest := by
      rw [← List.drop_drop, hd]
      exact List.drop_left' (rep_len rfl n)
    have hnext := gu (joinT n rest) (joinT_stops hn rest)
    rw [← hd1] at hnext
    obtain ⟨f', rfl⟩ : ∃ f', f = f' + 1 := ⟨f - 1, by omega⟩
    simp only [List.length_cons] at hlen
    rw [lexGo_step (by omega) hnext (by omega)]
    have hd2 : t.drop (q + n + (form u.kind u.text).length) = joinT n rest := by
      rw [← List.drop_drop, hd1, List.drop_left]
    exact relex hn (done := done ++ [u]) (by rw [ea]; simp) (fun x hx => hg x (List.mem_cons_of_mem _ hx)) (Alike.snoc (a := u) (b := ⟨u.kind, u.text, ((q + n : Nat) : Int)⟩) rfl rfl hal) (by simp; omega) (by omega) (by omega) hd2
/-- **The plain law.** -/
theorem blanks_law {s : List UInt8} {n : Nat} (hn : 1 ≤ n) (hl : (joinT n (lexL s).toks).length ≤ 200) : (lexL (joinT n (lexL s).toks)).err = 0 ∧ Alike (lexL s).toks (lexL (joinT n (lexL s).toks)).toks := by
  have := relex (t := joinT n (lexL s).toks) (rest := (lexL s).toks) (done := []) (acc := []) (q := 0) (f := (joinT n (lexL s).toks).length + 1) hn rfl (lexL_good s) trivial (by simpa using lexL_len s) (Nat.zero_le _) (by omega) rfl
  rw [List.drop_zero, Nat.zero_add] at this
  generalize joinT n (lexL s).toks = t at *
  unfold lexL
  rw [if_neg (by omega)]
  exact this
theorem Alike.len : ∀ {x y : List Tok}, Alike x y → x.length = y.length
  | [], [], _ => rfl
  | _ :: _, _ :: _, h => by simp [Alike.len h.2]
  | [], _ :: _, h => h.elim
  | _ :: _, [], h => h.elim
theorem Alike.at : ∀ {x y : List Tok}, Alike x y → ∀ i (h1 : i < x.length) (h2 : i < y.length), x[i].kind = y[i].kind ∧ x[i].text = y[i].text
  | [], [], _, i, h1, _ => by simp at h1
  | _ :: _, _ :: _, h, 0, _, _ => h.1
  | _ :: x, _ :: y, h, i + 1, h1, h2 => h.2.at i (by simpa using h1) (by simpa using h2)
  | [], _ :: _, h, _, _, _ => h.elim
  | _ :: _, [], h, _, _, _ => h.elim

def T4 : Tab := ⟨fun id => if id = 25 then ([0, 1, 2, 3, 4, 5, 6, 7, 8, 9, 10, 11, 12, 13, 14, 15, 16, 17, 18, 19, 20, 21, 22, 23], []) else ([], []), fun _ => false⟩
theorem T4_ord (id : Nat) : T4.ord id = if id = 25 then ([0, 1, 2, 3, 4, 5, 6, 7, 8, 9, 10, 11, 12, 13, 14, 15, 16, 17, 18, 19, 20, 21, 22, 23], []) else ([], []) := rfl
theorem T4_ghost (id : Nat) : T4.ghost id = false := rfl
theorem ok4 : fnOk Tryd.prog 4 T4 2 = true := by kernel_rfl
set_option maxRecDepth 100000 in
theorem lexBlanks_walk (s : List UInt8) (b : Int) (G : Heap) : VPure Tryd.prog 4 [.str s, .int .i64 b] G (.bool true) := by
  refine VCalls.of okM mixed T4 ok4 fun hG => ?_
  have dn : ∀ G', (∀ id, id < G.next → G'.get id = G.get id) → VDone G.next (.bool true) G' fun u G' => u = .bool true ∧ G' = G := fun G' hg => VDone.back hG hg rfl rfl
  by_cases h1 : 60 < (s.length : Int)
  · simp (maxSteps := 1000000) -dsimp -implicitDefEqProofs only [fnB_some, eq_self, Nat.mul_one, Int.le_refl, Int.reduceLE, Int.reduceLT, vbyte, decide_eq_true_eq, ↓vwp_skip, ↓vwp_region, ↓vwp_seq, ↓vwp_cond, ↓vwp_block, ↓vwp_loop, ↓vwp_exit, ↓vwp_ret, ↓vwp_label, vghost_false, vghost_true, vcond_bool, ↓vregion_ordered, ↓vregion_drawn, vops_nil, vops_cons, vopsD_nil, vopsD_cons, ↓rowsOf_eq, rowsL, nthL, rowsC_some, ↓vstep_free, ↓vstep_guard, vguard_some, vtest_bool, vtest_tup, ↓vop_q, vopQ_some, vopQ_none, ↓vloud_call, ↓vloud_alloc, ↓vloud_box, ↓vloud_buildSlice, ↓vloud_store, ↓vloud_make, ↓vloud_append, ↓vloud_range, ↓vloud_next, vallocK_some, vbuildE_some, vbuildZ_some, vbuildC_some, vstoreK_ptr, vstoreC_some, vmakeK_int, vmakeZ_some, vappT_some, vappR_some, vappS_nil1, vappS_nil, vappS_slc, vappS_arr, vappC_some, vrangeK_str, vnextK_ptr, vnextC_iter, vcallF_func, vcallQ_some, vcallQ_none, ↓vrun_b, vrunB_true, vrunB_false, vrunQ_some, ↓vstepD_free, ↓vstepD_guard, vguardD_some, vtestD_bool, vtestD_tup, gslotL, quietSyn, vnote_nil, vsafe_nil, vsafe_rd_nil, vsafe_same, vnote, vreads, vreads1, List.any_cons, List.any_nil, Nat.reduceBEq, vq, vev, vconst, vconst1, Env.putO_some, Env.putO_none, Env.put_at, Env.of_cons, Env.of_nil, envAt_cons, envAt_nil, vthen_normal, vthen_exit, vthen_ret, vblock_normal, vblock_exit, vblock_ret, vexit_normal, vexit_exit, vexit_ret, heldE, heldQ, held2, ↓reduceIte, reduceCtorEq, Nat.reduceEqDiff, Nat.reduceAdd, Nat.reduceMul, Nat.reduceLT, Nat.reduceLeDiff, Nat.zero_add, Nat.add_zero, List.map_cons, List.map_nil, List.nil_append, List.append_nil, List.cons_append, List.length_cons, List.length_nil, List.getElem?_cons_zero, List.getElem?_cons_succ, List.getElem?_nil, true_and, and_true, and_self, vbuiltinQ, vlen, vbin, vun, veq, vite, vextract, vslice, vlow, vhigh, vdrop, vtake, vless, vindex, vindexAddr, vread, vload, vfield, vfieldAddr, vconvert, vstore, vflat, vsplice, vfill, Option.map_some, Option.map_none, Option.bind_some, Option.bind_none, Option.isSome_some, Option.isSome_none, Option.isNone_none, Option.isNone_some, isConst, over_next, over_nil, over_cons, Heap.put_get, Heap.put_next, Heap.alloc_get, Heap.alloc_next, Heap.del_get, Heap.del_next, vpost_ret, vpost_normal, vpostK_some, vresL, vres1, vone, keeps_nil, keeps_cons, tells_nil, tells_cons, Bool.false_eq_true, Bool.true_eq_false, Bool.not_true, Bool.not_false, if_true, if_false, Bool.true_or, Bool.or_true, Bool.false_or, Bool.or_false, Bool.and_true, Bool.true_and, Bool.and_false, Bool.false_and, decide_true, decide_false, Nat.reduceAnd, List.take_succ_cons, List.take_zero, List.take_nil, List.drop_succ_cons, List.drop_zero, List.drop_nil, V.scalarL, V.scalar, V.closedL, V.closed, Array.toList, List.toList_toArray, not_true_eq_false, not_false_eq_true, List.getD_cons_zero, List.getD_cons_succ, ite_self, Nat.reduceSub, Int.reduceToNat, Int.toNat_natCast, fnWp_some Tryd.func4, Tryd.f4, T4_ord, T4_ghost, u3, u4, u5, u9, u21, u22, u23, u35, te22, te35, ag3, ag5, ag9, ag33, z33, z9, st33, c33, c9, c3, i33, i9, i3, b33, b9, f33_0, f33_1, f33_2, p33_0, p33_1, p33_2, k33, g33, g9, s22, h1]
    exact dn _ fun _ _ => rfl
  by_cases h2 : b < 1
  · simp (maxSteps := 1000000) -dsimp -implicitDefEqProofs only [fnB_some, eq_self, Nat.mul_one, Int.le_refl, Int.reduceLE, Int.reduceLT, vbyte, decide_eq_true_eq, ↓vwp_skip, ↓vwp_region, ↓vwp_seq, ↓vwp_cond, ↓vwp_block, ↓vwp_loop, ↓vwp_exit, ↓vwp_ret, ↓vwp_label, vghost_false, vghost_true, vcond_bool, ↓vregion_ordered, ↓vregion_drawn, vops_nil, vops_cons, vopsD_nil, vopsD_cons, ↓rowsOf_eq, rowsL, nthL, rowsC_some, ↓vstep_free, ↓vstep_guard, vguard_some, vtest_bool, vtest_tup, ↓vop_q, vopQ_some, vopQ_none, ↓vloud_call, ↓vloud_alloc, ↓vloud_box, ↓vloud_buildSlice, ↓vloud_store, ↓vloud_make, ↓vloud_append, ↓vloud_range, ↓vloud_next, vallocK_some, vbuildE_some, vbuildZ_some, vbuildC_some, vstoreK_ptr, vstoreC_some, vmakeK_int, vmakeZ_some, vappT_some, vappR_some, vappS_nil1, vappS_nil, vappS_slc, vappS_arr, vappC_some, vrangeK_str, vnextK_ptr, vnextC_iter, vcallF_func, vcallQ_some, vcallQ_none, ↓vrun_b, vrunB_true, vrunB_false, vrunQ_some, ↓vstepD_free, ↓vstepD_guard, vguardD_some, vtestD_bool, vtestD_tup, gslotL, quietSyn, vnote_nil, vsafe_nil, vsafe_rd_nil, vsafe_same, vnote, vreads, vreads1, List.any_cons, List.any_nil, Nat.reduceBEq, vq, vev, vconst, vconst1, Env.putO_some, Env.putO_none, Env.put_at, Env.of_cons, Env.of_nil, envAt_cons, envAt_nil, vthen_normal, vthen_exit, vthen_ret, vblock_normal, vblock_exit, vblock_ret, vexit_normal, vexit_exit, vexit_ret, heldE, heldQ, held2, ↓reduceIte, reduceCtorEq, Nat.reduceEqDiff, Nat.reduceAdd, Nat.reduceMul, Nat.reduceLT, Nat.reduceLeDiff, Nat.zero_add, Nat.add_zero, List.map_cons, List.map_nil, List.nil_append, List.append_nil, List.cons_append, List.length_cons, List.length_nil, List.getElem?_cons_zero, List.getElem?_cons_succ, List.getElem?_nil, true_and, and_true, and_self, vbuiltinQ, vlen, vbin, vun, veq, vite, vextract, vslice, vlow, vhigh, vdrop, vtake, vless, vindex, vindexAddr, vread, vload, vfield, vfieldAddr, vconvert, vstore, vflat, vsplice, vfill, Option.map_some, Option.map_none, Option.bind_some, Option.bind_none, Option.isSome_some, Option.isSome_none, Option.isNone_none, Option.isNone_some, isConst, over_next, over_nil, over_cons, Heap.put_get, Heap.put_next, Heap.alloc_get, Heap.alloc_next, Heap.del_get, Heap.del_next, vpost_ret, vpost_normal, vpostK_some, vresL, vres1, vone, keeps_nil, keeps_cons, tells_nil, tells_cons, Bool.false_eq_true, Bool.true_eq_false, Bool.not_true, Bool.not_false, if_true, if_false, Bool.true_or, Bool.or_true, Bool.false_or, Bool.or_false, Bool.and_true, Bool.true_and, Bool.and_false, Bool.false_and, decide_true, decide_false, Nat.reduceAnd, List.take_succ_cons, List.take_zero, List.take_nil, List.drop_succ_cons, List.drop_zero, List.drop_nil, V.scalarL, V.scalar, V.closedL, V.closed, Array.toList, List.toList_toArray, not_true_eq_false, not_false_eq_true, List.getD_cons_zero, List.getD_cons_succ, ite_self, Nat.reduceSub, Int.reduceToNat, Int.toNat_natCast, fnWp_some Tryd.func4, Tryd.f4, T4_ord, T4_ghost, u3, u4, u5, u9, u21, u22, u23, u35, te22, te35, ag3, ag5, ag9, ag33, z33, z9, st33, c33, c9, c3, i33, i9, i3, b33, b9, f33_0, f33_1, f33_2, p33_0, p33_1, p33_2, k33, g33, g9, s22, h1, h2]
    exact dn _ fun _ _ => rfl
  by_cases h3 : 3 < b
  · simp (maxSteps := 1000000) -dsimp -implicitDefEqProofs only [fnB_some, eq_self, Nat.mul_one, Int.le_refl, Int.reduceLE, Int.reduceLT, vbyte, decide_eq_true_eq, ↓vwp_skip, ↓vwp_region, ↓vwp_seq, ↓vwp_cond, ↓vwp_block, ↓vwp_loop, ↓vwp_exit, ↓vwp_ret, ↓vwp_label, vghost_false, vghost_true, vcond_bool, ↓vregion_ordered, ↓vregion_drawn, vops_nil, vops_cons, vopsD_nil, vopsD_cons, ↓rowsOf_eq, rowsL, nthL, rowsC_some, ↓vstep_free, ↓vstep_guard, vguard_some, vtest_bool, vtest_tup, ↓vop_q, vopQ_some, vopQ_none, ↓vloud_call, ↓vloud_alloc, ↓vloud_box, ↓vloud_buildSlice, ↓vloud_store, ↓vloud_make, ↓vloud_append, ↓vloud_range, ↓vloud_next, vallocK_some, vbuildE_some, vbuildZ_some, vbuildC_some, vstoreK_ptr, vstoreC_some, vmakeK_int, vmakeZ_some, vappT_some, vappR_some, vappS_nil1, vappS_nil, vappS_slc, vappS_arr, vappC_some, vrangeK_str, vnextK_ptr, vnextC_iter, vcallF_func, vcallQ_some, vcallQ_none, ↓vrun_b, vrunB_true, vrunB_false, vrunQ_some, ↓vstepD_free, ↓vstepD_guard, vguardD_some, vtestD_bool, vtestD_tup, gslotL, quietSyn, vnote_nil, vsafe_nil, vsafe_rd_nil, vsafe_same, vnote, vreads, vreads1, List.any_cons, List.any_nil, Nat.reduceBEq, vq, vev, vconst, vconst1, Env.putO_some, Env.putO_none, Env.put_at, Env.of_cons, Env.of_nil, envAt_cons, envAt_nil, vthen_normal, vthen_exit, vthen_ret, vblock_normal, vblock_exit, vblock_ret, vexit_normal, vexit_exit, vexit_ret, heldE, heldQ, held2, ↓reduceIte, reduceCtorEq, Nat.reduceEqDiff, Nat.reduceAdd, Nat.reduceMul, Nat.reduceLT, Nat.reduceLeDiff, Nat.zero_add, Nat.add_zero, List.map_cons, List.map_nil, List.nil_append, List.append_nil, List.cons_append, List.length_cons, List.length_nil, List.getElem?_cons_zero, List.getElem?_cons_succ, List.getElem?_nil, true_and, and_true, and_self, vbuiltinQ, vlen, vbin, vun, veq, vite, vextract, vslice, vlow, vhigh, vdrop, vtake, vless, vindex, vindexAddr, vread, vload, vfield, vfieldAddr, vconvert, vstore, vflat, vsplice, vfill, Option.map_some, Option.map_none, Option.bind_some, Option.bind_none, Option.isSome_some, Option.isSome_none, Option.isNone_none, Option.isNone_some, isConst, over_next, over_nil, over_cons, Heap.put_get, Heap.put_next, Heap.alloc_get, Heap.alloc_next, Heap.del_get, Heap.del_next, vpost_ret, vpost_normal, vpostK_some, vresL, vres1, vone, keeps_nil, keeps_cons, tells_nil, tells_cons, Bool.false_eq_true, Bool.true_eq_false, Bool.not_true, Bool.not_false, if_true, if_false, Bool.true_or, Bool.or_true, Bool.false_or, Bool.or_false, Bool.and_true, Bool.true_and, Bool.and_false, Bool.false_and, decide_true, decide_false, Nat.reduceAnd, List.take_succ_cons, List.take_zero, List.take_nil, List.drop_succ_cons, List.drop_zero, List.drop_nil, V.scalarL, V.scalar, V.closedL, V.closed, Array.toList, List.toList_toArray, not_true_eq_false, not_false_eq_true, List.getD_cons_zero, List.getD_cons_succ, ite_self, Nat.reduceSub, Int.reduceToNat, Int.toNat_natCast, fnWp_some Tryd.func4, Tryd.f4, T4_ord, T4_ghost, u3, u4, u5, u9, u21, u22, u23, u35, te22, te35, ag3, ag5, ag9, ag33, z33, z9, st33, c33, c9, c3, i33, i9, i3, b33, b9, f33_0, f33_1, f33_2, p33_0, p33_1, p33_2, k33, g33, g9, s22, h1, h2, h3]
    exact dn _ fun _ _ => rfl
  obtain ⟨n, rfl⟩ : ∃ n : Nat, b = n := ⟨b.toNat, by omega⟩
  have hlen := lexL_len s
  by_cases he : (lexL s).err = 0
  · have hne : ¬(0 : Int) ≠ 0 := by decide
    simp (maxSteps := 1000000) -dsimp -implicitDefEqProofs only [fnB_some, eq_self, Nat.mul_one, Int.le_refl, Int.reduceLE, Int.reduceLT, vbyte, decide_eq_true_eq, ↓vwp_skip, ↓vwp_region, ↓vwp_seq, ↓vwp_cond, ↓vwp_block, ↓vwp_loop, ↓vwp_exit, ↓vwp_ret, ↓vwp_label, vghost_false, vghost_true, vcond_bool, ↓vregion_ordered, ↓vregion_drawn, vops_nil, vops_cons, vopsD_nil, vopsD_cons, ↓rowsOf_eq, rowsL, nthL, rowsC_some, ↓vstep_free, ↓vstep_guard, vguard_some, vtest_bool, vtest_tup, ↓vop_q, vopQ_some, vopQ_none, ↓vloud_call, ↓vloud_alloc, ↓vloud_box, ↓vloud_buildSlice, ↓vloud_store, ↓vloud_make, ↓vloud_append, ↓vloud_range, ↓vloud_next, vallocK_some, vbuildE_some, vbuildZ_some, vbuildC_some, vstoreK_ptr, vstoreC_some, vmakeK_int, vmakeZ_some, vappT_some, vappR_some, vappS_nil1, vappS_nil, vappS_slc, vappS_arr, vappC_some, vrangeK_str, vnextK_ptr, vnextC_iter, vcallF_func, vcallQ_some, vcallQ_none, ↓vrun_b, vrunB_true, vrunB_false, vrunQ_some, ↓vstepD_free, ↓vstepD_guard, vguardD_some, vtestD_bool, vtestD_tup, gslotL, quietSyn, vnote_nil, vsafe_nil, vsafe_rd_nil, vsafe_same, vnote, vreads, vreads1, List.any_cons, List.any_nil, Nat.reduceBEq, vq, vev, vconst, vconst1, Env.putO_some, Env.putO_none, Env.put_at, Env.of_cons, Env.of_nil, envAt_cons, envAt_nil, vthen_normal, vthen_exit, vthen_ret, vblock_normal, vblock_exit, vblock_ret, vexit_normal, vexit_exit, vexit_ret, heldE, heldQ, held2, ↓reduceIte, reduceCtorEq, Nat.reduceEqDiff, Nat.reduceAdd, Nat.reduceMul, Nat.reduceLT, Nat.reduceLeDiff, Nat.zero_add, Nat.add_zero, List.map_cons, List.map_nil, List.nil_append, List.append_nil, List.cons_append, List.length_cons, List.length_nil, List.getElem?_cons_zero, List.getElem?_cons_succ, List.getElem?_nil, true_and, and_true, and_self, vbuiltinQ, vlen, vbin, vun, veq, vite, vextract, vslice, vlow, vhigh, vdrop, vtake, vless, vindex, vindexAddr, vread, vload, vfield, vfieldAddr, vconvert, vstore, vflat, vsplice, vfill, Option.map_some, Option.map_none, Option.bind_some, Option.bind_none, Option.isSome_some, Option.isSome_none, Option.isNone_none, Option.isNone_some, isConst, over_next, over_nil, over_cons, Heap.put_get, Heap.put_next, Heap.alloc_get, Heap.alloc_next, Heap.del_get, Heap.del_next, vpost_ret, vpost_normal, vpostK_some, vresL, vres1, vone, keeps_nil, keeps_cons, tells_nil, tells_cons, Bool.false_eq_true, Bool.true_eq_false, Bool.not_true, Bool.not_false, if_true, if_false, Bool.true_or, Bool.or_true, Bool.false_or, Bool.or_false, Bool.and_true, Bool.true_and, Bool.and_false, Bool.false_and, decide_true, decide_false, Nat.reduceAnd, List.take_succ_cons, List.take_zero, List.take_nil, List.drop_succ_cons, List.drop_zero, List.drop_nil, V.scalarL, V.scalar, V.closedL, V.closed, Array.toList, List.toList_toArray, not_true_eq_false, not_false_eq_true, List.getD_cons_zero, List.getD_cons_succ, ite_self, Nat.reduceSub, Int.reduceToNat, Int.toNat_natCast, fnWp_some Tryd.func4, Tryd.f4, T4_ord, T4_ghost, u3, u4, u5, u9, u21, u22, u23, u35, te22, te35, ag3, ag5, ag9, ag33, z33, z9, st33, c33, c9, c3, i33, i9, i3, b33, b9, f33_0, f33_1, f33_2, p33_0, p33_1, p33_2, k33, g33, g9, s22, SM_at, add_at, g9L, g12, gR10, g11, g13, g14, Lexed.v, toksD_C, h1, h2, h3, he, hne]
    have law := blanks_law (s := s) (n := n) (by omega)
    have gd := lexL_good s
    have hpos : ∀ t, t ∈ (lexL s).toks → t.text.length ≤ 60 := fun t ht => by have := lexL_textlen s t ht; omega
    have dn := dn (G.over G.next []) fun _ _ => rfl
    generalize hr : lexL s = r at *
    obtain ⟨toks, rn, re⟩ := r
    simp only at law gd hpos hlen
    refine vloop_to 0 (fun i : Nat => i ≤ toks.length) (fun i => Env.of [(0, .str s), (1, .int .i64 n), (5, .sl 3 toks.length (toksC toks)), (8, .str (joinT n (toks.take i))), (9, .int .i64 (i : Nat))])
      (fun _ => G.over G.next []) (fun i => toks.length - i) 0 (fun E G' => E 0 = .str s ∧ E 1 = .int .i64 n ∧ E 5 = .sl 3 toks.length (toksC toks) ∧ E 8 = .str (joinT n toks) ∧ G' = G.over G.next []) ?_ ?_ ?_ ?_
    · refine .of ?_ (.over hG rfl trivial (fun _ _ => rfl))
      simp (maxSteps := 1000000) -dsimp -implicitDefEqProofs only [fnB_some, eq_self, Nat.mul_one, Int.le_refl, Int.reduceLE, Int.reduceLT, vbyte, decide_eq_true_eq, ↓vwp_skip, ↓vwp_region, ↓vwp_seq, ↓vwp_cond, ↓vwp_block, ↓vwp_loop, ↓vwp_exit, ↓vwp_ret, ↓vwp_label, vghost_false, vghost_true, vcond_bool, ↓vregion_ordered, ↓vregion_drawn, vops_nil, vops_cons, vopsD_nil, vopsD_cons, ↓rowsOf_eq, rowsL, nthL, rowsC_some, ↓vstep_free, ↓vstep_guard, vguard_some, vtest_bool, vtest_tup, ↓vop_q, vopQ_some, vopQ_none, ↓vloud_call, ↓vloud_alloc, ↓vloud_box, ↓vloud_buildSlice, ↓vloud_store, ↓vloud_make, ↓vloud_append, ↓vloud_range, ↓vloud_next, vallocK_some, vbuildE_some, vbuildZ_some, vbuildC_some, vstoreK_ptr, vstoreC_some, vmakeK_int, vmakeZ_some, vappT_some, vappR_some, vappS_nil1, vappS_nil, vappS_slc, vappS_arr, vappC_some, vrangeK_str, vnextK_ptr, vnextC_iter, vcallF_func, vcallQ_some, vcallQ_none, ↓vrun_b, vrunB_true, vrunB_false, vrunQ_some, ↓vstepD_free, ↓vstepD_guard, vguardD_some, vtestD_bool, vtestD_tup, gslotL, quietSyn, vnote_nil, vsafe_nil, vsafe_rd_nil, vsafe_same, vnote, vreads, vreads1, List.any_cons, List.any_nil, Nat.reduceBEq, vq, vev, vconst, vconst1, Env.putO_some, Env.putO_none, Env.put_at, Env.of_cons, Env.of_nil, envAt_cons, envAt_nil, vthen_normal, vthen_exit, vthen_ret, vblock_normal, vblock_exit, vblock_ret, vexit_normal, vexit_exit, vexit_ret, heldE, heldQ, held2, ↓reduceIte, reduceCtorEq, Nat.reduceEqDiff, Nat.reduceAdd, Nat.reduceMul, Nat.reduceLT, Nat.reduceLeDiff, Nat.zero_add, Nat.add_zero, List.map_cons, List.map_nil, List.nil_append, List.append_nil, List.cons_append, List.length_cons, List.length_nil, List.getElem?_cons_zero, List.getElem?_cons_succ, List.getElem?_nil, true_and, and_true, and_self, vbuiltinQ, vlen, vbin, vun, veq, vite, vextract, vslice, vlow, vhigh, vdrop, vtake, vless, vindex, vindexAddr, vread, vload, vfield, vfieldAddr, vconvert, vstore, vflat, vsplice, vfill, Option.map_some, Option.map_none, Option.bind_some, Option.bind_none, Option.isSome_some, Option.isSome_none, Option.isNone_none, Option.isNone_some, isConst, over_next, over_nil, over_cons, Heap.put_get, Heap.put_next, Heap.alloc_get, Heap.alloc_next, Heap.del_get, Heap.del_next, vpost_ret, vpost_normal, vpostK_some, vresL, vres1, vone, keeps_nil, keeps_cons, tells_nil, tells_cons, Bool.false_eq_true, Bool.true_eq_false, Bool.not_true, Bool.not_false, if_true, if_false, Bool.true_or, Bool.or_true, Bool.false_or, Bool.or_false, Bool.and_true, Bool.true_and, Bool.and_false, Bool.false_and, decide_true, decide_false, Nat.reduceAnd, List.take_succ_cons, List.take_zero, List.take_nil, List.drop_succ_cons, List.drop_zero, List.drop_nil, V.scalarL, V.scalar, V.closedL, V.closed, Array.toList, List.toList_toArray, not_true_eq_false, not_false_eq_true, List.getD_cons_zero, List.getD_cons_succ, ite_self, Nat.reduceSub, Int.reduceToNat, Int.toNat_natCast, List.take_zero, joinT, List.flatMap_nil]
      (repeat' apply And.intro) <;> exact .refl _
    · exact Nat.zero_le _
    · rintro i hi
      have w1 : IntKind.wrap .i64 ((i : Int) + 1) = ((i + 1 : Nat) : Int) := by rw [w64 (by omega) (by omega)]; rfl
      by_cases hlt : i < toks.length
      · have c1 : (i : Int) < (toks.length : Int) := by omega
        simp (maxSteps := 1000000) -dsimp -implicitDefEqProofs only [fnB_some, eq_self, Nat.mul_one, Int.le_refl, Int.reduceLE, Int.reduceLT, vbyte, decide_eq_true_eq, ↓vwp_skip, ↓vwp_region, ↓vwp_seq, ↓vwp_cond, ↓vwp_block, ↓vwp_loop, ↓vwp_exit, ↓vwp_ret, ↓vwp_label, vghost_false, vghost_true, vcond_bool, ↓vregion_ordered, ↓vregion_drawn, vops_nil, vops_cons, vopsD_nil, vopsD_cons, ↓rowsOf_eq, rowsL, nthL, rowsC_some, ↓vstep_free, ↓vstep_guard, vguard_some, vtest_bool, vtest_tup, ↓vop_q, vopQ_some, vopQ_none, ↓vloud_call, ↓vloud_alloc, ↓vloud_box, ↓vloud_buildSlice, ↓vloud_store, ↓vloud_make, ↓vloud_append, ↓vloud_range, ↓vloud_next, vallocK_some, vbuildE_some, vbuildZ_some, vbuildC_some, vstoreK_ptr, vstoreC_some, vmakeK_int, vmakeZ_some, vappT_some, vappR_some, vappS_nil1, vappS_nil, vappS_slc, vappS_arr, vappC_some, vrangeK_str, vnextK_ptr, vnextC_iter, vcallF_func, vcallQ_some, vcallQ_none, ↓vrun_b, vrunB_true, vrunB_false, vrunQ_some, ↓vstepD_free, ↓vstepD_guard, vguardD_some, vtestD_bool, vtestD_tup, gslotL, quietSyn, vnote_nil, vsafe_nil, vsafe_rd_nil, vsafe_same, vnote, vreads, vreads1, List.any_cons, List.any_nil, Nat.reduceBEq, vq, vev, vconst, vconst1, Env.putO_some, Env.putO_none, Env.put_at, Env.of_cons, Env.of_nil, envAt_cons, envAt_nil, vthen_normal, vthen_exit, vthen_ret, vblock_normal, vblock_exit, vblock_ret, vexit_normal, vexit_exit, vexit_ret, heldE, heldQ, held2, ↓reduceIte, reduceCtorEq, Nat.reduceEqDiff, Nat.reduceAdd, Nat.reduceMul, Nat.reduceLT, Nat.reduceLeDiff, Nat.zero_add, Nat.add_zero, List.map_cons, List.map_nil, List.nil_append, List.append_nil, List.cons_append, List.length_cons, List.length_nil, List.getElem?_cons_zero, List.getElem?_cons_succ, List.getElem?_nil, true_and, and_true, and_self, vbuiltinQ, vlen, vbin, vun, veq, vite, vextract, vslice, vlow, vhigh, vdrop, vtake, vless, vindex, vindexAddr, vread, vload, vfield, vfieldAddr, vconvert, vstore, vflat, vsplice, vfill, Option.map_some, Option.map_none, Option.bind_some, Option.bind_none, Option.isSome_some, Option.isSome_none, Option.isNone_none, Option.isNone_some, isConst, over_next, over_nil, over_cons, Heap.put_get, Heap.put_next, Heap.alloc_get, Heap.alloc_next, Heap.del_get, Heap.del_next, vpost_ret, vpost_normal, vpostK_some, vresL, vres1, vone, keeps_nil, keeps_cons, tells_nil, tells_cons, Bool.false_eq_true, Bool.true_eq_false, Bool.not_true, Bool.not_false, if_true, if_false, Bool.true_or, Bool.or_true, Bool.false_or, Bool.or_false, Bool.and_true, Bool.true_and, Bool.and_false, Bool.false_and, decide_true, decide_false, Nat.reduceAnd, List.take_succ_cons, List.take_zero, List.take_nil, List.drop_succ_cons, List.drop_zero, List.drop_nil, V.scalarL, V.scalar, V.closedL, V.closed, Array.toList, List.toList_toArray, not_true_eq_false, not_false_eq_true, List.getD_cons_zero, List.getD_cons_succ, ite_self, Nat.reduceSub, Int.reduceToNat, Int.toNat_natCast, T4_ord, T4_ghost, u3, u4, u5, u9, u21, u22, u23, u35, te22, te35, ag3, ag5, ag9, ag33, z33, z9, st33, c33, c9, c3, i33, i9, i3, b33, b9, f33_0, f33_1, f33_2, p33_0, p33_1, p33_2, k33, g33, g9, s22, SM_at, add_at, g9L, g12, gR10, g11, g13, g14, Lexed.v, toksD_C, c1]
        have hx := toks_at hlt
        have tl := hpos _ (List.getElem_mem hlt)
        have jl : (joinT n (toks.take i)).length ≤ 60 * (n + 62) := by
          have := joinT_len (n := n) (l := toks.take i) fun x hx => hpos x (List.mem_of_mem_take hx)
          rw [List.length_take_of_le (by omega)] at this
          exact Nat.le_trans this (Nat.mul_le_mul_right _ (by omega))
        have js : joinT n (toks.take (i + 1)) = joinT n (toks.take i) ++ (rep n [32] ++ form toks[i].kind toks[i].text) := by
          rw [List.take_succ_eq_append_getElem hlt, joinT_snoc]
        generalize toks[i] = t at hx tl js
        obtain ⟨kind, text, pos⟩ := t
        simp only at tl js
        refine vloop_to 2 (fun k : Nat => k ≤ n) (fun k => Env.of [(0, .str s), (1, .int .i64 n), (5, .sl 3 toks.length (toksC toks)), (8, .str (joinT n (toks.take i) ++ rep k [32])), (9, .int .i64 (i : Nat)), (10, .int .i64 k)])
          (fun _ => G.over G.next []) (fun k => n - k) 0 (fun E G' => E 0 = .str s ∧ E 1 = .int .i64 n ∧ E 5 = .sl 3 toks.length (toksC toks) ∧ E 8 = .str (joinT n (toks.take i) ++ rep n [32]) ∧ E 9 = .int .i64 (i : Nat) ∧ G' = G.over G.next []) ?_ ?_ ?_ ?_
        · refine .of ?_ (.refl _)
          simp (maxSteps := 1000000) -dsimp -implicitDefEqProofs only [fnB_some, eq_self, Nat.mul_one, Int.le_refl, Int.reduceLE, Int.reduceLT, vbyte, decide_eq_true_eq, ↓vwp_skip, ↓vwp_region, ↓vwp_seq, ↓vwp_cond, ↓vwp_block, ↓vwp_loop, ↓vwp_exit, ↓vwp_ret, ↓vwp_label, vghost_false, vghost_true, vcond_bool, ↓vregion_ordered, ↓vregion_drawn, vops_nil, vops_cons, vopsD_nil, vopsD_cons, ↓rowsOf_eq, rowsL, nthL, rowsC_some, ↓vstep_free, ↓vstep_guard, vguard_some, vtest_bool, vtest_tup, ↓vop_q, vopQ_some, vopQ_none, ↓vloud_call, ↓vloud_alloc, ↓vloud_box, ↓vloud_buildSlice, ↓vloud_store, ↓vloud_make, ↓vloud_append, ↓vloud_range, ↓vloud_next, vallocK_some, vbuildE_some, vbuildZ_some, vbuildC_some, vstoreK_ptr, vstoreC_some, vmakeK_int, vmakeZ_some, vappT_some, vappR_some, vappS_nil1, vappS_nil, vappS_slc, vappS_arr, vappC_some, vrangeK_str, vnextK_ptr, vnextC_iter, vcallF_func, vcallQ_some, vcallQ_none, ↓vrun_b, vrunB_true, vrunB_false, vrunQ_some, ↓vstepD_free, ↓vstepD_guard, vguardD_some, vtestD_bool, vtestD_tup, gslotL, quietSyn, vnote_nil, vsafe_nil, vsafe_rd_nil, vsafe_same, vnote, vreads, vreads1, List.any_cons, List.any_nil, Nat.reduceBEq, vq, vev, vconst, vconst1, Env.putO_some, Env.putO_none, Env.put_at, Env.of_cons, Env.of_nil, envAt_cons, envAt_nil, vthen_normal, vthen_exit, vthen_ret, vblock_normal, vblock_exit, vblock_ret, vexit_normal, vexit_exit, vexit_ret, heldE, heldQ, held2, ↓reduceIte, reduceCtorEq, Nat.reduceEqDiff, Nat.reduceAdd, Nat.reduceMul, Nat.reduceLT, Nat.reduceLeDiff, Nat.zero_add, Nat.add_zero, List.map_cons, List.map_nil, List.nil_append, List.append_nil, List.cons_append, List.length_cons, List.length_nil, List.getElem?_cons_zero, List.getElem?_cons_succ, List.getElem?_nil, true_and, and_true, and_self, vbuiltinQ, vlen, vbin, vun, veq, vite, vextract, vslice, vlow, vhigh, vdrop, vtake, vless, vindex, vindexAddr, vread, vload, vfield, vfieldAddr, vconvert, vstore, vflat, vsplice, vfill, Option.map_some, Option.map_none, Option.bind_some, Option.bind_none, Option.isSome_some, Option.isSome_none, Option.isNone_none, Option.isNone_some, isConst, over_next, over_nil, over_cons, Heap.put_get, Heap.put_next, Heap.alloc_get, Heap.alloc_next, Heap.del_get, Heap.del_next, vpost_ret, vpost_normal, vpostK_some, vresL, vres1, vone, keeps_nil, keeps_cons, tells_nil, tells_cons, Bool.false_eq_true, Bool.true_eq_false, Bool.not_true, Bool.not_false, if_true, if_false, Bool.true_or, Bool.or_true, Bool.false_or, Bool.or_false, Bool.and_true, Bool.true_and, Bool.and_false, Bool.false_and, decide_true, decide_false, Nat.reduceAnd, List.take_succ_cons, List.take_zero, List.take_nil, List.drop_succ_cons, List.drop_zero, List.drop_nil, V.scalarL, V.scalar, V.closedL, V.closed, Array.toList, List.toList_toArray, not_true_eq_false, not_false_eq_true, List.getD_cons_zero, List.getD_cons_succ, ite_self, Nat.reduceSub, Int.reduceToNat, Int.toNat_natCast, rep]
          (repeat' apply And.intro) <;> exact .refl _
        · exact Nat.zero_le _
        · rintro k hk
          have w2 : IntKind.wrap .i64 ((k : Int) + 1) = ((k + 1 : Nat) : Int) := by rw [w64 (by omega) (by omega)]; rfl
          have rl := rep_len (c := [32]) rfl k
          have e2 : joinT n (toks.take i) ++ (rep k [32] ++ [32]) = joinT n (toks.take i) ++ rep (k + 1) [32] := rfl
          simp (maxSteps := 1000000) -dsimp -implicitDefEqProofs only [fnB_some, eq_self, Nat.mul_one, Int.le_refl, Int.reduceLE, Int.reduceLT, vbyte, decide_eq_true_eq, ↓vwp_skip, ↓vwp_region, ↓vwp_seq, ↓vwp_cond, ↓vwp_block, ↓vwp_loop, ↓vwp_exit, ↓vwp_ret, ↓vwp_label, vghost_false, vghost_true, vcond_bool, ↓vregion_ordered, ↓vregion_drawn, vops_nil, vops_cons, vopsD_nil, vopsD_cons, ↓rowsOf_eq, rowsL, nthL, rowsC_some, ↓vstep_free, ↓vstep_guard, vguard_some, vtest_bool, vtest_tup, ↓vop_q, vopQ_some, vopQ_none, ↓vloud_call, ↓vloud_alloc, ↓vloud_box, ↓vloud_buildSlice, ↓vloud_store, ↓vloud_make, ↓vloud_append, ↓vloud_range, ↓vloud_next, vallocK_some, vbuildE_some, vbuildZ_some, vbuildC_some, vstoreK_ptr, vstoreC_some, vmakeK_int, vmakeZ_some, vappT_some, vappR_some, vappS_nil1, vappS_nil, vappS_slc, vappS_arr, vappC_some, vrangeK_str, vnextK_ptr, vnextC_iter, vcallF_func, vcallQ_some, vcallQ_none, ↓vrun_b, vrunB_true, vrunB_false, vrunQ_some, ↓vstepD_free, ↓vstepD_guard, vguardD_some, vtestD_bool, vtestD_tup, gslotL, quietSyn, vnote_nil, vsafe_nil, vsafe_rd_nil, vsafe_same, vnote, vreads, vreads1, List.any_cons, List.any_nil, Nat.reduceBEq, vq, vev, vconst, vconst1, Env.putO_some, Env.putO_none, Env.put_at, Env.of_cons, Env.of_nil, envAt_cons, envAt_nil, vthen_normal, vthen_exit, vthen_ret, vblock_normal, vblock_exit, vblock_ret, vexit_normal, vexit_exit, vexit_ret, heldE, heldQ, held2, ↓reduceIte, reduceCtorEq, Nat.reduceEqDiff, Nat.reduceAdd, Nat.reduceMul, Nat.reduceLT, Nat.reduceLeDiff, Nat.zero_add, Nat.add_zero, List.map_cons, List.map_nil, List.nil_append, List.append_nil, List.cons_append, List.length_cons, List.length_nil, List.getElem?_cons_zero, List.getElem?_cons_succ, List.getElem?_nil, true_and, and_true, and_self, vbuiltinQ, vlen, vbin, vun, veq, vite, vextract, vslice, vlow, vhigh, vdrop, vtake, vless, vindex, vindexAddr, vread, vload, vfield, vfieldAddr, vconvert, vstore, vflat, vsplice, vfill, Option.map_some, Option.map_none, Option.bind_some, Option.bind_none, Option.isSome_some, Option.isSome_none, Option.isNone_none, Option.isNone_some, isConst, over_next, over_nil, over_cons, Heap.put_get, Heap.put_next, Heap.alloc_get, Heap.alloc_next, Heap.del_get, Heap.del_next, vpost_ret, vpost_normal, vpostK_some, vresL, vres1, vone, keeps_nil, keeps_cons, tells_nil, tells_cons, Bool.false_eq_true, Bool.true_eq_false, Bool.not_true, Bool.not_false, if_true, if_false, Bool.true_or, Bool.or_true, Bool.false_or, Bool.or_false, Bool.and_true, Bool.true_and, Bool.and_false, Bool.false_and, decide_true, decide_false, Nat.reduceAnd, List.take_succ_cons, List.take_zero, List.take_nil, List.drop_succ_cons, List.drop_zero, List.drop_nil, V.scalarL, V.scalar, V.closedL, V.closed, Array.toList, List.toList_toArray, not_true_eq_false, not_false_eq_true, List.getD_cons_zero, List.getD_cons_succ, ite_self, Nat.reduceSub, Int.reduceToNat, Int.toNat_natCast, T4_ord, T4_ghost, u3, u4, u5, u9, u21, u22, u23, u35, te22, te35, ag3, ag5, ag9, ag33, z33, z9, st33, c33, c9, c3, i33, i9, i3, b33, b9, f33_0, f33_1, f33_2, p33_0, p33_1, p33_2, k33, g33, g9, s22, SM_at, add_at, g9L, g12, gR10, g11, g13, g14, Lexed.v, toksD_C, w2, List.append_assoc, e2]
          split
          · rename_i c2
            refine ⟨by simp; omega, k + 1, by omega, by omega, .of ?_ (.refl _)⟩
            simp (maxSteps := 1000000) -dsimp -implicitDefEqProofs only [fnB_some, eq_self, Nat.mul_one, Int.le_refl, Int.reduceLE, Int.reduceLT, vbyte, decide_eq_true_eq, ↓vwp_skip, ↓vwp_region, ↓vwp_seq, ↓vwp_cond, ↓vwp_block, ↓vwp_loop, ↓vwp_exit, ↓vwp_ret, ↓vwp_label, vghost_false, vghost_true, vcond_bool, ↓vregion_ordered, ↓vregion_drawn, vops_nil, vops_cons, vopsD_nil, vopsD_cons, ↓rowsOf_eq, rowsL, nthL, rowsC_some, ↓vstep_free, ↓vstep_guard, vguard_some, vtest_bool, vtest_tup, ↓vop_q, vopQ_some, vopQ_none, ↓vloud_call, ↓vloud_alloc, ↓vloud_box, ↓vloud_buildSlice, ↓vloud_store, ↓vloud_make, ↓vloud_append, ↓vloud_range, ↓vloud_next, vallocK_some, vbuildE_some, vbuildZ_some, vbuildC_some, vstoreK_ptr, vstoreC_some, vmakeK_int, vmakeZ_some, vappT_some, vappR_some, vappS_nil1, vappS_nil, vappS_slc, vappS_arr, vappC_some, vrangeK_str, vnextK_ptr, vnextC_iter, vcallF_func, vcallQ_some, vcallQ_none, ↓vrun_b, vrunB_true, vrunB_false, vrunQ_some, ↓vstepD_free, ↓vstepD_guard, vguardD_some, vtestD_bool, vtestD_tup, gslotL, quietSyn, vnote_nil, vsafe_nil, vsafe_rd_nil, vsafe_same, vnote, vreads, vreads1, List.any_cons, List.any_nil, Nat.reduceBEq, vq, vev, vconst, vconst1, Env.putO_some, Env.putO_none, Env.put_at, Env.of_cons, Env.of_nil, envAt_cons, envAt_nil, vthen_normal, vthen_exit, vthen_ret, vblock_normal, vblock_exit, vblock_ret, vexit_normal, vexit_exit, vexit_ret, heldE, heldQ, held2, ↓reduceIte, reduceCtorEq, Nat.reduceEqDiff, Nat.reduceAdd, Nat.reduceMul, Nat.reduceLT, Nat.reduceLeDiff, Nat.zero_add, Nat.add_zero, List.map_cons, List.map_nil, List.nil_append, List.append_nil, List.cons_append, List.length_cons, List.length_nil, List.getElem?_cons_zero, List.getElem?_cons_succ, List.getElem?_nil, true_and, and_true, and_self, vbuiltinQ, vlen, vbin, vun, veq, vite, vextract, vslice, vlow, vhigh, vdrop, vtake, vless, vindex, vindexAddr, vread, vload, vfield, vfieldAddr, vconvert, vstore, vflat, vsplice, vfill, Option.map_some, Option.map_none, Option.bind_some, Option.bind_none, Option.isSome_some, Option.isSome_none, Option.isNone_none, Option.isNone_some, isConst, over_next, over_nil, over_cons, Heap.put_get, Heap.put_next, Heap.alloc_get, Heap.alloc_next, Heap.del_get, Heap.del_next, vpost_ret, vpost_normal, vpostK_some, vresL, vres1, vone, keeps_nil, keeps_cons, tells_nil, tells_cons, Bool.false_eq_true, Bool.true_eq_false, Bool.not_true, Bool.not_false, if_true, if_false, Bool.true_or, Bool.or_true, Bool.false_or, Bool.or_false, Bool.and_true, Bool.true_and, Bool.and_false, Bool.false_and, decide_true, decide_false, Nat.reduceAnd, List.take_succ_cons, List.take_zero, List.take_nil, List.drop_succ_cons, List.drop_zero, List.drop_nil, V.scalarL, V.scalar, V.closedL, V.closed, Array.toList, List.toList_toArray, not_true_eq_false, not_false_eq_true, List.getD_cons_zero, List.getD_cons_succ, ite_self, Nat.reduceSub, Int.reduceToNat, Int.toNat_natCast]
            (repeat' apply And.intro) <;> exact .refl _
          · rename_i c2
            rw [show k = n by omega]
        · rintro E G' ⟨e0, e1, e5, e8, e9, rfl⟩
          have rl := rep_len (c := [32]) rfl n
          have b1 : (joinT n (toks.take i) ++ rep n [32]).length ≤ 60 * (n + 62) + n := by simp; omega
          by_cases c3 : kind = 3
          · simp (maxSteps := 1000000) -dsimp -implicitDefEqProofs only [fnB_some, eq_self, Nat.mul_one, Int.le_refl, Int.reduceLE, Int.reduceLT, vbyte, decide_eq_true_eq, ↓vwp_skip, ↓vwp_region, ↓vwp_seq, ↓vwp_cond, ↓vwp_block, ↓vwp_loop, ↓vwp_exit, ↓vwp_ret, ↓vwp_label, vghost_false, vghost_true, vcond_bool, ↓vregion_ordered, ↓vregion_drawn, vops_nil, vops_cons, vopsD_nil, vopsD_cons, ↓rowsOf_eq, rowsL, nthL, rowsC_some, ↓vstep_free, ↓vstep_guard, vguard_some, vtest_bool, vtest_tup, ↓vop_q, vopQ_some, vopQ_none, ↓vloud_call, ↓vloud_alloc, ↓vloud_box, ↓vloud_buildSlice, ↓vloud_store, ↓vloud_make, ↓vloud_append, ↓vloud_range, ↓vloud_next, vallocK_some, vbuildE_some, vbuildZ_some, vbuildC_some, vstoreK_ptr, vstoreC_some, vmakeK_int, vmakeZ_some, vappT_some, vappR_some, vappS_nil1, vappS_nil, vappS_slc, vappS_arr, vappC_some, vrangeK_str, vnextK_ptr, vnextC_iter, vcallF_func, vcallQ_some, vcallQ_none, ↓vrun_b, vrunB_true, vrunB_false, vrunQ_some, ↓vstepD_free, ↓vstepD_guard, vguardD_some, vtestD_bool, vtestD_tup, gslotL, quietSyn, vnote_nil, vsafe_nil, vsafe_rd_nil, vsafe_same, vnote, vreads, vreads1, List.any_cons, List.any_nil, Nat.reduceBEq, vq, vev, vconst, vconst1, Env.putO_some, Env.putO_none, Env.put_at, Env.of_cons, Env.of_nil, envAt_cons, envAt_nil, vthen_normal, vthen_exit, vthen_ret, vblock_normal, vblock_exit, vblock_ret, vexit_normal, vexit_exit, vexit_ret, heldE, heldQ, held2, ↓reduceIte, reduceCtorEq, Nat.reduceEqDiff, Nat.reduceAdd, Nat.reduceMul, Nat.reduceLT, Nat.reduceLeDiff, Nat.zero_add, Nat.add_zero, List.map_cons, List.map_nil, List.nil_append, List.append_nil, List.cons_append, List.length_cons, List.length_nil, List.getElem?_cons_zero, List.getElem?_cons_succ, List.getElem?_nil, true_and, and_true, and_self, vbuiltinQ, vlen, vbin, vun, veq, vite, vextract, vslice, vlow, vhigh, vdrop, vtake, vless, vindex, vindexAddr, vread, vload, vfield, vfieldAddr, vconvert, vstore, vflat, vsplice, vfill, Option.map_some, Option.map_none, Option.bind_some, Option.bind_none, Option.isSome_some, Option.isSome_none, Option.isNone_none, Option.isNone_some, isConst, over_next, over_nil, over_cons, Heap.put_get, Heap.put_next, Heap.alloc_get, Heap.alloc_next, Heap.del_get, Heap.del_next, vpost_ret, vpost_normal, vpostK_some, vresL, vres1, vone, keeps_nil, keeps_cons, tells_nil, tells_cons, Bool.false_eq_true, Bool.true_eq_false, Bool.not_true, Bool.not_false, if_true, if_false, Bool.true_or, Bool.or_true, Bool.false_or, Bool.or_false, Bool.and_true, Bool.true_and, Bool.and_false, Bool.false_and, decide_true, decide_false, Nat.reduceAnd, List.take_succ_cons, List.take_zero, List.take_nil, List.drop_succ_cons, List.drop_zero, List.drop_nil, V.scalarL, V.scalar, V.closedL, V.closed, Array.toList, List.toList_toArray, not_true_eq_false, not_false_eq_true, List.getD_cons_zero, List.getD_cons_succ, ite_self, Nat.reduceSub, Int.reduceToNat, Int.toNat_natCast, T4_ord, T4_ghost, u3, u4, u5, u9, u21, u22, u23, u35, te22, te35, ag3, ag5, ag9, ag33, z33, z9, st33, c33, c9, c3, i33, i9, i3, b33, b9, f33_0, f33_1, f33_2, p33_0, p33_1, p33_2, k33, g33, g9, s22, SM_at, add_at, g9L, g12, gR10, g11, g13, g14, Lexed.v, toksD_C, e0, e1, e5, e8, e9, hx, Tok.cells, w1, c3]
            refine ⟨by omega, by omega, by omega, by simp; omega, by simp; omega, i + 1, by omega, by omega, .of ?_ (.refl _)⟩
            have f1 : form kind text = ([34] ++ text) ++ [34] := by unfold form; rw [if_pos c3]
            rw [f1] at js
            have js' : ((((joinT n (toks.take i) ++ rep n [32]) ++ [34]) ++ text) ++ [34]) = joinT n (toks.take (i + 1)) := by rw [js]; simp
            simp (maxSteps := 1000000) -dsimp -implicitDefEqProofs only [fnB_some, eq_self, Nat.mul_one, Int.le_refl, Int.reduceLE, Int.reduceLT, vbyte, decide_eq_true_eq, ↓vwp_skip, ↓vwp_region, ↓vwp_seq, ↓vwp_cond, ↓vwp_block, ↓vwp_loop, ↓vwp_exit, ↓vwp_ret, ↓vwp_label, vghost_false, vghost_true, vcond_bool, ↓vregion_ordered, ↓vregion_drawn, vops_nil, vops_cons, vopsD_nil, vopsD_cons, ↓rowsOf_eq, rowsL, nthL, rowsC_some, ↓vstep_free, ↓vstep_guard, vguard_some, vtest_bool, vtest_tup, ↓vop_q, vopQ_some, vopQ_none, ↓vloud_call, ↓vloud_alloc, ↓vloud_box, ↓vloud_buildSlice, ↓vloud_store, ↓vloud_make, ↓vloud_append, ↓vloud_range, ↓vloud_next, vallocK_some, vbuildE_some, vbuildZ_some, vbuildC_some, vstoreK_ptr, vstoreC_some, vmakeK_int, vmakeZ_some, vappT_some, vappR_some, vappS_nil1, vappS_nil, vappS_slc, vappS_arr, vappC_some, vrangeK_str, vnextK_ptr, vnextC_iter, vcallF_func, vcallQ_some, vcallQ_none, ↓vrun_b, vrunB_true, vrunB_false, vrunQ_some, ↓vstepD_free, ↓vstepD_guard, vguardD_some, vtestD_bool, vtestD_tup, gslotL, quietSyn, vnote_nil, vsafe_nil, vsafe_rd_nil, vsafe_same, vnote, vreads, vreads1, List.any_cons, List.any_nil, Nat.reduceBEq, vq, vev, vconst, vconst1, Env.putO_some, Env.putO_none, Env.put_at, Env.of_cons, Env.of_nil, envAt_cons, envAt_nil, vthen_normal, vthen_exit, vthen_ret, vblock_normal, vblock_exit, vblock_ret, vexit_normal, vexit_exit, vexit_ret, heldE, heldQ, held2, ↓reduceIte, reduceCtorEq, Nat.reduceEqDiff, Nat.reduceAdd, Nat.reduceMul, Nat.reduceLT, Nat.reduceLeDiff, Nat.zero_add, Nat.add_zero, List.map_cons, List.map_nil, List.nil_append, List.append_nil, List.cons_append, List.length_cons, List.length_nil, List.getElem?_cons_zero, List.getElem?_cons_succ, List.getElem?_nil, true_and, and_true, and_self, vbuiltinQ, vlen, vbin, vun, veq, vite, vextract, vslice, vlow, vhigh, vdrop, vtake, vless, vindex, vindexAddr, vread, vload, vfield, vfieldAddr, vconvert, vstore, vflat, vsplice, vfill, Option.map_some, Option.map_none, Option.bind_some, Option.bind_none, Option.isSome_some, Option.isSome_none, Option.isNone_none, Option.isNone_some, isConst, over_next, over_nil, over_cons, Heap.put_get, Heap.put_next, Heap.alloc_get, Heap.alloc_next, Heap.del_get, Heap.del_next, vpost_ret, vpost_normal, vpostK_some, vresL, vres1, vone, keeps_nil, keeps_cons, tells_nil, tells_cons, Bool.false_eq_true, Bool.true_eq_false, Bool.not_true, Bool.not_false, if_true, if_false, Bool.true_or, Bool.or_true, Bool.false_or, Bool.or_false, Bool.and_true, Bool.true_and, Bool.and_false, Bool.false_and, decide_true, decide_false, Nat.reduceAnd, List.take_succ_cons, List.take_zero, List.take_nil, List.drop_succ_cons, List.drop_zero, List.drop_nil, V.scalarL, V.scalar, V.closedL, V.closed, Array.toList, List.toList_toArray, not_true_eq_false, not_false_eq_true, List.getD_cons_zero, List.getD_cons_succ, ite_self, Nat.reduceSub, Int.reduceToNat, Int.toNat_natCast, e0, e1, e5, js']
            (repeat' apply And.intro) <;> exact .refl _
          · simp (maxSteps := 1000000) -dsimp -implicitDefEqProofs only [fnB_some, eq_self, Nat.mul_one, Int.le_refl, Int.reduceLE, Int.reduceLT, vbyte, decide_eq_true_eq, ↓vwp_skip, ↓vwp_region, ↓vwp_seq, ↓vwp_cond, ↓vwp_block, ↓vwp_loop, ↓vwp_exit, ↓vwp_ret, ↓vwp_label, vghost_false, vghost_true, vcond_bool, ↓vregion_ordered, ↓vregion_drawn, vops_nil, vops_cons, vopsD_nil, vopsD_cons, ↓rowsOf_eq, rowsL, nthL, rowsC_some, ↓vstep_free, ↓vstep_guard, vguard_some, vtest_bool, vtest_tup, ↓vop_q, vopQ_some, vopQ_none, ↓vloud_call, ↓vloud_alloc, ↓vloud_box, ↓vloud_buildSlice, ↓vloud_store, ↓vloud_make, ↓vloud_append, ↓vloud_range, ↓vloud_next, vallocK_some, vbuildE_some, vbuildZ_some, vbuildC_some, vstoreK_ptr, vstoreC_some, vmakeK_int, vmakeZ_some, vappT_some, vappR_some, vappS_nil1, vappS_nil, vappS_slc, vappS_arr, vappC_some, vrangeK_str, vnextK_ptr, vnextC_iter, vcallF_func, vcallQ_some, vcallQ_none, ↓vrun_b, vrunB_true, vrunB_false, vrunQ_some, ↓vstepD_free, ↓vstepD_guard, vguardD_some, vtestD_bool, vtestD_tup, gslotL, quietSyn, vnote_nil, vsafe_nil, vsafe_rd_nil, vsafe_same, vnote, vreads, vreads1, List.any_cons, List.any_nil, Nat.reduceBEq, vq, vev, vconst, vconst1, Env.putO_some, Env.putO_none, Env.put_at, Env.of_cons, Env.of_nil, envAt_cons, envAt_nil, vthen_normal, vthen_exit, vthen_ret, vblock_normal, vblock_exit, vblock_ret, vexit_normal, vexit_exit, vexit_ret, heldE, heldQ, held2, ↓reduceIte, reduceCtorEq, Nat.reduceEqDiff, Nat.reduceAdd, Nat.reduceMul, Nat.reduceLT, Nat.reduceLeDiff, Nat.zero_add, Nat.add_zero, List.map_cons, List.map_nil, List.nil_append, List.append_nil, List.cons_append, List.length_cons, List.length_nil, List.getElem?_cons_zero, List.getElem?_cons_succ, List.getElem?_nil, true_and, and_true, and_self, vbuiltinQ, vlen, vbin, vun, veq, vite, vextract, vslice, vlow, vhigh, vdrop, vtake, vless, vindex, vindexAddr, vread, vload, vfield, vfieldAddr, vconvert, vstore, vflat, vsplice, vfill, Option.map_some, Option.map_none, Option.bind_some, Option.bind_none, Option.isSome_some, Option.isSome_none, Option.isNone_none, Option.isNone_some, isConst, over_next, over_nil, over_cons, Heap.put_get, Heap.put_next, Heap.alloc_get, Heap.alloc_next, Heap.del_get, Heap.del_next, vpost_ret, vpost_normal, vpostK_some, vresL, vres1, vone, keeps_nil, keeps_cons, tells_nil, tells_cons, Bool.false_eq_true, Bool.true_eq_false, Bool.not_true, Bool.not_false, if_true, if_false, Bool.true_or, Bool.or_true, Bool.false_or, Bool.or_false, Bool.and_true, Bool.true_and, Bool.and_false, Bool.false_and, decide_true, decide_false, Nat.reduceAnd, List.take_succ_cons, List.take_zero, List.take_nil, List.drop_succ_cons, List.drop_zero, List.drop_nil, V.scalarL, V.scalar, V.closedL, V.closed, Array.toList, List.toList_toArray, not_true_eq_false, not_false_eq_true, List.getD_cons_zero, List.getD_cons_succ, ite_self, Nat.reduceSub, Int.reduceToNat, Int.toNat_natCast, T4_ord, T4_ghost, u3, u4, u5, u9, u21, u22, u23, u35, te22, te35, ag3, ag5, ag9, ag33, z33, z9, st33, c33, c9, c3, i33, i9, i3, b33, b9, f33_0, f33_1, f33_2, p33_0, p33_1, p33_2, k33, g33, g9, s22, SM_at, add_at, g9L, g12, gR10, g11, g13, g14, Lexed.v, toksD_C, e0, e1, e5, e8, e9, hx, Tok.cells, w1, c3]
            refine ⟨by omega, by omega, by omega, i + 1, by omega, by omega, .of ?_ (.refl _)⟩
            have f1 : form kind text = text := by unfold form; rw [if_neg c3]
            rw [f1] at js
            have js' : (joinT n (toks.take i) ++ rep n [32]) ++ text = joinT n (toks.take (i + 1)) := by rw [js]; simp
            simp (maxSteps := 1000000) -dsimp -implicitDefEqProofs only [fnB_some, eq_self, Nat.mul_one, Int.le_refl, Int.reduceLE, Int.reduceLT, vbyte, decide_eq_true_eq, ↓vwp_skip, ↓vwp_region, ↓vwp_seq, ↓vwp_cond, ↓vwp_block, ↓vwp_loop, ↓vwp_exit, ↓vwp_ret, ↓vwp_label, vghost_false, vghost_true, vcond_bool, ↓vregion_ordered, ↓vregion_drawn, vops_nil, vops_cons, vopsD_nil, vopsD_cons, ↓rowsOf_eq, rowsL, nthL, rowsC_some, ↓vstep_free, ↓vstep_guard, vguard_some, vtest_bool, vtest_tup, ↓vop_q, vopQ_some, vopQ_none, ↓vloud_call, ↓vloud_alloc, ↓vloud_box, ↓vloud_buildSlice, ↓vloud_store, ↓vloud_make, ↓vloud_append, ↓vloud_range, ↓vloud_next, vallocK_some, vbuildE_some, vbuildZ_some, vbuildC_some, vstoreK_ptr, vstoreC_some, vmakeK_int, vmakeZ_some, vappT_some, vappR_some, vappS_nil1, vappS_nil, vappS_slc, vappS_arr, vappC_some, vrangeK_str, vnextK_ptr, vnextC_iter, vcallF_func, vcallQ_some, vcallQ_none, ↓vrun_b, vrunB_true, vrunB_false, vrunQ_some, ↓vstepD_free, ↓vstepD_guard, vguardD_some, vtestD_bool, vtestD_tup, gslotL, quietSyn, vnote_nil, vsafe_nil, vsafe_rd_nil, vsafe_same, vnote, vreads, vreads1, List.any_cons, List.any_nil, Nat.reduceBEq, vq, vev, vconst, vconst1, Env.putO_some, Env.putO_none, Env.put_at, Env.of_cons, Env.of_nil, envAt_cons, envAt_nil, vthen_normal, vthen_exit, vthen_ret, vblock_normal, vblock_exit, vblock_ret, vexit_normal, vexit_exit, vexit_ret, heldE, heldQ, held2, ↓reduceIte, reduceCtorEq, Nat.reduceEqDiff, Nat.reduceAdd, Nat.reduceMul, Nat.reduceLT, Nat.reduceLeDiff, Nat.zero_add, Nat.add_zero, List.map_cons, List.map_nil, List.nil_append, List.append_nil, List.cons_append, List.length_cons, List.length_nil, List.getElem?_cons_zero, List.getElem?_cons_succ, List.getElem?_nil, true_and, and_true, and_self, vbuiltinQ, vlen, vbin, vun, veq, vite, vextract, vslice, vlow, vhigh, vdrop, vtake, vless, vindex, vindexAddr, vread, vload, vfield, vfieldAddr, vconvert, vstore, vflat, vsplice, vfill, Option.map_some, Option.map_none, Option.bind_some, Option.bind_none, Option.isSome_some, Option.isSome_none, Option.isNone_none, Option.isNone_some, isConst, over_next, over_nil, over_cons, Heap.put_get, Heap.put_next, Heap.alloc_get, Heap.alloc_next, Heap.del_get, Heap.del_next, vpost_ret, vpost_normal, vpostK_some, vresL, vres1, vone, keeps_nil, keeps_cons, tells_nil, tells_cons, Bool.false_eq_true, Bool.true_eq_false, Bool.not_true, Bool.not_false, if_true, if_false, Bool.true_or, Bool.or_true, Bool.false_or, Bool.or_false, Bool.and_true, Bool.true_and, Bool.and_false, Bool.false_and, decide_true, decide_false, Nat.reduceAnd, List.take_succ_cons, List.take_zero, List.take_nil, List.drop_succ_cons, List.drop_zero, List.drop_nil, V.scalarL, V.scalar, V.closedL, V.closed, Array.toList, List.toList_toArray, not_true_eq_false, not_false_eq_true, List.getD_cons_zero, List.getD_cons_succ, ite_self, Nat.reduceSub, Int.reduceToNat, Int.toNat_natCast, e0, e1, e5, js']
            (repeat' apply And.intro) <;> exact .refl _
      · have c1 : ¬(i : Int) < (toks.length : Int) := by omega
        have e1 : toks.take i = toks := List.take_of_length_le (by omega)
        simp (maxSteps := 1000000) -dsimp -implicitDefEqProofs only [fnB_some, eq_self, Nat.mul_one, Int.le_refl, Int.reduceLE, Int.reduceLT, vbyte, decide_eq_true_eq, ↓vwp_skip, ↓vwp_region, ↓vwp_seq, ↓vwp_cond, ↓vwp_block, ↓vwp_loop, ↓vwp_exit, ↓vwp_ret, ↓vwp_label, vghost_false, vghost_true, vcond_bool, ↓vregion_ordered, ↓vregion_drawn, vops_nil, vops_cons, vopsD_nil, vopsD_cons, ↓rowsOf_eq, rowsL, nthL, rowsC_some, ↓vstep_free, ↓vstep_guard, vguard_some, vtest_bool, vtest_tup, ↓vop_q, vopQ_some, vopQ_none, ↓vloud_call, ↓vloud_alloc, ↓vloud_box, ↓vloud_buildSlice, ↓vloud_store, ↓vloud_make, ↓vloud_append, ↓vloud_range, ↓vloud_next, vallocK_some, vbuildE_some, vbuildZ_some, vbuildC_some, vstoreK_ptr, vstoreC_some, vmakeK_int, vmakeZ_some, vappT_some, vappR_some, vappS_nil1, vappS_nil, vappS_slc, vappS_arr, vappC_some, vrangeK_str, vnextK_ptr, vnextC_iter, vcallF_func, vcallQ_some, vcallQ_none, ↓vrun_b, vrunB_true, vrunB_false, vrunQ_some, ↓vstepD_free, ↓vstepD_guard, vguardD_some, vtestD_bool, vtestD_tup, gslotL, quietSyn, vnote_nil, vsafe_nil, vsafe_rd_nil, vsafe_same, vnote, vreads, vreads1, List.any_cons, List.any_nil, Nat.reduceBEq, vq, vev, vconst, vconst1, Env.putO_some, Env.putO_none, Env.put_at, Env.of_cons, Env.of_nil, envAt_cons, envAt_nil, vthen_normal, vthen_exit, vthen_ret, vblock_normal, vblock_exit, vblock_ret, vexit_normal, vexit_exit, vexit_ret, heldE, heldQ, held2, ↓reduceIte, reduceCtorEq, Nat.reduceEqDiff, Nat.reduceAdd, Nat.reduceMul, Nat.reduceLT, Nat.reduceLeDiff, Nat.zero_add, Nat.add_zero, List.map_cons, List.map_nil, List.nil_append, List.append_nil, List.cons_append, List.length_cons, List.length_nil, List.getElem?_cons_zero, List.getElem?_cons_succ, List.getElem?_nil, true_and, and_true, and_self, vbuiltinQ, vlen, vbin, vun, veq, vite, vextract, vslice, vlow, vhigh, vdrop, vtake, vless, vindex, vindexAddr, vread, vload, vfield, vfieldAddr, vconvert, vstore, vflat, vsplice, vfill, Option.map_some, Option.map_none, Option.bind_some, Option.bind_none, Option.isSome_some, Option.isSome_none, Option.isNone_none, Option.isNone_some, isConst, over_next, over_nil, over_cons, Heap.put_get, Heap.put_next, Heap.alloc_get, Heap.alloc_next, Heap.del_get, Heap.del_next, vpost_ret, vpost_normal, vpostK_some, vresL, vres1, vone, keeps_nil, keeps_cons, tells_nil, tells_cons, Bool.false_eq_true, Bool.true_eq_false, Bool.not_true, Bool.not_false, if_true, if_false, Bool.true_or, Bool.or_true, Bool.false_or, Bool.or_false, Bool.and_true, Bool.true_and, Bool.and_false, Bool.false_and, decide_true, decide_false, Nat.reduceAnd, List.take_succ_cons, List.take_zero, List.take_nil, List.drop_succ_cons, List.drop_zero, List.drop_nil, V.scalarL, V.scalar, V.closedL, V.closed, Array.toList, List.toList_toArray, not_true_eq_false, not_false_eq_true, List.getD_cons_zero, List.getD_cons_succ, ite_self, Nat.reduceSub, Int.reduceToNat, Int.toNat_natCast, T4_ord, T4_ghost, u3, u4, u5, u9, u21, u22, u23, u35, te22, te35, ag3, ag5, ag9, ag33, z33, z9, st33, c33, c9, c3, i33, i9, i3, b33, b9, f33_0, f33_1, f33_2, p33_0, p33_1, p33_2, k33, g33, g9, s22, SM_at, add_at, g9L, g12, gR10, g11, g13, g14, Lexed.v, toksD_C, c1, e1]
    · rintro E G' ⟨e0, e1, e5, e8, rfl⟩
      by_cases hl : 200 < ((joinT n toks).length : Int)
      · simp (maxSteps := 1000000) -dsimp -implicitDefEqProofs only [fnB_some, eq_self, Nat.mul_one, Int.le_refl, Int.reduceLE, Int.reduceLT, vbyte, decide_eq_true_eq, ↓vwp_skip, ↓vwp_region, ↓vwp_seq, ↓vwp_cond, ↓vwp_block, ↓vwp_loop, ↓vwp_exit, ↓vwp_ret, ↓vwp_label, vghost_false, vghost_true, vcond_bool, ↓vregion_ordered, ↓vregion_drawn, vops_nil, vops_cons, vopsD_nil, vopsD_cons, ↓rowsOf_eq, rowsL, nthL, rowsC_some, ↓vstep_free, ↓vstep_guard, vguard_some, vtest_bool, vtest_tup, ↓vop_q, vopQ_some, vopQ_none, ↓vloud_call, ↓vloud_alloc, ↓vloud_box, ↓vloud_buildSlice, ↓vloud_store, ↓vloud_make, ↓vloud_append, ↓vloud_range, ↓vloud_next, vallocK_some, vbuildE_some, vbuildZ_some, vbuildC_some, vstoreK_ptr, vstoreC_some, vmakeK_int, vmakeZ_some, vappT_some, vappR_some, vappS_nil1, vappS_nil, vappS_slc, vappS_arr, vappC_some, vrangeK_str, vnextK_ptr, vnextC_iter, vcallF_func, vcallQ_some, vcallQ_none, ↓vrun_b, vrunB_true, vrunB_false, vrunQ_some, ↓vstepD_free, ↓vstepD_guard, vguardD_some, vtestD_bool, vtestD_tup, gslotL, quietSyn, vnote_nil, vsafe_nil, vsafe_rd_nil, vsafe_same, vnote, vreads, vreads1, List.any_cons, List.any_nil, Nat.reduceBEq, vq, vev, vconst, vconst1, Env.putO_some, Env.putO_none, Env.put_at, Env.of_cons, Env.of_nil, envAt_cons, envAt_nil, vthen_normal, vthen_exit, vthen_ret, vblock_normal, vblock_exit, vblock_ret, vexit_normal, vexit_exit, vexit_ret, heldE, heldQ, held2, ↓reduceIte, reduceCtorEq, Nat.reduceEqDiff, Nat.reduceAdd, Nat.reduceMul, Nat.reduceLT, Nat.reduceLeDiff, Nat.zero_add, Nat.add_zero, List.map_cons, List.map_nil, List.nil_append, List.append_nil, List.cons_append, List.length_cons, List.length_nil, List.getElem?_cons_zero, List.getElem?_cons_succ, List.getElem?_nil, true_and, and_true, and_self, vbuiltinQ, vlen, vbin, vun, veq, vite, vextract, vslice, vlow, vhigh, vdrop, vtake, vless, vindex, vindexAddr, vread, vload, vfield, vfieldAddr, vconvert, vstore, vflat, vsplice, vfill, Option.map_some, Option.map_none, Option.bind_some, Option.bind_none, Option.isSome_some, Option.isSome_none, Option.isNone_none, Option.isNone_some, isConst, over_next, over_nil, over_cons, Heap.put_get, Heap.put_next, Heap.alloc_get, Heap.alloc_next, Heap.del_get, Heap.del_next, vpost_ret, vpost_normal, vpostK_some, vresL, vres1, vone, keeps_nil, keeps_cons, tells_nil, tells_cons, Bool.false_eq_true, Bool.true_eq_false, Bool.not_true, Bool.not_false, if_true, if_false, Bool.true_or, Bool.or_true, Bool.false_or, Bool.or_false, Bool.and_true, Bool.true_and, Bool.and_false, Bool.false_and, decide_true, decide_false, Nat.reduceAnd, List.take_succ_cons, List.take_zero, List.take_nil, List.drop_succ_cons, List.drop_zero, List.drop_nil, V.scalarL, V.scalar, V.closedL, V.closed, Array.toList, List.toList_toArray, not_true_eq_false, not_false_eq_true, List.getD_cons_zero, List.getD_cons_succ, ite_self, Nat.reduceSub, Int.reduceToNat, Int.toNat_natCast, T4_ord, T4_ghost, u3, u4, u5, u9, u21, u22, u23, u35, te22, te35, ag3, ag5, ag9, ag33, z33, z9, st33, c33, c9, c3, i33, i9, i3, b33, b9, f33_0, f33_1, f33_2, p33_0, p33_1, p33_2, k33, g33, g9, s22, SM_at, add_at, g9L, g12, gR10, g11, g13, g14, Lexed.v, toksD_C, e0, e1, e5, e8, hl]
        exact dn
      · obtain ⟨q1, q2⟩ := law (by omega)
        have ql := q2.len
        have qa := q2.at
        have qlen := lexL_len (joinT n toks)
        generalize hr2 : lexL (joinT n toks) = r2 at *
        obtain ⟨toks2, rn2, re2⟩ := r2
        simp only at q1 q2 ql qa qlen
        subst q1
        have c2 : ¬(0 : Int) ≠ 0 := by decide
        have c3 : ¬(toks.length : Int) ≠ (toks2.length : Int) := by omega
        simp (maxSteps := 1000000) -dsimp -implicitDefEqProofs only [fnB_some, eq_self, Nat.mul_one, Int.le_refl, Int.reduceLE, Int.reduceLT, vbyte, decide_eq_true_eq, ↓vwp_skip, ↓vwp_region, ↓vwp_seq, ↓vwp_cond, ↓vwp_block, ↓vwp_loop, ↓vwp_exit, ↓vwp_ret, ↓vwp_label, vghost_false, vghost_true, vcond_bool, ↓vregion_ordered, ↓vregion_drawn, vops_nil, vops_cons, vopsD_nil, vopsD_cons, ↓rowsOf_eq, rowsL, nthL, rowsC_some, ↓vstep_free, ↓vstep_guard, vguard_some, vtest_bool, vtest_tup, ↓vop_q, vopQ_some, vopQ_none, ↓vloud_call, ↓vloud_alloc, ↓vloud_box, ↓vloud_buildSlice, ↓vloud_store, ↓vloud_make, ↓vloud_append, ↓vloud_range, ↓vloud_next, vallocK_some, vbuildE_some, vbuildZ_some, vbuildC_some, vstoreK_ptr, vstoreC_some, vmakeK_int, vmakeZ_some, vappT_some, vappR_some, vappS_nil1, vappS_nil, vappS_slc, vappS_arr, vappC_some, vrangeK_str, vnextK_ptr, vnextC_iter, vcallF_func, vcallQ_some, vcallQ_none, ↓vrun_b, vrunB_true, vrunB_false, vrunQ_some, ↓vstepD_free, ↓vstepD_guard, vguardD_some, vtestD_bool, vtestD_tup, gslotL, quietSyn, vnote_nil, vsafe_nil, vsafe_rd_nil, vsafe_same, vnote, vreads, vreads1, List.any_cons, List.any_nil, Nat.reduceBEq, vq, vev, vconst, vconst1, Env.putO_some, Env.putO_none, Env.put_at, Env.of_cons, Env.of_nil, envAt_cons, envAt_nil, vthen_normal, vthen_exit, vthen_ret, vblock_normal, vblock_exit, vblock_ret, vexit_normal, vexit_exit, vexit_ret, heldE, heldQ, held2, ↓reduceIte, reduceCtorEq, Nat.reduceEqDiff, Nat.reduceAdd, Nat.reduceMul, Nat.reduceLT, Nat.reduceLeDiff, Nat.zero_add, Nat.add_zero, List.map_cons, List.map_nil, List.nil_append, List.append_nil, List.cons_append, List.length_cons, List.length_nil, List.getElem?_cons_zero, List.getElem?_cons_succ, List.getElem?_nil, true_and, and_true, and_self, vbuiltinQ, vlen, vbin, vun, veq, vite, vextract, vslice, vlow, vhigh, vdrop, vtake, vless, vindex, vindexAddr, vread, vload, vfield, vfieldAddr, vconvert, vstore, vflat, vsplice, vfill, Option.map_some, Option.map_none, Option.bind_some, Option.bind_none, Option.isSome_some, Option.isSome_none, Option.isNone_none, Option.isNone_some, isConst, over_next, over_nil, over_cons, Heap.put_get, Heap.put_next, Heap.alloc_get, Heap.alloc_next, Heap.del_get, Heap.del_next, vpost_ret, vpost_normal, vpostK_some, vresL, vres1, vone, keeps_nil, keeps_cons, tells_nil, tells_cons, Bool.false_eq_true, Bool.true_eq_false, Bool.not_true, Bool.not_false, if_true, if_false, Bool.true_or, Bool.or_true, Bool.false_or, Bool.or_false, Bool.and_true, Bool.true_and, Bool.and_false, Bool.false_and, decide_true, decide_false, Nat.reduceAnd, List.take_succ_cons, List.take_zero, List.take_nil, List.drop_succ_cons, List.drop_zero, List.drop_nil, V.scalarL, V.scalar, V.closedL, V.closed, Array.toList, List.toList_toArray, not_true_eq_false, not_false_eq_true, List.getD_cons_zero, List.getD_cons_succ, ite_self, Nat.reduceSub, Int.reduceToNat, Int.toNat_natCast, T4_ord, T4_ghost, u3, u4, u5, u9, u21, u22, u23, u35, te22, te35, ag3, ag5, ag9, ag33, z33, z9, st33, c33, c9, c3, i33, i9, i3, b33, b9, f33_0, f33_1, f33_2, p33_0, p33_1, p33_2, k33, g33, g9, s22, SM_at, add_at, g9L, g12, gR10, g11, g13, g14, Lexed.v, toksD_C, e0, e1, e5, e8, hl, hr2, c2, c3]
        refine vloop_by (fun i : Nat => i ≤ toks.length) (fun i => Env.of [(5, .sl 3 toks.length (toksC toks)), (11, .sl 3 toks2.length (toksC toks2)), (14, .int .i64 (i : Nat))]) (fun _ => G.over G.next []) (fun i => toks.length - i) 0 ?_ ?_ ?_
        · refine .of ?_ (.refl _)
          simp (maxSteps := 1000000) -dsimp -implicitDefEqProofs only [fnB_some, eq_self, Nat.mul_one, Int.le_refl, Int.reduceLE, Int.reduceLT, vbyte, decide_eq_true_eq, ↓vwp_skip, ↓vwp_region, ↓vwp_seq, ↓vwp_cond, ↓vwp_block, ↓vwp_loop, ↓vwp_exit, ↓vwp_ret, ↓vwp_label, vghost_false, vghost_true, vcond_bool, ↓vregion_ordered, ↓vregion_drawn, vops_nil, vops_cons, vopsD_nil, vopsD_cons, ↓rowsOf_eq, rowsL, nthL, rowsC_some, ↓vstep_free, ↓vstep_guard, vguard_some, vtest_bool, vtest_tup, ↓vop_q, vopQ_some, vopQ_none, ↓vloud_call, ↓vloud_alloc, ↓vloud_box, ↓vloud_buildSlice, ↓vloud_store, ↓vloud_make, ↓vloud_append, ↓vloud_range, ↓vloud_next, vallocK_some, vbuildE_some, vbuildZ_some, vbuildC_some, vstoreK_ptr, vstoreC_some, vmakeK_int, vmakeZ_some, vappT_some, vappR_some, vappS_nil1, vappS_nil, vappS_slc, vappS_arr, vappC_some, vrangeK_str, vnextK_ptr, vnextC_iter, vcallF_func, vcallQ_some, vcallQ_none, ↓vrun_b, vrunB_true, vrunB_false, vrunQ_some, ↓vstepD_free, ↓vstepD_guard, vguardD_some, vtestD_bool, vtestD_tup, gslotL, quietSyn, vnote_nil, vsafe_nil, vsafe_rd_nil, vsafe_same, vnote, vreads, vreads1, List.any_cons, List.any_nil, Nat.reduceBEq, vq, vev, vconst, vconst1, Env.putO_some, Env.putO_none, Env.put_at, Env.of_cons, Env.of_nil, envAt_cons, envAt_nil, vthen_normal, vthen_exit, vthen_ret, vblock_normal, vblock_exit, vblock_ret, vexit_normal, vexit_exit, vexit_ret, heldE, heldQ, held2, ↓reduceIte, reduceCtorEq, Nat.reduceEqDiff, Nat.reduceAdd, Nat.reduceMul, Nat.reduceLT, Nat.reduceLeDiff, Nat.zero_add, Nat.add_zero, List.map_cons, List.map_nil, List.nil_append, List.append_nil, List.cons_append, List.length_cons, List.length_nil, List.getElem?_cons_zero, List.getElem?_cons_succ, List.getElem?_nil, true_and, and_true, and_self, vbuiltinQ, vlen, vbin, vun, veq, vite, vextract, vslice, vlow, vhigh, vdrop, vtake, vless, vindex, vindexAddr, vread, vload, vfield, vfieldAddr, vconvert, vstore, vflat, vsplice, vfill, Option.map_some, Option.map_none, Option.bind_some, Option.bind_none, Option.isSome_some, Option.isSome_none, Option.isNone_none, Option.isNone_some, isConst, over_next, over_nil, over_cons, Heap.put_get, Heap.put_next, Heap.alloc_get, Heap.alloc_next, Heap.del_get, Heap.del_next, vpost_ret, vpost_normal, vpostK_some, vresL, vres1, vone, keeps_nil, keeps_cons, tells_nil, tells_cons, Bool.false_eq_true, Bool.true_eq_false, Bool.not_true, Bool.not_false, if_true, if_false, Bool.true_or, Bool.or_true, Bool.false_or, Bool.or_false, Bool.and_true, Bool.true_and, Bool.and_false, Bool.false_and, decide_true, decide_false, Nat.reduceAnd, List.take_succ_cons, List.take_zero, List.take_nil, List.drop_succ_cons, List.drop_zero, List.drop_nil, V.scalarL, V.scalar, V.closedL, V.closed, Array.toList, List.toList_toArray, not_true_eq_false, not_false_eq_true, List.getD_cons_zero, List.getD_cons_succ, ite_self, Nat.reduceSub, Int.reduceToNat, Int.toNat_natCast, e5]
          (repeat' apply And.intro) <;> exact .refl _
        · exact Nat.zero_le _
        · rintro i hi
          have w1 : IntKind.wrap .i64 ((i : Int) + 1) = ((i + 1 : Nat) : Int) := by rw [w64 (by omega) (by omega)]; rfl
          by_cases hlt : i < toks.length
          · have hlt2 : i < toks2.length := by omega
            have c1 : (i : Int) < (toks.length : Int) := by omega
            have hx := toks_at hlt
            have hy := toks_at hlt2
            obtain ⟨k1, k2⟩ := qa i hlt hlt2
            generalize toks[i] = x at hx k1 k2
            generalize toks2[i] = y at hy k1 k2
            simp (maxSteps := 1000000) -dsimp -implicitDefEqProofs only [fnB_some, eq_self, Nat.mul_one, Int.le_refl, Int.reduceLE, Int.reduceLT, vbyte, decide_eq_true_eq, ↓vwp_skip, ↓vwp_region, ↓vwp_seq, ↓vwp_cond, ↓vwp_block, ↓vwp_loop, ↓vwp_exit, ↓vwp_ret, ↓vwp_label, vghost_false, vghost_true, vcond_bool, ↓vregion_ordered, ↓vregion_drawn, vops_nil, vops_cons, vopsD_nil, vopsD_cons, ↓rowsOf_eq, rowsL, nthL, rowsC_some, ↓vstep_free, ↓vstep_guard, vguard_some, vtest_bool, vtest_tup, ↓vop_q, vopQ_some, vopQ_none, ↓vloud_call, ↓vloud_alloc, ↓vloud_box, ↓vloud_buildSlice, ↓vloud_store, ↓vloud_make, ↓vloud_append, ↓vloud_range, ↓vloud_next, vallocK_some, vbuildE_some, vbuildZ_some, vbuildC_some, vstoreK_ptr, vstoreC_some, vmakeK_int, vmakeZ_some, vappT_some, vappR_some, vappS_nil1, vappS_nil, vappS_slc, vappS_arr, vappC_some, vrangeK_str, vnextK_ptr, vnextC_iter, vcallF_func, vcallQ_some, vcallQ_none, ↓vrun_b, vrunB_true, vrunB_false, vrunQ_some, ↓vstepD_free, ↓vstepD_guard, vguardD_some, vtestD_bool, vtestD_tup, gslotL, quietSyn, vnote_nil, vsafe_nil, vsafe_rd_nil, vsafe_same, vnote, vreads, vreads1, List.any_cons, List.any_nil, Nat.reduceBEq, vq, vev, vconst, vconst1, Env.putO_some, Env.putO_none, Env.put_at, Env.of_cons, Env.of_nil, envAt_cons, envAt_nil, vthen_normal, vthen_exit, vthen_ret, vblock_normal, vblock_exit, vblock_ret, vexit_normal, vexit_exit, vexit_ret, heldE, heldQ, held2, ↓reduceIte, reduceCtorEq, Nat.reduceEqDiff, Nat.reduceAdd, Nat.reduceMul, Nat.reduceLT, Nat.reduceLeDiff, Nat.zero_add, Nat.add_zero, List.map_cons, List.map_nil, List.nil_append, List.append_nil, List.cons_append, List.length_cons, List.length_nil, List.getElem?_cons_zero, List.getElem?_cons_succ, List.getElem?_nil, true_and, and_true, and_self, vbuiltinQ, vlen, vbin, vun, veq, vite, vextract, vslice, vlow, vhigh, vdrop, vtake, vless, vindex, vindexAddr, vread, vload, vfield, vfieldAddr, vconvert, vstore, vflat, vsplice, vfill, Option.map_some, Option.map_none, Option.bind_some, Option.bind_none, Option.isSome_some, Option.isSome_none, Option.isNone_none, Option.isNone_some, isConst, over_next, over_nil, over_cons, Heap.put_get, Heap.put_next, Heap.alloc_get, Heap.alloc_next, Heap.del_get, Heap.del_next, vpost_ret, vpost_normal, vpostK_some, vresL, vres1, vone, keeps_nil, keeps_cons, tells_nil, tells_cons, Bool.false_eq_true, Bool.true_eq_false, Bool.not_true, Bool.not_false, if_true, if_false, Bool.true_or, Bool.or_true, Bool.false_or, Bool.or_false, Bool.and_true, Bool.true_and, Bool.and_false, Bool.false_and, decide_true, decide_false, Nat.reduceAnd, List.take_succ_cons, List.take_zero, List.take_nil, List.drop_succ_cons, List.drop_zero, List.drop_nil, V.scalarL, V.scalar, V.closedL, V.closed, Array.toList, List.toList_toArray, not_true_eq_false, not_false_eq_true, List.getD_cons_zero, List.getD_cons_succ, ite_self, Nat.reduceSub, Int.reduceToNat, Int.toNat_natCast, T4_ord, T4_ghost, u3, u4, u5, u9, u21, u22, u23, u35, te22, te35, ag3, ag5, ag9, ag33, z33, z9, st33, c33, c9, c3, i33, i9, i3, b33, b9, f33_0, f33_1, f33_2, p33_0, p33_1, p33_2, k33, g33, g9, s22, SM_at, add_at, g9L, g12, gR10, g11, g13, g14, Lexed.v, toksD_C, c1, hx, hy, Tok.cells, w1, k1, k2]
            rw [if_pos (by simp)]
            refine ⟨by omega, by omega, by omega, by omega, ?_⟩
            rw [if_neg (by simp)]
            refine ⟨i + 1, by omega, by omega, .of ?_ (.refl _)⟩
            simp (maxSteps := 1000000) -dsimp -implicitDefEqProofs only [fnB_some, eq_self, Nat.mul_one, Int.le_refl, Int.reduceLE, Int.reduceLT, vbyte, decide_eq_true_eq, ↓vwp_skip, ↓vwp_region, ↓vwp_seq, ↓vwp_cond, ↓vwp_block, ↓vwp_loop, ↓vwp_exit, ↓vwp_ret, ↓vwp_label, vghost_false, vghost_true, vcond_bool, ↓vregion_ordered, ↓vregion_drawn, vops_nil, vops_cons, vopsD_nil, vopsD_cons, ↓rowsOf_eq, rowsL, nthL, rowsC_some, ↓vstep_free, ↓vstep_guard, vguard_some, vtest_bool, vtest_tup, ↓vop_q, vopQ_some, vopQ_none, ↓vloud_call, ↓vloud_alloc, ↓vloud_box, ↓vloud_buildSlice, ↓vloud_store, ↓vloud_make, ↓vloud_append, ↓vloud_range, ↓vloud_next, vallocK_some, vbuildE_some, vbuildZ_some, vbuildC_some, vstoreK_ptr, vstoreC_some, vmakeK_int, vmakeZ_some, vappT_some, vappR_some, vappS_nil1, vappS_nil, vappS_slc, vappS_arr, vappC_some, vrangeK_str, vnextK_ptr, vnextC_iter, vcallF_func, vcallQ_some, vcallQ_none, ↓vrun_b, vrunB_true, vrunB_false, vrunQ_some, ↓vstepD_free, ↓vstepD_guard, vguardD_some, vtestD_bool, vtestD_tup, gslotL, quietSyn, vnote_nil, vsafe_nil, vsafe_rd_nil, vsafe_same, vnote, vreads, vreads1, List.any_cons, List.any_nil, Nat.reduceBEq, vq, vev, vconst, vconst1, Env.putO_some, Env.putO_none, Env.put_at, Env.of_cons, Env.of_nil, envAt_cons, envAt_nil, vthen_normal, vthen_exit, vthen_ret, vblock_normal, vblock_exit, vblock_ret, vexit_normal, vexit_exit, vexit_ret, heldE, heldQ, held2, ↓reduceIte, reduceCtorEq, Nat.reduceEqDiff, Nat.reduceAdd, Nat.reduceMul, Nat.reduceLT, Nat.reduceLeDiff, Nat.zero_add, Nat.add_zero, List.map_cons, List.map_nil, List.nil_append, List.append_nil, List.cons_append, List.length_cons, List.length_nil, List.getElem?_cons_zero, List.getElem?_cons_succ, List.getElem?_nil, true_and, and_true, and_self, vbuiltinQ, vlen, vbin, vun, veq, vite, vextract, vslice, vlow, vhigh, vdrop, vtake, vless, vindex, vindexAddr, vread, vload, vfield, vfieldAddr, vconvert, vstore, vflat, vsplice, vfill, Option.map_some, Option.map_none, Option.bind_some, Option.bind_none, Option.isSome_some, Option.isSome_none, Option.isNone_none, Option.isNone_some, isConst, over_next, over_nil, over_cons, Heap.put_get, Heap.put_next, Heap.alloc_get, Heap.alloc_next, Heap.del_get, Heap.del_next, vpost_ret, vpost_normal, vpostK_some, vresL, vres1, vone, keeps_nil, keeps_cons, tells_nil, tells_cons, Bool.false_eq_true, Bool.true_eq_false, Bool.not_true, Bool.not_false, if_true, if_false, Bool.true_or, Bool.or_true, Bool.false_or, Bool.or_false, Bool.and_true, Bool.true_and, Bool.and_false, Bool.false_and, decide_true, decide_false, Nat.reduceAnd, List.take_succ_cons, List.take_zero, List.take_nil, List.drop_succ_cons, List.drop_zero, List.drop_nil, V.scalarL, V.scalar, V.closedL, V.closed, Array.toList, List.toList_toArray, not_true_eq_false, not_false_eq_true, List.getD_cons_zero, List.getD_cons_succ, ite_self, Nat.reduceSub, Int.reduceToNat, Int.toNat_natCast]
            (repeat' apply And.intro) <;> exact .refl _
          · have c1 : ¬(i : Int) < (toks.length : Int) := by omega
            simp (maxSteps := 1000000) -dsimp -implicitDefEqProofs only [fnB_some, eq_self, Nat.mul_one, Int.le_refl, Int.reduceLE, Int.reduceLT, vbyte, decide_eq_true_eq, ↓vwp_skip, ↓vwp_region, ↓vwp_seq, ↓vwp_cond, ↓vwp_block, ↓vwp_loop, ↓vwp_exit, ↓vwp_ret, ↓vwp_label, vghost_false, vghost_true, vcond_bool, ↓vregion_ordered, ↓vregion_drawn, vops_nil, vops_cons, vopsD_nil, vopsD_cons, ↓rowsOf_eq, rowsL, nthL, rowsC_some, ↓vstep_free, ↓vstep_guard, vguard_some, vtest_bool, vtest_tup, ↓vop_q, vopQ_some, vopQ_none, ↓vloud_call, ↓vloud_alloc, ↓vloud_box, ↓vloud_buildSlice, ↓vloud_store, ↓vloud_make, ↓vloud_append, ↓vloud_range, ↓vloud_next, vallocK_some, vbuildE_some, vbuildZ_some, vbuildC_some, vstoreK_ptr, vstoreC_some, vmakeK_int, vmakeZ_some, vappT_some, vappR_some, vappS_nil1, vappS_nil, vappS_slc, vappS_arr, vappC_some, vrangeK_str, vnextK_ptr, vnextC_iter, vcallF_func, vcallQ_some, vcallQ_none, ↓vrun_b, vrunB_true, vrunB_false, vrunQ_some, ↓vstepD_free, ↓vstepD_guard, vguardD_some, vtestD_bool, vtestD_tup, gslotL, quietSyn, vnote_nil, vsafe_nil, vsafe_rd_nil, vsafe_same, vnote, vreads, vreads1, List.any_cons, List.any_nil, Nat.reduceBEq, vq, vev, vconst, vconst1, Env.putO_some, Env.putO_none, Env.put_at, Env.of_cons, Env.of_nil, envAt_cons, envAt_nil, vthen_normal, vthen_exit, vthen_ret, vblock_normal, vblock_exit, vblock_ret, vexit_normal, vexit_exit, vexit_ret, heldE, heldQ, held2, ↓reduceIte, reduceCtorEq, Nat.reduceEqDiff, Nat.reduceAdd, Nat.reduceMul, Nat.reduceLT, Nat.reduceLeDiff, Nat.zero_add, Nat.add_zero, List.map_cons, List.map_nil, List.nil_append, List.append_nil, List.cons_append, List.length_cons, List.length_nil, List.getElem?_cons_zero, List.getElem?_cons_succ, List.getElem?_nil, true_and, and_true, and_self, vbuiltinQ, vlen, vbin, vun, veq, vite, vextract, vslice, vlow, vhigh, vdrop, vtake, vless, vindex, vindexAddr, vread, vload, vfield, vfieldAddr, vconvert, vstore, vflat, vsplice, vfill, Option.map_some, Option.map_none, Option.bind_some, Option.bind_none, Option.isSome_some, Option.isSome_none, Option.isNone_none, Option.isNone_some, isConst, over_next, over_nil, over_cons, Heap.put_get, Heap.put_next, Heap.alloc_get, Heap.alloc_next, Heap.del_get, Heap.del_next, vpost_ret, vpost_normal, vpostK_some, vresL, vres1, vone, keeps_nil, keeps_cons, tells_nil, tells_cons, Bool.false_eq_true, Bool.true_eq_false, Bool.not_true, Bool.not_false, if_true, if_false, Bool.true_or, Bool.or_true, Bool.false_or, Bool.or_false, Bool.and_true, Bool.true_and, Bool.and_false, Bool.false_and, decide_true, decide_false, Nat.reduceAnd, List.take_succ_cons, List.take_zero, List.take_nil, List.drop_succ_cons, List.drop_zero, List.drop_nil, V.scalarL, V.scalar, V.closedL, V.closed, Array.toList, List.toList_toArray, not_true_eq_false, not_false_eq_true, List.getD_cons_zero, List.getD_cons_succ, ite_self, Nat.reduceSub, Int.reduceToNat, Int.toNat_natCast, T4_ord, T4_ghost, u3, u4, u5, u9, u21, u22, u23, u35, te22, te35, ag3, ag5, ag9, ag33, z33, z9, st33, c33, c9, c3, i33, i9, i3, b33, b9, f33_0, f33_1, f33_2, p33_0, p33_1, p33_2, k33, g33, g9, s22, SM_at, add_at, g9L, g12, gR10, g11, g13, g14, Lexed.v, toksD_C, c1]
            exact dn
  · have hne : (lexL s).err ≠ 0 := he
    simp (maxSteps := 1000000) -dsimp -implicitDefEqProofs only [fnB_some, eq_self, Nat.mul_one, Int.le_refl, Int.reduceLE, Int.reduceLT, vbyte, decide_eq_true_eq, ↓vwp_skip, ↓vwp_region, ↓vwp_seq, ↓vwp_cond, ↓vwp_block, ↓vwp_loop, ↓vwp_exit, ↓vwp_ret, ↓vwp_label, vghost_false, vghost_true, vcond_bool, ↓vregion_ordered, ↓vregion_drawn, vops_nil, vops_cons, vopsD_nil, vopsD_cons, ↓rowsOf_eq, rowsL, nthL, rowsC_some, ↓vstep_free, ↓vstep_guard, vguard_some, vtest_bool, vtest_tup, ↓vop_q, vopQ_some, vopQ_none, ↓vloud_call, ↓vloud_alloc, ↓vloud_box, ↓vloud_buildSlice, ↓vloud_store, ↓vloud_make, ↓vloud_append, ↓vloud_range, ↓vloud_next, vallocK_some, vbuildE_some, vbuildZ_some, vbuildC_some, vstoreK_ptr, vstoreC_some, vmakeK_int, vmakeZ_some, vappT_some, vappR_some, vappS_nil1, vappS_nil, vappS_slc, vappS_arr, vappC_some, vrangeK_str, vnextK_ptr, vnextC_iter, vcallF_func, vcallQ_some, vcallQ_none, ↓vrun_b, vrunB_true, vrunB_false, vrunQ_some, ↓vstepD_free, ↓vstepD_guard, vguardD_some, vtestD_bool, vtestD_tup, gslotL, quietSyn, vnote_nil, vsafe_nil, vsafe_rd_nil, vsafe_same, vnote, vreads, vreads1, List.any_cons, List.any_nil, Nat.reduceBEq, vq, vev, vconst, vconst1, Env.putO_some, Env.putO_none, Env.put_at, Env.of_cons, Env.of_nil, envAt_cons, envAt_nil, vthen_normal, vthen_exit, vthen_ret, vblock_normal, vblock_exit, vblock_ret, vexit_normal, vexit_exit, vexit_ret, heldE, heldQ, held2, ↓reduceIte, reduceCtorEq, Nat.reduceEqDiff, Nat.reduceAdd, Nat.reduceMul, Nat.reduceLT, Nat.reduceLeDiff, Nat.zero_add, Nat.add_zero, List.map_cons, List.map_nil, List.nil_append, List.append_nil, List.cons_append, List.length_cons, List.length_nil, List.getElem?_cons_zero, List.getElem?_cons_succ, List.getElem?_nil, true_and, and_true, and_self, vbuiltinQ, vlen, vbin, vun, veq, vite, vextract, vslice, vlow, vhigh, vdrop, vtake, vless, vindex, vindexAddr, vread, vload, vfield, vfieldAddr, vconvert, vstore, vflat, vsplice, vfill, Option.map_some, Option.map_none, Option.bind_some, Option.bind_none, Option.isSome_some, Option.isSome_none, Option.isNone_none, Option.isNone_some, isConst, over_next, over_nil, over_cons, Heap.put_get, Heap.put_next, Heap.alloc_get, Heap.alloc_next, Heap.del_get, Heap.del_next, vpost_ret, vpost_normal, vpostK_some, vresL, vres1, vone, keeps_nil, keeps_cons, tells_nil, tells_cons, Bool.false_eq_true, Bool.true_eq_false, Bool.not_true, Bool.not_false, if_true, if_false, Bool.true_or, Bool.or_true, Bool.false_or, Bool.or_false, Bool.and_true, Bool.true_and, Bool.and_false, Bool.false_and, decide_true, decide_false, Nat.reduceAnd, List.take_succ_cons, List.take_zero, List.take_nil, List.drop_succ_cons, List.drop_zero, List.drop_nil, V.scalarL, V.scalar, V.closedL, V.closed, Array.toList, List.toList_toArray, not_true_eq_false, not_false_eq_true, List.getD_cons_zero, List.getD_cons_succ, ite_self, Nat.reduceSub, Int.reduceToNat, Int.toNat_natCast, fnWp_some Tryd.func4, Tryd.f4, T4_ord, T4_ghost, u3, u4, u5, u9, u21, u22, u23, u35, te22, te35, ag3, ag5, ag9, ag33, z33, z9, st33, c33, c9, c3, i33, i9, i3, b33, b9, f33_0, f33_1, f33_2, p33_0, p33_1, p33_2, k33, g33, g9, s22, SM_at, add_at, g9L, g12, gR10, g11, g13, g14, Lexed.v, toksD_C, h1, h2, h3]
    rw [if_pos hne]
    exact dn _ fun _ _ => rfl
end Go.Vf
