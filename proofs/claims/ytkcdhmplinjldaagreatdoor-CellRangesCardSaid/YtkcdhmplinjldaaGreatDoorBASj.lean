/- A part of the proof: Sj. -/
import Derived.Test.YtkcdhmplinjldaaGreatDoorBASg
import Derived.Test.YtkcdhmplinjldaaGreatDoorBASh
set_option linter.unusedVariables false
set_option linter.unusedSimpArgs false
namespace Go.Vf
open Go.Proofs Go.RowKit
inductive It where
  | cmp (op d : List UInt8)
  | rng (p : UInt8) (d e : List UInt8) (q : UInt8)
def It.txt : It → List UInt8
  | .cmp op d => if op = [] then d else op ++ 32 :: d
  | .rng p d e q => p :: (d ++ 46 :: 46 :: (e ++ [q]))
def It.toks (pos : Nat) : It → List Tok
  | .cmp op d => if op = [] then [⟨2, d, pos⟩] else [⟨4, op, pos⟩, ⟨2, d, ((pos + op.length + 1 : Nat) : Int)⟩]
  | .rng p d e q => [⟨4, [p], pos⟩, ⟨2, d, ((pos + 1 : Nat) : Int)⟩, ⟨4, [46, 46], ((pos + 1 + d.length : Nat) : Int)⟩, ⟨2, e, ((pos + 1 + d.length + 2 : Nat) : Int)⟩, ⟨4, [q], ((pos + 1 + d.length + 2 + e.length : Nat) : Int)⟩]
def It.te : It → Te
  | .cmp op d => .mk 2 (if op = [] then [61] else op) (numE d) Ex.zero false false []
  | .rng p d e q => .mk 3 [] (numE d) (numE e) (decide (p = 91)) (decide (q = 93)) []
theorem txt_nil (d : List UInt8) : (It.cmp [] d).txt = d := rfl
theorem toks_nil (p : Nat) (d : List UInt8) : (It.cmp [] d).toks p = [⟨2, d, p⟩] := rfl
theorem te_nil (d : List UInt8) : (It.cmp [] d).te = .mk 2 [61] (numE d) Ex.zero false false [] := rfl
theorem txt_op {op : List UInt8} (o : op ≠ []) (d : List UInt8) : (It.cmp op d).txt = op ++ 32 :: d := by simp only [It.txt]; rw [if_neg o]
theorem toks_op {op : List UInt8} (o : op ≠ []) (p : Nat) (d : List UInt8) : (It.cmp op d).toks p = [⟨4, op, p⟩, ⟨2, d, ((p + op.length + 1 : Nat) : Int)⟩] := by simp only [It.toks]; rw [if_neg o]
theorem te_op {op : List UInt8} (o : op ≠ []) (d : List UInt8) : (It.cmp op d).te = .mk 2 op (numE d) Ex.zero false false [] := by simp only [It.te]; rw [if_neg o]
theorem txt_rng (p : UInt8) (d e : List UInt8) (q : UInt8) : (It.rng p d e q).txt = p :: (d ++ 46 :: 46 :: (e ++ [q])) := rfl
theorem toks_rng (pos : Nat) (p : UInt8) (d e : List UInt8) (q : UInt8) : (It.rng p d e q).toks pos = [⟨4, [p], pos⟩, ⟨2, d, ((pos + 1 : Nat) : Int)⟩, ⟨4, [46, 46], ((pos + 1 + d.length : Nat) : Int)⟩, ⟨2, e, ((pos + 1 + d.length + 2 : Nat) : Int)⟩, ⟨4, [q], ((pos + 1 + d.length + 2 + e.length : Nat) : Int)⟩] := rfl
structure Digs (d : List UInt8) : Prop where
  all : ∀ b, b ∈ d → digitsL.contains b = true
  ne : d ≠ []
  ok : (decA d).err = 0
  s0 : (decA d).s = 0
  is : decIs (decA d).m 0 = true
def It.good : It → Prop
  | .cmp op d => (op = [] ∨ op = [60] ∨ op = [62, 61] ∨ op = [33, 61]) ∧ Digs d
  | .rng p d e q => ((p = 91 ∨ p = 40) ∧ (q = 93 ∨ q = 41)) ∧ Digs d ∧ Digs e
def Ends (r : List UInt8) : Prop := r = [] ∨ (∃ r', r = 44 :: r') ∨ ∃ r', r = 41 :: r'
theorem Ends.run {r : List UInt8} (h : Ends r) {set : List UInt8} (h1 : set.contains 44 = false) (h2 : set.contains 41 = false) : runN r set = 0 := by
  rcases h with rfl | ⟨r', rfl⟩ | ⟨r', rfl⟩
  · exact runN_nil _
  · exact runN_cons_out h1
  · exact runN_cons_out h2
theorem Ends.dot {r : List UInt8} (h : Ends r) : ¬(List.isPrefixOf [46] r = true ∧ 0 < runN (r.drop 1) digitsL) := by
  rcases h with rfl | ⟨r', rfl⟩ | ⟨r', rfl⟩ <;> (intro c; simp at c)
theorem lex_step {s w r : List UInt8} {f p : Nat} {acc : List Tok} {k : Int} {t : List UInt8} (hd : s.drop p = w ++ r) (hw : w ≠ []) (hn : nextL (w ++ r) = ⟨k, t, w.length, 0⟩) (ha : acc.length < 60) (hr : runN r [32] = 0) :
    lexGo s (f + 1) p acc = lexGo s f (p + w.length) (acc ++ [⟨k, t, p⟩]) ∧ s.drop (p + w.length) = r := by
  have hp : p < s.length := by
    rcases Nat.lt_or_ge p s.length with h | h
    · exact h
    · rw [List.drop_of_length_le h] at hd
      cases w with
      | nil => exact (hw rfl).elim
      | cons => simp at hd
  have h2 : s.drop (p + w.length) = r := by rw [← List.drop_drop, hd, List.drop_left]
  refine ⟨?_, h2⟩
  rw [lexGo_step hp (by rw [hd]; exact hn) ha, h2, hr, Nat.add_zero]
theorem lex_step1 {s w r : List UInt8} {f p : Nat} {acc : List Tok} {k : Int} {t : List UInt8} (hd : s.drop p = w ++ 32 :: r) (hw : w ≠ []) (hn : nextL (w ++ 32 :: r) = ⟨k, t, w.length, 0⟩) (ha : acc.length < 60) (hr : runN r [32] = 0) :
    lexGo s (f + 1) p acc = lexGo s f (p + w.length + 1) (acc ++ [⟨k, t, p⟩]) ∧ s.drop (p + w.length + 1) = r := by
  have hp : p < s.length := by
    rcases Nat.lt_or_ge p s.length with h | h
    · exact h
    · rw [List.drop_of_length_le h] at hd
      cases w with
      | nil => exact (hw rfl).elim
      | cons => simp at hd
  have h2 : s.drop (p + w.length) = 32 :: r := by rw [← List.drop_drop, hd, List.drop_left]
  have h3 : s.drop (p + w.length + 1) = r := by rw [← List.drop_drop, h2]; rfl
  refine ⟨?_, h3⟩
  have h4 : runN (32 :: r) [32] = 1 := by
    rw [runN_eq] at *
    rw [List.takeWhile_cons]
    simp at hr ⊢
    exact hr
  rw [lexGo_step hp (by rw [hd]; exact hn) ha, h2, h4]
theorem sign_next {c : UInt8} (r : List UInt8) (h : c = 91 ∨ c = 40 ∨ c = 93 ∨ c = 41 ∨ c = 44) : nextL (c :: r) = ⟨4, [c], 1, 0⟩ := by
  have h1 : runN (c :: r) lettersL = 0 := runN_cons_out (by rcases h with rfl | rfl | rfl | rfl | rfl <;> decide)
  have h2 : runN (c :: r) digitsL = 0 := runN_cons_out (by rcases h with rfl | rfl | rfl | rfl | rfl <;> decide)
  unfold nextL
  rw [h1, h2]
  rcases h with rfl | rfl | rfl | rfl | rfl <;> rfl
theorem rel_next {op : List UInt8} (r : List UInt8) (h : op = [60] ∨ op = [62, 61] ∨ op = [33, 61]) : nextL (op ++ 32 :: r) = ⟨4, op, op.length, 0⟩ := by
  have h1 : runN (op ++ 32 :: r) lettersL = 0 := by rcases h with rfl | rfl | rfl <;> exact runN_cons_out (by decide)
  have h2 : runN (op ++ 32 :: r) digitsL = 0 := by rcases h with rfl | rfl | rfl <;> exact runN_cons_out (by decide)
  unfold nextL
  rw [h1, h2]
  rcases h with rfl | rfl | rfl <;> rfl
theorem dig_blank {d : List UInt8} (h : Digs d) (r : List UInt8) : runN (d ++ r) [32] = 0 := first_no_blank h.all h.ne r
theorem it_lex {s r : List UInt8} {f p : Nat} {acc : List Tok} : ∀ {x : It}, x.good → Ends r → s.drop p = x.txt ++ r → acc.length + 5 ≤ 60 →
    lexGo s (f + (x.toks p).length) p acc = lexGo s f (p + x.txt.length) (acc ++ x.toks p) ∧ s.drop (p + x.txt.length) = r
  | .cmp op d, hx, hr, hd, ha => by
    obtain ⟨ho, hdig⟩ := hx
    have hb := hr.run (set := [32]) (by decide) (by decide)
    have hg := hr.run (set := digitsL) (by decide) (by decide)
    by_cases o : op = []
    · subst o
      rw [txt_nil] at hd ⊢
      rw [toks_nil]
      exact lex_step hd hdig.ne (next_num1 hdig.all hdig.ne hg hr.dot) (by omega) hb
    · have ho : op = [60] ∨ op = [62, 61] ∨ op = [33, 61] := by rcases ho with h | h; exact (o h).elim; exact h
      rw [txt_op o] at hd ⊢
      rw [toks_op o]
      have hd' : s.drop p = op ++ 32 :: (d ++ r) := by rw [hd]; simp
      obtain ⟨e1, e2⟩ := lex_step1 (f := f + 1) (acc := acc) hd' o (rel_next _ ho) (by omega) (dig_blank hdig r)
      obtain ⟨e3, e4⟩ := lex_step (f := f) (acc := acc ++ [⟨4, op, p⟩]) e2 hdig.ne (next_num1 hdig.all hdig.ne hg hr.dot) (by simp; omega) hb
      have el : p + (op ++ 32 :: d).length = p + op.length + 1 + d.length := by simp; omega
      rw [el]
      refine ⟨?_, e4⟩
      show lexGo s (f + 1 + 1) p acc = _
      rw [e1, e3, List.append_assoc]
      rfl
  | .rng p0 d e q, hx, hr, hd, ha => by
    obtain ⟨⟨hp0, hq⟩, h1, h2⟩ := hx
    have hb := hr.run (set := [32]) (by decide) (by decide)
    rw [txt_rng] at hd ⊢
    rw [toks_rng]
    have hd' : s.drop p = [p0] ++ (d ++ ([46, 46] ++ (e ++ ([q] ++ r)))) := by rw [hd]; simp
    have k0 : p0 = 91 ∨ p0 = 40 ∨ p0 = 93 ∨ p0 = 41 ∨ p0 = 44 := by rcases hp0 with h | h <;> simp [h]
    have kq : q = 91 ∨ q = 40 ∨ q = 93 ∨ q = 41 ∨ q = 44 := by rcases hq with h | h <;> simp [h]
    have qd : runN ([q] ++ r) digitsL = 0 := runN_cons_out (by rcases hq with rfl | rfl <;> decide)
    have qb : runN ([q] ++ r) [32] = 0 := runN_cons_out (by rcases hq with rfl | rfl <;> decide)
    have qn : ¬(List.isPrefixOf [46] ([q] ++ r) = true ∧ 0 < runN (([q] ++ r).drop 1) digitsL) := by rcases hq with rfl | rfl <;> (intro c; simp at c)
    have dd : runN ([46, 46] ++ (e ++ ([q] ++ r))) digitsL = 0 := runN_cons_out (by decide)
    have db : runN ([46, 46] ++ (e ++ ([q] ++ r))) [32] = 0 := runN_cons_out (by decide)
    have dn : ¬(List.isPrefixOf [46] ([46, 46] ++ (e ++ ([q] ++ r))) = true ∧ 0 < runN (([46, 46] ++ (e ++ ([q] ++ r))).drop 1) digitsL) := by
      intro c
      have h := c.2
      have : ([46, 46] ++ (e ++ ([q] ++ r))).drop 1 = 46 :: (e ++ ([q] ++ r)) := rfl
      rw [this, runN_cons_out (by decide)] at h
      omega
    obtain ⟨a1, b1⟩ := lex_step (f := f + 4) (acc := acc) hd' (by simp) (sign_next _ k0) (by omega) (dig_blank h1 _)
    obtain ⟨a2, b2⟩ := lex_step (f := f + 3) (acc := acc ++ [⟨4, [p0], p⟩]) b1 h1.ne (next_num1 h1.all h1.ne dd dn) (by simp; omega) db
    obtain ⟨a3, b3⟩ := lex_step (f := f + 2) (acc := acc ++ [⟨4, [p0], p⟩] ++ [⟨2, d, ((p + [p0].length : Nat) : Int)⟩]) b2 (by simp) (dots_next _) (by simp; omega) (dig_blank h2 _)
    obtain ⟨a4, b4⟩ := lex_step (f := f + 1) (acc := acc ++ [⟨4, [p0], p⟩] ++ [⟨2, d, ((p + [p0].length : Nat) : Int)⟩] ++ [⟨4, [46, 46], ((p + [p0].length + d.length : Nat) : Int)⟩]) b3 h2.ne (next_num1 h2.all h2.ne qd qn) (by simp; omega) qb
    obtain ⟨a5, b5⟩ := lex_step (f := f) (acc := acc ++ [⟨4, [p0], p⟩] ++ [⟨2, d, ((p + [p0].length : Nat) : Int)⟩] ++ [⟨4, [46, 46], ((p + [p0].length + d.length : Nat) : Int)⟩] ++ [⟨2, e, ((p + [p0].length + d.length + ([46, 46] : List UInt8).length : Nat) : Int)⟩]) b4 (by simp) (sign_next _ kq) (by simp; omega) hb
    have el : p + (p0 :: (d ++ 46 :: 46 :: (e ++ [q]))).length = p + [p0].length + d.length + ([46, 46] : List UInt8).length + e.length + [q].length := by simp; omega
    rw [el]
    refine ⟨?_, b5⟩
    show lexGo s (f + 4 + 1) p acc = _
    rw [a1, a2, a3, a4, a5]
    congr 1
    simp
def rowTxt : List It → List UInt8
  | [] => []
  | [a] => a.txt
  | a :: b :: r => a.txt ++ 44 :: 32 :: rowTxt (b :: r)
def rowToks (pos : Nat) : List It → List Tok
  | [] => []
  | [a] => a.toks pos
  | a :: b :: r => a.toks pos ++ ⟨4, [44], ((pos + a.txt.length : Nat) : Int)⟩ :: rowToks (pos + a.txt.length + 2) (b :: r)
theorem txt_first : ∀ {x : It}, x.good → ∀ r, runN (x.txt ++ r) [32] = 0
  | .cmp op d, h, r => by
    obtain ⟨ho, hd⟩ := h
    rcases ho with rfl | rfl | rfl | rfl
    · exact dig_blank hd r
    · rw [txt_op (by decide)]; exact runN_cons_out (by decide)
    · rw [txt_op (by decide)]; exact runN_cons_out (by decide)
    · rw [txt_op (by decide)]; exact runN_cons_out (by decide)
  | .rng p d e q, h, r => by
    obtain ⟨⟨hp, _⟩, _⟩ := h
    unfold It.txt
    rcases hp with rfl | rfl <;> exact runN_cons_out (by decide)
theorem row_first : ∀ {l : List It}, (∀ x, x ∈ l → x.good) → l ≠ [] → ∀ r, runN (rowTxt l ++ r) [32] = 0
  | [a], h, _, r => txt_first (h a List.mem_cons_self) r
  | a :: b :: q, h, _, r => by
    rw [rowTxt, List.append_assoc]
    exact txt_first (h a List.mem_cons_self) _
theorem toks_le (x : It) (p : Nat) : (x.toks p).length ≤ 5 := by
  cases x with
  | cmp op d =>
    by_cases o : op = []
    · subst o; rw [toks_nil]; simp
    · rw [toks_op o]; simp
  | rng => rw [toks_rng]; simp
theorem row_lex {s r : List UInt8} {f : Nat} : ∀ {l : List It} {p : Nat} {acc : List Tok}, (∀ x, x ∈ l → x.good) → l ≠ [] → Ends r → s.drop p = rowTxt l ++ r → acc.length + 6 * l.length ≤ 60 →
    lexGo s (f + (rowToks p l).length) p acc = lexGo s f (p + (rowTxt l).length) (acc ++ rowToks p l) ∧ s.drop (p + (rowTxt l).length) = r
  | [a], p, acc, h, _, hr, hd, ha => it_lex (h a List.mem_cons_self) hr hd (by simp at ha; omega)
  | a :: b :: q, p, acc, h, _, hr, hd, ha => by
    have hq : ∀ x, x ∈ b :: q → x.good := fun x hx => h x (List.mem_cons_of_mem _ hx)
    simp only [List.length_cons] at ha
    have hd1 : s.drop p = a.txt ++ ([44] ++ 32 :: (rowTxt (b :: q) ++ r)) := by rw [hd, rowTxt]; simp
    have ht := toks_le a p
    obtain ⟨e1, e2⟩ := it_lex (f := f + (rowToks (p + a.txt.length + 2) (b :: q)).length + 1) (acc := acc) (h a List.mem_cons_self) (.inr (.inl ⟨_, rfl⟩)) hd1 (by omega)
    have hc := sign_next (c := 44) (32 :: (rowTxt (b :: q) ++ r)) (by simp)
    obtain ⟨e3, e4⟩ := lex_step1 (w := [44]) (f := f + (rowToks (p + a.txt.length + 2) (b :: q)).length) (acc := acc ++ a.toks p) e2 (by simp) hc (by simp; omega) (row_first hq (by simp) r)
    obtain ⟨e5, e6⟩ := row_lex (f := f) (l := b :: q) (p := p + a.txt.length + 2) (acc := acc ++ a.toks p ++ [⟨4, [44], ((p + a.txt.length : Nat) : Int)⟩]) hq (by simp) hr e4 (by simp; omega)
    have el : p + (rowTxt (a :: b :: q)).length = p + a.txt.length + 2 + (rowTxt (b :: q)).length := by rw [rowTxt]; simp; omega
    have tl : f + (rowToks p (a :: b :: q)).length = f + (rowToks (p + a.txt.length + 2) (b :: q)).length + 1 + (a.toks p).length := by rw [rowToks]; simp; omega
    have e3' : lexGo s (f + (rowToks (p + a.txt.length + 2) (b :: q)).length + 1) (p + a.txt.length) (acc ++ a.toks p) = lexGo s (f + (rowToks (p + a.txt.length + 2) (b :: q)).length) (p + a.txt.length + 2) (acc ++ a.toks p ++ [⟨4, [44], ((p + a.txt.length : Nat) : Int)⟩]) := e3
    rw [el, tl, e1, e3', e5]
    refine ⟨?_, e6⟩
    congr 1
    rw [rowToks]; simp
end Go.Vf
