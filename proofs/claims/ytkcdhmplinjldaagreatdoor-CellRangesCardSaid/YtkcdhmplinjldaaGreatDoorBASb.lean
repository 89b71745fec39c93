/- A part of the proof: Sb, Sv. -/
import Derived.Test.YtkcdhmplinjldaaGreatDoorBASa
set_option linter.unusedVariables false
set_option linter.unusedSimpArgs false
namespace Go.Vf
open Go.Proofs Go.RowKit
inductive Te where
  | mk (kind : Int) (rel : List UInt8) (a b : Ex) (lo hi : Bool) (kids : List Te)
mutual
def Te.cells : Te → List V
  | .mk k r a b lo hi kids => .int .i64 k :: .str r :: (a.cells ++ (b.cells ++ [.bool lo, .bool hi, .sl 21 kids.length (tesC kids)]))
def tesC : List Te → List V
  | [] => []
  | e :: r => e.cells ++ tesC r
end
theorem Te.cells_len (e : Te) : e.cells.length = 21 := by
  cases e
  simp [Te.cells, Ex.cells_len]
theorem tesC_len : ∀ l : List Te, (tesC l).length = l.length * 21
  | [] => by simp [tesC]
  | e :: r => by rw [tesC, List.length_append, tesC_len r, e.cells_len, List.length_cons]; omega
mutual
theorem Te.closed : ∀ e : Te, V.closedL e.cells = true
  | .mk k r a b lo hi kids => by
    have h1 := a.closed
    have h2 := b.closed
    simp [Te.cells, V.closedL, V.closed, V.scalar, closedL_append, h1, h2, tesC_closed kids]
theorem tesC_closed : ∀ l : List Te, V.closedL (tesC l) = true
  | [] => rfl
  | e :: r => by rw [tesC, closedL_append, e.closed, tesC_closed r]; rfl
end
theorem tesC_append : ∀ (l r : List Te), tesC (l ++ r) = tesC l ++ tesC r
  | [], r => rfl
  | a :: l, r => by rw [List.cons_append, tesC, tesC, tesC_append l r, List.append_assoc]
def tk (T : List Tok) (en : Int) (a : Nat) : Taken := takeF a (exR T en decA 9 ⟨a, 0, 0⟩)
theorem tk_goes {T : List Tok} {en : Int} {a : Nat} (ha : a ≤ T.length) : ∃ n : Nat, (tk T en a).at_ = (n : Int) ∧ a ≤ n ∧ n ≤ T.length := by
  have h := (kidsR_go (T := T) (en := en) (decR := decA) 9).1 ⟨a, 0, 0⟩ ha
  unfold tk takeF
  split
  · exact ⟨_, rfl, h.1, h.2⟩
  · exact ⟨a, rfl, Nat.le_refl _, ha⟩
def exprT (T : List Tok) (en : Int) (s : St) : Ex × St :=
  if s.err = 0 then
    (if (tk T en s.at_).err = 0 then ((tk T en s.at_).e, ⟨(tk T en s.at_).at_.toNat, s.pos, s.err⟩) else (Ex.zero, ⟨s.at_, (tk T en s.at_).pos, (tk T en s.at_).err⟩))
  else (Ex.zero, s)
theorem exprT_goes {T : List Tok} {en : Int} : Goes T (exprT T en) := fun s h => by
  obtain ⟨n, e, h1, h2⟩ := tk_goes (en := en) h
  unfold exprT
  split
  · split
    · simp only [e, Int.toNat_natCast]; exact ⟨h1, h2⟩
    · exact ⟨Nat.le_refl _, h⟩
  · exact ⟨Nat.le_refl _, h⟩
def signAt (T : List Tok) (i : Nat) (w : List UInt8) : Bool := decide (i < T.length) && (decide ((T.getD i ⟨0, [], 0⟩).kind = 4) && decide ((T.getD i ⟨0, [], 0⟩).text = w))
theorem isT_sign {T : List Tok} {s : St} {w : List UInt8} : isT T s 4 w = (decide (s.err = 0) && signAt T s.at_ w) := by
  unfold isT nowT signAt
  by_cases he : s.err = 0
  · simp only [he, ne_eq, not_true_eq_false, if_false, decide_true, Bool.true_and]
    by_cases ha : s.at_ < T.length
    · simp [ha]
    · rw [List.getD, List.getElem?_eq_none (by omega)]
      simp [ha]
  · simp [he]
def isRangeT (T : List Tok) (en : Int) (s : St) : Bool :=
  (isT T s 4 [91] || isT T s 4 [40]) && (decide ((tk T en (s.at_ + 1)).err = 0) && signAt T (tk T en (s.at_ + 1)).at_.toNat [46, 46])
def rangedT (T : List Tok) (en : Int) (s : St) : Te × St :=
  (.mk 3 [] (exprT T en (opT T en s [91] [40])).1
    (exprT T en (mustT T en (takeT T (exprT T en (opT T en s [91] [40])).2 4 [46, 46]) (isT T (exprT T en (opT T en s [91] [40])).2 4 [46, 46]))).1
    (isT T s 4 [91]) (isT T (exprT T en (mustT T en (takeT T (exprT T en (opT T en s [91] [40])).2 4 [46, 46]) (isT T (exprT T en (opT T en s [91] [40])).2 4 [46, 46]))).2 4 [93]) [],
   opT T en (exprT T en (mustT T en (takeT T (exprT T en (opT T en s [91] [40])).2 4 [46, 46]) (isT T (exprT T en (opT T en s [91] [40])).2 4 [46, 46]))).2 [93] [41])
theorem rangedT_goes {T : List Tok} {en : Int} {s : St} (h : s.at_ ≤ T.length) : s.at_ ≤ (rangedT T en s).2.at_ ∧ (rangedT T en s).2.at_ ≤ T.length :=
  withinP_goes (exprT_goes (T := T) (en := en)) Ex.zero s h
def relT (T : List Tok) (s : St) : List UInt8 := if ofV T s relB = [] then [61] else ofV T s relB
def testT (T : List Tok) (en : Int) (s : St) : Te × St :=
  if isRangeT T en s = true then rangedT T en s else (.mk 2 (relT T s) (exprT T en (ofT T s relB)).1 Ex.zero false false [], (exprT T en (ofT T s relB)).2)
theorem testT_goes {T : List Tok} {en : Int} {s : St} (h : s.at_ ≤ T.length) : s.at_ ≤ (testT T en s).2.at_ ∧ (testT T en s).2.at_ ≤ T.length := by
  unfold testT
  split
  · exact rangedT_goes h
  · have h1 := ofT_goes (T := T) (s := s) (b := relB) h
    have h2 := exprT_goes (T := T) (en := en) _ h1.2
    exact ⟨by simp only; omega, h2.2⟩
def testsT (z : List Te → List Te) (T : List Tok) (en : Int) : Nat → List Te → St → List Te × St
  | 0, l, s => (z l, errsT T en s 13)
  | f + 1, l, s => if isT T (testT T en s).2 4 [44] = true then testsT z T en f (l ++ [(testT T en s).1]) (takeT T (testT T en s).2 4 [44]) else (l ++ [(testT T en s).1], (testT T en s).2)
theorem testsT_goes {z : List Te → List Te} {T : List Tok} {en : Int} : ∀ (f : Nat) (l : List Te) (s : St), s.at_ ≤ T.length → s.at_ ≤ (testsT z T en f l s).2.at_ ∧ (testsT z T en f l s).2.at_ ≤ T.length
  | 0, l, s, h => by
    have : (errsT T en s 13).at_ = s.at_ := by unfold errsT; rfl
    rw [testsT, this]; exact ⟨Nat.le_refl _, h⟩
  | f + 1, l, s, h => by
    have h1 := testT_goes (T := T) (en := en) (s := s) h
    have h2 := takeT_goes (T := T) (s := (testT T en s).2) (k := 4) (w := [44]) (by decide) h1.2
    rw [testsT]
    split
    · have := testsT_goes (z := z) (T := T) (en := en) f (l ++ [(testT T en s).1]) _ h2.2
      omega
    · exact h1
theorem errsT_ne {T : List Tok} {en : Int} {s : St} {e : Int} (he : e ≠ 0) : (errsT T en s e).err ≠ 0 := by
  unfold errsT
  simp only
  split
  · exact he
  · assumption
theorem testsT_same (z z' : List Te → List Te) (T : List Tok) (en : Int) : ∀ (f : Nat) (l : List Te) (s : St), (testsT z T en f l s).2 = (testsT z' T en f l s).2 ∧ ((testsT z T en f l s).2.err = 0 → (testsT z T en f l s).1 = (testsT z' T en f l s).1)
  | 0, l, s => ⟨rfl, fun h => (errsT_ne (by decide) h).elim⟩
  | f + 1, l, s => by
    rw [testsT, testsT]
    split
    · exact testsT_same z z' T en f _ _
    · exact ⟨rfl, fun _ => rfl⟩
def cellT (z : List Te → List Te) (T : List Tok) (en : Int) : List Te × St :=
  if T.length = 1 ∧ signAt T 0 [45] = true then ([.mk 1 [] Ex.zero Ex.zero false false []], ⟨1, 0, 0⟩)
  else if (T.getD 0 ⟨0, [], 0⟩).kind = 1 ∧ (T.getD 0 ⟨0, [], 0⟩).text = [110, 111, 116] ∧ signAt T 1 [40] = true then
    ([.mk 4 [] Ex.zero Ex.zero false false (testsT z T en 6 [] ⟨2, 0, 0⟩).1], mustT T en (takeT T (testsT z T en 6 [] ⟨2, 0, 0⟩).2 4 [41]) (isT T (testsT z T en 6 [] ⟨2, 0, 0⟩).2 4 [41]))
  else testsT z T en 6 [] ⟨0, 0, 0⟩
theorem mustT_err {T : List Tok} {en : Int} {s : St} {ok : Bool} (h : (mustT T en s ok).err = 0) : s.err = 0 := by
  unfold mustT errsT at h
  split at h
  · exact h
  · simp only at h
    split at h
    · assumption
    · exact h
theorem takeT_err (T : List Tok) (s : St) (k : Int) (w : List UInt8) : (takeT T s k w).err = s.err := rfl
theorem cellT_same (z z' : List Te → List Te) (T : List Tok) (en : Int) : (cellT z T en).2 = (cellT z' T en).2 ∧ ((cellT z T en).2.err = 0 → (cellT z T en).1 = (cellT z' T en).1) := by
  unfold cellT
  split
  · exact ⟨rfl, fun _ => rfl⟩
  · split
    · have h := testsT_same z z' T en 6 [] ⟨2, 0, 0⟩
      refine ⟨by simp only; rw [h.1], fun he => ?_⟩
      have := h.2 (by have := mustT_err he; rwa [takeT_err] at this)
      simp only; rw [this]
    · exact testsT_same z z' T en 6 [] ⟨0, 0, 0⟩
structure Tests where
  l : List Te
  n : Int
  e : Int
def Tests.v (r : Tests) : V := .tup [.sl 21 r.l.length (tesC r.l), .int .i64 r.n, .int .i64 r.e]
def parseC (z : List Te → List Te) (s : List UInt8) : Tests :=
  if (lexL s).err = 0 then
    (if (mustT (lexL s).toks s.length (cellT z (lexL s).toks s.length).2 (decide ((lexL s).toks.length ≤ (cellT z (lexL s).toks s.length).2.at_))).err = 0 then ⟨(cellT z (lexL s).toks s.length).1, s.length, 0⟩
     else ⟨[], (mustT (lexL s).toks s.length (cellT z (lexL s).toks s.length).2 (decide ((lexL s).toks.length ≤ (cellT z (lexL s).toks s.length).2.at_))).pos, (mustT (lexL s).toks s.length (cellT z (lexL s).toks s.length).2 (decide ((lexL s).toks.length ≤ (cellT z (lexL s).toks s.length).2.at_))).err⟩)
  else ⟨[], (lexL s).n, (lexL s).err⟩
theorem parseC_same (z z' : List Te → List Te) (s : List UInt8) : parseC z s = parseC z' s := by
  have h := cellT_same z z' (lexL s).toks s.length
  unfold parseC
  rw [← h.1]
  split
  · split
    · rename_i he
      rw [h.2 (mustT_err he)]
    · rfl
  · rfl
end Go.Vf
set_option linter.unusedVariables false
set_option linter.unusedSimpArgs false
namespace Go.Vf
open Go.Proofs Go.RowKit
inductive Vl where
  | mk (kind : Int) (b : Bool) (m s : Int) (t : List UInt8) (l : List Vl)
mutual
def Vl.cells : Vl → List V
  | .mk k b m s t l => [.int .i64 k, .bool b, .int .i64 m, .int .i64 s, .str t, .sl 6 l.length (vlsC l)]
def vlsC : List Vl → List V
  | [] => []
  | e :: r => e.cells ++ vlsC r
end
theorem Vl.cells_len (e : Vl) : e.cells.length = 6 := by cases e; simp [Vl.cells]
mutual
theorem Vl.closed : ∀ e : Vl, V.closedL e.cells = true
  | .mk k b m s t l => by simp [Vl.cells, V.closedL, V.closed, V.scalar, vlsC_closed l]
theorem vlsC_closed : ∀ l : List Vl, V.closedL (vlsC l) = true
  | [] => rfl
  | e :: r => by rw [vlsC, closedL_append, e.closed, vlsC_closed r]; rfl
end
theorem vls_at : ∀ {l : List Vl} {i : Nat} (h : i < l.length), velem 6 (vlsC l) i = l[i].cells
  | a :: r, 0, _ => by
    unfold velem
    rw [vlsC]
    simp only [Nat.zero_mul, List.drop_zero, List.getElem_cons_zero]
    rw [List.take_append_of_le_length (by rw [a.cells_len]; exact Nat.le_refl _), List.take_of_length_le (by rw [a.cells_len]; exact Nat.le_refl _)]
  | a :: r, i + 1, h => by
    have ih := vls_at (l := r) (i := i) (by simpa using h)
    unfold velem at *
    rw [vlsC]
    have e : (i + 1) * 6 = a.cells.length + i * 6 := by rw [a.cells_len]; omega
    rw [e, List.drop_append]
    simp only [Nat.add_sub_cancel_left, List.getElem_cons_succ]
    rw [List.drop_of_length_le (by omega), List.nil_append]
    exact ih
def Vl.null : Vl := .mk 0 false 0 0 [] []
def Vl.tr (b : Bool) : Vl := .mk 1 b 0 0 [] []
def Vl.num (m s : Int) : Vl := .mk 2 false m s [] []
def Vl.text (t : List UInt8) : Vl := .mk 3 false 0 0 t []
theorem vle_val0 (k : Int) (b : Bool) (m s : Int) (t : List UInt8) :
    VLe (.agg [.int .i64 k, .bool b, .int .i64 m, .int .i64 s, .str t, .nilsl]) (.agg (Vl.mk k b m s t []).cells) := by
  unfold Vl.cells
  exact .agg ⟨.refl _, .refl _, .refl _, .refl _, .refl _, .nil_sl 6, trivial⟩
def ordI (a b : Int) : Int := if a < b then -1 else if b < a then 1 else 0
def numB (b : Bool) : Int := if b = true then 1 else 0
def strCmp (a b : List UInt8) : Int := if strLess a b = true then -1 else if a = b then 0 else 1
def InD (m s : Int) : Prop := In9 m ∧ 0 ≤ s ∧ s ≤ 4
def scal (m s : Int) : Int := m * 10 ^ (4 - s).toNat
def decCmp (m s m' s' : Int) : Int := ordI (scal m s) (scal m' s')
def decIs (m s : Int) : Bool := decide (-1000000000 ≤ m) && (decide (m ≤ 1000000000) && (decide (0 ≤ s) && (decide (s ≤ 4) && (decide (s = 0) || decide (m.tmod 10 ≠ 0)))))
theorem decIs_in {m s : Int} (h : decIs m s = true) : InD m s := by
  unfold decIs at h
  simp only [Bool.and_eq_true, decide_eq_true_eq] at h
  exact ⟨⟨h.1, h.2.1⟩, h.2.2.1, h.2.2.2.1⟩
mutual
def cmpV : Vl → Vl → Int
  | .mk k b m s t l, .mk k' b' m' s' t' l' =>
    if k = k' then (if k = 1 then numB b - numB b' else if k = 2 then decCmp m s m' s' else if k = 3 then strCmp t t' else cmpL l l') else ordI k k'
def cmpL : List Vl → List Vl → Int
  | [], [] => 0
  | [], _ :: _ => -1
  | _ :: _, [] => 1
  | a :: x, b :: y => if cmpV a b = 0 then cmpL x y else cmpV a b
end
mutual
def Vl.decs : Vl → Prop
  | .mk k b m s t l => (k = 2 → InD m s) ∧ l.length ≤ 1000 ∧ decsL l
def decsL : List Vl → Prop
  | [] => True
  | a :: r => a.decs ∧ decsL r
end
def Vl.kind : Vl → Int | .mk k _ _ _ _ _ => k
def Vl.b : Vl → Bool | .mk _ b _ _ _ _ => b
def truthV (v : Vl) : Bool := decide (v.kind = 1) && v.b
def relV (op : List UInt8) (a b : Vl) : Vl :=
  if op = [61] then .tr (decide (cmpV a b = 0))
  else if op = [33, 61] then .tr (!decide (cmpV a b = 0))
  else if ¬(a.kind = 2 ∧ b.kind = 2) ∧ ¬(a.kind = 3 ∧ b.kind = 3) then .null
  else if op = [60] then .tr (decide (cmpV a b < 0))
  else if op = [60, 61] then .tr (decide (cmpV a b ≤ 0))
  else if op = [62] then .tr (decide (0 < cmpV a b))
  else if op = [62, 61] then .tr (decide (0 ≤ cmpV a b))
  else .null
end Go.Vf
