/- A part of the proof: Sz. -/
import Derived.Test.YtkcdhmplinjldaaGreatDoorBASy
set_option linter.unusedVariables false
set_option linter.unusedSimpArgs false
namespace Go.Vf
open Go.Proofs Go.RowKit
theorem dig_all : ((List.range 100).all fun n => decide ((decA (digitsF 5 n)).m = (n : Int)) && (decide ((decA (digitsF 5 n)).s = 0) && (decide ((decA (digitsF 5 n)).err = 0) && decide ((digitsF 5 n).length ≤ 2)))) = true := by kernel_rfl
theorem dig_at {n : Nat} (h : n < 100) : (decA (digitsF 5 n)).m = (n : Int) ∧ (decA (digitsF 5 n)).s = 0 ∧ (decA (digitsF 5 n)).err = 0 ∧ (digitsF 5 n).length ≤ 2 := by
  have := List.all_eq_true.1 dig_all n (List.mem_range.2 h)
  simpa using this
theorem dig_ok {n : Nat} (h : n < 100) : Digs (digitsF 5 n) := by
  obtain ⟨h1, h2, h3, _⟩ := dig_at h
  refine ⟨digitsF_all 5 n, digitsF_ne 4 n, h3, h2, ?_⟩
  rw [h1]
  unfold decIs
  simp
  omega
theorem ord_10 (x n : Int) : decCmp x 0 n 0 = ordI x n := by
  have e1 : scal x 0 = x * 10000 := rfl
  have e2 : scal n 0 = n * 10000 := rfl
  unfold decCmp
  rw [e1, e2]
  unfold ordI
  by_cases h : x < n
  · rw [if_pos h, if_pos (by omega)]
  · by_cases h2 : n < x
    · rw [if_neg h, if_pos h2, if_neg (by omega), if_pos (by omega)]
    · rw [if_neg h, if_neg h2, if_neg (by omega), if_neg (by omega)]
theorem cmp_num (x n : Int) : cmpV (.num x 0) (.num n 0) = ordI x n := by
  unfold Vl.num
  rw [cmpV, if_pos rfl, if_neg (by decide), if_pos rfl, ord_10]
theorem ord_eq (x n : Int) : ordI x n = 0 ↔ x = n := by unfold ordI; split <;> (try split) <;> omega
theorem ord_lt (x n : Int) : ordI x n < 0 ↔ x < n := by unfold ordI; split <;> (try split) <;> omega
theorem ord_gt (x n : Int) : 0 < ordI x n ↔ n < x := by unfold ordI; split <;> (try split) <;> omega
theorem ord_le (x n : Int) : ordI x n ≤ 0 ↔ x ≤ n := by unfold ordI; split <;> (try split) <;> omega
theorem ord_ge (x n : Int) : 0 ≤ ordI x n ↔ n ≤ x := by unfold ordI; split <;> (try split) <;> omega
theorem truth_tr (b : Bool) : truthV (.tr b) = b := by unfold truthV Vl.tr Vl.kind Vl.b; simp
theorem num_kinds (x n : Int) : ¬(¬((Vl.num x 0).kind = 2 ∧ (Vl.num n 0).kind = 2) ∧ ¬((Vl.num x 0).kind = 3 ∧ (Vl.num n 0).kind = 3)) := fun h => h.1 ⟨rfl, rfl⟩
theorem rel_eq (x n : Int) : truthV (relV [61] (.num x 0) (.num n 0)) = decide (x = n) := by
  unfold relV; rw [if_pos rfl, truth_tr, cmp_num]; exact decide_eq_decide.2 (ord_eq x n)
theorem rel_ne' (x n : Int) : truthV (relV [33, 61] (.num x 0) (.num n 0)) = !decide (x = n) := by
  unfold relV; rw [if_neg (by decide), if_pos rfl, truth_tr, cmp_num]; rw [decide_eq_decide.2 (ord_eq x n)]
theorem rel_lt (x n : Int) : truthV (relV [60] (.num x 0) (.num n 0)) = decide (x < n) := by
  unfold relV; rw [if_neg (by decide), if_neg (by decide), if_neg (num_kinds x n), if_pos rfl, truth_tr, cmp_num]; exact decide_eq_decide.2 (ord_lt x n)
theorem rel_le (x n : Int) : truthV (relV [60, 61] (.num x 0) (.num n 0)) = decide (x ≤ n) := by
  unfold relV; rw [if_neg (by decide), if_neg (by decide), if_neg (num_kinds x n), if_neg (by decide), if_pos rfl, truth_tr, cmp_num]; exact decide_eq_decide.2 (ord_le x n)
theorem rel_gt (x n : Int) : truthV (relV [62] (.num x 0) (.num n 0)) = decide (n < x) := by
  unfold relV; rw [if_neg (by decide), if_neg (by decide), if_neg (num_kinds x n), if_neg (by decide), if_neg (by decide), if_pos rfl, truth_tr, cmp_num]; exact decide_eq_decide.2 (ord_gt x n)
theorem rel_ge (x n : Int) : truthV (relV [62, 61] (.num x 0) (.num n 0)) = decide (n ≤ x) := by
  unfold relV; rw [if_neg (by decide), if_neg (by decide), if_neg (num_kinds x n), if_neg (by decide), if_neg (by decide), if_neg (by decide), if_pos rfl, truth_tr, cmp_num]; exact decide_eq_decide.2 (ord_ge x n)
def wantI (x : Int) : It → Bool
  | .cmp op d => if op = [] then decide (x = (decA d).m) else if op = [60] then decide (x < (decA d).m) else if op = [62, 61] then decide ((decA d).m ≤ x) else !decide (x = (decA d).m)
  | .rng p d e q => (if p = 91 then decide ((decA d).m ≤ x) else decide ((decA d).m < x)) && (if q = 93 then decide (x ≤ (decA e).m) else decide (x < (decA e).m))
theorem evN_num {d : List UInt8} (h : Digs d) : evN (numE d) = (.num (decA d).m 0, 0) := by
  have e : evN (numE d) = (.num (decA d).m (decA d).s, 0) := rfl
  rw [e, h.s0]
theorem it_holds (x : Int) : ∀ {i : It}, i.good → holdsT evN (.num x 0) i.te = (wantI x i, 0)
  | .cmp op d, h => by
    obtain ⟨ho, hd⟩ := h
    unfold It.te wantI
    rw [holdsT, if_neg (by decide), if_pos rfl, evN_num hd]
    rcases ho with rfl | rfl | rfl | rfl
    · simp only [if_pos, rel_eq, decide_true, Bool.true_and]
    · have n1 : ¬([60] : List UInt8) = [] := by decide
      simp only [n1, if_false, if_pos, rel_lt, decide_true, Bool.true_and]
    · have n1 : ¬([62, 61] : List UInt8) = [] := by decide
      have n2 : ¬([62, 61] : List UInt8) = [60] := by decide
      simp only [n1, n2, if_false, if_pos, rel_ge, decide_true, Bool.true_and]
    · have n1 : ¬([33, 61] : List UInt8) = [] := by decide
      have n2 : ¬([33, 61] : List UInt8) = [60] := by decide
      have n3 : ¬([33, 61] : List UInt8) = [62, 61] := by decide
      simp only [n1, n2, n3, if_false, rel_ne', decide_true, Bool.true_and]
  | .rng p d e q, h => by
    obtain ⟨⟨hp, hq⟩, hd, he⟩ := h
    unfold It.te wantI
    rw [holdsT, if_neg (by decide), if_neg (by decide), if_pos rfl, evN_num hd, evN_num he]
    simp only [ne_eq, not_true_eq_false, if_false]
    have e1 : truthV (relV (loB (decide (p = 91))) (.num x 0) (.num (decA d).m 0)) = if p = 91 then decide ((decA d).m ≤ x) else decide ((decA d).m < x) := by
      unfold loB
      by_cases c : p = 91
      · rw [decide_eq_true c, if_pos rfl, if_pos c, rel_ge]
      · rw [decide_eq_false c, if_neg (by decide), if_neg c, rel_gt]
    have e2 : truthV (relV (hiB (decide (q = 93))) (.num x 0) (.num (decA e).m 0)) = if q = 93 then decide (x ≤ (decA e).m) else decide (x < (decA e).m) := by
      unfold hiB
      by_cases c : q = 93
      · rw [decide_eq_true c, if_pos rfl, if_pos c, rel_le]
      · rw [decide_eq_false c, if_neg (by decide), if_neg c, rel_lt]
    rw [e1, e2]
theorem row_match (x : Int) : ∀ l : List It, (∀ i, i ∈ l → i.good) → matchT evN (.num x 0) (l.map It.te) = (l.any (wantI x), 0)
  | [], _ => by rw [List.map_nil, matchT]; rfl
  | a :: r, h => by
    rw [List.map_cons, matchT, it_holds x (h a List.mem_cons_self), row_match x r fun i hi => h i (List.mem_cons_of_mem _ hi), List.any_cons]
    cases wantI x a with
    | true => rw [if_pos (.inl rfl)]; rfl
    | false => rw [if_neg (by simp)]; rfl
theorem numOk_dig {d : List UInt8} (h : Digs d) : numOkB (numE d) = true := by
  have e : numOkB (numE d) = decIs (decA d).m (decA d).s := by simp [numE, numOkB]
  rw [e, h.s0, h.is]
theorem it_evB : ∀ {i : It}, i.good → evB i.te = true
  | .cmp op d, h => by
    unfold It.te
    rw [evB, numOk_dig h.2, evBs]
    simp
  | .rng p d e q, h => by
    unfold It.te
    rw [evB, numOk_dig h.2.1, numOk_dig h.2.2, evBs]
    simp
theorem row_evB : ∀ l : List It, (∀ i, i ∈ l → i.good) → evBs (l.map It.te) = true
  | [], _ => rfl
  | a :: r, h => by
    rw [List.map_cons, evBs, it_evB (h a List.mem_cons_self), row_evB r fun i hi => h i (List.mem_cons_of_mem _ hi)]
    rfl
theorem row_holds {l : List It} (h : ∀ x, x ∈ l → x.good) (hl : l ≠ []) (h6 : l.length ≤ 6) (h2 : (rowTxt l).length ≤ 190) (x : Int) :
    numsOk (rowTxt l) = true ∧ numsOk (notTxt l) = true ∧ holdsL (rowTxt l) x = l.any (wantI x) ∧ holdsL (notTxt l) x = !l.any (wantI x) := by
  have p1 := parse_row h hl h6 (by omega)
  have p2 := parse_not h hl h6 h2
  have hm := row_match x l h
  have he := row_evB l h
  refine ⟨?_, ?_, ?_, ?_⟩
  · unfold numsOk
    rw [p1]
    simp only [List.length_map]
    rw [he]
    have : l.length ≤ 1000 := by omega
    simp [this]
  · unfold numsOk
    rw [p2]
    simp only
    rw [evBs, evB, he, evBs]
    have : (l.map It.te).length ≤ 1000 := by simp; omega
    simp [this]
    omega
  · unfold holdsL
    rw [p1]
    simp only
    rw [hm]
    simp
  · unfold holdsL
    rw [p2]
    simp only
    have hn : holdsT evN (.num x 0) (.mk 4 [] Ex.zero Ex.zero false false (l.map It.te)) = (!l.any (wantI x), 0) := by
      rw [holdsT, if_neg (by decide), if_neg (by decide), if_neg (by decide), if_pos rfl, hm]
      simp
    rw [matchT, hn, matchT]
    cases l.any (wantI x) with
    | true => simp
    | false => simp
end Go.Vf
