/- A part of the proof: Se. -/
import Derived.Test.YtkcdhmplinjldaaGreatDoorPASd
set_option linter.unusedVariables false
set_option linter.unusedSimpArgs false
namespace Go.Vf
open Go.Proofs Go.RowKit
def takeS (T : List Tok) (s : St) : List (List UInt8) → List UInt8 × St
  | [] => ([], s)
  | w :: r => if isT T s 4 w = true then (w, takeT T s 4 w) else takeS T s r
theorem takeS_goes {T : List Tok} {s : St} (h : s.at_ ≤ T.length) : ∀ ws, s.at_ ≤ (takeS T s ws).2.at_ ∧ (takeS T s ws).2.at_ ≤ T.length
  | [] => ⟨Nat.le_refl _, h⟩
  | w :: r => by
    unfold takeS
    split
    · exact takeT_goes (by decide) h
    · exact takeS_goes h r
theorem takeS_R {T : List Tok} {s : St} : ∀ ws : List (List UInt8), (∀ w, w ∈ ws → wordR w = false) → takeS T s ws = takeR T s ws
  | [], _ => rfl
  | w :: r, h => by
    have hw := h w List.mem_cons_self
    have e : isR T s w = isT T s 4 w := by
      rw [isT_sign]; unfold isR signAt; rw [hw, Bool.and_false, Bool.or_false]
      cases decide (s.err = 0) <;> cases decide (s.at_ < T.length) <;> cases decide ((T.getD s.at_ ⟨0, [], 0⟩).text = w) <;> cases decide ((T.getD s.at_ ⟨0, [], 0⟩).kind = 4) <;> rfl
    unfold takeS takeR
    rw [e]
    split
    · rename_i c
      unfold takeT nextS; rw [if_pos c]
    · exact takeS_R r fun x hx => h x (List.mem_cons_of_mem _ hx)
theorem takeS_nil {T : List Tok} {s : St} : ∀ ws : List (List UInt8), (∀ w, w ∈ ws → w ≠ []) → (takeS T s ws).1 = [] → (takeS T s ws).2 = s
  | [], _, _ => rfl
  | w :: r, h, e => by
    unfold takeS at e ⊢
    split
    · rename_i c
      rw [if_pos c] at e
      exact (h w List.mem_cons_self e).elim
    · rename_i c
      rw [if_neg c] at e
      exact takeS_nil r (fun x hx => h x (List.mem_cons_of_mem _ hx)) e
def openW : List (List UInt8) := [[91], [40]]
def closeW : List (List UInt8) := [[93], [41]]
def rangedR (T : List Tok) (en : Int) (s : St) : Te × St :=
  (.mk 3 [] (exprT T en (takeS T s openW).2).1 (exprT T en (takeS T (exprT T en (takeS T s openW).2).2 [[46, 46]]).2).1 (decide ((takeS T s openW).1 = [91]))
    (decide ((takeS T (exprT T en (takeS T (exprT T en (takeS T s openW).2).2 [[46, 46]]).2).2 closeW).1 = [93])) [],
   if (takeS T (exprT T en (takeS T (exprT T en (takeS T s openW).2).2 [[46, 46]]).2).2 closeW).1 = [] then errsT T en (takeS T (exprT T en (takeS T (exprT T en (takeS T s openW).2).2 [[46, 46]]).2).2 closeW).2 2
   else (takeS T (exprT T en (takeS T (exprT T en (takeS T s openW).2).2 [[46, 46]]).2).2 closeW).2)
def testR (T : List Tok) (en : Int) (s : St) : Te × St :=
  if (takeS T s relW).1 ≠ [] then (.mk 2 (takeS T s relW).1 (exprT T en (takeS T s relW).2).1 Ex.zero false false [], (exprT T en (takeS T s relW).2).2)
  else if isRangeT T en (takeS T s relW).2 = true then rangedR T en (takeS T s relW).2
  else (.mk 2 [61] (exprT T en (takeS T s relW).2).1 Ex.zero false false [], (exprT T en (takeS T s relW).2).2)
theorem takeT_no {T : List Tok} {s : St} {w : List UInt8} (h : isT T s 4 w = false) : takeT T s 4 w = s := by unfold takeT; rw [h]; rfl
theorem open_eq {T : List Tok} {en : Int} {s : St} (h : isT T s 4 [91] = true ∨ isT T s 4 [40] = true) :
    (takeS T s openW).2 = opT T en s [91] [40] ∧ decide ((takeS T s openW).1 = [91]) = isT T s 4 [91] ∧ opT T en s [91] [40] = ⟨s.at_ + 1, s.pos, s.err⟩ := by
  unfold openW takeS takeS opT
  cases h1 : isT T s 4 [91] with
  | true => refine ⟨rfl, rfl, ?_⟩; unfold takeT; rw [h1]; rfl
  | false =>
    have h2 : isT T s 4 [40] = true := by
      rcases h with h | h
      · rw [h1] at h; cases h
      · exact h
    simp only [takeT_no h1, h2, if_true, Bool.false_eq_true, if_false]
    refine ⟨rfl, by decide, ?_⟩
    unfold mustT takeT; rw [h2]; rfl
theorem close_eq {T : List Tok} {en : Int} {s : St} :
    (if (takeS T s closeW).1 = [] then errsT T en (takeS T s closeW).2 2 else (takeS T s closeW).2) = opT T en s [93] [41] ∧ decide ((takeS T s closeW).1 = [93]) = isT T s 4 [93] := by
  unfold closeW takeS takeS takeS opT
  cases h1 : isT T s 4 [93] with
  | true => exact ⟨rfl, rfl⟩
  | false =>
    simp only [takeT_no h1, Bool.false_eq_true, if_false]
    cases h2 : isT T s 4 [41] with
    | true => exact ⟨rfl, rfl⟩
    | false => rw [takeT_no h2]; exact ⟨rfl, rfl⟩
theorem ranged_eq {T : List Tok} {en : Int} {s : St} (h : isRangeT T en s = true) : rangedR T en s = rangedT T en s := by
  unfold isRangeT at h
  simp only [Bool.and_eq_true, Bool.or_eq_true, decide_eq_true_eq] at h
  obtain ⟨h1, h2, h3⟩ := h
  have he : s.err = 0 := by
    rcases h1 with h | h <;> exact (isT_lt (by decide) h).1
  obtain ⟨o1, o2, o3⟩ := open_eq (en := en) h1
  unfold rangedR rangedT
  rw [o1, o2]
  have hd : isT T (exprT T en (opT T en s [91] [40])).2 4 [46, 46] = true := by
    rw [o3, isT_sign]
    unfold exprT
    simp only [he, h2, if_true, decide_true, Bool.true_and]
    exact h3
  have hs : (takeS T (exprT T en (opT T en s [91] [40])).2 [[46, 46]]).2 = mustT T en (takeT T (exprT T en (opT T en s [91] [40])).2 4 [46, 46]) (isT T (exprT T en (opT T en s [91] [40])).2 4 [46, 46]) := by
    unfold takeS; rw [if_pos hd, hd]; rfl
  rw [hs]
  have hc := close_eq (T := T) (en := en) (s := (exprT T en (mustT T en (takeT T (exprT T en (opT T en s [91] [40])).2 4 [46, 46]) (isT T (exprT T en (opT T en s [91] [40])).2 4 [46, 46]))).2)
  rw [hc.1, hc.2]
theorem rel_ne : ∀ w, w ∈ relW → w ≠ [] := by decide
theorem range_rel {T : List Tok} {en : Int} {s : St} (h : isRangeT T en s = true) : ofV T s relB = [] := by
  unfold isRangeT at h
  simp only [Bool.and_eq_true, Bool.or_eq_true] at h
  have key : ∀ w : List UInt8, isT T s 4 w = true → Lib.contains relB (([32] ++ w) ++ [32]) = false → ofV T s relB = [] := by
    intro w hw hc
    unfold isT at hw
    simp only [Bool.and_eq_true, decide_eq_true_eq] at hw
    unfold ofV ofOk
    rw [hw.2, hc, Bool.and_false]; rfl
  rcases h.1 with h | h
  · exact key _ h (by decide +kernel)
  · exact key _ h (by decide +kernel)
theorem test_eq {T : List Tok} (hT : GoodT T) {en : Int} {s : St} : testR T en s = testT T en s := by
  have hr : takeS T s relW = (ofV T s relB, ofT T s relB) := by rw [takeS_R relW rels_same.2]; exact op_rels hT s
  have hn : ofV T s relB = [] → ofT T s relB = s := by
    have := takeS_nil (T := T) (s := s) relW rel_ne
    rw [hr] at this
    exact this
  unfold testR testT
  rw [hr]
  simp only
  by_cases c : isRangeT T en s = true
  · have hv := range_rel c
    rw [hn hv, if_neg (by rw [hv]; exact fun h => h rfl), if_pos c, if_pos c]
    exact ranged_eq c
  · rw [if_neg (c := isRangeT T en s = true) c]
    by_cases hv : ofV T s relB = []
    · rw [if_neg (by rw [hv]; exact fun h => h rfl), hn hv, if_neg c]
      unfold relT; rw [if_pos hv]
    · rw [if_pos hv]
      unfold relT; rw [if_neg hv]
mutual
def sameT : Te → Te → Bool
  | .mk k r a b lo hi ks, .mk k' r' a' b' lo' hi' ks' => decide (k = k') && (if k = 2 then decide (r = r') && sameE a a' else if k = 3 then decide (lo = lo') && (decide (hi = hi') && (sameE a a' && sameE b b')) else if k = 4 then sameTs ks ks' else true)
def sameTs : List Te → List Te → Bool
  | [], [] => true
  | a :: r, b :: r' => sameT a b && sameTs r r'
  | _, _ => false
end
end Go.Vf
