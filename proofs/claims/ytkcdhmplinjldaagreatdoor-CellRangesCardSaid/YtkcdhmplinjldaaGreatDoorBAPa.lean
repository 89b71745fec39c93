/- A part of the proof: Pa, Pb, Pc. -/
import Derived.Test.YtkcdhmplinjldaaGreatDoorBANg
set_option linter.unusedVariables false
set_option linter.unusedSimpArgs false
namespace Go.Vf
open Go.Proofs Go.RowKit
def GoodT (T : List Tok) : Prop := ∀ t, t ∈ T → t.kind = 4 → t.text ∈ signsF
theorem signGo_in (s : List UInt8) : ∀ l, signGo s l ≠ [] → signGo s l ∈ l
  | [], h => (h rfl).elim
  | x :: r, h => by
    unfold signGo at *
    split
    · exact List.mem_cons_self ..
    · rename_i hx
      rw [if_neg hx] at h
      exact List.mem_cons_of_mem _ (signGo_in s r h)
theorem nextL_sign {s : List UInt8} (h : (nextL s).kind = 4) : (nextL s).text ∈ signsF := by
  unfold nextL at *
  split at h
  · split at h
    · simp at h
    · simp at h
  · rename_i c1
    rw [if_neg c1]
    split at h
    · simp at h
    · rename_i c2
      rw [if_neg c2]
      split at h
      · split at h
        · simp at h
        · split at h
          · simp at h
          · simp at h
      · rename_i c3
        rw [if_neg c3]
        split at h
        · simp at h
        · rename_i c4
          rw [if_neg c4]
          exact signGo_in s signsF c4
theorem lexGo_signs {s : List UInt8} : ∀ {f p : Nat} {acc : List Tok}, GoodT acc → GoodT (lexGo s f p acc).toks
  | 0, _, _, _ => by intro t ht; simp [lexGo] at ht
  | f + 1, p, acc, h => by
    unfold lexGo
    split
    · split
      · intro t ht; simp at ht
      · split
        · intro t ht; simp at ht
        · refine lexGo_signs fun t ht hk => ?_
          rcases List.mem_append.1 ht with ht | ht
          · exact h t ht hk
          · have : t = ⟨(nextL (s.drop p)).kind, (nextL (s.drop p)).text, p⟩ := by simpa using ht
            rw [this] at hk ⊢
            exact nextL_sign hk
    · exact h
theorem lexL_signs (s : List UInt8) : GoodT (lexL s).toks := by
  unfold lexL
  split
  · intro t ht; simp at ht
  · exact lexGo_signs fun t ht => by simp at ht
theorem getD_out {T : List Tok} {i : Nat} (h : ¬i < T.length) : T.getD i ⟨0, [], 0⟩ = ⟨0, [], 0⟩ := by
  rw [List.getD, List.getElem?_eq_none (by omega)]; rfl
theorem now_at {T : List Tok} {s : St} (h : s.err = 0) : nowT T s = T.getD s.at_ ⟨0, [], 0⟩ := by
  unfold nowT; rw [if_neg (fun c => c h)]
theorem now_err {T : List Tok} {s : St} (h : s.err ≠ 0) : nowT T s = ⟨0, [], 0⟩ := by
  unfold nowT; rw [if_pos h]
theorem now_out {T : List Tok} {s : St} (h : ¬s.at_ < T.length) : nowT T s = ⟨0, [], 0⟩ := by
  unfold nowT; rw [getD_out h]; split <;> rfl
theorem now_mem {T : List Tok} {s : St} (h : (nowT T s).kind ≠ 0) : nowT T s ∈ T := by
  have hl := now_lt h
  rw [now_at hl.1, List.getD, List.getElem?_eq_getElem hl.2]
  exact List.getElem_mem hl.2
theorem is_sign {T : List Tok} {s : St} {w : List UInt8} (hw : wordR w = false) : isR T s w = isT T s 4 w := by
  unfold isT isR
  by_cases e : s.err = 0
  · rw [now_at e]
    by_cases l : s.at_ < T.length
    · simp [e, l, hw, Bool.and_comm]
    · rw [getD_out l]; simp [e, l]
  · rw [now_err e]; simp [e]
theorem is_word {T : List Tok} (hT : GoodT T) {s : St} {w : List UInt8} (hw : wordR w = true) (hs : w ∉ signsF) : isR T s w = isT T s 1 w := by
  unfold isT isR
  by_cases e : s.err = 0
  · by_cases l : s.at_ < T.length
    · by_cases k4 : (nowT T s).kind = 4
      · have hm := hT _ (now_mem (by rw [k4]; decide)) k4
        rw [← now_at e]
        have ne : ¬(nowT T s).text = w := fun c => hs (c ▸ hm)
        simp [e, l, k4, ne]
      · rw [← now_at e]
        simp [e, l, hw, k4, Bool.and_comm]
    · rw [now_out l, getD_out l]; simp [e, l]
  · rw [now_err e]; simp [e]
theorem take_is {T : List Tok} {s : St} {k : Int} {w : List UInt8} (h : isT T s k w = true) : takeT T s k w = nextS s := by
  unfold takeT nextS; rw [if_pos h]
theorem take_isnt {T : List Tok} {s : St} {k : Int} {w : List UInt8} (h : ¬isT T s k w = true) : takeT T s k w = s := by
  unfold takeT; rw [if_neg h]
theorem take_signs {T : List Tok} {s : St} : ∀ ws : List (List UInt8), (∀ w, w ∈ ws → wordR w = false) → takeR T s ws = if (decide ((nowT T s).kind = 4) && ws.contains (nowT T s).text) = true then ((nowT T s).text, nextS s) else ([], s)
  | [], _ => by simp [takeR]
  | w :: r, h => by
    rw [takeR, is_sign (h w (List.mem_cons_self ..)), take_signs r fun x hx => h x (List.mem_cons_of_mem _ hx)]
    unfold isT
    by_cases k4 : (nowT T s).kind = 4
    · by_cases et : (nowT T s).text = w
      · simp [k4, et]
      · simp [k4, et]
    · simp [k4]
theorem of_take {T : List Tok} (hT : GoodT T) (s : St) {b : List UInt8} {ws : List (List UInt8)} (hb : ∀ x, x ∈ signsF → Lib.contains b (([32] ++ x) ++ [32]) = ws.contains x) (hw : ∀ w, w ∈ ws → wordR w = false) : opOf T b s = takeR T s ws := by
  rw [take_signs ws hw]
  unfold opOf ofV ofT ofOk
  by_cases k4 : (nowT T s).kind = 4
  · have hm := hT _ (now_mem (by rw [k4]; decide)) k4
    rw [hb _ hm]
    cases ws.contains (nowT T s).text
    · simp [k4]
    · simp [k4, nextS]
  · simp [k4]
theorem sums_same : (∀ x, x ∈ signsF → Lib.contains sumsB (([32] ++ x) ++ [32]) = sumsW.contains x) ∧ ∀ w, w ∈ sumsW → wordR w = false := by decide +kernel
theorem products_same : (∀ x, x ∈ signsF → Lib.contains productsB (([32] ++ x) ++ [32]) = productsW.contains x) ∧ ∀ w, w ∈ productsW → wordR w = false := by decide +kernel
theorem rels_same : (∀ x, x ∈ signsF → Lib.contains relB (([32] ++ x) ++ [32]) = relW.contains x) ∧ ∀ w, w ∈ relW → wordR w = false := by decide +kernel
theorem op_sums {T : List Tok} (hT : GoodT T) : opOf T sumsB = opR T sumsW := funext fun s => of_take hT s sums_same.1 sums_same.2
theorem op_products {T : List Tok} (hT : GoodT T) : opOf T productsB = opR T productsW := funext fun s => of_take hT s products_same.1 products_same.2
theorem op_rels {T : List Tok} (hT : GoodT T) (s : St) : takeR T s relW = (ofV T s relB, ofT T s relB) := (of_take hT s rels_same.1 rels_same.2).symm
def Wordy (w : List UInt8) : Prop := wordR w = true ∧ w ∉ signsF
theorem wordy_all : Wordy andW ∧ Wordy orW ∧ Wordy inW ∧ Wordy thenB ∧ Wordy elseB ∧ Wordy trueB ∧ Wordy falseB ∧ Wordy nullB ∧ Wordy ifB := by unfold Wordy; decide +kernel
theorem op_word {T : List Tok} (hT : GoodT T) {w : List UInt8} (hw : Wordy w) : opWord T w = opR T [w] := funext fun s => by
  unfold opWord opR wordV
  rw [take1, is_word hT hw.1 hw.2]
  by_cases c : isT T s 1 w = true
  · rw [if_pos c, if_pos c, take_is c]
  · rw [if_neg c, if_neg c, take_isnt c]
theorem errs_stuck {T : List Tok} {en : Int} {s : St} {e : Int} (h : s.err ≠ 0) : errsT T en s e = s := by
  rw [errsT_here, if_neg h]
theorem isR_stuck {T : List Tok} {s : St} {w : List UInt8} (h : s.err ≠ 0) : isR T s w = false := by
  unfold isR; simp [h]
theorem takeR_stuck {T : List Tok} {s : St} (h : s.err ≠ 0) : ∀ ws, takeR T s ws = ([], s)
  | [] => rfl
  | w :: r => by rw [takeR, isR_stuck h]; exact takeR_stuck h r
theorem mustR_stuck {T : List Tok} {en : Int} {s : St} (h : s.err ≠ 0) (ws : List (List UInt8)) : mustR T en s ws = ([], s) := by
  unfold mustR; rw [takeR_stuck h, if_pos rfl, errs_stuck h]
theorem isT_stuck {T : List Tok} {s : St} {k : Int} {w : List UInt8} (hk : k ≠ 0) (h : s.err ≠ 0) : isT T s k w = false := by
  unfold isT; rw [now_err h]; simp; intro c; exact absurd c.symm hk
theorem need_word {T : List Tok} {en : Int} (hT : GoodT T) {w : List UInt8} (hw : Wordy w) (hn : w ≠ []) (s : St) : needT T en s 1 w = (mustR T en s [w]).2 := by
  unfold needT mustR
  rw [take1, is_word hT hw.1 hw.2]
  by_cases c : isT T s 1 w = true
  · rw [if_pos c, if_neg hn, c, take_is c]; rfl
  · have c' : isT T s 1 w = false := by simpa using c
    rw [c', take_isnt c]; rfl
theorem need_sign {T : List Tok} {en : Int} {w : List UInt8} (hw : wordR w = false) (hn : w ≠ []) (s : St) : needT T en s 4 w = (mustR T en s [w]).2 := by
  unfold needT mustR
  rw [take1, is_sign hw]
  by_cases c : isT T s 4 w = true
  · rw [if_pos c, if_neg hn, c, take_is c]; rfl
  · have c' : isT T s 4 w = false := by simpa using c
    rw [c', take_isnt c]; rfl
theorem op_two {T : List Tok} {en : Int} {a b : List UInt8} (ha : wordR a = false) (hb : wordR b = false) (na : a ≠ []) (nb : b ≠ []) (hab : b ≠ a) (s : St) : isT T s 4 a = decide ((mustR T en s [a, b]).1 = a) ∧ opT T en s a b = (mustR T en s [a, b]).2 := by
  unfold opT mustR
  rw [takeR, take1, is_sign ha, is_sign hb]
  by_cases c : isT T s 4 a = true
  · simp only [c, if_true, na, if_false, take_is c]; simp
  · have c' : isT T s 4 a = false := by simpa using c
    rw [take_isnt c]
    by_cases d : isT T s 4 b = true
    · simp only [c', d, if_true, nb, if_false, take_is d, mustT, Bool.false_eq_true]; simp [hab]
    · have d' : isT T s 4 b = false := by simpa using d
      rw [take_isnt d]
      simp only [c', d', mustT, Bool.false_eq_true, if_false, if_true]
      simp [na]
def SSim (s s' : St) : Prop := s.err = s'.err ∧ s.pos = s'.pos ∧ (s.err = 0 → s = s')
theorem SSim.refl (s : St) : SSim s s := ⟨rfl, rfl, fun _ => rfl⟩
def XSim (a b : Ex × St) : Prop := SSim a.2 b.2 ∧ (a.2.err = 0 → a.1 = b.1)
theorem XSim.refl (a : Ex × St) : XSim a a := ⟨.refl _, fun _ => rfl⟩
def Stuck (k : Kid) : Prop := ∀ s, s.err ≠ 0 → (k s).2.err = s.err ∧ (k s).2.pos = s.pos
structure KSim (T : List Tok) (k r : Kid) : Prop where
  sim : ∀ s, s.at_ ≤ T.length → s.err = 0 → XSim (k s) (r s)
  sk : Stuck k
  sr : Stuck r
  go : Goes T k
theorem KSim.at {T : List Tok} {k r : Kid} (h : KSim T k r) {s s' : St} (hs : SSim s s') (hl : s.at_ ≤ T.length) : XSim (k s) (r s') := by
  by_cases e : s.err = 0
  · have := hs.2.2 e; subst this; exact h.sim s hl e
  · have e' : s'.err ≠ 0 := hs.1 ▸ e
    have h1 := h.sk s e
    have h2 := h.sr s' e'
    exact ⟨⟨h1.1.trans (hs.1.trans h2.1.symm), h1.2.trans (hs.2.1.trans h2.2.symm), fun c => absurd (h1.1 ▸ c) e⟩, fun c => absurd (h1.1 ▸ c) e⟩
theorem Stuck.back {k : Kid} (h : Stuck k) {s : St} (e : (k s).2.err = 0) : s.err = 0 := Classical.byContradiction fun c => c ((h s c).1 ▸ e)
theorem SSim.map {s s' : St} (h : SSim s s') {f : St → St} (hf : ∀ s, s.err ≠ 0 → f s = s) : SSim (f s) (f s') := by
  by_cases e : s.err = 0
  · rw [h.2.2 e]; exact .refl _
  · rw [hf s e, hf s' (h.1 ▸ e)]; exact h
theorem stuck_back {f : St → St} (hf : ∀ s, s.err ≠ 0 → f s = s) {s : St} (e : (f s).err = 0) : s.err = 0 := Classical.byContradiction fun c => c (by rw [hf s c] at e; exact e)
theorem must_st {T : List Tok} {en : Int} (ws : List (List UInt8)) : ∀ s, s.err ≠ 0 → (mustR T en s ws).2 = s := fun s h => by rw [mustR_stuck h]
theorem rowGo_stuck {kid : Kid} {op : St → List UInt8 × St} (ho : ∀ s, s.err ≠ 0 → op s = ([], s)) : ∀ (f : Nat) (x : Ex) (s : St), s.err ≠ 0 → rowGo kid op f x s = (x, s)
  | 0, _, _, _ => rfl
  | f + 1, x, s, e => by rw [rowGo, ho s e, if_pos rfl]
theorem rowGo_sim {T : List Tok} {k r : Kid} {op : St → List UInt8 × St} (hk : KSim T k r) (ho : ∀ s, s.err ≠ 0 → op s = ([], s)) (mo : Steps T op) :
    ∀ (f : Nat) (x x' : Ex) (s s' : St), SSim s s' → (s.err = 0 → x = x') → s.at_ ≤ T.length → XSim (rowGo k op f x s) (rowGo r op f x' s')
  | 0, x, x', s, s', hs, hx, _ => ⟨hs, hx⟩
  | f + 1, x, x', s, s', hs, hx, hl => by
    by_cases e : s.err = 0
    · have := hs.2.2 e
      subst this
      have := hx e
      subst this
      rw [rowGo, rowGo]
      by_cases c : (op s).1 = []
      · rw [if_pos c, if_pos c]; exact .refl _
      · rw [if_neg c, if_neg c]
        have hb := (mo s hl).2.1
        have h1 := hk.at (.refl (op s).2) hb
        exact rowGo_sim hk ho mo f _ _ _ _ h1.1 (fun c => by rw [h1.2 c]) (hk.go _ hb).2
    · rw [rowGo_stuck ho _ _ _ e, rowGo_stuck ho _ _ _ (hs.1 ▸ e)]
      exact ⟨hs, hx⟩
theorem rowP_stuck {T : List Tok} {k : Kid} {op : St → List UInt8 × St} (hk : Stuck k) (ho : ∀ s, s.err ≠ 0 → op s = ([], s)) : Stuck (rowP T k op) := fun s e => by
  have h := hk s e
  rw [rowP, rowGo_stuck ho _ _ _ (by rw [h.1]; exact e)]
  exact h
theorem KSim.row {T : List Tok} {k r : Kid} {op : St → List UInt8 × St} (hk : KSim T k r) (ho : ∀ s, s.err ≠ 0 → op s = ([], s)) (mo : Steps T op) : KSim T (rowP T k op) (rowP T r op) where
  sim s hl e := by
    have h1 := hk.at (.refl s) hl
    exact rowGo_sim hk ho mo _ _ _ _ _ h1.1 h1.2 (hk.go s hl).2
  sk := rowP_stuck hk.sk ho
  sr := rowP_stuck hk.sr ho
  go := rowP_goes hk.go mo
theorem opR_stuck {T : List Tok} (ws : List (List UInt8)) : ∀ s, s.err ≠ 0 → opR T ws s = ([], s) := fun s h => takeR_stuck h ws
theorem takeR_none {T : List Tok} {s : St} : ∀ {ws : List (List UInt8)}, [] ∉ ws → (takeR T s ws).1 = [] → (takeR T s ws).2 = s
  | [], _, _ => rfl
  | w :: r, hn, h => by
    rw [takeR] at h ⊢
    split
    · rename_i c
      rw [if_pos c] at h
      exact (hn (by rw [show w = [] from h]; exact List.mem_cons_self ..)).elim
    · rename_i c
      rw [if_neg c] at h
      exact takeR_none (fun m => hn (List.mem_cons_of_mem _ m)) h
end Go.Vf
set_option linter.unusedVariables false
set_option linter.unusedSimpArgs false
namespace Go.Vf
open Go.Proofs Go.RowKit
theorem within_eq {T : List Tok} {en : Int} (k : Kid) (x : Ex) : withinP T en k x = inR T en k x := by
  funext s
  unfold withinP inR
  have h1 := op_two (T := T) (en := en) (a := [91]) (b := [40]) (by decide) (by decide) (by decide) (by decide) (by decide)
  have h2 := op_two (T := T) (en := en) (a := [93]) (b := [41]) (by decide) (by decide) (by decide) (by decide) (by decide)
  have h3 := need_sign (T := T) (en := en) (w := [46, 46]) (by decide) (by decide)
  unfold needT at h3
  simp only [h3, (h1 _).2, (h2 _).2, h2]
  rw [(h1 s).1]; rfl
theorem inR_sim {T : List Tok} {en : Int} {k r : Kid} (hk : KSim T k r) (x : Ex) : KSim T (inR T en k x) (inR T en r x) where
  sim s hl e := by
    unfold inR
    generalize hs1 : (mustR T en s opW) = m1
    have l1 : m1.2.at_ ≤ T.length := by rw [← hs1]; exact (mustR_goes hl _).2
    have A := hk.at (.refl m1.2) l1
    have lA := (hk.go m1.2 l1).2
    have l2 := (mustR_goes (en := en) lA ddW).2
    have M2 := A.1.map (must_st (en := en) (T := T) ddW)
    have B := hk.at M2 l2
    have M3 := B.1.map (must_st (en := en) (T := T) clW)
    refine ⟨M3, fun c => ?_⟩
    have eB := stuck_back (must_st (en := en) (T := T) clW) c
    have eM := hk.sk.back eB
    have eA := stuck_back (must_st (en := en) (T := T) ddW) eM
    simp only
    rw [A.2 eA, B.2 eB, B.1.2.2 eB]
  sk s e := by
    have h1 := must_st (en := en) (T := T) opW s e
    have h2 := hk.sk s e
    have h3 := must_st (en := en) (T := T) ddW (k s).2 (by rw [h2.1]; exact e)
    have h4 := hk.sk (k s).2 (by rw [h2.1]; exact e)
    have h5 := must_st (en := en) (T := T) clW (k (k s).2).2 (by rw [h4.1, h2.1]; exact e)
    unfold inR
    simp only [h1, h3, h5]
    rw [h4.1, h4.2]; exact h2
  sr s e := by
    have h1 := must_st (en := en) (T := T) opW s e
    have h2 := hk.sr s e
    have h3 := must_st (en := en) (T := T) ddW (r s).2 (by rw [h2.1]; exact e)
    have h4 := hk.sr (r s).2 (by rw [h2.1]; exact e)
    have h5 := must_st (en := en) (T := T) clW (r (r s).2).2 (by rw [h4.1, h2.1]; exact e)
    unfold inR
    simp only [h1, h3, h5]
    rw [h4.1, h4.2]; exact h2
  go := inR_goes hk.go x
theorem cmp_eq {T : List Tok} (hT : GoodT T) {en : Int} (add k : Kid) : cmpP T en add k = cmpR T en add k := by
  funext s
  unfold cmpP cmpR
  generalize hA : add s = A
  obtain ⟨x, s1⟩ := A
  simp only
  have hi := is_word hT (s := s1) (w := inW) wordy_all.2.2.1.1 wordy_all.2.2.1.2
  by_cases c : isT T s1 1 inW = true
  · have c' : isT T s1 1 [105, 110] = true := c
    have k1 : (nowT T s1).kind = 1 := by
      unfold isT at c; simp only [Bool.and_eq_true, decide_eq_true_eq] at c; exact c.1
    have ht : takeR T s1 relW = ([], s1) := by rw [take_signs relW rels_same.2, k1]; rfl
    rw [c', ht]
    simp only [if_true]
    rw [hi, c, take_is c', within_eq]; rfl
  · have c' : ¬isT T s1 1 [105, 110] = true := c
    rw [if_neg c']
    have ht := op_rels hT s1
    have ht1 : (takeR T s1 relW).1 = ofV T s1 relB := by rw [ht]
    have ht2 : (takeR T s1 relW).2 = ofT T s1 relB := by rw [ht]
    by_cases d : ofV T s1 relB = []
    · have hn := takeR_none (T := T) (s := s1) (ws := relW) (by decide) (by rw [ht1]; exact d)
      have c2 : isR T s1 inW = false := by rw [hi]; simpa using c
      rw [if_pos d, ← ht2, if_pos (by rw [ht1]; exact d), hn, c2]; rfl
    · rw [if_neg d, ht1, ht2, if_neg d]
theorem cmpR_sim {T : List Tok} {en : Int} {a b k r : Kid} (ha : KSim T a b) (hk : KSim T k r) : KSim T (cmpR T en a k) (cmpR T en b r) where
  sim s hl e := by
    have A := ha.at (.refl s) hl
    have lA := (ha.go s hl).2
    unfold cmpR
    generalize a s = x at *
    generalize b s = y at *
    obtain ⟨x, s1⟩ := x
    obtain ⟨y, s2⟩ := y
    simp only at lA ⊢
    by_cases e1 : s1.err = 0
    · have h1 := A.1.2.2 e1
      have h2 := A.2 e1
      simp only at h1 h2
      subst h1 h2
      by_cases c : (takeR T s1 relW).1 = []
      · rw [if_pos c, if_pos c]
        by_cases d : isR T (takeR T s1 relW).2 inW = true
        · rw [if_pos d, if_pos d]
          exact (inR_sim hk x).at (.refl _) (nextS_goes d)
        · rw [if_neg d, if_neg d]; exact .refl _
      · rw [if_neg c, if_neg c]
        have hb := (takeR_goes (T := T) lA relW).2
        have h1 := ha.at (.refl (takeR T s1 relW).2) hb
        exact ⟨h1.1, fun c => by simp only at c ⊢; rw [h1.2 c]⟩
    · have e2 : s2.err ≠ 0 := A.1.1 ▸ e1
      rw [takeR_stuck e1, takeR_stuck e2]
      simp only [if_true]
      rw [isR_stuck e1, isR_stuck e2]
      exact A
  sk s e := by
    have h := ha.sk s e
    have e1 : (a s).2.err ≠ 0 := by rw [h.1]; exact e
    unfold cmpR
    rw [takeR_stuck e1]
    simp only [if_true]
    rw [isR_stuck e1]
    exact h
  sr s e := by
    have h := ha.sr s e
    have e1 : (b s).2.err ≠ 0 := by rw [h.1]; exact e
    unfold cmpR
    rw [takeR_stuck e1]
    simp only [if_true]
    rw [isR_stuck e1]
    exact h
  go := cmpR_goes ha.go hk.go
theorem choice_eq {T : List Tok} (hT : GoodT T) {en : Int} (k : Kid) : choiceP T en k = ifR T en k := by
  funext s
  unfold choiceP ifR
  have h1 := need_word (T := T) (en := en) hT wordy_all.2.2.2.1 (by decide)
  have h2 := need_word (T := T) (en := en) hT wordy_all.2.2.2.2.1 (by decide)
  simp only [h1, h2]
theorem ifR_sim {T : List Tok} {en : Int} {k r : Kid} (hk : KSim T k r) : KSim T (ifR T en k) (ifR T en r) where
  sim s hl e := by
    unfold ifR
    have A := hk.at (.refl s) hl
    have lA := (hk.go s hl).2
    have l2 := (mustR_goes (en := en) lA [thenB]).2
    have M2 := A.1.map (must_st (en := en) (T := T) [thenB])
    have B := hk.at M2 l2
    have lB := (hk.go _ l2).2
    have l3 := (mustR_goes (en := en) lB [elseB]).2
    have M3 := B.1.map (must_st (en := en) (T := T) [elseB])
    have C := hk.at M3 l3
    refine ⟨C.1, fun c => ?_⟩
    have eM3 := hk.sk.back c
    have eB := stuck_back (must_st (en := en) (T := T) [elseB]) eM3
    have eM := hk.sk.back eB
    have eA := stuck_back (must_st (en := en) (T := T) [thenB]) eM
    simp only
    rw [A.2 eA, B.2 eB, C.2 c]
  sk s e := by
    have h2 := hk.sk s e
    have h3 := must_st (en := en) (T := T) [thenB] (k s).2 (by rw [h2.1]; exact e)
    have h4 := hk.sk (k s).2 (by rw [h2.1]; exact e)
    have h5 := must_st (en := en) (T := T) [elseB] (k (k s).2).2 (by rw [h4.1, h2.1]; exact e)
    have h6 := hk.sk (k (k s).2).2 (by rw [h4.1, h2.1]; exact e)
    unfold ifR
    simp only [h3, h5]
    rw [h6.1, h6.2, h4.1, h4.2]; exact h2
  sr s e := by
    have h2 := hk.sr s e
    have h3 := must_st (en := en) (T := T) [thenB] (r s).2 (by rw [h2.1]; exact e)
    have h4 := hk.sr (r s).2 (by rw [h2.1]; exact e)
    have h5 := must_st (en := en) (T := T) [elseB] (r (r s).2).2 (by rw [h4.1, h2.1]; exact e)
    have h6 := hk.sr (r (r s).2).2 (by rw [h4.1, h2.1]; exact e)
    unfold ifR
    simp only [h3, h5]
    rw [h6.1, h6.2, h4.1, h4.2]; exact h2
  go := ifR_goes hk.go
theorem mustR2 {T : List Tok} {en : Int} {s : St} {a b : List UInt8} (na : a ≠ []) : mustR T en s [a, b] = if isR T s a = true then (a, nextS s) else mustR T en s [b] := by
  unfold mustR
  rw [takeR]
  by_cases c : isR T s a = true
  · rw [if_pos c, if_pos c, if_neg na]
  · rw [if_neg c, if_neg c]
theorem must1 {T : List Tok} {en : Int} {s : St} {b : List UInt8} : (mustR T en s [b]).1 = b ∨ (mustR T en s [b]).1 = [] := by
  unfold mustR
  rw [take1]
  by_cases c : isR T s b = true
  · rw [if_pos c]
    by_cases n : b = []
    · rw [if_pos n]; exact .inl rfl
    · rw [if_neg n]; exact .inl rfl
  · rw [if_neg c]; exact .inr rfl
theorem row_go_eq {T : List Tok} {en : Int} {k : Kid} {cl : List UInt8} (hw : wordR cl = false) (hn : cl ≠ []) (h44 : cl ≠ [44]) (hk : Stuck k) (mk : Goes T k) :
    ∀ (f : Nat) (acc : List Ex) (s : St), s.at_ ≤ T.length → T.length < s.at_ + f → s.err = 0 → rowGoR T en k cl f acc s = ((listGo T k f acc s).1, needT T en (listGo T k f acc s).2 4 cl)
  | 0, acc, s, hl, hf, e => by omega
  | f + 1, acc, s, hl, hf, e => by
    have hl2 := mk s hl
    rw [rowGoR, listGo, if_pos e, mustR2 (by decide), is_sign (by decide : wordR [44] = false)]
    by_cases c : isT T (k s).2 4 [44] = true
    · rw [if_pos c, if_pos c, if_pos rfl]
      have hlt := isT_lt (by decide) c
      have e2 : (nextS (k s).2).at_ = (k s).2.at_ + 1 := rfl
      have := row_go_eq (en := en) hw hn h44 hk mk f (acc ++ [(k s).1]) (nextS (k s).2) (by omega) (by omega) hlt.1
      rw [take_is c]
      exact this
    · have : ¬(mustR T en (k s).2 [cl]).1 = [44] := by
        rcases must1 (T := T) (en := en) (s := (k s).2) (b := cl) with h | h
        · rw [h]; exact h44
        · rw [h]; decide
      rw [if_neg c, if_neg c, if_neg this]
      simp only
      rw [need_sign hw hn]
theorem row_eq {T : List Tok} {en : Int} {k : Kid} {cl : List UInt8} (hw : wordR cl = false) (hn : cl ≠ []) (h44 : cl ≠ [44]) (hk : Stuck k) (mk : Goes T k) {s : St} (hl : s.at_ ≤ T.length) (e : s.err = 0) : listP T en k cl s = rowR T en k cl s := by
  unfold listP rowR
  rw [is_sign hw]
  by_cases c : isT T s 4 cl = true
  · rw [if_pos c, if_pos c, take_is c]
  · rw [if_neg c, if_neg c, row_go_eq hw hn h44 hk mk _ _ _ hl (by omega) e]
def LSim (a b : List Ex × St) : Prop := SSim a.2 b.2 ∧ (a.2.err = 0 → a.1 = b.1)
theorem rowGoR_sim {T : List Tok} {en : Int} {k r : Kid} (hk : KSim T k r) (cl : List UInt8) : ∀ (f : Nat) (acc : List Ex) (s : St), s.at_ ≤ T.length → LSim (rowGoR T en k cl f acc s) (rowGoR T en r cl f acc s)
  | 0, acc, s, hl => ⟨.refl _, fun _ => rfl⟩
  | f + 1, acc, s, hl => by
    have A := hk.at (.refl s) hl
    have lA := (hk.go s hl).2
    rw [rowGoR, rowGoR]
    by_cases e : (k s).2.err = 0
    · rw [← A.1.2.2 e, ← A.2 e]
      split
      · exact rowGoR_sim hk cl f _ _ (mustR_goes (en := en) lA [[44], cl]).2
      · exact ⟨.refl _, fun _ => rfl⟩
    · have e' : (r s).2.err ≠ 0 := A.1.1 ▸ e
      rw [mustR_stuck e, mustR_stuck e']
      simp only [show ¬([] : List UInt8) = [44] by decide, if_false]
      exact ⟨A.1, fun c => absurd c e⟩
theorem rowR_sim {T : List Tok} {en : Int} {k r : Kid} (hk : KSim T k r) (cl : List UInt8) {s : St} (hl : s.at_ ≤ T.length) : LSim (rowR T en k cl s) (rowR T en r cl s) := by
  unfold rowR
  split
  · exact ⟨.refl _, fun _ => rfl⟩
  · exact rowGoR_sim hk cl _ _ _ hl
theorem errsT_stop {T : List Tok} {en : Int} {s : St} {e : Int} (h : s.err = 0) : (errsT T en s e).err = e := by
  rw [errsT_here, if_pos h]
theorem must_atoms {T : List Tok} (hT : GoodT T) {en : Int} {s : St} (e : s.err = 0) : mustR T en s atW =
    (if isT T s 1 trueB = true then (trueB, nextS s) else if isT T s 1 falseB = true then (falseB, nextS s) else if isT T s 1 nullB = true then (nullB, nextS s)
    else if isT T s 4 parB = true then (parB, nextS s) else if isT T s 4 braB = true then (braB, nextS s) else if isT T s 1 ifB = true then (ifB, nextS s) else ([], errsT T en s 2)) := by
  obtain ⟨_, _, _, _, _, w1, w2, w3, w4⟩ := wordy_all
  have e1 := is_word hT (s := s) w1.1 w1.2
  have e2 := is_word hT (s := s) w2.1 w2.2
  have e3 := is_word hT (s := s) w3.1 w3.2
  have e4 : isR T s parB = isT T s 4 parB := is_sign (by decide)
  have e5 : isR T s braB = isT T s 4 braB := is_sign (by decide)
  have e6 := is_word hT (s := s) w4.1 w4.2
  have n1 : trueB ≠ [] := by decide
  have n2 : falseB ≠ [] := by decide
  have n3 : nullB ≠ [] := by decide
  have n4 : parB ≠ [] := by decide
  have n5 : braB ≠ [] := by decide
  have n6 : ifB ≠ [] := by decide
  unfold mustR atW
  by_cases c1 : isT T s 1 trueB = true
  · simp only [Bool.false_eq_true, takeR, e1, c1, if_true, n1, if_false]
  by_cases c2 : isT T s 1 falseB = true
  · simp only [Bool.false_eq_true, takeR, e1, e2, c1, c2, if_true, n2, if_false]
  by_cases c3 : isT T s 1 nullB = true
  · simp only [Bool.false_eq_true, takeR, e1, e2, e3, c1, c2, c3, if_true, n3, if_false]
  by_cases c4 : isT T s 4 parB = true
  · simp only [Bool.false_eq_true, takeR, e1, e2, e3, e4, c1, c2, c3, c4, if_true, n4, if_false]
  by_cases c5 : isT T s 4 braB = true
  · simp only [Bool.false_eq_true, takeR, e1, e2, e3, e4, e5, c1, c2, c3, c4, c5, if_true, n5, if_false]
  by_cases c6 : isT T s 1 ifB = true
  · simp only [Bool.false_eq_true, takeR, e1, e2, e3, e4, e5, e6, c1, c2, c3, c4, c5, c6, if_true, n6, if_false]
  · simp only [Bool.false_eq_true, takeR, e1, e2, e3, e4, e5, e6, c1, c2, c3, c4, c5, c6, if_true, if_false]
end Go.Vf
set_option linter.unusedVariables false
set_option linter.unusedSimpArgs false
namespace Go.Vf
open Go.Proofs Go.RowKit
theorem atom2_true {T : List Tok} {en : Int} (k : Kid) (s : St) : atom2R T en k trueB s = (.mk 2 true 0 0 [] false false [], s) := by unfold atom2R; rw [if_pos rfl]
theorem atom2_false {T : List Tok} {en : Int} (k : Kid) (s : St) : atom2R T en k falseB s = (.mk 2 false 0 0 [] false false [], s) := by unfold atom2R; rw [if_neg (by decide), if_pos rfl]
theorem atom2_null {T : List Tok} {en : Int} (k : Kid) (s : St) : atom2R T en k nullB s = (.mk 1 false 0 0 [] false false [], s) := by unfold atom2R; rw [if_neg (by decide), if_neg (by decide), if_pos rfl]
theorem atom2_par {T : List Tok} {en : Int} (k : Kid) (s : St) : atom2R T en k parB s = ((k s).1, (mustR T en (k s).2 [[41]]).2) := by unfold atom2R; rw [if_neg (by decide), if_neg (by decide), if_neg (by decide), if_pos rfl]
theorem atom2_bra {T : List Tok} {en : Int} (k : Kid) (s : St) : atom2R T en k braB s = (.mk 9 false 0 0 [] false false (rowR T en k [93] s).1, (rowR T en k [93] s).2) := by unfold atom2R; rw [if_neg (by decide), if_neg (by decide), if_neg (by decide), if_neg (by decide), if_pos rfl]
theorem atom2_if {T : List Tok} {en : Int} (k : Kid) (s : St) : atom2R T en k ifB s = ifR T en k s := by unfold atom2R; rw [if_neg (by decide), if_neg (by decide), if_neg (by decide), if_neg (by decide), if_neg (by decide), if_pos rfl]
theorem atom2_nil {T : List Tok} {en : Int} (k : Kid) (s : St) : atom2R T en k [] s = (Ex.zero, s) := by unfold atom2R; rw [if_neg (by decide), if_neg (by decide), if_neg (by decide), if_neg (by decide), if_neg (by decide), if_neg (by decide)]
theorem isT_kind {T : List Tok} {s : St} {k k' : Int} {w : List UInt8} (h : (nowT T s).kind = k) (hk : k ≠ k') : isT T s k' w = false := by
  unfold isT; rw [h]; simp [hk]
theorem isT_text {T : List Tok} {s : St} {k : Int} {w : List UInt8} (h : (nowT T s).kind = k) : isT T s k w = decide ((nowT T s).text = w) := by
  unfold isT; rw [h]; simp
theorem named_eq {T : List Tok} (hT : GoodT T) (hS : Short T) {en : Int} {decF : List UInt8 → DecR} {k : Kid} (hk : Stuck k) (mk : Goes T k) {s : St} (e : s.err = 0) (hl : s.at_ < T.length) (k1 : (nowT T s).kind = 1) :
    namedP T en k (nowT T s).text s = if wordR (nowT T s).text = false then nameR T en k (nowT T s).text s else atom2R T en k (mustR T en s atW).1 (mustR T en s atW).2 := by
  have hb := wordB_R _ (now_short hS s)
  have t1 : ∀ w, isT T s 1 w = decide ((nowT T s).text = w) := fun w => isT_text k1
  have t4 : ∀ w, isT T s 4 w = false := fun w => isT_kind k1 (by decide)
  have hm := must_atoms hT (en := en) e
  simp only [t1, t4, decide_eq_true_eq, Bool.false_eq_true, if_false] at hm
  unfold namedP
  rw [hb]
  generalize (nowT T s).text = w at *
  obtain ⟨_, _, _, _, _, w1, w2, w3, w4⟩ := wordy_all
  by_cases c1 : w = trueB
  · subst c1
    rw [if_pos rfl] at hm
    rw [if_pos rfl, w1.1, if_neg (by decide), hm, atom2_true]
  rw [if_neg c1] at hm ⊢
  by_cases c2 : w = falseB
  · subst c2
    rw [if_pos rfl] at hm
    rw [if_pos rfl, w2.1, if_neg (by decide), hm, atom2_false]
  rw [if_neg c2] at hm ⊢
  by_cases c3 : w = nullB
  · subst c3
    rw [if_pos rfl] at hm
    rw [if_pos rfl, w3.1, if_neg (by decide), hm, atom2_null]
  rw [if_neg c3] at hm ⊢
  by_cases c4 : w = ifB
  · subst c4
    rw [if_pos rfl] at hm
    rw [if_pos rfl, w4.1, if_neg (by decide), hm, atom2_if, choice_eq hT]
  rw [if_neg c4] at hm ⊢
  by_cases c5 : wordR w = true
  · rw [if_pos c5, c5, if_neg (by decide), hm, atom2_nil]
  have c5' : wordR w = false := by simpa using c5
  rw [if_neg c5, if_pos c5']
  unfold nameR
  rw [is_sign (by decide : wordR [40] = false)]
  by_cases c6 : isT T (nextS s) 4 [40] = true
  · have hlt := isT_lt (by decide) c6
    have hlt1 := hlt.1
    have hlt2 := hlt.2
    rw [if_pos c6, if_pos c6, take_is c6]
    have e2 : (nextS (nextS s)).at_ = (nextS s).at_ + 1 := rfl
    rw [row_eq (en := en) (cl := [41]) (s := nextS (nextS s)) (by decide) (by decide) (by decide) hk mk (by omega) e]
  · rw [if_neg c6, if_neg c6]
theorem atom_eq {T : List Tok} (hT : GoodT T) (hS : Short T) {en : Int} {decF : List UInt8 → DecR} {k : Kid} (hk : Stuck k) (mk : Goes T k) {s : St} (e : s.err = 0) : XSim (atomP T en decF k s) (atomR T en decF k s) := by
  by_cases hl : s.at_ < T.length
  case neg =>
    have hn : (nowT T s).kind = 0 := by rw [now_out hl]
    unfold atomP atomR
    rw [hn, isT_kind hn (by decide), isT_kind hn (by decide), if_pos e, if_neg hl]
    exact .refl _
  have hlen : (nextS s).at_ = s.at_ + 1 := rfl
  unfold atomR
  rw [if_pos e, if_pos hl, ← now_at e]
  unfold atomP atom1R
  by_cases c2 : (nowT T s).kind = 2
  · rw [if_pos c2, if_pos c2]
    unfold numR
    by_cases d : (decF (nowT T s).text).err = 0
    · rw [if_neg (fun h => h d), if_pos d]; exact .refl _
    · rw [if_pos d, if_neg d]
      have h0 := errsT_stop (T := T) (en := en) (e := (decF (nowT T s).text).err) e
      exact ⟨⟨rfl, rfl, fun c => absurd (h0.symm.trans c) d⟩, fun c => absurd (h0.symm.trans c) d⟩
  rw [if_neg c2, if_neg c2]
  by_cases c3 : (nowT T s).kind = 3
  · rw [if_pos c3, if_pos c3]; exact .refl _
  rw [if_neg c3, if_neg c3]
  by_cases c1 : (nowT T s).kind = 1
  · rw [if_pos c1, named_eq (decF := decF) hT hS hk mk e hl c1]
    by_cases c : wordR (nowT T s).text = false
    · rw [if_pos c, if_pos ⟨c1, c⟩]; exact .refl _
    · rw [if_neg c, if_neg fun h => c h.2]; exact .refl _
  rw [if_neg c1, if_neg (show ¬((nowT T s).kind = 1 ∧ wordR (nowT T s).text = false) from fun h => c1 h.1)]
  have hm := must_atoms hT (en := en) e
  simp only [isT_kind (T := T) (s := s) (k' := 1) rfl c1, Bool.false_eq_true, if_false] at hm
  have f1 : isT T s 4 [40] = isT T s 4 parB := rfl
  have f2 : isT T s 4 [91] = isT T s 4 braB := rfl
  by_cases c4 : isT T s 4 [40] = true
  · rw [if_pos (f1 ▸ c4)] at hm
    rw [if_pos c4, hm, atom2_par, take_is c4]
    rw [need_sign (w := [41]) (by decide) (by decide)]
    exact .refl _
  rw [if_neg (f1 ▸ c4)] at hm
  rw [if_neg c4]
  by_cases c5 : isT T s 4 [91] = true
  · rw [if_pos (f2 ▸ c5)] at hm
    rw [if_pos c5, hm, atom2_bra, take_is c5]
    rw [row_eq (en := en) (cl := [93]) (s := nextS s) (by decide) (by decide) (by decide) hk mk (by omega) e]
    exact .refl _
  rw [if_neg (f2 ▸ c5)] at hm
  rw [if_neg c5, hm, atom2_nil]
  exact .refl _
theorem SSim.trans {a b c : St} (h1 : SSim a b) (h2 : SSim b c) : SSim a c := ⟨h1.1.trans h2.1, h1.2.1.trans h2.2.1, fun e => (h1.2.2 e).trans (h2.2.2 (h1.1 ▸ e))⟩
theorem XSim.trans {a b c : Ex × St} (h1 : XSim a b) (h2 : XSim b c) : XSim a c := ⟨h1.1.trans h2.1, fun e => (h1.2 e).trans (h2.2 (h1.1.1 ▸ e))⟩
theorem mustR_lt {T : List Tok} {en : Int} {s : St} {ws : List (List UInt8)} (hl : s.at_ ≤ T.length) : (mustR T en s ws).2.at_ ≤ T.length := (mustR_goes hl ws).2
theorem atom2_sim {T : List Tok} {en : Int} {k r : Kid} (hk : KSim T k r) {s : St} (hl : s.at_ ≤ T.length) (w : List UInt8) : XSim (atom2R T en k w s) (atom2R T en r w s) := by
  unfold atom2R
  split
  · exact .refl _
  split
  · exact .refl _
  split
  · exact .refl _
  split
  · have A := hk.at (.refl s) hl
    exact ⟨A.1.map (must_st (en := en) (T := T) [[41]]), fun c => A.2 (stuck_back (must_st (en := en) (T := T) [[41]]) c)⟩
  split
  · have A := rowR_sim (en := en) hk [93] hl
    exact ⟨A.1, fun c => by simp only at c ⊢; rw [A.2 c]⟩
  split
  · exact (ifR_sim hk).at (.refl s) hl
  · exact .refl _
theorem atomR_same {T : List Tok} {en : Int} {decF : List UInt8 → DecR} {k r : Kid} (hk : KSim T k r) {s : St} (hl : s.at_ ≤ T.length) (e : s.err = 0) : XSim (atomR T en decF k s) (atomR T en decF r s) := by
  unfold atomR
  rw [if_pos e, if_pos e]
  by_cases h : s.at_ < T.length
  · rw [if_pos h, if_pos h]
    generalize T.getD s.at_ ⟨0, [], 0⟩ = t
    unfold atom1R
    split
    · exact .refl _
    split
    · exact .refl _
    split
    · unfold nameR
      split
      · rename_i c
        have h2 := (isR_lt c).2
        have h3 : (nextS (nextS s)).at_ = (nextS s).at_ + 1 := rfl
        have A := rowR_sim (en := en) hk [41] (s := nextS (nextS s)) (by omega)
        exact ⟨A.1, fun c => by simp only at c ⊢; rw [A.2 c]⟩
      · exact .refl _
    · exact atom2_sim hk (mustR_lt hl) _
  · rw [if_neg h, if_neg h]; exact .refl _
theorem atomP_stuck {T : List Tok} {en : Int} {decF : List UInt8 → DecR} {k : Kid} : ∀ s, s.err ≠ 0 → (atomP T en decF k s) = (Ex.zero, s) := fun s e => by
  unfold atomP
  rw [now_err e, isT_stuck (by decide) e, isT_stuck (by decide) e, errs_stuck (e := 2) e]
  rfl
theorem atomR_stuck {T : List Tok} {en : Int} {decF : List UInt8 → DecR} {k : Kid} : ∀ s, s.err ≠ 0 → (atomR T en decF k s) = (Ex.zero, s) := fun s e => by
  unfold atomR
  rw [if_neg e, errs_stuck e]
theorem atom_sim {T : List Tok} (hT : GoodT T) (hS : Short T) {en : Int} {decF : List UInt8 → DecR} {k r : Kid} (hk : KSim T k r) : KSim T (atomP T en decF k) (atomR T en decF r) where
  sim s hl e := (atom_eq hT hS hk.sk hk.go e).trans (atomR_same hk hl e)
  sk s e := by rw [atomP_stuck s e]; exact ⟨rfl, rfl⟩
  sr s e := by rw [atomR_stuck s e]; exact ⟨rfl, rfl⟩
  go := atomP_goes hk.go
theorem un_sim {T : List Tok} (hT : GoodT T) (hS : Short T) {en : Int} {decF : List UInt8 → DecR} {k r u v : Kid} (hk : KSim T k r) (hu : KSim T u v) : KSim T (unS T en decF k u) (unSR T en decF r v) where
  sim s hl e := by
    unfold unS unSR
    rw [if_pos e, is_sign (by decide : wordR [45] = false)]
    by_cases c : isT T s 4 [45] = true
    · rw [if_pos c, if_pos c, take_is c]
      have hlt := isT_lt (by decide) c
      have h2 : (nextS s).at_ = s.at_ + 1 := rfl
      have A := hu.at (.refl (nextS s)) (by omega)
      exact ⟨A.1, fun c => by simp only at c ⊢; rw [A.2 c]⟩
    · rw [if_neg c, if_neg c]
      exact (atom_sim hT hS hk).at (.refl s) hl
  sk s e := by
    unfold unS
    rw [isT_stuck (by decide) e, if_neg (by decide), atomP_stuck s e]
    exact ⟨rfl, rfl⟩
  sr s e := by
    unfold unSR
    rw [if_neg e]
    exact ⟨rfl, rfl⟩
  go := by
    have h8 : ¬8 < 0 := by decide
    have : unS T en decF k u = unaryP T en 0 u (atomP T en decF k) := by funext s; rw [unS, unaryP, if_neg h8]
    rw [this]; exact unaryP_goes hu.go (atomP_goes hk.go)
theorem ex_sim {T : List Tok} (hT : GoodT T) (hS : Short T) {en : Int} {k r u v : Kid} (hk : KSim T k r) (hu : KSim T u v) : KSim T (exS T en k u) (exSR T en r v) := by
  have h1 : KSim T (addP T u) (addR T v) := by
    unfold addP addR
    rw [op_products hT, op_sums hT]
    exact (hu.row (opR_stuck _) (steps_take _ _)).row (opR_stuck _) (steps_take _ _)
  have h2 : KSim T (exS T en k u) (rowP T (andR T en r v) (opR T [orW])) := by
    unfold exS andR
    have e1 : opWord T [97, 110, 100] = opR T [andW] := op_word hT wordy_all.1
    have e2 : opWord T [111, 114] = opR T [orW] := op_word hT wordy_all.2.1
    rw [e1, e2, cmp_eq hT]
    exact ((cmpR_sim h1 hk).row (opR_stuck _) (steps_take _ _)).row (opR_stuck _) (steps_take _ _)
  refine ⟨fun s hl e => ?_, h2.sk, fun s e => ?_, h2.go⟩
  · unfold exSR; rw [if_pos e]; exact h2.sim s hl e
  · unfold exSR; rw [if_neg e]; exact ⟨rfl, rfl⟩
theorem zero_sim {T : List Tok} {en : Int} : KSim T (zeroK T en) (zeroK T en) where
  sim s hl e := .refl _
  sk s e := by rw [zeroK, errs_stuck e]; exact ⟨rfl, rfl⟩
  sr s e := by rw [zeroK, errs_stuck e]; exact ⟨rfl, rfl⟩
  go := fun s h => by rw [zeroK, errsT_at]; exact ⟨Nat.le_refl _, h⟩
theorem kids_sim {T : List Tok} (hT : GoodT T) (hS : Short T) {en : Int} {decF : List UInt8 → DecR} : ∀ n, KSim T (exK T en decF n) (exR T en decF n) ∧ KSim T (unK T en decF n) (unR T en decF n)
  | 0 => by
    rw [exR_zero, unR_zero]
    have e1 : exK T en decF 0 = zeroK T en := exK_zero T en decF
    have e2 : unK T en decF 0 = zeroK T en := unK_zero T en decF
    rw [e1, e2]
    exact ⟨zero_sim, zero_sim⟩
  | n + 1 => by
    have ih := kids_sim hT hS (en := en) (decF := decF) n
    have hu : KSim T (unK T en decF (n + 1)) (unR T en decF (n + 1)) := by rw [unK_succ, unR_succ]; exact un_sim hT hS ih.1 ih.2
    refine ⟨?_, hu⟩
    rw [exK_succ, exR_succ]
    exact ex_sim hT hS ih.1 hu
end Go.Vf
