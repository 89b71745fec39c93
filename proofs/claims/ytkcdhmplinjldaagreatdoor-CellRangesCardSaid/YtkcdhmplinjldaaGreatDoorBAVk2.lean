/- A part of the proof: Vk2. -/
import Derived.Test.YtkcdhmplinjldaaGreatDoorBAVi
set_option linter.unusedVariables false
set_option linter.unusedSimpArgs false
namespace Go.Vf
open Go.RowKit
def altOf : Rd → Option (Nat × Nat)
  | [] => none
  | (a, b) :: r => if 1000000 ≤ a then some (a - 1000000, b) else altOf r
def reord (L A : Nat) : List Nat → List Nat
  | [] => []
  | k :: r => if k = L then A :: L :: reord L A r else if k = A then reord L A r else k :: reord L A r
def pairOkX (ops : Array Oper) (U : Rd) (ms : List Nat) (L A : Nat) (q k : Nat × Oper) : Bool := pairOk ops U ms q k || (q.1 != k.1 && (q.1 == L && (k.1 == A || (ms.getD k.1 0).testBit A)))
def pairsOkX (ops : Array Oper) (U : Rd) (ms : List Nat) (L A : Nat) : List (Nat × Oper) → Bool
  | [] => true
  | q :: rest => rest.all (pairOkX ops U ms L A q) && pairsOkX ops U ms L A rest
def drawOk2 (ops : Array Oper) (ord : List Nat) (U : Rd) : Bool :=
  match altOf U with
  | none => drawOk ops ord U
  | some (L, A) =>
    ((List.range ops.size).all (fun k => ord.contains k && ((reord L A ord).contains k && (match ops[k]? with
      | some o => (o.after.all fun e => !Region.binds .any e || decide (e.on < k)) && (k == L || (k == A || (quietSyn o.op || (((masks ops.toList []).getD k 0).testBit L || ((masks ops.toList []).getD k 0).testBit A))))
      | none => true)))) &&
    (pairsOkX ops U (masks ops.toList []) L A (rowsOf ops ord) && (pairsOkX ops U (masks ops.toList []) A L (rowsOf ops (reord L A ord)) &&
      (decide ((rowsOf ops ord).length ≤ ops.size) && (decide ((rowsOf ops (reord L A ord)).length ≤ ops.size) && (L != A && (decide (L < ops.size) && decide (A < ops.size)))))))
section
variable {P : Program} {S : Specs} {ops : Array Oper} {U : Rd}
theorem pairsOkX_iff {ms : List Nat} {L A : Nat} : ∀ {l : List (Nat × Oper)}, pairsOkX ops U ms L A l = true → l.Pairwise fun q k => pairOkX ops U ms L A q k = true
  | [], _ => .nil
  | q :: rest, h => by
    simp only [pairsOkX, Bool.and_eq_true, List.all_eq_true] at h
    exact .cons h.1 (pairsOkX_iff h.2)
theorem vstep_both {k k' : Nat} {o : Oper} {E : Env} {G : Heap} {rd rd' : Rd} {C C' : Cont} (hq : quietSyn o.op = true) (h : vstepD P S ops U k o E G rd C) (h' : vstepD P S ops U k' o E G rd' C') :
    vstep P S ops o E G fun E' G' => (∃ r, C E' G' r) ∧ ∃ r, C' E' G' r := by
  have h2 : vstepD P S ops U k o E G rd (fun E' G' _ => (∃ r, C E' G' r) ∧ ∃ r, C' E' G' r) := by
    rw [vstepD_iff] at *
    rcases h with ⟨h1, h2⟩ | ⟨h1, h2⟩ <;> rcases h' with ⟨h3, h4⟩ | ⟨h3, h4⟩
    · refine .inl ⟨h1, ?_⟩
      unfold vrun at *
      rw [hq] at *
      simp only at *
      split at h2
      · rename_i p v hv
        rw [hv] at h4
        exact ⟨h2.1, ⟨_, h2.2⟩, _, h4.2⟩
      · exact h2.elim
    · rw [h1] at h3; cases h3
    · rw [h1] at h3; cases h3
    · exact .inr ⟨h1, ⟨_, h2⟩, _, h4⟩
  have h3 := vstep_of_D h2
  have : (fun E' G' => ∃ rd' : Rd, (∃ r, C E' G' r) ∧ ∃ r, C' E' G' r) = fun E' G' => (∃ r, C E' G' r) ∧ ∃ r, C' E' G' r := by
    funext E' G'
    exact propext ⟨fun ⟨_, h⟩ => h, fun h => ⟨[], h⟩⟩
  rw [this] at h3
  exact h3
section
variable {N n0 : Nat} {K : Env → Heap → Prop} {Q : Exit → Act → World → Prop}
theorem unl_step {i : Nat} {o' : Oper} {listed : Array Bool} {l1 l2 : List (Nat × Oper)} (hsz : listed.size = ops.size) (hlt : i < ops.size) (hun : ∀ k, k < ops.size → (listed.getD k true = false ↔ ∃ o, (k, o) ∈ l1 ++ (i, o') :: l2)) (hnd : ∀ q, q ∈ l1 ++ l2 → q.1 ≠ i) :
    ∀ k, k < ops.size → ((listed.setIfInBounds i true).getD k true = false ↔ ∃ o, (k, o) ∈ l1 ++ l2) := by
  intro k hk
  by_cases hki : i = k
  · subst hki
    constructor
    · intro hf; simp [hsz, hlt] at hf
    · rintro ⟨ok, hk'⟩; exact absurd rfl (hnd _ hk')
  · rw [getD_set_ne true hki, hun k hk]
    constructor
    · rintro ⟨ok, hk'⟩
      refine ⟨ok, ?_⟩
      rcases List.mem_append.1 hk' with hk' | hk'
      · simp [hk']
      · rcases List.mem_cons.1 hk' with e | hk'
        · simp only [Prod.mk.injEq] at e; exact absurd e.1.symm hki
        · simp [hk']
    · rintro ⟨ok, hk'⟩
      refine ⟨ok, ?_⟩
      rcases List.mem_append.1 hk' with hk' | hk' <;> simp [hk']
theorem down_step {i : Nat} {o' : Oper} {listed : Array Bool} (ho : ops[i]? = some o') (hedges : ∀ e, e ∈ o'.after → Region.binds .any e = true → listed.getD e.on false = true) (hdn : Down ops.toList (fun i => listed.getD i false = true)) :
    Down ops.toList (fun j => (listed.setIfInBounds i true).getD j false = true) := by
  intro j oj hj hL e he hb
  by_cases hij : i = j
  · subst hij
    have : oj = o' := by
      have h' : ops[i]? = some oj := by simpa using hj
      rw [ho] at h'; exact (Option.some.inj h').symm
    subst this
    exact getD_set_true (hedges e (by simpa using he) hb)
  · rw [getD_set_ne false hij] at hL
    exact getD_set_true (hdn j oj hj hL e he hb)
theorem unmasked {ms : List Nat} (hms : MOk ops.toList ms) (hmsl : ms.length = ops.size) {i : Nat} {o' : Oper} {listed : Array Bool} (hlt : i < ops.size) (ho : ops[i]? = some o') (hedges : ∀ e, e ∈ o'.after → Region.binds .any e = true → listed.getD e.on false = true) (hdn : Down ops.toList (fun i => listed.getD i false = true)) (hsz : listed.size = ops.size)
    {q : Nat} (hq : q < ops.size) (hu : listed.getD q true = false) : (ms.getD i 0).testBit q = false := by
  cases hb : (ms.getD i 0).testBit q with
  | false => rfl
  | true =>
    exfalso
    have hmi : ms[i]? = some ms[i] := List.getElem?_eq_getElem (by omega)
    have := hms _ hdn i o' ms[i] (by simpa using ho) hmi (fun e he hb => hedges e (by simpa using he) hb) q (by simpa [List.getD, hmi] using hb)
    have hqlt : q < listed.size := by omega
    simp [hqlt] at this hu
    rw [this] at hu; cases hu
theorem pair_swap {ms : List Nat} {L A : Nat} {q : Nat × Oper} {i : Nat} {o' : Oper} (h : pairOkX ops U ms L A q (i, o') = true) (hm : (ms.getD i 0).testBit q.1 = false) (hn : ¬(q.1 = L ∧ i = A)) (ha : (ms.getD i 0).testBit A = false) : swappable ops U q.1 q.2 i o' = true := by
  unfold pairOkX pairOk at h
  simp only [Bool.and_eq_true, Bool.or_eq_true, beq_iff_eq, ha] at h
  rcases h with h | h
  · rcases h.2 with h | h
    · rw [hm] at h; cases h
    · exact h
  · exact (hn ⟨h.2.1, by simpa using h.2.2⟩).elim
theorem pair_ne {ms : List Nat} {L A : Nat} (hLA : L ≠ A) {q k : Nat × Oper} (h : pairOkX ops U ms L A q k = true) : q.1 ≠ k.1 := by
  unfold pairOkX pairOk at h
  simp only [Bool.and_eq_true, Bool.or_eq_true, bne_iff_ne, beq_iff_eq] at h
  rcases h with h | h
  · exact h.1
  · exact h.1
theorem nodup_step {ms : List Nat} {L A : Nat} (hLA : L ≠ A) {l1 l2 : List (Nat × Oper)} {i : Nat} {o' : Oper} (hp : (l1 ++ (i, o') :: l2).Pairwise fun q k => pairOkX ops U ms L A q k = true) : (∀ q, q ∈ l1 ++ l2 → q.1 ≠ i) ∧ ((l1 ++ l2).Pairwise fun q k => pairOkX ops U ms L A q k = true) ∧ ∀ q, q ∈ l1 → pairOkX ops U ms L A q (i, o') = true := by
  rw [List.pairwise_append] at hp
  obtain ⟨hp1, hp2, hp12⟩ := hp
  refine ⟨fun q hq => ?_, ?_, fun q hq => hp12 q hq (i, o') (by simp)⟩
  · rcases List.mem_append.1 hq with hq | hq
    · exact pair_ne hLA (hp12 q hq (i, o') (by simp))
    · exact Ne.symm (pair_ne hLA ((List.pairwise_cons.1 hp2).1 q hq))
  · rw [List.pairwise_append]
    exact ⟨hp1, (List.pairwise_cons.1 hp2).2, fun q hq k hk => hp12 q hq k (by simp [hk])⟩
theorem pairs_plain {ms : List Nat} {L A : Nat} {l : List (Nat × Oper)} (h : l.Pairwise fun q k => pairOkX ops U ms L A q k = true) (hn : ∀ q, q ∈ l → q.1 ≠ L) : l.Pairwise fun q k => pairOk ops U ms q k = true := by
  induction l with
  | nil => exact .nil
  | cons x r ih =>
    rw [List.pairwise_cons] at h
    refine .cons (fun k hk => ?_) (ih h.2 fun q hq => hn q (by simp [hq]))
    have := h.1 k hk
    unfold pairOkX at this
    simp only [Bool.or_eq_true, Bool.and_eq_true, beq_iff_eq] at this
    rcases this with h | h
    · exact h
    · exact (hn x (by simp) h.2.1).elim
theorem wpAny_two (hS : SOk P S) (hback : ∀ (k : Nat) (o : Oper), ops[k]? = some o → ∀ e, e ∈ o.after → Region.binds .any e = true → e.on < k) (hall : ∀ (j : Nat) (oj : Oper), ops[j]? = some oj → Oper.fits N oj = true) {ms : List Nat} (hms : MOk ops.toList ms) (hmsl : ms.length = ops.size)
    {L A : Nat} (hLA : L ≠ A) (hL : L < ops.size) (hA : A < ops.size) (hloud : ∀ k o, ops[k]? = some o → k = L ∨ k = A ∨ quietSyn o.op = true ∨ (ms.getD k 0).testBit L = true ∨ (ms.getD k 0).testBit A = true) :
    ∀ (fuel : Nat) (listed : Array Bool) (l l' : List (Nat × Oper)) (rd rd' : Rd) (ρ : Rho) (E : Env) (G : Heap) (a : Act) (w : World),
      l.Pairwise (fun q k => pairOkX ops U ms L A q k = true) → l'.Pairwise (fun q k => pairOkX ops U ms A L q k = true) → (∀ k o, (k, o) ∈ l → ops[k]? = some o) → (∀ k o, (k, o) ∈ l' → ops[k]? = some o) →
      (∀ k, k < ops.size → (listed.getD k true = false ↔ ∃ o, (k, o) ∈ l)) → (∀ k, k < ops.size → (listed.getD k true = false ↔ ∃ o, (k, o) ∈ l')) → listed.size = ops.size →
      Down ops.toList (fun i => listed.getD i false = true) → l.length ≤ fuel → l'.length ≤ fuel → listed.getD L true = false → listed.getD A true = false → SRel N n0 ρ E G a w → vopsD P S ops U l E G rd K → vopsD P S ops U l' E G rd' K →
      (∀ ρ' E' G' a' w', Rho.Le n0 ρ ρ' → SRel N n0 ρ' E' G' a' w' → K E' G' → Q .normal a' w') → wpAny P .any ops Q fuel listed a w := by
  intro fuel
  induction fuel with
  | zero =>
    intro listed l l' rd rd' ρ E G a w hp hp' hl hl' hun hun' hsz hdn hlen hlen' huL huA h hv hv' hK
    have hnil : l = [] := by cases l with | nil => rfl | cons => simp at hlen
    subst hnil
    obtain ⟨_, hm⟩ := (hun L hL).1 huL
    cases hm
  | succ fuel ih =>
    intro listed l l' rd rd' ρ E G a w hp hp' hl hl' hun hun' hsz hdn hlen hlen' huL huA h hv hv' hK
    refine ⟨fun hr => ?_, fun i hi => ?_⟩
    · exfalso
      have none : ∀ i, i < ops.size → listed.getD i true = false → False := by
        intro i
        induction i using Nat.strongRecOn with
        | ind i ihi =>
          intro hi hu
          have : i ∈ Region.ready .any ops listed := by
            refine mem_ready.2 ⟨hu, ops[i], Array.getElem?_eq_getElem hi, fun e he hb => ?_⟩
            have hlt := hback i _ (Array.getElem?_eq_getElem hi) e he hb
            have hne := ihi e.on hlt (by omega)
            have hs : e.on < listed.size := by omega
            simp only [Array.getD_eq_getD_getElem?, Array.getElem?_eq_getElem hs, Option.getD_some] at hne ⊢
            cases hx : listed[e.on] with
            | true => rfl
            | false => exact (hne hx).elim
          rw [hr] at this; cases this
      exact none L hL huL
    · obtain ⟨h0, o, ho, hedges⟩ := mem_ready.1 hi
      have hlt := (Array.getElem?_eq_some_iff.1 ho).1
      obtain ⟨o', hm⟩ := (hun i hlt).1 h0
      have : o' = o := by have := hl i o' hm; rw [ho] at this; exact (Option.some.inj this).symm
      subst this
      obtain ⟨o2, hm2⟩ := (hun' i hlt).1 h0
      have : o2 = o' := by have := hl' i o2 hm2; rw [ho] at this; exact (Option.some.inj this).symm
      subst this
      obtain ⟨l1, l2, rfl⟩ := List.append_of_mem hm
      obtain ⟨l1', l2', rfl⟩ := List.append_of_mem hm2
      obtain ⟨hnd, hpr, hpi⟩ := nodup_step hLA hp
      obtain ⟨hnd', hpr', hpi'⟩ := nodup_step (Ne.symm hLA) hp'
      have bit : ∀ {q : Nat × Oper}, (q ∈ l1 ∨ q ∈ l1') → (ms.getD i 0).testBit q.1 = false := fun {q} hq => by
        have hq' : ops[q.1]? = some q.2 := hq.elim (fun hq => hl q.1 q.2 (by simp [hq])) (fun hq => hl' q.1 q.2 (by simp [hq]))
        have hqlt := (Array.getElem?_eq_some_iff.1 hq').1
        exact unmasked hms hmsl hlt ho hedges hdn hsz hqlt (hq.elim (fun hq => (hun q.1 hqlt).2 ⟨q.2, by simp [hq]⟩) (fun hq => (hun' q.1 hqlt).2 ⟨q.2, by simp [hq]⟩))
      have hl2 : ∀ k o, (k, o) ∈ l1 ++ l2 → ops[k]? = some o := fun k o hk => hl k o (by rcases List.mem_append.1 hk with hk | hk <;> simp [hk])
      have hl2' : ∀ k o, (k, o) ∈ l1' ++ l2' → ops[k]? = some o := fun k o hk => hl' k o (by rcases List.mem_append.1 hk with hk | hk <;> simp [hk])
      have hlen2 : (l1 ++ l2).length ≤ fuel := by simp at hlen ⊢; omega
      have hlen2' : (l1' ++ l2').length ≤ fuel := by simp at hlen' ⊢; omega
      have close : ∀ (M : Env → Heap → Prop), vstep P S ops o2 E G M → (∀ ρ' E' G' a' w', Rho.Le n0 ρ ρ' → SRel N n0 ρ' E' G' a' w' → M E' G' → wpAny P .any ops Q fuel (listed.setIfInBounds i true) a' w') → wpOp P ops Q i (wpAny P .any ops Q fuel (listed.setIfInBounds i true)) a w := by
        intro M hstep hM
        have := vstep_ok (Q := Q) (next := wpAny P .any ops Q fuel (listed.setIfInBounds i true)) hS h (hall i o2 ho) hall hstep hM
        unfold wpOp
        rw [ho]
        simp only
        split
        · rename_i hw; rw [if_pos hw] at this; exact .inl this
        · rename_i hw; rw [if_neg hw] at this; exact this
      have nA := unmasked hms hmsl hlt ho hedges hdn hsz hA huA
      have nL := unmasked hms hmsl hlt ho hedges hdn hsz hL huL
      by_cases iL : i = L
      · have hsw : ∀ q, q ∈ l1 → swappable ops U q.1 q.2 i o2 = true := fun q hq => pair_swap (hpi q hq) (bit (.inl hq)) (fun hh => hLA (iL.symm.trans hh.2)) nA
        refine close _ (vstep_of_D (move hsw hv)) ?_
        rintro ρ' E' G' a' w' h1 h2 ⟨rd2, h3⟩
        exact wpAny_of hS hback hall hms hmsl fuel _ _ rd2 ρ' E' G' a' w' (pairs_plain hpr (fun q hq => iL ▸ hnd q hq)) hl2 (unl_step hsz hlt hun hnd) (by simpa using hsz) (down_step ho hedges hdn) hlen2 h2 h3 fun ρ'' E'' G'' a'' w'' k1 k2 k3 => hK ρ'' E'' G'' a'' w'' (h1.trans k1 (Nat.le_refl _)) k2 k3
      by_cases iA : i = A
      · have hsw : ∀ q, q ∈ l1' → swappable ops U q.1 q.2 i o2 = true := fun q hq => pair_swap (hpi' q hq) (bit (.inr hq)) (fun hh => hLA (hh.2.symm.trans iA)) nL
        refine close _ (vstep_of_D (move hsw hv')) ?_
        rintro ρ' E' G' a' w' h1 h2 ⟨rd2, h3⟩
        exact wpAny_of hS hback hall hms hmsl fuel _ _ rd2 ρ' E' G' a' w' (pairs_plain hpr' (fun q hq => iA ▸ hnd' q hq)) hl2' (unl_step hsz hlt hun' hnd') (by simpa using hsz) (down_step ho hedges hdn) hlen2' h2 h3 fun ρ'' E'' G'' a'' w'' k1 k2 k3 => hK ρ'' E'' G'' a'' w'' (h1.trans k1 (Nat.le_refl _)) k2 k3
      have hq : quietSyn o2.op = true := by
        rcases hloud i o2 ho with e | e | e | e | e
        · exact (iL e).elim
        · exact (iA e).elim
        · exact e
        · rw [unmasked hms hmsl hlt ho hedges hdn hsz hL huL] at e; cases e
        · rw [unmasked hms hmsl hlt ho hedges hdn hsz hA huA] at e; cases e
      have hsw : ∀ q, q ∈ l1 → swappable ops U q.1 q.2 i o2 = true := fun q hq => pair_swap (hpi q hq) (bit (.inl hq)) (fun hh => iA hh.2) nA
      have hsw' : ∀ q, q ∈ l1' → swappable ops U q.1 q.2 i o2 = true := fun q hq => pair_swap (hpi' q hq) (bit (.inr hq)) (fun hh => iL hh.2) nL
      refine close _ (vstep_both hq (move hsw hv) (move hsw' hv')) ?_
      rintro ρ' E' G' a' w' h1 h2 ⟨⟨rd2, h3⟩, rd3, h4⟩
      exact ih _ _ _ rd2 rd3 ρ' E' G' a' w' hpr hpr' hl2 hl2' (unl_step hsz hlt hun hnd) (unl_step hsz hlt hun' hnd') (by simpa using hsz) (down_step ho hedges hdn) hlen2 hlen2' (by rw [getD_set_ne true iL]; exact huL) (by rw [getD_set_ne true iA]; exact huA) h2 h3 h4 fun ρ'' E'' G'' a'' w'' k1 k2 k3 => hK ρ'' E'' G'' a'' w'' (h1.trans k1 (Nat.le_refl _)) k2 k3
def vopsD2 (P : Program) (S : Specs) (ops : Array Oper) (U : Rd) (ord : List Nat) (E : Env) (G : Heap) (K : Env → Heap → Prop) : Option (Nat × Nat) → Prop
  | none => vopsD P S ops U (rowsOf ops ord) E G [] K
  | some (L, A) => vopsD P S ops U (rowsOf ops ord) E G [] K ∧ vopsD P S ops U (rowsOf ops (reord L A ord)) E G [] K
theorem vopsD2_ok (hS : SOk P S) {id : Nat} {ord : List Nat} (hm : P.follows .mixedOrders = true) (hall : ∀ (j : Nat) (oj : Oper), ops[j]? = some oj → Oper.fits N oj = true) (hd : drawOk2 ops ord U = true)
    {ρ : Rho} {E : Env} {G : Heap} {a : Act} {w : World} (h : SRel N n0 ρ E G a w) (hv : vopsD2 P S ops U ord E G K (altOf U))
    (hK : ∀ ρ' E' G' a' w', Rho.Le n0 ρ ρ' → SRel N n0 ρ' E' G' a' w' → K E' G' → Q .normal a' w') : (Code.region id ops true).wp P Q a w := by
  unfold drawOk2 at hd
  cases hu : altOf U with
  | none => rw [hu] at hd hv; exact vopsD_ok hS hm hall hd h hv hK
  | some LA =>
    obtain ⟨L, A⟩ := LA
    rw [hu] at hd hv
    refine wp_region_any hm ?_
    simp only [Bool.and_eq_true, List.all_eq_true, List.mem_range, decide_eq_true_eq, bne_iff_ne] at hd
    obtain ⟨h1, h2, h2', h3, h3', hLA, hL, hA⟩ := hd
    have hml : ∀ (l : List Oper) (ms : List Nat), (masks l ms).length = ms.length + l.length := by
      intro l
      induction l with
      | nil => intro ms; simp [masks]
      | cons o r ih => intro ms; simp only [masks, ih]; simp; omega
    have hlt : ∀ {k : Nat} {b : Bool}, k < ops.size → (Array.replicate ops.size false).getD k b = false := fun hk => by simp [hk]
    refine wpAny_two hS (ms := masks ops.toList []) ?_ hall (masks_ok ops.toList [] (fun L _ i o m _ hm => by simp at hm) (by simp) rfl) (by rw [hml]; simp) hLA hL hA ?_ ops.size _ _ _ [] [] ρ E G a _ (pairsOkX_iff h2) (pairsOkX_iff h2') (fun k o hk => (rowsOf_mem.1 hk).2) (fun k o hk => (rowsOf_mem.1 hk).2) ?_ ?_ (by simp) ?_ h3 h3' (hlt hL) (hlt hA) ⟨h.size, h.defers, h.slots, h.world.drew, h.low⟩ hv.1 hv.2 hK
    · intro k o ho e he hb
      have := (h1 k (Array.getElem?_eq_some_iff.1 ho).1).2.2
      rw [ho] at this
      simp only [Bool.and_eq_true, Array.all_eq_true_iff_forall_mem, Bool.or_eq_true, Bool.not_eq_true', decide_eq_true_eq] at this
      exact (this.1 e he).resolve_left (by simp [hb])
    · intro k o ho
      have := (h1 k (Array.getElem?_eq_some_iff.1 ho).1).2.2
      rw [ho] at this
      simp only [Bool.and_eq_true, Bool.or_eq_true, beq_iff_eq] at this
      exact this.2
    · intro k hk
      rw [hlt hk]
      exact ⟨fun _ => ⟨ops[k], rowsOf_mem.2 ⟨by simpa using (h1 k hk).1, Array.getElem?_eq_getElem hk⟩⟩, fun _ => rfl⟩
    · intro k hk
      rw [hlt hk]
      exact ⟨fun _ => ⟨ops[k], rowsOf_mem.2 ⟨by simpa using (h1 k hk).2.1, Array.getElem?_eq_getElem hk⟩⟩, fun _ => rfl⟩
    · intro i o hi hL
      have : i < ops.size := by
        have := (List.getElem?_eq_some_iff.1 hi).1
        simpa using this
      rw [hlt this] at hL
      cases hL
end
end
end Go.Vf
