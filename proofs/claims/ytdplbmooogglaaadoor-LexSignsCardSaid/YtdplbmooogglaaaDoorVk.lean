/- Regions that draw their order: the rule. -/
import Derived.Test.YtdplbmooogglaaaDoorVj
set_option linter.unusedVariables false
set_option linter.unusedSimpArgs false
namespace Go.Vf
open Go.RowKit

/-- Which operations are ahead of one, by edges that bind, directly or through others; as bits. -/
def maskE (ms : List Nat) : List Edge → Nat
  | [] => 0
  | e :: r => if Region.binds .any e = true then (2 ^ e.on ||| ms.getD e.on 0) ||| maskE ms r else maskE ms r
def masks : List Oper → List Nat → List Nat
  | [], ms => ms
  | o :: r, ms => masks r (ms ++ [maskE ms o.after.toList])
def pairOk (ops : Array Oper) (U : Rd) (ms : List Nat) (q k : Nat × Oper) : Bool := q.1 != k.1 && ((ms.getD k.1 0).testBit q.1 || swappable ops U q.1 q.2 k.1 k.2)
def pairsOk (ops : Array Oper) (U : Rd) (ms : List Nat) : List (Nat × Oper) → Bool
  | [] => true
  | q :: rest => rest.all (pairOk ops U ms q) && pairsOk ops U ms rest
def rowsOf (ops : Array Oper) : List Nat → List (Nat × Oper)
  | [] => []
  | k :: r => match ops[k]? with | some o => (k, o) :: rowsOf ops r | none => rowsOf ops r
/-- May this order serve for all? -/
def drawOk (ops : Array Oper) (ord : List Nat) (U : Rd) : Bool :=
  (List.range ops.size).all (fun k => ord.contains k && (match ops[k]? with | some o => o.after.all fun e => !Region.binds .any e || decide (e.on < k) | none => true)) && pairsOk ops U (masks ops.toList []) (rowsOf ops ord) && decide ((rowsOf ops ord).length ≤ ops.size)

section
variable {P : Program} {S : Specs} {ops : Array Oper} {U : Rd}

def Down (ops : List Oper) (L : Nat → Prop) : Prop := ∀ i o, ops[i]? = some o → L i → ∀ e, e ∈ o.after.toList → Region.binds .any e = true → L e.on

def MOk (all : List Oper) (ms : List Nat) : Prop := ∀ (L : Nat → Prop), Down all L → ∀ (i : Nat) (o : Oper) (m : Nat), all[i]? = some o → ms[i]? = some m → (∀ e, e ∈ o.after.toList → Region.binds .any e = true → L e.on) → ∀ j, m.testBit j = true → L j

theorem maskE_ok {all : List Oper} {ms : List Nat} (h : MOk all ms) (hlen : ms.length ≤ all.length) {L : Nat → Prop} (hd : Down all L) : ∀ (es : List Edge), (∀ e, e ∈ es → Region.binds .any e = true → L e.on) → ∀ j, (maskE ms es).testBit j = true → L j
  | [], _, j, hj => by simp [maskE] at hj
  | e :: r, hes, j, hj => by
    have ihr := maskE_ok h hlen hd r (fun e he => hes e (by simp [he]))
    unfold maskE at hj
    split at hj
    · rename_i hb
      rw [Nat.testBit_or, Nat.testBit_or] at hj
      simp only [Bool.or_eq_true] at hj
      rcases hj with (hj | hj) | hj
      · rw [Nat.testBit_two_pow] at hj
        have : e.on = j := by simpa using hj
        exact this ▸ hes e (by simp) hb
      · have hL : L e.on := hes e (by simp) hb
        have hlt : e.on < ms.length := by
          rcases Nat.lt_or_ge e.on ms.length with h' | h'
          · exact h'
          · simp [List.getD, List.getElem?_eq_none h'] at hj
        have hms : ms[e.on]? = some ms[e.on] := List.getElem?_eq_getElem hlt
        have hall : all[e.on]? = some all[e.on] := List.getElem?_eq_getElem (by omega)
        refine h L hd e.on _ _ hall hms (hd e.on _ hall hL) j ?_
        simpa [List.getD, hms] using hj
      · exact ihr j hj
    · exact ihr j hj

theorem masks_ok {all : List Oper} : ∀ (rest : List Oper) (ms : List Nat), MOk all ms → ms.length + rest.length = all.length → all.drop ms.length = rest → MOk all (masks rest ms)
  | [], ms, h, _, _ => h
  | o :: r, ms, h, hl, hd => by
    simp only [List.length_cons] at hl
    unfold masks
    refine masks_ok r _ ?_ (by simp; omega) (by simp only [List.length_append, List.length_singleton]; rw [← List.drop_drop, hd]; rfl)
    intro L hL i oi m hi hm hes j hj
    rw [List.getElem?_append] at hm
    split at hm
    · exact h L hL i oi m hi hm hes j hj
    · rename_i hge
      have : i = ms.length := by
        rcases Nat.lt_or_ge (i - ms.length) 1 with h1 | h1
        · omega
        · rw [List.getElem?_eq_none (by simpa using h1)] at hm; cases hm
      subst this
      simp only [Nat.sub_self, List.getElem?_cons_zero, Option.some.injEq] at hm
      have ho : oi = o := by
        have : (all.drop ms.length)[0]? = some o := by rw [hd]; rfl
        rw [List.getElem?_drop, Nat.add_zero, hi] at this
        exact Option.some.inj this
      subst ho; subst hm
      exact maskE_ok h (by omega) hL _ hes j hj

theorem pairsOk_iff {ms : List Nat} : ∀ {l : List (Nat × Oper)}, pairsOk ops U ms l = true → l.Pairwise fun q k => pairOk ops U ms q k = true
  | [], _ => .nil
  | q :: rest, h => by
    simp only [pairsOk, Bool.and_eq_true, List.all_eq_true] at h
    exact .cons h.1 (pairsOk_iff h.2)

theorem rowsOf_mem : ∀ {ord : List Nat} {k : Nat} {o : Oper}, (k, o) ∈ rowsOf ops ord ↔ k ∈ ord ∧ ops[k]? = some o
  | [], k, o => by simp [rowsOf]
  | j :: r, k, o => by
    unfold rowsOf
    split
    · rename_i oj hj
      simp only [List.mem_cons, rowsOf_mem, Prod.mk.injEq]
      constructor
      · rintro (⟨rfl, rfl⟩ | ⟨h1, h2⟩)
        · exact ⟨.inl rfl, hj⟩
        · exact ⟨.inr h1, h2⟩
      · rintro ⟨rfl | h1, h2⟩
        · rw [hj] at h2; cases h2; exact .inl ⟨rfl, rfl⟩
        · exact .inr ⟨h1, h2⟩
    · rename_i hj
      rw [rowsOf_mem]
      constructor
      · rintro ⟨h1, h2⟩; exact ⟨List.mem_cons_of_mem _ h1, h2⟩
      · rintro ⟨h1, h2⟩
        rcases List.mem_cons.1 h1 with rfl | h1
        · rw [hj] at h2; cases h2
        · exact ⟨h1, h2⟩

section
variable {N n0 : Nat} {K : Env → Heap → Prop} {Q : Exit → Act → World → Prop}

theorem wpAny_of (hS : SOk P S) (hback : ∀ (k : Nat) (o : Oper), ops[k]? = some o → ∀ e, e ∈ o.after → Region.binds .any e = true → e.on < k) (hall : ∀ (j : Nat) (oj : Oper), ops[j]? = some oj → Oper.fits N oj = true) {ms : List Nat} (hms : MOk ops.toList ms) (hmsl : ms.length = ops.size) :
    ∀ (fuel : Nat) (listed : Array Bool) (l : List (Nat × Oper)) (rd : Rd) (ρ : Rho) (E : Env) (G : Heap) (a : Act) (w : World),
      l.Pairwise (fun q k => pairOk ops U ms q k = true) → (∀ k o, (k, o) ∈ l → ops[k]? = some o) → (∀ k, k < ops.size → (listed.getD k true = false ↔ ∃ o, (k, o) ∈ l)) → listed.size = ops.size →
      Down ops.toList (fun i => listed.getD i false = true) → l.length ≤ fuel → SRel N n0 ρ E G a w → vopsD P S ops U l E G rd K →
      (∀ ρ' E' G' a' w', Rho.Le n0 ρ ρ' → SRel N n0 ρ' E' G' a' w' → K E' G' → Q .normal a' w') → wpAny P .any ops Q fuel listed a w := by
  intro fuel
  induction fuel with
  | zero =>
    intro listed l rd ρ E G a w hp hl hun hsz hdn hlen h hv hK
    have hnil : l = [] := by cases l with | nil => rfl | cons => simp at hlen
    subst hnil
    refine ⟨?_, hK ρ E G a w (Rho.Le.refl _ _) h hv⟩
    refine List.eq_nil_iff_forall_not_mem.2 fun i hi => ?_
    obtain ⟨h0, o, ho, _⟩ := mem_ready.1 hi
    obtain ⟨_, hm⟩ := (hun i (Array.getElem?_eq_some_iff.1 ho).1).1 h0
    cases hm
  | succ fuel ih =>
    intro listed l rd ρ E G a w hp hl hun hsz hdn hlen h hv hK
    refine ⟨fun hr => ?_, fun i hi => ?_⟩
    · cases l with
      | nil => exact hK ρ E G a w (Rho.Le.refl _ _) h hv
      | cons x rest =>
        exfalso
        obtain ⟨k0, o0⟩ := x
        have hk0 := hl k0 o0 (by simp)
        have hk0lt := (Array.getElem?_eq_some_iff.1 hk0).1
        have none : ∀ i, i < ops.size → listed.getD i true = false → False := by
          intro i
          induction i using Nat.strongRecOn with
          | ind i ihi =>
            intro hi hu
            have : i ∈ Region.ready .any ops listed := by
              refine mem_ready.2 ⟨hu, ops[i], Array.getElem?_eq_getElem hi, fun e he hb => ?_⟩
              have hlt := hback i _ (Array.getElem?_eq_getElem hi) e he hb
              have hne := ihi e.on hlt (by omega)
              have hs : e.on < listed.size := by omega
              simp only [Array.getD_eq_getD_getElem?, Array.getElem?_eq_getElem hs, Option.getD_some] at hne ⊢
              cases hx : listed[e.on] with
              | true => rfl
              | false => exact (hne hx).elim
            rw [hr] at this; cases this
        exact none k0 hk0lt ((hun k0 hk0lt).2 ⟨o0, by simp⟩)
    · obtain ⟨h0, o, ho, hedges⟩ := mem_ready.1 hi
      have hlt := (Array.getElem?_eq_some_iff.1 ho).1
      obtain ⟨o', hm⟩ := (hun i hlt).1 h0
      have : o' = o := by have := hl i o' hm; rw [ho] at this; exact (Option.some.inj this).symm
      subst this
      obtain ⟨l1, l2, rfl⟩ := List.append_of_mem hm
      rw [List.pairwise_append] at hp
      obtain ⟨hp1, hp2, hp12⟩ := hp
      have hsw : ∀ q, q ∈ l1 → swappable ops U q.1 q.2 i o' = true := fun q hq => by
        have := hp12 q hq (i, o') (by simp)
        unfold pairOk at this
        simp only [Bool.and_eq_true, Bool.or_eq_true] at this
        refine this.2.resolve_left fun hb => ?_
        have hmi : ms[i]? = some ms[i] := List.getElem?_eq_getElem (by omega)
        have hq' := hl q.1 q.2 (by simp [hq])
        have hun' := (hun q.1 (Array.getElem?_eq_some_iff.1 hq').1).2 ⟨q.2, by simp [hq]⟩
        have := hms _ hdn i o' ms[i] (by simpa using ho) hmi (fun e he hb => hedges e (by simpa using he) hb) q.1 (by simpa [List.getD, hmi] using hb)
        have hqlt : q.1 < listed.size := by rw [hsz]; exact (Array.getElem?_eq_some_iff.1 hq').1
        simp [hqlt] at this hun'
        rw [this] at hun'; cases hun'
      have hstep := vstep_of_D (move hsw hv)
      have hnd : ∀ q, q ∈ l1 ++ l2 → q.1 ≠ i := fun q hq => by
        rcases List.mem_append.1 hq with hq | hq
        · have := hp12 q hq (i, o') (by simp)
          unfold pairOk at this
          simp only [Bool.and_eq_true] at this
          simpa using this.1
        · have := (List.pairwise_cons.1 hp2).1 q hq
          unfold pairOk at this
          simp only [Bool.and_eq_true] at this
          exact Ne.symm (by simpa using this.1)
      have := vstep_ok (Q := Q) (next := wpAny P .any ops Q fuel (listed.setIfInBounds i true)) hS h (hall i o' ho) hall hstep (by
        rintro ρ' E' G' a' w' h1 h2 ⟨rd', h3⟩
        refine ih (listed.setIfInBounds i true) (l1 ++ l2) rd' ρ' E' G' a' w' ?_ ?_ ?_ (by simpa using hsz) ?_ (by simp at hlen ⊢; omega) h2 h3 fun ρ'' E'' G'' a'' w'' k1 k2 k3 => hK ρ'' E'' G'' a'' w'' (h1.trans k1 (Nat.le_refl _)) k2 k3
        · rw [List.pairwise_append]
          exact ⟨hp1, (List.pairwise_cons.1 hp2).2, fun q hq k hk => hp12 q hq k (by simp [hk])⟩
        · intro k o hk
          exact hl k o (by rcases List.mem_append.1 hk with hk | hk <;> simp [hk])
        · intro k hk
          by_cases hki : i = k
          · subst hki
            constructor
            · intro hf; simp [hsz, hlt] at hf
            · rintro ⟨ok, hk'⟩; exact absurd rfl (hnd _ hk')
          · rw [getD_set_ne true hki, hun k hk]
            constructor
            · rintro ⟨ok, hk'⟩
              refine ⟨ok, ?_⟩
              rcases List.mem_append.1 hk' with hk' | hk'
              · simp [hk']
              · rcases List.mem_cons.1 hk' with e | hk'
                · simp only [Prod.mk.injEq] at e; exact absurd e.1.symm hki
                · simp [hk']
            · rintro ⟨ok, hk'⟩
              refine ⟨ok, ?_⟩
              rcases List.mem_append.1 hk' with hk' | hk' <;> simp [hk']
        · intro j oj hj hL e he hb
          by_cases hij : i = j
          · subst hij
            have : oj = o' := by
              have h' : ops[i]? = some oj := by simpa using hj
              rw [ho] at h'; exact (Option.some.inj h').symm
            subst this
            exact getD_set_true (hedges e (by simpa using he) hb)
          · rw [getD_set_ne false hij] at hL
            exact getD_set_true (hdn j oj hj hL e he hb))
      unfold wpOp
      rw [ho]
      simp only
      split
      · rename_i hw; rw [if_pos hw] at this; exact .inl this
      · rename_i hw; rw [if_neg hw] at this; exact this

/-- **The rule.** -/
theorem vopsD_ok (hS : SOk P S) {id : Nat} {ord : List Nat} (hm : P.follows .mixedOrders = true) (hall : ∀ (j : Nat) (oj : Oper), ops[j]? = some oj → Oper.fits N oj = true) (hd : drawOk ops ord U = true)
    {ρ : Rho} {E : Env} {G : Heap} {a : Act} {w : World} (h : SRel N n0 ρ E G a w) (hv : vopsD P S ops U (rowsOf ops ord) E G [] K)
    (hK : ∀ ρ' E' G' a' w', Rho.Le n0 ρ ρ' → SRel N n0 ρ' E' G' a' w' → K E' G' → Q .normal a' w') : (Code.region id ops true).wp P Q a w := by
  refine wp_region_any hm ?_
  unfold drawOk at hd
  simp only [Bool.and_eq_true, List.all_eq_true, List.mem_range, decide_eq_true_eq] at hd
  obtain ⟨⟨h1, h2⟩, h3⟩ := hd
  have hml : ∀ (l : List Oper) (ms : List Nat), (masks l ms).length = ms.length + l.length := by
    intro l
    induction l with
    | nil => intro ms; simp [masks]
    | cons o r ih => intro ms; simp only [masks, ih]; simp; omega
  have hlt : ∀ {k : Nat} {b : Bool}, k < ops.size → (Array.replicate ops.size false).getD k b = false := fun hk => by simp [hk]
  refine wpAny_of hS (ms := masks ops.toList []) ?_ hall (masks_ok ops.toList [] (fun L _ i o m _ hm => by simp at hm) (by simp) rfl) (by rw [hml]; simp) ops.size _ _ [] ρ E G a _ (pairsOk_iff h2) (fun k o hk => (rowsOf_mem.1 hk).2) ?_ (by simp) ?_ h3 ⟨h.size, h.defers, h.slots, h.world.drew, h.low⟩ hv hK
  · intro k o ho e he hb
    have := (h1 k (Array.getElem?_eq_some_iff.1 ho).1).2
    rw [ho] at this
    simp only [Array.all_eq_true_iff_forall_mem, Bool.or_eq_true, Bool.not_eq_true', decide_eq_true_eq] at this
    exact (this e he).resolve_left (by simp [hb])
  · intro k hk
    rw [hlt hk]
    refine ⟨fun _ => ⟨ops[k], rowsOf_mem.2 ⟨by simpa using (h1 k hk).1, Array.getElem?_eq_getElem hk⟩⟩, fun _ => rfl⟩
  · intro i o hi hL
    have : i < ops.size := by
      have := (List.getElem?_eq_some_iff.1 hi).1
      simpa using this
    rw [hlt this] at hL
    cases hL
end
end
end Go.Vf
