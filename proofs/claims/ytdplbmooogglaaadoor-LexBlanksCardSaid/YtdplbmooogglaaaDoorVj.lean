/- Regions that draw their order: the proof. -/
import Derived.Test.YtdplbmooogglaaaDoorVi
set_option linter.unusedVariables false
set_option linter.unusedSimpArgs false
namespace Go.Vf
open Go.RowKit
section
variable {P : Program} {S : Specs} {ops : Array Oper} {U : Rd}

/-- Does a guard want it? -/
def vwants (ops : Array Oper) (E : Env) (o : Oper) : Option Bool := match o.guard with
  | none => some true
  | some (j, want) => match gslot ops j with
    | some d => match E d with
      | .bool b => some (decide (b = want))
      | .tup [] => some false
      | _ => none
    | none => none

abbrev Cont := Env → Heap → Rd → Prop
theorem vstepD_iff {k : Nat} {o : Oper} {E : Env} {G : Heap} {rd : Rd} {C : Cont} : vstepD P S ops U k o E G rd C ↔
    (vwants ops E o = some true ∧ vrun P S U k o.op o.dst E G rd C) ∨ (vwants ops E o = some false ∧ C (E.putO o.dst (.tup [])) G rd) := by
  unfold vstepD vwants
  cases hg : o.guard with
  | none => simp
  | some jw =>
    obtain ⟨j, want⟩ := jw
    simp only
    cases hs : gslot ops j with
    | none => simp
    | some d =>
      simp only
      cases hE : E d
      case tup l => cases l <;> simp
      all_goals (try simp)
      rename_i b
      by_cases hb : b = want
      · subst hb; rw [if_pos rfl, Env.put_same hE]; simp
      · rw [if_neg hb]
        have : E d = .bool (!want) := by rw [hE]; cases b <;> cases want <;> simp_all
        rw [Env.put_same this]; simp [hb]

theorem vnote_sub {k : Nat} {E : Env} {op : Op} {rd rd' : Rd} (h : ∀ p, p ∈ rd' → p ∈ rd) : ∀ p, p ∈ vnote U k E op rd' → p ∈ vnote U k E op rd := by
  unfold vnote; split
  · intro p hp; rw [List.mem_append] at *; exact hp.imp id (h p)
  · exact h
theorem vnote_mem {k : Nat} {E : Env} {op : Op} {rd : Rd} : ∀ p, p ∈ rd → p ∈ vnote U k E op rd := by
  unfold vnote; split
  · intro p hp; exact List.mem_append_right _ hp
  · exact fun p hp => hp

theorem vrun_mono {k : Nat} {op : Op} {dst : Option Nat} {E : Env} {G : Heap} {rd rd' : Rd} {C C' : Cont} (hs : ∀ p, p ∈ rd' → p ∈ rd) (hc : ∀ E G r r', (∀ p, p ∈ r' → p ∈ r) → C E G r → C' E G r') (h : vrun P S U k op dst E G rd C) : vrun P S U k op dst E G rd' C' := by
  unfold vrun at *
  split
  · rename_i hq
    rw [hq] at h
    simp only at h
    split at h
    · rename_i p v hv; exact ⟨h.1, hc _ _ _ _ (vnote_sub hs) h.2⟩
    · exact h.elim
  · rename_i hq
    rw [hq] at h
    exact vloud_mono (fun v G' hh => ⟨fun p hp => hh.1 p (hs p hp), hc _ _ _ _ hs hh.2⟩) h

theorem vstepD_mono {k : Nat} {o : Oper} {E : Env} {G : Heap} {rd rd' : Rd} {C C' : Cont} (hs : ∀ p, p ∈ rd' → p ∈ rd) (hc : ∀ E G r r', (∀ p, p ∈ r' → p ∈ r) → C E G r → C' E G r') (h : vstepD P S ops U k o E G rd C) : vstepD P S ops U k o E G rd' C' := by
  rw [vstepD_iff] at *
  rcases h with ⟨h1, h2⟩ | ⟨h1, h2⟩
  · exact .inl ⟨h1, vrun_mono hs hc h2⟩
  · exact .inr ⟨h1, hc _ _ _ _ hs h2⟩

theorem vopsD_sub : ∀ {l : List (Nat × Oper)} {E : Env} {G : Heap} {r r' : Rd} {K : Env → Heap → Prop}, (∀ p, p ∈ r' → p ∈ r) → vopsD P S ops U l E G r K → vopsD P S ops U l E G r' K
  | [], _, _, _, _, _, _, h => h
  | (k, o) :: rest, _, _, _, _, _, hs, h => vstepD_mono hs (fun _ _ _ _ hs' h' => vopsD_sub hs' h') h

theorem putO_vev {E : Env} {o : Oper} {dst : Option Nat} {v : V} (h : ∀ d, dst = some d → d ∉ o.looksAt ops) : ∀ x, x ∈ o.op.operands → vev (E.putO dst v) x = vev E x := by
  intro x hx
  cases dst with
  | none => rfl
  | some d =>
    cases x with
    | tmp t =>
      have : t ≠ d := fun e => h d rfl (by subst e; exact List.mem_append_left _ (List.mem_filterMap.2 ⟨.tmp t, by simpa using hx, rfl⟩))
      simp only [vev, Env.putO, Env.put, if_neg this]
    | _ => rfl
theorem putO_wants {E : Env} {o : Oper} {dst : Option Nat} {v : V} (h : ∀ d, dst = some d → d ∉ o.looksAt ops) : vwants ops (E.putO dst v) o = vwants ops E o := by
  cases dst with
  | none => rfl
  | some d =>
    unfold vwants
    cases hg : o.guard with
    | none => rfl
    | some jw =>
      obtain ⟨j, want⟩ := jw
      simp only
      cases hs : gslot ops j with
      | none => rfl
      | some t =>
        have : t ≠ d := fun e => h d rfl (by subst e; refine List.mem_append_right _ ?_; rw [hg]; simp only; unfold gslot at hs; rw [hs]; simp)
        simp only [Env.putO, Env.put, if_neg this]
theorem putO_comm {E : Env} {x y : Option Nat} {v u : V} (h : ∀ d, x = some d → y ≠ some d) : (E.putO x v).putO y u = (E.putO y u).putO x v := by
  cases x with
  | none => rfl
  | some d =>
    cases y with
    | none => rfl
    | some e =>
      have hne : d ≠ e := fun he => h d rfl (he ▸ rfl)
      funext t
      simp only [Env.putO, Env.put]
      by_cases h1 : t = e
      · subst h1; rw [if_pos rfl, if_neg (Ne.symm hne), if_pos rfl]
      · rw [if_neg h1]
        by_cases h2 : t = d
        · rw [if_pos h2, if_pos h2]
        · rw [if_neg h2, if_neg h2, if_neg h1]

theorem vnote_congr {k : Nat} {E E' : Env} {op : Op} {rd : Rd} (he : ∀ x, x ∈ op.operands → vev E x = vev E' x) : vnote U k E op rd = vnote U k E' op rd := by
  unfold vnote
  cases hr : readsHeap op with
  | true => rw [vreads_congr he hr]
  | false => rw [vreads_nil hr, vreads_nil hr]

/-- May they change places, the first being quiet? -/
def swappable (ops : Array Oper) (U : Rd) (kq : Nat) (oq : Oper) (k : Nat) (o : Oper) : Bool :=
  quietSyn oq.op && oq.apart ops o && (quietSyn o.op || !readsHeap oq.op || U.contains (kq, k))

theorem swap {kq k : Nat} {oq o : Oper} (hsw : swappable ops U kq oq k o = true) {E : Env} {G : Heap} {rd : Rd} {C C' : Cont} (hc : ∀ E G r r', (∀ p, p ∈ r' → p ∈ r) → C E G r → C' E G r')
    (h : vstepD P S ops U kq oq E G rd fun E1 G1 r1 => vstepD P S ops U k o E1 G1 r1 C) : vstepD P S ops U k o E G rd fun E1 G1 r1 => vstepD P S ops U kq oq E1 G1 r1 C' := by
  unfold swappable at hsw
  simp only [Bool.and_eq_true, Bool.or_eq_true, Bool.not_eq_true'] at hsw
  obtain ⟨⟨hq, hap⟩, hcond⟩ := hsw
  obtain ⟨a1, a2, a3⟩ := Oper.apart_spec hap
  -- the quiet one's value
  have hval : ∃ v b, vwants ops E oq = some b ∧ (b = true → ∃ p, vq P E G oq.op = some (p, v) ∧ p) ∧ (b = false → v = .tup []) ∧ vstepD P S ops U k o (E.putO oq.dst v) G (if b = true then vnote U kq E oq.op rd else rd) C := by
    rw [vstepD_iff] at h
    rcases h with ⟨h1, h2⟩ | ⟨h1, h2⟩
    · unfold vrun at h2
      rw [hq] at h2
      simp only at h2
      split at h2
      · rename_i p v hv
        exact ⟨v, true, h1, fun _ => ⟨p, hv, h2.1⟩, by simp, by rw [if_pos rfl]; exact h2.2⟩
      · exact h2.elim
    · exact ⟨.tup [], false, h1, by simp, by simp, by simpa using h2⟩
  obtain ⟨v, b, hw, ht, hf, hk⟩ := hval
  -- how it goes behind the other one
  have later : ∀ (u : V) (G' : Heap) (r r0 : Rd), (b = true → readsHeap oq.op = true → ∀ id, id ∈ vreads E oq.op → G'.get id = G.get id) → (∀ p, p ∈ (if b = true then vnote U kq E oq.op r else r) → p ∈ r0) → C ((E.putO oq.dst v).putO o.dst u) G' r0 → vstepD P S ops U kq oq (E.putO o.dst u) G' r C' := by
    intro u G' r r0 hG hsub hC
    have hev : ∀ x, x ∈ oq.op.operands → vev (E.putO o.dst u) x = vev E x := putO_vev a3
    rw [vstepD_iff, putO_wants a3, hw]
    rw [putO_comm a2] at hC
    cases b with
    | false =>
      refine .inr ⟨rfl, ?_⟩
      rw [hf rfl] at hC
      exact hc _ _ _ _ (by simpa using hsub) hC
    | true =>
      refine .inl ⟨rfl, ?_⟩
      obtain ⟨p, hp, hp'⟩ := ht rfl
      unfold vrun
      rw [hq]
      simp only
      rw [vq_congr (E' := E) (G' := G) hev (fun hr id hid => hG rfl hr id (by rw [vreads_congr hev hr] at hid; exact hid)) hq, hp]
      refine ⟨hp', ?_⟩
      rw [vnote_congr hev]
      exact hc _ _ _ _ (by simpa using hsub) hC
  have hev : ∀ x, x ∈ o.op.operands → vev (E.putO oq.dst v) x = vev E x := putO_vev a1
  rw [vstepD_iff, putO_wants a1] at hk
  rw [vstepD_iff]
  rcases hk with ⟨h1, h2⟩ | ⟨h1, h2⟩
  · refine .inl ⟨h1, ?_⟩
    unfold vrun at *
    cases hqk : quietSyn o.op with
    | true =>
      rw [hqk] at h2
      simp only at h2 ⊢
      rw [vq_congr (E' := E) (G' := G) hev (fun _ _ _ => rfl) hqk] at h2
      split at h2
      · rename_i p u hu
        refine ⟨h2.1, later _ _ _ _ (fun _ _ _ _ => rfl) ?_ h2.2⟩
        rw [vnote_congr hev]
        intro p hp
        cases b with
        | false => simpa using hp
        | true =>
          simp only [if_true] at hp ⊢
          unfold vnote at *
          split at hp <;> split at hp <;> split <;> simp_all
          rcases hp with hp | hp | hp <;> simp_all
      · exact h2.elim
    | false =>
      rw [hqk] at h2
      simp only at h2 ⊢
      rw [vloud_congr hev] at h2
      have hsubr : ∀ p, p ∈ rd → p ∈ (if b = true then vnote U kq E oq.op rd else rd) := fun p hp => by
        cases b with
        | false => simpa using hp
        | true => simp only [if_true]; exact vnote_mem p hp
      refine vloud_mono (fun u G' hh => ⟨fun p hp => hh.1 p (hsubr p hp), later _ _ _ _ ?_ (fun p hp => hp) hh.2⟩) h2
      intro hb hr id hid
      subst hb
      have hU : (kq, k) ∈ U := by
        rcases hcond with (h | h) | h
        · rw [hqk] at h; cases h
        · rw [hr] at h; cases h
        · simpa using h
      refine hh.1 (kq, id) ?_ hU
      simp only [if_true]
      unfold vnote
      rw [if_pos (List.any_eq_true.2 ⟨_, hU, by simp⟩)]
      exact List.mem_append_left _ (List.mem_map.2 ⟨id, hid, rfl⟩)
  · exact .inr ⟨h1, later _ _ _ _ (fun _ _ _ _ => rfl) (fun p hp => hp) h2⟩

/-- One that is swappable with all ahead of it may go first. -/
theorem move {k : Nat} {o : Oper} {K : Env → Heap → Prop} {l2 : List (Nat × Oper)} : ∀ {l1 : List (Nat × Oper)} {E : Env} {G : Heap} {rd : Rd}, (∀ q, q ∈ l1 → swappable ops U q.1 q.2 k o = true) →
    vopsD P S ops U (l1 ++ (k, o) :: l2) E G rd K → vstepD P S ops U k o E G rd fun E1 G1 r1 => vopsD P S ops U (l1 ++ l2) E1 G1 r1 K
  | [], E, G, rd, _, h => h
  | (kq, oq) :: l1, E, G, rd, hs, h => by
    refine swap (hs (kq, oq) (by simp)) (C := fun E1 G1 r1 => vopsD P S ops U (l1 ++ l2) E1 G1 r1 K) (fun _ _ _ _ hsub h => vopsD_sub hsub h) ?_
    refine vstepD_mono (fun p hp => hp) ?_ h
    intro E1 G1 r r' hsub h1
    exact move (fun q hq => hs q (by simp [hq])) (vopsD_sub hsub h1)

theorem vq_loud {op : Op} {E : Env} {G : Heap} (h : quietSyn op = false) : vq P E G op = none := by
  cases op with
  | call c =>
    obtain ⟨callee, args, ts⟩ := c
    cases callee with
    | builtin b => cases b <;> first | (simp [quietSyn] at h; done) | (simp only [vq]; generalize args.toList.map (vev E) = xs; cases ts.toList <;> cases xs <;> rfl)
    | _ => rfl
  | _ => first | rfl | (simp [quietSyn] at h; done)

/-- What is asked for a drawn order is asked for the text's own one, too. -/
theorem vstep_of_D {k : Nat} {o : Oper} {E : Env} {G : Heap} {rd : Rd} {C : Cont} (h : vstepD P S ops U k o E G rd C) : vstep P S ops o E G fun E' G' => ∃ rd', C E' G' rd' := by
  have run : ∀ E, vrun P S U k o.op o.dst E G rd C → vop P S E G (fun v G' => ∃ rd', C (E.putO o.dst v) G' rd') o.op := by
    intro E h
    unfold vrun at h
    unfold vop
    split at h
    · split at h
      · rename_i p v hv; rw [hv]; exact ⟨h.1, _, h.2⟩
      · exact h.elim
    · rename_i hq
      rw [vq_loud hq]
      exact vloud_mono (fun v G' hh => ⟨_, hh.2⟩) h
  unfold vstepD at h
  unfold vstep
  split at h
  · rename_i hg; rw [hg]; exact run _ h
  · rename_i j want hg
    rw [hg]
    simp only
    split at h
    · rename_i d hs
      rw [hs]
      simp only
      split at h
      · rename_i b hb
        rw [hb]
        simp only
        split at h
        · rename_i e; rw [if_pos e]; exact run _ h
        · rename_i e; rw [if_neg e]; exact ⟨_, h⟩
      · rename_i hb
        rw [hb]
        exact ⟨_, h⟩
      · exact h.elim
    · exact h.elim
end
end Go.Vf
