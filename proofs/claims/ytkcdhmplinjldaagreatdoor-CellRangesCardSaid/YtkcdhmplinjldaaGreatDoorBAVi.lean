/- A part of the proof: Vi, Vj, Vk. -/
import Derived.Test.YtkcdhmplinjldaaGreatDoorBAVh1
set_option linter.unusedVariables false
set_option linter.unusedSimpArgs false
namespace Go.Vf
open Go.RowKit
def quietSyn : Op → Bool
  | .move _ | .assign _ | .pick .. | .build .. | .buildSlice .. | .load .. | .nilCheck _ | .binOp .. | .unOp .. | .convert .. | .makeInterface .. | .makeFunc .. | .slice .. | .fieldAddr .. | .field .. | .indexAddr .. | .index .. | .extract .. => true
  | .call { callee := .builtin .len, .. } | .call { callee := .builtin .max, .. } | .call { callee := .builtin .min, .. } => true
  | _ => false
def readsHeap : Op → Bool
  | .load .. | .convert .. | .call .. => true
  | _ => false
def vreads1 : V → List Nat
  | .ptr id _ _ | .arr _ id _ _ _ | .map id | .chan id => [id]
  | _ => []
def vreads (E : Env) : Op → List Nat
  | .load _ a => vreads1 (vev E a)
  | .convert _ _ x => vreads1 (vev E x)
  | .call { args, .. } => match args.toList with | x :: _ => vreads1 (vev E x) | [] => []
  | _ => []
abbrev Rd := List (Nat × Nat)
def vnote (U : Rd) (k : Nat) (E : Env) (op : Op) (rd : Rd) : Rd := if U.any (fun u => u.1 == k) then (vreads E op).map (fun id => (k, id)) ++ rd else rd
def vsafe (U : Rd) (k : Nat) (rd : Rd) (G G' : Heap) : Prop := ∀ p, p ∈ rd → (p.1, k) ∈ U → G'.get p.2 = G.get p.2
theorem vsafe_nil (k : Nat) (rd : Rd) (G G' : Heap) : vsafe [] k rd G G' = True := by simp [vsafe]
theorem vsafe_same (U : Rd) (k : Nat) (rd : Rd) (G : Heap) : vsafe U k rd G G = True := by simp [vsafe]
theorem vsafe_rd_nil (U : Rd) (k : Nat) (G G' : Heap) : vsafe U k [] G G' = True := by simp [vsafe]
theorem vnote_nil (k : Nat) (E : Env) (op : Op) (rd : Rd) : vnote [] k E op rd = rd := by simp [vnote]
def vrun (P : Program) (S : Specs) (U : Rd) (k : Nat) (op : Op) (dst : Option Nat) (E : Env) (G : Heap) (rd : Rd) (C : Env → Heap → Rd → Prop) : Prop :=
  match quietSyn op with
  | true => match vq P E G op with
    | some (p, v) => p ∧ C (E.putO dst v) G (vnote U k E op rd)
    | none => False
  | false => vloud P S E G (fun v G' => vsafe U k rd G G' ∧ C (E.putO dst v) G' rd) op
def vstepD (P : Program) (S : Specs) (ops : Array Oper) (U : Rd) (k : Nat) (o : Oper) (E : Env) (G : Heap) (rd : Rd) (C : Env → Heap → Rd → Prop) : Prop :=
  match o.guard with
  | none => vrun P S U k o.op o.dst E G rd C
  | some (j, want) => match gslot ops j with
    | some d => match E d with
      | .bool b => if b = want then vrun P S U k o.op o.dst (E.put d (.bool want)) G rd C else C ((E.put d (.bool (!want))).putO o.dst (.tup [])) G rd
      | .tup [] => C (E.putO o.dst (.tup [])) G rd
      | _ => False
    | none => False
def vopsD (P : Program) (S : Specs) (ops : Array Oper) (U : Rd) : List (Nat × Oper) → Env → Heap → Rd → (Env → Heap → Prop) → Prop
  | [], E, G, _, K => K E G
  | (k, o) :: rest, E, G, rd, K => vstepD P S ops U k o E G rd fun E' G' rd' => vopsD P S ops U rest E' G' rd' K
section
variable {P : Program} {S : Specs} {ops : Array Oper} {U : Rd}
theorem map_vev {E E' : Env} {l : List Operand} (h : ∀ x, x ∈ l → vev E x = vev E' x) : l.map (vev E) = l.map (vev E') := List.map_congr_left h
theorem map_vev2 {E E' : Env} {l : List (Nat × Operand)} (h : ∀ x, x ∈ l.map (·.2) → vev E x = vev E' x) : l.map (fun p => (p.1, vev E p.2)) = l.map (fun p => (p.1, vev E' p.2)) :=
  List.map_congr_left fun p hp => by rw [h p.2 (List.mem_map_of_mem hp)]
theorem omap_vev {E E' : Env} {l : Option Operand} (h : ∀ x, l = some x → vev E x = vev E' x) : l.map (vev E) = l.map (vev E') := by
  cases l with
  | none => rfl
  | some x => simp [h x rfl]
theorem vread_heap {t : TypeId} {G G' : Heap} {v : V} (h : ∀ id, id ∈ vreads1 v → G.get id = G'.get id) : vload P t G v = vload P t G' v := by
  cases v <;> simp only [vload]
  rw [h _ (by simp [vreads1])]
theorem vconvert_heap {s t : TypeId} {G G' : Heap} {v : V} (h : ∀ id, id ∈ vreads1 v → G.get id = G'.get id) : vconvert P s t G v = vconvert P s t G' v := by
  cases v with
  | arr sz id g off n => rcases sz with _ | _ | sz <;> simp only [vconvert]; rw [h id (by simp [vreads1])]
  | sl sz n c => rcases sz with _ | _ | sz <;> rfl
  | slc sz n c => rcases sz with _ | _ | sz <;> rfl
  | _ => rfl
theorem vlen_heap {t : TypeId} {G G' : Heap} {v : V} (h : ∀ id, id ∈ vreads1 v → G.get id = G'.get id) : vlen P t G v = vlen P t G' v := by
  cases v with
  | str s => rfl
  | map id =>
    have := h id (by simp [vreads1])
    simp only [vlen]
    generalize P.underlying t = u
    cases u with
    | none => rfl
    | some td => cases td <;> simp only [this]
  | chan id =>
    have := h id (by simp [vreads1])
    simp only [vlen]
    generalize P.underlying t = u
    cases u with
    | none => rfl
    | some td => cases td <;> simp only [this]
  | _ =>
    simp only [vlen]
    generalize P.underlying t = u
    cases u with
    | none => rfl
    | some td => cases td <;> rfl
theorem vq_congr {op : Op} {E E' : Env} {G G' : Heap} (he : ∀ x, x ∈ op.operands → vev E x = vev E' x) (hg : readsHeap op = true → ∀ id, id ∈ vreads E op → G.get id = G'.get id) (hq : quietSyn op = true) : vq P E G op = vq P E' G' op := by
  cases op with
  | call c =>
    obtain ⟨callee, args, ts⟩ := c
    cases callee with
    | builtin b =>
      have ha : args.toList.map (vev E) = args.toList.map (vev E') := map_vev fun x hx => he x (by simpa [Op.operands, Call.operands] using hx)
      simp only [vq, ha]
      have hb : ∀ xs, xs = args.toList.map (vev E) → vbuiltinQ P b ts G xs = vbuiltinQ P b ts G' xs := by
        intro xs hxs
        simp only [vreads] at hg
        cases b <;> first | (simp [quietSyn] at hq; done) | skip
        case max => simp only [vbuiltinQ]; cases ts.toList <;> cases xs <;> rfl
        case min => simp only [vbuiltinQ]; cases ts.toList <;> cases xs <;> rfl
        cases hts : ts.toList with
        | nil => cases xs <;> simp only [vbuiltinQ, hts]
        | cons t tr =>
          cases xs with
          | nil => simp only [vbuiltinQ, hts]
          | cons y ys =>
            simp only [vbuiltinQ, hts]
            refine vlen_heap fun id hid => hg rfl id ?_
            cases hargs : args.toList with
            | nil => rw [hargs] at hxs; cases hxs
            | cons a0 ar => rw [hargs] at hxs; simp only [List.map_cons, List.cons.injEq] at hxs; simp only; rw [← hxs.1]; exact hid
      rw [← ha]; exact hb _ rfl
    | value f => simp [quietSyn] at hq
    | invoke r m => simp [quietSyn] at hq
  | load t a => simp only [vq]; rw [← he a (by simp [Op.operands])]; exact vread_heap (hg rfl)
  | convert s t x => simp only [vq]; rw [← he x (by simp [Op.operands])]; exact vconvert_heap (hg rfl)
  | build t ps => simp only [vq, map_vev2 (l := ps.toList) fun x hx => he x (by simp only [Op.operands]; simpa using hx)]
  | buildSlice t n ps => simp only [vq, map_vev2 (l := ps.toList) fun x hx => he x (by simp only [Op.operands]; simpa using hx)]
  | makeFunc f a b =>
    simp only [vq]
    rw [map_vev (l := a.toList) fun x hx => he x (by simp only [Op.operands]; simp; exact .inl (by simpa using hx)), map_vev (l := b.toList) fun x hx => he x (by simp only [Op.operands]; simp; exact .inr (by simpa using hx))]
  | slice t x lo hi mx =>
    simp only [vq]
    rw [he x (by simp [Op.operands]), omap_vev (l := lo) fun y hy => he y (by simp [Op.operands, hy]), omap_vev (l := hi) fun y hy => he y (by simp [Op.operands, hy]), omap_vev (l := mx) fun y hy => he y (by simp [Op.operands, hy])]
  | _ =>
    first
      | (simp [quietSyn] at hq; done)
      | (simp only [Op.operands] at he; simp only [vq]; simp_all; done)
theorem vreads_congr {op : Op} {E E' : Env} (he : ∀ x, x ∈ op.operands → vev E x = vev E' x) (hr : readsHeap op = true) : vreads E op = vreads E' op := by
  cases op with
  | call c =>
    obtain ⟨callee, args, ts⟩ := c
    simp only [vreads]
    cases hargs : args.toList with
    | nil => rfl
    | cons a0 ar => simp only; rw [he a0 (by simp only [Op.operands, Call.operands]; simp; right; have : a0 ∈ args.toList := by rw [hargs]; simp
                                             simpa using this)]
  | load t a => simp only [vreads]; rw [he a (by simp [Op.operands])]
  | convert s t x => simp only [vreads]; rw [he x (by simp [Op.operands])]
  | _ => simp [readsHeap] at hr
theorem vreads_nil {op : Op} {E : Env} (hr : readsHeap op = false) : vreads E op = [] := by
  cases op <;> first | rfl | (simp [readsHeap] at hr)
theorem vloud_congr {op : Op} {E E' : Env} {G : Heap} {K : V → Heap → Prop} (he : ∀ x, x ∈ op.operands → vev E x = vev E' x) : vloud P S E G K op = vloud P S E' G K op := by
  cases op with
  | call c =>
    obtain ⟨callee, args, ts⟩ := c
    have ha : args.toList.map (vev E) = args.toList.map (vev E') := map_vev fun x hx => he x (by
      cases callee <;> simp only [Op.operands, Call.operands] <;> simp <;> first | exact .inr (by simpa using hx) | simpa using hx)
    cases callee with
    | value f =>
      simp only [vloud]
      rw [ha, he f (by simp [Op.operands, Call.operands])]
    | invoke r m => rfl
    | builtin b =>
      simp only [vloud, isMapOp]
      cases b <;> simp only [vl]
      all_goals
        cases hargs : args.toList with
        | nil => rfl
        | cons a0 ar =>
          rw [hargs] at ha
          cases ar with
          | nil => simp only [List.map_cons, List.map_nil, List.cons.injEq] at ha; simp [ha.1]
          | cons a1 ar =>
            cases ar with
            | nil => simp only [List.map_cons, List.map_nil, List.cons.injEq] at ha; simp [ha.1, ha.2.1]
            | cons => rfl
  | buildSlice t n ps => simp only [vloud, isMapOp, vl, map_vev2 (l := ps.toList) fun x hx => he x (by simp only [Op.operands]; simpa using hx)]
  | makeMap t r => cases r <;> rfl
  | next x b => cases b <;> simp only [vloud, isMapOp, vl]; rw [he x (by simp [Op.operands])]
  | _ => first
      | rfl
      | (simp only [Op.operands] at he; simp only [vloud, isMapOp, vmap, vl]; simp_all; done)
theorem vl_mono {op : Op} {E : Env} {G : Heap} {K K' : V → Heap → Prop} (hk : ∀ v G', K v G' → K' v G') (h : vl P E G K op) : vl P E G K' op := by
  unfold vl at *
  split at h
  · split at h
    · exact ⟨h.1, hk _ _ h.2⟩
    · exact h
  · split at h
    · exact ⟨h.1, hk _ _ h.2⟩
    · exact h
  · split at h
    · split at h
      · refine ⟨h.1, h.2.1, h.2.2.1, ?_⟩
        have h := h.2.2.2
        split at h
        · exact ⟨h.1, hk _ _ h.2⟩
        · exact h
      · exact h
    · exact h
  · unfold vstore at *
    split at h
    · split at h
      · exact ⟨h.1, h.2.1, h.2.2.1, h.2.2.2.1, h.2.2.2.2.1, hk _ _ h.2.2.2.2.2⟩
      · exact h
    · exact h
  · unfold vmake at *
    split at h
    · split at h
      · obtain ⟨h1, h2, h3, h4, h5, h6, h7, h8⟩ := h
        exact ⟨h1, h2, h3, h4, h5, h6, h7, hk _ _ h8⟩
      · exact h
    · exact h
  · split at h
    · exact hk _ _ h
    · exact h
  · split at h
    · split at h
      · split at h
        · rename_i hlt; rw [if_pos hlt]; exact hk _ _ h
        · rename_i hlt; rw [if_neg hlt]; exact hk _ _ h
      · exact h
    · exact h
  · split at h
    · unfold vappend at *
      split at h
      · split at h
        · split at h
          · refine ⟨h.1, h.2.1, ?_⟩
            have h := h.2.2
            split at h
            · exact ⟨fun e => hk _ _ (h.1 e), fun e => ⟨(h.2 e).1, hk _ _ (h.2 e).2⟩⟩
            · exact ⟨h.1, fun e => hk _ _ (h.2.1 e), fun e => ⟨(h.2.2 e).1, hk _ _ (h.2.2 e).2⟩⟩
            · split at h
              · exact ⟨h.1, h.2.1, h.2.2.1, h.2.2.2.1, h.2.2.2.2.1, hk _ _ h.2.2.2.2.2⟩
              · exact h
            · exact h
          · exact h
        · exact h
      · exact h
    · exact h
  · split at h
    · unfold vclear at *
      split at h
      · split at h
        · exact hk _ _ h
        · split at h
          · obtain ⟨h1, h2, h3, h4, h5, h6, h7⟩ := h
            exact ⟨h1, h2, h3, h4, h5, h6, hk _ _ h7⟩
          · exact h
        · exact h
      · exact h
    · exact h
  · exact h
theorem vmap_mono {op : Op} {E : Env} {G : Heap} {K K' : V → Heap → Prop} (hk : ∀ v G', K v G' → K' v G') (h : vmap P E G K op) : vmap P E G K' op := by
  unfold vmap at *
  split at h
  · exact hk _ _ h
  · unfold vmapLook at *
    split at h
    · split at h
      · refine ⟨h.1, h.2.1, ?_⟩
        have h := h.2.2
        unfold vlookK at *
        split at h
        · exact hk _ _ h
        · exact h
      · exact h
    · exact h
  · unfold vmapTurn at *
    split at h
    · split at h
      · exact ⟨h.1, h.2.1, hk _ _ h.2.2⟩
      · exact h
    · exact h
  · exact h
theorem vloud_mono {op : Op} {E : Env} {G : Heap} {K K' : V → Heap → Prop} (hk : ∀ v G', K v G' → K' v G') (h : vloud P S E G K op) : vloud P S E G K' op := by
  unfold vloud at *
  split at h
  · split at h
    · split at h
      · exact ⟨h.1, hk _ _ h.2⟩
      · exact VCalls.mono h hk
    · exact h
  · split at h
    · exact vmap_mono hk h
    · exact vl_mono hk h
end
end Go.Vf
set_option linter.unusedVariables false
set_option linter.unusedSimpArgs false
namespace Go.Vf
open Go.RowKit
section
variable {P : Program} {S : Specs} {ops : Array Oper} {U : Rd}
def vwants (ops : Array Oper) (E : Env) (o : Oper) : Option Bool := match o.guard with
  | none => some true
  | some (j, want) => match gslot ops j with
    | some d => match E d with
      | .bool b => some (decide (b = want))
      | .tup [] => some false
      | _ => none
    | none => none
abbrev Cont := Env → Heap → Rd → Prop
theorem vstepD_iff {k : Nat} {o : Oper} {E : Env} {G : Heap} {rd : Rd} {C : Cont} : vstepD P S ops U k o E G rd C ↔
    (vwants ops E o = some true ∧ vrun P S U k o.op o.dst E G rd C) ∨ (vwants ops E o = some false ∧ C (E.putO o.dst (.tup [])) G rd) := by
  unfold vstepD vwants
  cases hg : o.guard with
  | none => simp
  | some jw =>
    obtain ⟨j, want⟩ := jw
    simp only
    cases hs : gslot ops j with
    | none => simp
    | some d =>
      simp only
      cases hE : E d
      case tup l => cases l <;> simp
      all_goals (try simp)
      rename_i b
      by_cases hb : b = want
      · subst hb; rw [if_pos rfl, Env.put_same hE]; simp
      · rw [if_neg hb]
        have : E d = .bool (!want) := by rw [hE]; cases b <;> cases want <;> simp_all
        rw [Env.put_same this]; simp [hb]
theorem vnote_sub {k : Nat} {E : Env} {op : Op} {rd rd' : Rd} (h : ∀ p, p ∈ rd' → p ∈ rd) : ∀ p, p ∈ vnote U k E op rd' → p ∈ vnote U k E op rd := by
  unfold vnote; split
  · intro p hp; rw [List.mem_append] at *; exact hp.imp id (h p)
  · exact h
theorem vnote_mem {k : Nat} {E : Env} {op : Op} {rd : Rd} : ∀ p, p ∈ rd → p ∈ vnote U k E op rd := by
  unfold vnote; split
  · intro p hp; exact List.mem_append_right _ hp
  · exact fun p hp => hp
theorem vrun_mono {k : Nat} {op : Op} {dst : Option Nat} {E : Env} {G : Heap} {rd rd' : Rd} {C C' : Cont} (hs : ∀ p, p ∈ rd' → p ∈ rd) (hc : ∀ E G r r', (∀ p, p ∈ r' → p ∈ r) → C E G r → C' E G r') (h : vrun P S U k op dst E G rd C) : vrun P S U k op dst E G rd' C' := by
  unfold vrun at *
  split
  · rename_i hq
    rw [hq] at h
    simp only at h
    split at h
    · rename_i p v hv; exact ⟨h.1, hc _ _ _ _ (vnote_sub hs) h.2⟩
    · exact h.elim
  · rename_i hq
    rw [hq] at h
    exact vloud_mono (fun v G' hh => ⟨fun p hp => hh.1 p (hs p hp), hc _ _ _ _ hs hh.2⟩) h
theorem vstepD_mono {k : Nat} {o : Oper} {E : Env} {G : Heap} {rd rd' : Rd} {C C' : Cont} (hs : ∀ p, p ∈ rd' → p ∈ rd) (hc : ∀ E G r r', (∀ p, p ∈ r' → p ∈ r) → C E G r → C' E G r') (h : vstepD P S ops U k o E G rd C) : vstepD P S ops U k o E G rd' C' := by
  rw [vstepD_iff] at *
  rcases h with ⟨h1, h2⟩ | ⟨h1, h2⟩
  · exact .inl ⟨h1, vrun_mono hs hc h2⟩
  · exact .inr ⟨h1, hc _ _ _ _ hs h2⟩
theorem vopsD_sub : ∀ {l : List (Nat × Oper)} {E : Env} {G : Heap} {r r' : Rd} {K : Env → Heap → Prop}, (∀ p, p ∈ r' → p ∈ r) → vopsD P S ops U l E G r K → vopsD P S ops U l E G r' K
  | [], _, _, _, _, _, _, h => h
  | (k, o) :: rest, _, _, _, _, _, hs, h => vstepD_mono hs (fun _ _ _ _ hs' h' => vopsD_sub hs' h') h
theorem putO_vev {E : Env} {o : Oper} {dst : Option Nat} {v : V} (h : ∀ d, dst = some d → d ∉ o.looksAt ops) : ∀ x, x ∈ o.op.operands → vev (E.putO dst v) x = vev E x := by
  intro x hx
  cases dst with
  | none => rfl
  | some d =>
    cases x with
    | tmp t =>
      have : t ≠ d := fun e => h d rfl (by subst e; exact List.mem_append_left _ (List.mem_filterMap.2 ⟨.tmp t, by simpa using hx, rfl⟩))
      simp only [vev, Env.putO, Env.put, if_neg this]
    | _ => rfl
theorem putO_wants {E : Env} {o : Oper} {dst : Option Nat} {v : V} (h : ∀ d, dst = some d → d ∉ o.looksAt ops) : vwants ops (E.putO dst v) o = vwants ops E o := by
  cases dst with
  | none => rfl
  | some d =>
    unfold vwants
    cases hg : o.guard with
    | none => rfl
    | some jw =>
      obtain ⟨j, want⟩ := jw
      simp only
      cases hs : gslot ops j with
      | none => rfl
      | some t =>
        have : t ≠ d := fun e => h d rfl (by subst e; refine List.mem_append_right _ ?_; rw [hg]; simp only; unfold gslot at hs; rw [hs]; simp)
        simp only [Env.putO, Env.put, if_neg this]
theorem putO_comm {E : Env} {x y : Option Nat} {v u : V} (h : ∀ d, x = some d → y ≠ some d) : (E.putO x v).putO y u = (E.putO y u).putO x v := by
  cases x with
  | none => rfl
  | some d =>
    cases y with
    | none => rfl
    | some e =>
      have hne : d ≠ e := fun he => h d rfl (he ▸ rfl)
      funext t
      simp only [Env.putO, Env.put]
      by_cases h1 : t = e
      · subst h1; rw [if_pos rfl, if_neg (Ne.symm hne), if_pos rfl]
      · rw [if_neg h1]
        by_cases h2 : t = d
        · rw [if_pos h2, if_pos h2]
        · rw [if_neg h2, if_neg h2, if_neg h1]
theorem vnote_congr {k : Nat} {E E' : Env} {op : Op} {rd : Rd} (he : ∀ x, x ∈ op.operands → vev E x = vev E' x) : vnote U k E op rd = vnote U k E' op rd := by
  unfold vnote
  cases hr : readsHeap op with
  | true => rw [vreads_congr he hr]
  | false => rw [vreads_nil hr, vreads_nil hr]
def swappable (ops : Array Oper) (U : Rd) (kq : Nat) (oq : Oper) (k : Nat) (o : Oper) : Bool :=
  quietSyn oq.op && oq.apart ops o && (quietSyn o.op || !readsHeap oq.op || U.contains (kq, k))
theorem swap {kq k : Nat} {oq o : Oper} (hsw : swappable ops U kq oq k o = true) {E : Env} {G : Heap} {rd : Rd} {C C' : Cont} (hc : ∀ E G r r', (∀ p, p ∈ r' → p ∈ r) → C E G r → C' E G r')
    (h : vstepD P S ops U kq oq E G rd fun E1 G1 r1 => vstepD P S ops U k o E1 G1 r1 C) : vstepD P S ops U k o E G rd fun E1 G1 r1 => vstepD P S ops U kq oq E1 G1 r1 C' := by
  unfold swappable at hsw
  simp only [Bool.and_eq_true, Bool.or_eq_true, Bool.not_eq_true'] at hsw
  obtain ⟨⟨hq, hap⟩, hcond⟩ := hsw
  obtain ⟨a1, a2, a3⟩ := Oper.apart_spec hap
  -- the quiet one's value
  have hval : ∃ v b, vwants ops E oq = some b ∧ (b = true → ∃ p, vq P E G oq.op = some (p, v) ∧ p) ∧ (b = false → v = .tup []) ∧ vstepD P S ops U k o (E.putO oq.dst v) G (if b = true then vnote U kq E oq.op rd else rd) C := by
    rw [vstepD_iff] at h
    rcases h with ⟨h1, h2⟩ | ⟨h1, h2⟩
    · unfold vrun at h2
      rw [hq] at h2
      simp only at h2
      split at h2
      · rename_i p v hv
        exact ⟨v, true, h1, fun _ => ⟨p, hv, h2.1⟩, by simp, by rw [if_pos rfl]; exact h2.2⟩
      · exact h2.elim
    · exact ⟨.tup [], false, h1, by simp, by simp, by simpa using h2⟩
  obtain ⟨v, b, hw, ht, hf, hk⟩ := hval
  -- how it goes behind the other one
  have later : ∀ (u : V) (G' : Heap) (r r0 : Rd), (b = true → readsHeap oq.op = true → ∀ id, id ∈ vreads E oq.op → G'.get id = G.get id) → (∀ p, p ∈ (if b = true then vnote U kq E oq.op r else r) → p ∈ r0) → C ((E.putO oq.dst v).putO o.dst u) G' r0 → vstepD P S ops U kq oq (E.putO o.dst u) G' r C' := by
    intro u G' r r0 hG hsub hC
    have hev : ∀ x, x ∈ oq.op.operands → vev (E.putO o.dst u) x = vev E x := putO_vev a3
    rw [vstepD_iff, putO_wants a3, hw]
    rw [putO_comm a2] at hC
    cases b with
    | false =>
      refine .inr ⟨rfl, ?_⟩
      rw [hf rfl] at hC
      exact hc _ _ _ _ (by simpa using hsub) hC
    | true =>
      refine .inl ⟨rfl, ?_⟩
      obtain ⟨p, hp, hp'⟩ := ht rfl
      unfold vrun
      rw [hq]
      simp only
      rw [vq_congr (E' := E) (G' := G) hev (fun hr id hid => hG rfl hr id (by rw [vreads_congr hev hr] at hid; exact hid)) hq, hp]
      refine ⟨hp', ?_⟩
      rw [vnote_congr hev]
      exact hc _ _ _ _ (by simpa using hsub) hC
  have hev : ∀ x, x ∈ o.op.operands → vev (E.putO oq.dst v) x = vev E x := putO_vev a1
  rw [vstepD_iff, putO_wants a1] at hk
  rw [vstepD_iff]
  rcases hk with ⟨h1, h2⟩ | ⟨h1, h2⟩
  · refine .inl ⟨h1, ?_⟩
    unfold vrun at *
    cases hqk : quietSyn o.op with
    | true =>
      rw [hqk] at h2
      simp only at h2 ⊢
      rw [vq_congr (E' := E) (G' := G) hev (fun _ _ _ => rfl) hqk] at h2
      split at h2
      · rename_i p u hu
        refine ⟨h2.1, later _ _ _ _ (fun _ _ _ _ => rfl) ?_ h2.2⟩
        rw [vnote_congr hev]
        intro p hp
        cases b with
        | false => simpa using hp
        | true =>
          simp only [if_true] at hp ⊢
          unfold vnote at *
          split at hp <;> split at hp <;> split <;> simp_all
          rcases hp with hp | hp | hp <;> simp_all
      · exact h2.elim
    | false =>
      rw [hqk] at h2
      simp only at h2 ⊢
      rw [vloud_congr hev] at h2
      have hsubr : ∀ p, p ∈ rd → p ∈ (if b = true then vnote U kq E oq.op rd else rd) := fun p hp => by
        cases b with
        | false => simpa using hp
        | true => simp only [if_true]; exact vnote_mem p hp
      refine vloud_mono (fun u G' hh => ⟨fun p hp => hh.1 p (hsubr p hp), later _ _ _ _ ?_ (fun p hp => hp) hh.2⟩) h2
      intro hb hr id hid
      subst hb
      have hU : (kq, k) ∈ U := by
        rcases hcond with (h | h) | h
        · rw [hqk] at h; cases h
        · rw [hr] at h; cases h
        · simpa using h
      refine hh.1 (kq, id) ?_ hU
      simp only [if_true]
      unfold vnote
      rw [if_pos (List.any_eq_true.2 ⟨_, hU, by simp⟩)]
      exact List.mem_append_left _ (List.mem_map.2 ⟨id, hid, rfl⟩)
  · exact .inr ⟨h1, later _ _ _ _ (fun _ _ _ _ => rfl) (fun p hp => hp) h2⟩
theorem move {k : Nat} {o : Oper} {K : Env → Heap → Prop} {l2 : List (Nat × Oper)} : ∀ {l1 : List (Nat × Oper)} {E : Env} {G : Heap} {rd : Rd}, (∀ q, q ∈ l1 → swappable ops U q.1 q.2 k o = true) →
    vopsD P S ops U (l1 ++ (k, o) :: l2) E G rd K → vstepD P S ops U k o E G rd fun E1 G1 r1 => vopsD P S ops U (l1 ++ l2) E1 G1 r1 K
  | [], E, G, rd, _, h => h
  | (kq, oq) :: l1, E, G, rd, hs, h => by
    refine swap (hs (kq, oq) (by simp)) (C := fun E1 G1 r1 => vopsD P S ops U (l1 ++ l2) E1 G1 r1 K) (fun _ _ _ _ hsub h => vopsD_sub hsub h) ?_
    refine vstepD_mono (fun p hp => hp) ?_ h
    intro E1 G1 r r' hsub h1
    exact move (fun q hq => hs q (by simp [hq])) (vopsD_sub hsub h1)
theorem vq_loud {op : Op} {E : Env} {G : Heap} (h : quietSyn op = false) : vq P E G op = none := by
  cases op with
  | call c =>
    obtain ⟨callee, args, ts⟩ := c
    cases callee with
    | builtin b => cases b <;> first | (simp [quietSyn] at h; done) | (simp only [vq]; generalize args.toList.map (vev E) = xs; cases ts.toList <;> cases xs <;> rfl)
    | _ => rfl
  | _ => first | rfl | (simp [quietSyn] at h; done)
theorem vstep_of_D {k : Nat} {o : Oper} {E : Env} {G : Heap} {rd : Rd} {C : Cont} (h : vstepD P S ops U k o E G rd C) : vstep P S ops o E G fun E' G' => ∃ rd', C E' G' rd' := by
  have run : ∀ E, vrun P S U k o.op o.dst E G rd C → vop P S E G (fun v G' => ∃ rd', C (E.putO o.dst v) G' rd') o.op := by
    intro E h
    unfold vrun at h
    unfold vop
    split at h
    · split at h
      · rename_i p v hv; rw [hv]; exact ⟨h.1, _, h.2⟩
      · exact h.elim
    · rename_i hq
      rw [vq_loud hq]
      exact vloud_mono (fun v G' hh => ⟨_, hh.2⟩) h
  unfold vstepD at h
  unfold vstep
  split at h
  · rename_i hg; rw [hg]; exact run _ h
  · rename_i j want hg
    rw [hg]
    simp only
    split at h
    · rename_i d hs
      rw [hs]
      simp only
      split at h
      · rename_i b hb
        rw [hb]
        simp only
        split at h
        · rename_i e; rw [if_pos e]; exact run _ h
        · rename_i e; rw [if_neg e]; exact ⟨_, h⟩
      · rename_i hb
        rw [hb]
        exact ⟨_, h⟩
      · exact h.elim
    · exact h.elim
end
end Go.Vf
set_option linter.unusedVariables false
set_option linter.unusedSimpArgs false
namespace Go.Vf
open Go.RowKit
def maskE (ms : List Nat) : List Edge → Nat
  | [] => 0
  | e :: r => if Region.binds .any e = true then (2 ^ e.on ||| ms.getD e.on 0) ||| maskE ms r else maskE ms r
def masks : List Oper → List Nat → List Nat
  | [], ms => ms
  | o :: r, ms => masks r (ms ++ [maskE ms o.after.toList])
def pairOk (ops : Array Oper) (U : Rd) (ms : List Nat) (q k : Nat × Oper) : Bool := q.1 != k.1 && ((ms.getD k.1 0).testBit q.1 || swappable ops U q.1 q.2 k.1 k.2)
def pairsOk (ops : Array Oper) (U : Rd) (ms : List Nat) : List (Nat × Oper) → Bool
  | [] => true
  | q :: rest => rest.all (pairOk ops U ms q) && pairsOk ops U ms rest
def rowsOf (ops : Array Oper) : List Nat → List (Nat × Oper)
  | [] => []
  | k :: r => match ops[k]? with | some o => (k, o) :: rowsOf ops r | none => rowsOf ops r
def drawOk (ops : Array Oper) (ord : List Nat) (U : Rd) : Bool :=
  (List.range ops.size).all (fun k => ord.contains k && (match ops[k]? with | some o => o.after.all fun e => !Region.binds .any e || decide (e.on < k) | none => true)) && pairsOk ops U (masks ops.toList []) (rowsOf ops ord) && decide ((rowsOf ops ord).length ≤ ops.size)
section
variable {P : Program} {S : Specs} {ops : Array Oper} {U : Rd}
def Down (ops : List Oper) (L : Nat → Prop) : Prop := ∀ i o, ops[i]? = some o → L i → ∀ e, e ∈ o.after.toList → Region.binds .any e = true → L e.on
def MOk (all : List Oper) (ms : List Nat) : Prop := ∀ (L : Nat → Prop), Down all L → ∀ (i : Nat) (o : Oper) (m : Nat), all[i]? = some o → ms[i]? = some m → (∀ e, e ∈ o.after.toList → Region.binds .any e = true → L e.on) → ∀ j, m.testBit j = true → L j
theorem maskE_ok {all : List Oper} {ms : List Nat} (h : MOk all ms) (hlen : ms.length ≤ all.length) {L : Nat → Prop} (hd : Down all L) : ∀ (es : List Edge), (∀ e, e ∈ es → Region.binds .any e = true → L e.on) → ∀ j, (maskE ms es).testBit j = true → L j
  | [], _, j, hj => by simp [maskE] at hj
  | e :: r, hes, j, hj => by
    have ihr := maskE_ok h hlen hd r (fun e he => hes e (by simp [he]))
    unfold maskE at hj
    split at hj
    · rename_i hb
      rw [Nat.testBit_or, Nat.testBit_or] at hj
      simp only [Bool.or_eq_true] at hj
      rcases hj with (hj | hj) | hj
      · rw [Nat.testBit_two_pow] at hj
        have : e.on = j := by simpa using hj
        exact this ▸ hes e (by simp) hb
      · have hL : L e.on := hes e (by simp) hb
        have hlt : e.on < ms.length := by
          rcases Nat.lt_or_ge e.on ms.length with h' | h'
          · exact h'
          · simp [List.getD, List.getElem?_eq_none h'] at hj
        have hms : ms[e.on]? = some ms[e.on] := List.getElem?_eq_getElem hlt
        have hall : all[e.on]? = some all[e.on] := List.getElem?_eq_getElem (by omega)
        refine h L hd e.on _ _ hall hms (hd e.on _ hall hL) j ?_
        simpa [List.getD, hms] using hj
      · exact ihr j hj
    · exact ihr j hj
theorem masks_ok {all : List Oper} : ∀ (rest : List Oper) (ms : List Nat), MOk all ms → ms.length + rest.length = all.length → all.drop ms.length = rest → MOk all (masks rest ms)
  | [], ms, h, _, _ => h
  | o :: r, ms, h, hl, hd => by
    simp only [List.length_cons] at hl
    unfold masks
    refine masks_ok r _ ?_ (by simp; omega) (by simp only [List.length_append, List.length_singleton]; rw [← List.drop_drop, hd]; rfl)
    intro L hL i oi m hi hm hes j hj
    rw [List.getElem?_append] at hm
    split at hm
    · exact h L hL i oi m hi hm hes j hj
    · rename_i hge
      have : i = ms.length := by
        rcases Nat.lt_or_ge (i - ms.length) 1 with h1 | h1
        · omega
        · rw [List.getElem?_eq_none (by simpa using h1)] at hm; cases hm
      subst this
      simp only [Nat.sub_self, List.getElem?_cons_zero, Option.some.injEq] at hm
      have ho : oi = o := by
        have : (all.drop ms.length)[0]? = some o := by rw [hd]; rfl
        rw [List.getElem?_drop, Nat.add_zero, hi] at this
        exact Option.some.inj this
      subst ho; subst hm
      exact maskE_ok h (by omega) hL _ hes j hj
theorem pairsOk_iff {ms : List Nat} : ∀ {l : List (Nat × Oper)}, pairsOk ops U ms l = true → l.Pairwise fun q k => pairOk ops U ms q k = true
  | [], _ => .nil
  | q :: rest, h => by
    simp only [pairsOk, Bool.and_eq_true, List.all_eq_true] at h
    exact .cons h.1 (pairsOk_iff h.2)
theorem rowsOf_mem : ∀ {ord : List Nat} {k : Nat} {o : Oper}, (k, o) ∈ rowsOf ops ord ↔ k ∈ ord ∧ ops[k]? = some o
  | [], k, o => by simp [rowsOf]
  | j :: r, k, o => by
    unfold rowsOf
    split
    · rename_i oj hj
      simp only [List.mem_cons, rowsOf_mem, Prod.mk.injEq]
      constructor
      · rintro (⟨rfl, rfl⟩ | ⟨h1, h2⟩)
        · exact ⟨.inl rfl, hj⟩
        · exact ⟨.inr h1, h2⟩
      · rintro ⟨rfl | h1, h2⟩
        · rw [hj] at h2; cases h2; exact .inl ⟨rfl, rfl⟩
        · exact .inr ⟨h1, h2⟩
    · rename_i hj
      rw [rowsOf_mem]
      constructor
      · rintro ⟨h1, h2⟩; exact ⟨List.mem_cons_of_mem _ h1, h2⟩
      · rintro ⟨h1, h2⟩
        rcases List.mem_cons.1 h1 with rfl | h1
        · rw [hj] at h2; cases h2
        · exact ⟨h1, h2⟩
section
variable {N n0 : Nat} {K : Env → Heap → Prop} {Q : Exit → Act → World → Prop}
theorem wpAny_of (hS : SOk P S) (hback : ∀ (k : Nat) (o : Oper), ops[k]? = some o → ∀ e, e ∈ o.after → Region.binds .any e = true → e.on < k) (hall : ∀ (j : Nat) (oj : Oper), ops[j]? = some oj → Oper.fits N oj = true) {ms : List Nat} (hms : MOk ops.toList ms) (hmsl : ms.length = ops.size) :
    ∀ (fuel : Nat) (listed : Array Bool) (l : List (Nat × Oper)) (rd : Rd) (ρ : Rho) (E : Env) (G : Heap) (a : Act) (w : World),
      l.Pairwise (fun q k => pairOk ops U ms q k = true) → (∀ k o, (k, o) ∈ l → ops[k]? = some o) → (∀ k, k < ops.size → (listed.getD k true = false ↔ ∃ o, (k, o) ∈ l)) → listed.size = ops.size →
      Down ops.toList (fun i => listed.getD i false = true) → l.length ≤ fuel → SRel N n0 ρ E G a w → vopsD P S ops U l E G rd K →
      (∀ ρ' E' G' a' w', Rho.Le n0 ρ ρ' → SRel N n0 ρ' E' G' a' w' → K E' G' → Q .normal a' w') → wpAny P .any ops Q fuel listed a w := by
  intro fuel
  induction fuel with
  | zero =>
    intro listed l rd ρ E G a w hp hl hun hsz hdn hlen h hv hK
    have hnil : l = [] := by cases l with | nil => rfl | cons => simp at hlen
    subst hnil
    refine ⟨?_, hK ρ E G a w (Rho.Le.refl _ _) h hv⟩
    refine List.eq_nil_iff_forall_not_mem.2 fun i hi => ?_
    obtain ⟨h0, o, ho, _⟩ := mem_ready.1 hi
    obtain ⟨_, hm⟩ := (hun i (Array.getElem?_eq_some_iff.1 ho).1).1 h0
    cases hm
  | succ fuel ih =>
    intro listed l rd ρ E G a w hp hl hun hsz hdn hlen h hv hK
    refine ⟨fun hr => ?_, fun i hi => ?_⟩
    · cases l with
      | nil => exact hK ρ E G a w (Rho.Le.refl _ _) h hv
      | cons x rest =>
        exfalso
        obtain ⟨k0, o0⟩ := x
        have hk0 := hl k0 o0 (by simp)
        have hk0lt := (Array.getElem?_eq_some_iff.1 hk0).1
        have none : ∀ i, i < ops.size → listed.getD i true = false → False := by
          intro i
          induction i using Nat.strongRecOn with
          | ind i ihi =>
            intro hi hu
            have : i ∈ Region.ready .any ops listed := by
              refine mem_ready.2 ⟨hu, ops[i], Array.getElem?_eq_getElem hi, fun e he hb => ?_⟩
              have hlt := hback i _ (Array.getElem?_eq_getElem hi) e he hb
              have hne := ihi e.on hlt (by omega)
              have hs : e.on < listed.size := by omega
              simp only [Array.getD_eq_getD_getElem?, Array.getElem?_eq_getElem hs, Option.getD_some] at hne ⊢
              cases hx : listed[e.on] with
              | true => rfl
              | false => exact (hne hx).elim
            rw [hr] at this; cases this
        exact none k0 hk0lt ((hun k0 hk0lt).2 ⟨o0, by simp⟩)
    · obtain ⟨h0, o, ho, hedges⟩ := mem_ready.1 hi
      have hlt := (Array.getElem?_eq_some_iff.1 ho).1
      obtain ⟨o', hm⟩ := (hun i hlt).1 h0
      have : o' = o := by have := hl i o' hm; rw [ho] at this; exact (Option.some.inj this).symm
      subst this
      obtain ⟨l1, l2, rfl⟩ := List.append_of_mem hm
      rw [List.pairwise_append] at hp
      obtain ⟨hp1, hp2, hp12⟩ := hp
      have hsw : ∀ q, q ∈ l1 → swappable ops U q.1 q.2 i o' = true := fun q hq => by
        have := hp12 q hq (i, o') (by simp)
        unfold pairOk at this
        simp only [Bool.and_eq_true, Bool.or_eq_true] at this
        refine this.2.resolve_left fun hb => ?_
        have hmi : ms[i]? = some ms[i] := List.getElem?_eq_getElem (by omega)
        have hq' := hl q.1 q.2 (by simp [hq])
        have hun' := (hun q.1 (Array.getElem?_eq_some_iff.1 hq').1).2 ⟨q.2, by simp [hq]⟩
        have := hms _ hdn i o' ms[i] (by simpa using ho) hmi (fun e he hb => hedges e (by simpa using he) hb) q.1 (by simpa [List.getD, hmi] using hb)
        have hqlt : q.1 < listed.size := by rw [hsz]; exact (Array.getElem?_eq_some_iff.1 hq').1
        simp [hqlt] at this hun'
        rw [this] at hun'; cases hun'
      have hstep := vstep_of_D (move hsw hv)
      have hnd : ∀ q, q ∈ l1 ++ l2 → q.1 ≠ i := fun q hq => by
        rcases List.mem_append.1 hq with hq | hq
        · have := hp12 q hq (i, o') (by simp)
          unfold pairOk at this
          simp only [Bool.and_eq_true] at this
          simpa using this.1
        · have := (List.pairwise_cons.1 hp2).1 q hq
          unfold pairOk at this
          simp only [Bool.and_eq_true] at this
          exact Ne.symm (by simpa using this.1)
      have := vstep_ok (Q := Q) (next := wpAny P .any ops Q fuel (listed.setIfInBounds i true)) hS h (hall i o' ho) hall hstep (by
        rintro ρ' E' G' a' w' h1 h2 ⟨rd', h3⟩
        refine ih (listed.setIfInBounds i true) (l1 ++ l2) rd' ρ' E' G' a' w' ?_ ?_ ?_ (by simpa using hsz) ?_ (by simp at hlen ⊢; omega) h2 h3 fun ρ'' E'' G'' a'' w'' k1 k2 k3 => hK ρ'' E'' G'' a'' w'' (h1.trans k1 (Nat.le_refl _)) k2 k3
        · rw [List.pairwise_append]
          exact ⟨hp1, (List.pairwise_cons.1 hp2).2, fun q hq k hk => hp12 q hq k (by simp [hk])⟩
        · intro k o hk
          exact hl k o (by rcases List.mem_append.1 hk with hk | hk <;> simp [hk])
        · intro k hk
          by_cases hki : i = k
          · subst hki
            constructor
            · intro hf; simp [hsz, hlt] at hf
            · rintro ⟨ok, hk'⟩; exact absurd rfl (hnd _ hk')
          · rw [getD_set_ne true hki, hun k hk]
            constructor
            · rintro ⟨ok, hk'⟩
              refine ⟨ok, ?_⟩
              rcases List.mem_append.1 hk' with hk' | hk'
              · simp [hk']
              · rcases List.mem_cons.1 hk' with e | hk'
                · simp only [Prod.mk.injEq] at e; exact absurd e.1.symm hki
                · simp [hk']
            · rintro ⟨ok, hk'⟩
              refine ⟨ok, ?_⟩
              rcases List.mem_append.1 hk' with hk' | hk' <;> simp [hk']
        · intro j oj hj hL e he hb
          by_cases hij : i = j
          · subst hij
            have : oj = o' := by
              have h' : ops[i]? = some oj := by simpa using hj
              rw [ho] at h'; exact (Option.some.inj h').symm
            subst this
            exact getD_set_true (hedges e (by simpa using he) hb)
          · rw [getD_set_ne false hij] at hL
            exact getD_set_true (hdn j oj hj hL e he hb))
      unfold wpOp
      rw [ho]
      simp only
      split
      · rename_i hw; rw [if_pos hw] at this; exact .inl this
      · rename_i hw; rw [if_neg hw] at this; exact this
theorem vopsD_ok (hS : SOk P S) {id : Nat} {ord : List Nat} (hm : P.follows .mixedOrders = true) (hall : ∀ (j : Nat) (oj : Oper), ops[j]? = some oj → Oper.fits N oj = true) (hd : drawOk ops ord U = true)
    {ρ : Rho} {E : Env} {G : Heap} {a : Act} {w : World} (h : SRel N n0 ρ E G a w) (hv : vopsD P S ops U (rowsOf ops ord) E G [] K)
    (hK : ∀ ρ' E' G' a' w', Rho.Le n0 ρ ρ' → SRel N n0 ρ' E' G' a' w' → K E' G' → Q .normal a' w') : (Code.region id ops true).wp P Q a w := by
  refine wp_region_any hm ?_
  unfold drawOk at hd
  simp only [Bool.and_eq_true, List.all_eq_true, List.mem_range, decide_eq_true_eq] at hd
  obtain ⟨⟨h1, h2⟩, h3⟩ := hd
  have hml : ∀ (l : List Oper) (ms : List Nat), (masks l ms).length = ms.length + l.length := by
    intro l
    induction l with
    | nil => intro ms; simp [masks]
    | cons o r ih => intro ms; simp only [masks, ih]; simp; omega
  have hlt : ∀ {k : Nat} {b : Bool}, k < ops.size → (Array.replicate ops.size false).getD k b = false := fun hk => by simp [hk]
  refine wpAny_of hS (ms := masks ops.toList []) ?_ hall (masks_ok ops.toList [] (fun L _ i o m _ hm => by simp at hm) (by simp) rfl) (by rw [hml]; simp) ops.size _ _ [] ρ E G a _ (pairsOk_iff h2) (fun k o hk => (rowsOf_mem.1 hk).2) ?_ (by simp) ?_ h3 ⟨h.size, h.defers, h.slots, h.world.drew, h.low⟩ hv hK
  · intro k o ho e he hb
    have := (h1 k (Array.getElem?_eq_some_iff.1 ho).1).2
    rw [ho] at this
    simp only [Array.all_eq_true_iff_forall_mem, Bool.or_eq_true, Bool.not_eq_true', decide_eq_true_eq] at this
    exact (this e he).resolve_left (by simp [hb])
  · intro k hk
    rw [hlt hk]
    refine ⟨fun _ => ⟨ops[k], rowsOf_mem.2 ⟨by simpa using (h1 k hk).1, Array.getElem?_eq_getElem hk⟩⟩, fun _ => rfl⟩
  · intro i o hi hL
    have : i < ops.size := by
      have := (List.getElem?_eq_some_iff.1 hi).1
      simpa using this
    rw [hlt this] at hL
    cases hL
end
end
end Go.Vf
