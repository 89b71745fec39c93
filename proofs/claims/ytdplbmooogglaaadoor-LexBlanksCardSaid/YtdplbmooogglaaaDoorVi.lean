/- Regions that draw their order: one order that is told serves for all of them. -/
import Derived.Test.YtdplbmooogglaaaDoorVh1
set_option linter.unusedVariables false
set_option linter.unusedSimpArgs false
namespace Go.Vf
open Go.RowKit

/-- Is it, by its form, an operation that turns nothing? -/
def quietSyn : Op → Bool
  | .move _ | .assign _ | .pick .. | .build .. | .buildSlice .. | .load .. | .nilCheck _ | .binOp .. | .unOp .. | .convert .. | .makeInterface .. | .makeFunc .. | .slice .. | .fieldAddr .. | .field .. | .indexAddr .. | .index .. | .extract .. => true
  | .call { callee := .builtin .len, .. } | .call { callee := .builtin .max, .. } | .call { callee := .builtin .min, .. } => true
  | _ => false
/-- May it look into a block? -/
def readsHeap : Op → Bool
  | .load .. | .convert .. | .call .. => true
  | _ => false

/-- The blocks that a quiet operation looks into. -/
def vreads1 : V → List Nat
  | .ptr id _ _ | .arr _ id _ _ _ | .map id | .chan id => [id]
  | _ => []
def vreads (E : Env) : Op → List Nat
  | .load _ a => vreads1 (vev E a)
  | .convert _ _ x => vreads1 (vev E x)
  | .call { args, .. } => match args.toList with | x :: _ => vreads1 (vev E x) | [] => []
  | _ => []

abbrev Rd := List (Nat × Nat)
/-- What is to be kept in mind of a quiet operation: the blocks it looked into, if something that turns memory may be ahead of it. -/
def vnote (U : Rd) (k : Nat) (E : Env) (op : Op) (rd : Rd) : Rd := if U.any (fun u => u.1 == k) then (vreads E op).map (fun id => (k, id)) ++ rd else rd
/-- What was looked into by those that may be behind stays. -/
def vsafe (U : Rd) (k : Nat) (rd : Rd) (G G' : Heap) : Prop := ∀ p, p ∈ rd → (p.1, k) ∈ U → G'.get p.2 = G.get p.2
theorem vsafe_nil (k : Nat) (rd : Rd) (G G' : Heap) : vsafe [] k rd G G' = True := by simp [vsafe]
theorem vsafe_same (U : Rd) (k : Nat) (rd : Rd) (G : Heap) : vsafe U k rd G G = True := by simp [vsafe]
theorem vsafe_rd_nil (U : Rd) (k : Nat) (G G' : Heap) : vsafe U k [] G G' = True := by simp [vsafe]
theorem vnote_nil (k : Nat) (E : Env) (op : Op) (rd : Rd) : vnote [] k E op rd = rd := by simp [vnote]

def vrun (P : Program) (S : Specs) (U : Rd) (k : Nat) (op : Op) (dst : Option Nat) (E : Env) (G : Heap) (rd : Rd) (C : Env → Heap → Rd → Prop) : Prop :=
  match quietSyn op with
  | true => match vq P E G op with
    | some (p, v) => p ∧ C (E.putO dst v) G (vnote U k E op rd)
    | none => False
  | false => vloud P S E G (fun v G' => vsafe U k rd G G' ∧ C (E.putO dst v) G' rd) op

def vstepD (P : Program) (S : Specs) (ops : Array Oper) (U : Rd) (k : Nat) (o : Oper) (E : Env) (G : Heap) (rd : Rd) (C : Env → Heap → Rd → Prop) : Prop :=
  match o.guard with
  | none => vrun P S U k o.op o.dst E G rd C
  | some (j, want) => match gslot ops j with
    | some d => match E d with
      | .bool b => if b = want then vrun P S U k o.op o.dst (E.put d (.bool want)) G rd C else C ((E.put d (.bool (!want))).putO o.dst (.tup [])) G rd
      | .tup [] => C (E.putO o.dst (.tup [])) G rd
      | _ => False
    | none => False

def vopsD (P : Program) (S : Specs) (ops : Array Oper) (U : Rd) : List (Nat × Oper) → Env → Heap → Rd → (Env → Heap → Prop) → Prop
  | [], E, G, _, K => K E G
  | (k, o) :: rest, E, G, rd, K => vstepD P S ops U k o E G rd fun E' G' rd' => vopsD P S ops U rest E' G' rd' K

section
variable {P : Program} {S : Specs} {ops : Array Oper} {U : Rd}

theorem vev_eq {E E' : Env} {op : Op} (h : ∀ t, Operand.tmp t ∈ op.operands → E t = E' t) : ∀ x, x ∈ op.operands → vev E x = vev E' x := by
  intro x hx
  cases x with
  | tmp t => exact h t hx
  | _ => rfl

theorem map_vev {E E' : Env} {l : List Operand} (h : ∀ x, x ∈ l → vev E x = vev E' x) : l.map (vev E) = l.map (vev E') := List.map_congr_left h
theorem map_vev2 {E E' : Env} {l : List (Nat × Operand)} (h : ∀ x, x ∈ l.map (·.2) → vev E x = vev E' x) : l.map (fun p => (p.1, vev E p.2)) = l.map (fun p => (p.1, vev E' p.2)) :=
  List.map_congr_left fun p hp => by rw [h p.2 (List.mem_map_of_mem hp)]
theorem omap_vev {E E' : Env} {l : Option Operand} (h : ∀ x, l = some x → vev E x = vev E' x) : l.map (vev E) = l.map (vev E') := by
  cases l with
  | none => rfl
  | some x => simp [h x rfl]

theorem vread_heap {t : TypeId} {G G' : Heap} {v : V} (h : ∀ id, id ∈ vreads1 v → G.get id = G'.get id) : vload P t G v = vload P t G' v := by
  cases v <;> simp only [vload]
  rw [h _ (by simp [vreads1])]
theorem vconvert_heap {s t : TypeId} {G G' : Heap} {v : V} (h : ∀ id, id ∈ vreads1 v → G.get id = G'.get id) : vconvert P s t G v = vconvert P s t G' v := by
  cases v with
  | arr sz id g off n => rcases sz with _ | _ | sz <;> simp only [vconvert]; rw [h id (by simp [vreads1])]
  | sl sz n c => rcases sz with _ | _ | sz <;> rfl
  | slc sz n c => rcases sz with _ | _ | sz <;> rfl
  | _ => rfl
theorem vlen_heap {t : TypeId} {G G' : Heap} {v : V} (h : ∀ id, id ∈ vreads1 v → G.get id = G'.get id) : vlen P t G v = vlen P t G' v := by
  cases v with
  | str s => rfl
  | map id =>
    have := h id (by simp [vreads1])
    simp only [vlen]
    generalize P.underlying t = u
    cases u with
    | none => rfl
    | some td => cases td <;> simp only [this]
  | chan id =>
    have := h id (by simp [vreads1])
    simp only [vlen]
    generalize P.underlying t = u
    cases u with
    | none => rfl
    | some td => cases td <;> simp only [this]
  | _ =>
    simp only [vlen]
    generalize P.underlying t = u
    cases u with
    | none => rfl
    | some td => cases td <;> rfl

/-- A quiet operation asks no more than what it looks at. -/
theorem vq_congr {op : Op} {E E' : Env} {G G' : Heap} (he : ∀ x, x ∈ op.operands → vev E x = vev E' x) (hg : readsHeap op = true → ∀ id, id ∈ vreads E op → G.get id = G'.get id) (hq : quietSyn op = true) : vq P E G op = vq P E' G' op := by
  cases op with
  | call c =>
    obtain ⟨callee, args, ts⟩ := c
    cases callee with
    | builtin b =>
      have ha : args.toList.map (vev E) = args.toList.map (vev E') := map_vev fun x hx => he x (by simpa [Op.operands, Call.operands] using hx)
      simp only [vq, ha]
      have hb : ∀ xs, xs = args.toList.map (vev E) → vbuiltinQ P b ts G xs = vbuiltinQ P b ts G' xs := by
        intro xs hxs
        simp only [vreads] at hg
        cases b <;> first | (simp [quietSyn] at hq; done) | skip
        case max => simp only [vbuiltinQ]; cases ts.toList <;> cases xs <;> rfl
        case min => simp only [vbuiltinQ]; cases ts.toList <;> cases xs <;> rfl
        cases hts : ts.toList with
        | nil => cases xs <;> simp only [vbuiltinQ, hts]
        | cons t tr =>
          cases xs with
          | nil => simp only [vbuiltinQ, hts]
          | cons y ys =>
            simp only [vbuiltinQ, hts]
            refine vlen_heap fun id hid => hg rfl id ?_
            cases hargs : args.toList with
            | nil => rw [hargs] at hxs; cases hxs
            | cons a0 ar => rw [hargs] at hxs; simp only [List.map_cons, List.cons.injEq] at hxs; simp only; rw [← hxs.1]; exact hid
      rw [← ha]; exact hb _ rfl
    | value f => simp [quietSyn] at hq
    | invoke r m => simp [quietSyn] at hq
  | load t a => simp only [vq]; rw [← he a (by simp [Op.operands])]; exact vread_heap (hg rfl)
  | convert s t x => simp only [vq]; rw [← he x (by simp [Op.operands])]; exact vconvert_heap (hg rfl)
  | build t ps => simp only [vq, map_vev2 (l := ps.toList) fun x hx => he x (by simp only [Op.operands]; simpa using hx)]
  | buildSlice t n ps => simp only [vq, map_vev2 (l := ps.toList) fun x hx => he x (by simp only [Op.operands]; simpa using hx)]
  | makeFunc f a b =>
    simp only [vq]
    rw [map_vev (l := a.toList) fun x hx => he x (by simp only [Op.operands]; simp; exact .inl (by simpa using hx)), map_vev (l := b.toList) fun x hx => he x (by simp only [Op.operands]; simp; exact .inr (by simpa using hx))]
  | slice t x lo hi mx =>
    simp only [vq]
    rw [he x (by simp [Op.operands]), omap_vev (l := lo) fun y hy => he y (by simp [Op.operands, hy]), omap_vev (l := hi) fun y hy => he y (by simp [Op.operands, hy]), omap_vev (l := mx) fun y hy => he y (by simp [Op.operands, hy])]
  | _ =>
    first
      | (simp [quietSyn] at hq; done)
      | (simp only [Op.operands] at he; simp only [vq]; simp_all; done)

theorem vreads_congr {op : Op} {E E' : Env} (he : ∀ x, x ∈ op.operands → vev E x = vev E' x) (hr : readsHeap op = true) : vreads E op = vreads E' op := by
  cases op with
  | call c =>
    obtain ⟨callee, args, ts⟩ := c
    simp only [vreads]
    cases hargs : args.toList with
    | nil => rfl
    | cons a0 ar => simp only; rw [he a0 (by simp only [Op.operands, Call.operands]; simp; right; have : a0 ∈ args.toList := by rw [hargs]; simp
                                             simpa using this)]
  | load t a => simp only [vreads]; rw [he a (by simp [Op.operands])]
  | convert s t x => simp only [vreads]; rw [he x (by simp [Op.operands])]
  | _ => simp [readsHeap] at hr
theorem vreads_nil {op : Op} {E : Env} (hr : readsHeap op = false) : vreads E op = [] := by
  cases op <;> first | rfl | (simp [readsHeap] at hr)

theorem vloud_congr {op : Op} {E E' : Env} {G : Heap} {K : V → Heap → Prop} (he : ∀ x, x ∈ op.operands → vev E x = vev E' x) : vloud P S E G K op = vloud P S E' G K op := by
  cases op with
  | call c =>
    obtain ⟨callee, args, ts⟩ := c
    have ha : args.toList.map (vev E) = args.toList.map (vev E') := map_vev fun x hx => he x (by
      cases callee <;> simp only [Op.operands, Call.operands] <;> simp <;> first | exact .inr (by simpa using hx) | simpa using hx)
    cases callee with
    | value f =>
      simp only [vloud]
      rw [ha, he f (by simp [Op.operands, Call.operands])]
    | invoke r m => rfl
    | builtin b =>
      simp only [vloud]
      cases b <;> simp only [vl]
      all_goals
        cases hargs : args.toList with
        | nil => rfl
        | cons a0 ar =>
          rw [hargs] at ha
          cases ar with
          | nil => simp only [List.map_cons, List.map_nil, List.cons.injEq] at ha; simp [ha.1]
          | cons a1 ar =>
            cases ar with
            | nil => simp only [List.map_cons, List.map_nil, List.cons.injEq] at ha; simp [ha.1, ha.2.1]
            | cons => rfl
  | buildSlice t n ps => simp only [vloud, vl, map_vev2 (l := ps.toList) fun x hx => he x (by simp only [Op.operands]; simpa using hx)]
  | next x b => cases b <;> simp only [vloud, vl]; rw [he x (by simp [Op.operands])]
  | _ => first
      | rfl
      | (simp only [Op.operands] at he; simp only [vloud, vl]; simp_all; done)

theorem VCalls_mono' {f : FuncId} {args : List V} {G : Heap} {K K' : V → Heap → Prop} (hk : ∀ v G', K v G' → K' v G') (h : VCalls P f args G K) : VCalls P f args G K' := h.mono hk

theorem vl_mono {op : Op} {E : Env} {G : Heap} {K K' : V → Heap → Prop} (hk : ∀ v G', K v G' → K' v G') (h : vl P E G K op) : vl P E G K' op := by
  unfold vl at *
  split at h
  · split at h
    · exact ⟨h.1, hk _ _ h.2⟩
    · exact h
  · split at h
    · exact ⟨h.1, hk _ _ h.2⟩
    · exact h
  · split at h
    · split at h
      · refine ⟨h.1, h.2.1, h.2.2.1, ?_⟩
        have h := h.2.2.2
        split at h
        · exact ⟨h.1, hk _ _ h.2⟩
        · exact h
      · exact h
    · exact h
  · unfold vstore at *
    split at h
    · split at h
      · exact ⟨h.1, h.2.1, h.2.2.1, h.2.2.2.1, h.2.2.2.2.1, hk _ _ h.2.2.2.2.2⟩
      · exact h
    · exact h
  · unfold vmake at *
    split at h
    · split at h
      · obtain ⟨h1, h2, h3, h4, h5, h6, h7, h8⟩ := h
        exact ⟨h1, h2, h3, h4, h5, h6, h7, hk _ _ h8⟩
      · exact h
    · exact h
  · split at h
    · exact hk _ _ h
    · exact h
  · split at h
    · split at h
      · split at h
        · rename_i hlt; rw [if_pos hlt]; exact hk _ _ h
        · rename_i hlt; rw [if_neg hlt]; exact hk _ _ h
      · exact h
    · exact h
  · split at h
    · unfold vappend at *
      split at h
      · split at h
        · split at h
          · refine ⟨h.1, h.2.1, ?_⟩
            have h := h.2.2
            split at h
            · exact ⟨fun e => hk _ _ (h.1 e), fun e => ⟨(h.2 e).1, hk _ _ (h.2 e).2⟩⟩
            · exact ⟨h.1, fun e => hk _ _ (h.2.1 e), fun e => ⟨(h.2.2 e).1, hk _ _ (h.2.2 e).2⟩⟩
            · split at h
              · exact ⟨h.1, h.2.1, h.2.2.1, h.2.2.2.1, h.2.2.2.2.1, hk _ _ h.2.2.2.2.2⟩
              · exact h
            · exact h
          · exact h
        · exact h
      · exact h
    · exact h
  · split at h
    · unfold vclear at *
      split at h
      · split at h
        · exact hk _ _ h
        · split at h
          · obtain ⟨h1, h2, h3, h4, h5, h6, h7⟩ := h
            exact ⟨h1, h2, h3, h4, h5, h6, hk _ _ h7⟩
          · exact h
        · exact h
      · exact h
    · exact h
  · exact h

theorem vloud_mono {op : Op} {E : Env} {G : Heap} {K K' : V → Heap → Prop} (hk : ∀ v G', K v G' → K' v G') (h : vloud P S E G K op) : vloud P S E G K' op := by
  unfold vloud at *
  split at h
  · split at h
    · split at h
      · exact ⟨h.1, hk _ _ h.2⟩
      · exact VCalls.mono h hk
    · exact h
  · exact vl_mono hk h
end
end Go.Vf
