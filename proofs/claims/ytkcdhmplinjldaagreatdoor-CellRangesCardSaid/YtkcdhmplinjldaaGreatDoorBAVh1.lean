/- A part of the proof: Vh1. -/
import Derived.Test.YtkcdhmplinjldaaGreatDoorBAVg4
set_option linter.unusedVariables false
set_option linter.unusedSimpArgs false
namespace Go.Vf
open Go.RowKit
def isGo (P : Program) (f : FuncId) : Bool := match P.funcs[f]? with | some fn => !(fn.name == "runtime.NumGoroutine") && fn.body.isSome | none => false
def VCalls (P : Program) (f : FuncId) (args : List V) (G : Heap) (R : V → Heap → Prop) : Prop :=
  isGo P f = true ∧ ∀ (ρ : Rho) (w : World) (xs : List Value), WRel ρ G w → VRs ρ G.next args xs →
    Calls P f xs.toArray w fun e w' => ∃ x ρ' v G', e = .returned x ∧ WRel ρ' G' w' ∧ Rho.Le G.next ρ ρ' ∧ G.next ≤ G'.next ∧ VR ρ' G'.next v x ∧ R v G'
theorem VCalls.mono {P : Program} {f : FuncId} {args : List V} {G : Heap} {R R' : V → Heap → Prop} (h : VCalls P f args G R) (hr : ∀ v G', R v G' → R' v G') : VCalls P f args G R' :=
  ⟨h.1, fun ρ w xs hW hx => (h.2 ρ w xs hW hx).mono fun e w' ⟨x, ρ', v, G', h1, h2, h3, h4, h5, h6⟩ => ⟨x, ρ', v, G', h1, h2, h3, h4, h5, hr _ _ h6⟩⟩
abbrev Specs := FuncId → List V → Heap → Option (Prop × V × Heap)
def SOk (P : Program) (S : Specs) : Prop := ∀ f args G p v G', S f args G = some (p, v, G') → p → VCalls P f args G fun u H => u = v ∧ H = G'
inductive Tag {α : Sort _} (x : α) : Type where | mk
def Held {α : Sort _} (x : α) (t : Tag x) : α := x
theorem held2 {K : V → Heap → Prop} {t : Tag K} (v : V) (G : Heap) : Held K t v G = K v G := rfl
def vloud (P : Program) (S : Specs) (E : Env) (G : Heap) (K : V → Heap → Prop) : Op → Prop
  | .call { callee := .value f, args, argTypes := _ } => match vev E f with
    | .func (.func fn) first captured => match S fn (first ++ args.toList.map (vev E) ++ captured) G with
      | some (p, v, G') => p ∧ K v G'
      | none => VCalls P fn (first ++ args.toList.map (vev E) ++ captured) G (Held K .mk)
    | _ => False
  | op => match isMapOp op with
    | true => vmap P E G K op
    | false => vl P E G K op
def vop (P : Program) (S : Specs) (E : Env) (G : Heap) (K : V → Heap → Prop) (op : Op) : Prop :=
  match vq P E G op with
  | some (p, v) => p ∧ K v G
  | none => vloud P S E G K op
def gslot (ops : Array Oper) (j : Nat) : Option Nat := (ops[j]?).bind (·.dst)
def gslotL : List Oper → Nat → Option Nat
  | [], _ => none
  | o :: _, 0 => o.dst
  | _ :: r, j + 1 => gslotL r j
theorem gslot_eq (ops : Array Oper) (j : Nat) : gslot ops j = gslotL ops.toList j := by
  have : ∀ (l : List Oper) (j : Nat), (l[j]?).bind (·.dst) = gslotL l j := by
    intro l
    induction l with
    | nil => intro j; simp [gslotL]
    | cons o r ih => intro j; cases j with
      | zero => simp [gslotL]
      | succ j => simp [gslotL, ih]
  rw [← this]
  simp [gslot]
def vstep (P : Program) (S : Specs) (ops : Array Oper) (o : Oper) (E : Env) (G : Heap) (K : Env → Heap → Prop) : Prop :=
  match o.guard with
  | none => vop P S E G (fun v G' => K (E.putO o.dst v) G') o.op
  | some (j, want) => match gslot ops j with
    | some d => match E d with
      | .bool b => if b = want then vop P S (E.put d (.bool want)) G (fun v G' => K ((E.put d (.bool want)).putO o.dst v) G') o.op else K ((E.put d (.bool (!want))).putO o.dst (.tup [])) G
      | .tup [] => K (E.putO o.dst (.tup [])) G
      | _ => False
    | none => False
def vops (P : Program) (S : Specs) (ops : Array Oper) : List Oper → Env → Heap → (Env → Heap → Prop) → Prop
  | [], E, G, K => K E G
  | o :: rest, E, G, K => vstep P S ops o E G fun E' G' => vops P S ops rest E' G' K
def Oper.fits (N : Nat) (o : Oper) : Bool := Op.fits N o.op && (match o.dst with | some d => decide (d < N) | none => true)
section
variable {P : Program} {S : Specs} {N n0 : Nat} {ρ : Rho} {E : Env} {G : Heap} {a : Act} {w : World} {n : Nat}
theorem SRel.put (h : SRel N n0 ρ E G a w) {ρ' : Rho} {G' : Heap} {w' : World} (hW : WRel ρ' G' w') (hle : Rho.Le n0 ρ ρ') (hl : n0 ≤ G'.next) (hslots : ∀ t, t < N → VR ρ' G'.next (E t) (a.tmps.getD t undef))
    {dst : Option Tmp} (hd : ∀ d, dst = some d → d < N) {v : V} {x : Value} (hv : VR ρ' G'.next v x) : SRel N n0 ρ' (E.putO dst v) G' (a.put dst x) w' := by
  cases dst with
  | none => exact ⟨h.size, h.defers, hslots, hW, hl⟩
  | some d =>
    have hdn := hd d rfl
    refine ⟨by simp [Act.put, h.size], h.defers, fun t ht => ?_, hW, hl⟩
    simp only [Env.putO, Env.put, Act.put]
    by_cases e : t = d
    · subst e
      rw [if_pos rfl]
      have : (a.tmps.setIfInBounds t x).getD t undef = x := by
        simp [Array.getD, h.size, hdn]
      rw [this]; exact hv
    · rw [if_neg e]
      have : (a.tmps.setIfInBounds d x).getD t undef = a.tmps.getD t undef := by
        simp only [Array.getD_eq_getD_getElem?, Array.getElem?_setIfInBounds]
        rw [if_neg (Ne.symm e)]
      rw [this]; exact hslots t ht
theorem callFunc_run {f : FuncId} (h : isGo P f = true) (xs : Array Value) : (callFunc f xs).run P w = .ok (.enter f xs) w := by
  unfold isGo at h
  split at h
  · rename_i fn hf
    simp only [Bool.and_eq_true, Bool.not_eq_true'] at h
    have hb : fn.body.isNone = false := by cases hfb : fn.body <;> simp [hfb] at h ⊢
    simp only [callFunc, Sem.run_bind, run_program, Result.andThen_ok, hf, h.1, hb, Bool.false_eq_true, if_false, Sem.run_pure]
  · cases h
theorem vloud_ok (hS : SOk P S) (h : SRel N n0 ρ E G a w) {o : Oper} (hf : Oper.fits N o = true) {K : V → Heap → Prop} (hv : vloud P S E G K o.op) {Q : Exit → Act → World → Prop} :
    o.wp P a w (fun a' w' => ∃ ρ' v G', Rho.Le n0 ρ ρ' ∧ SRel N n0 ρ' (E.putO o.dst v) G' a' w' ∧ K v G') Q := by
  unfold Oper.fits at hf
  simp only [Bool.and_eq_true] at hf
  have hd : ∀ d, o.dst = some d → d < N := fun d e => by have := hf.2; rw [e] at this; simpa using this
  have slots : ∀ {ρ' : Rho} {G' : Heap}, Rho.Le G.next ρ ρ' → G.next ≤ G'.next → ∀ t, t < N → VR ρ' G'.next (E t) (a.tmps.getD t undef) := fun {ρ' G'} hle hn t ht => (h.slots t ht).le hle hn
  have loud : vl P E G K o.op → o.wp P a w (fun a' w' => ∃ ρ' v G', Rho.Le n0 ρ ρ' ∧ SRel N n0 ρ' (E.putO o.dst v) G' a' w' ∧ K v G') Q := fun hv => by
    have h' : SRel N G.next ρ E G a w := ⟨h.size, h.defers, h.slots, h.world, Nat.le_refl _⟩
    obtain ⟨w', ρ', v, G', k1, k2, k3, k4, k5⟩ := vl_ok h' hf.1 hv
    unfold Oper.wp
    rcases k5 with ⟨x, k5, k6⟩ | ⟨k5, k6⟩
    · rw [k5]
      exact ⟨ρ', v, G', k2.mono h.low, h.put k1 (k2.mono h.low) (Nat.le_trans h.low k3) (slots k2 k3) hd k6, k4⟩
    · rw [k5]
      exact ⟨ρ', v, G', k2.mono h.low, h.put k1 (k2.mono h.low) (Nat.le_trans h.low k3) (slots k2 k3) hd k6, k4⟩
  have maps : vmap P E G K o.op → o.wp P a w (fun a' w' => ∃ ρ' v G', Rho.Le n0 ρ ρ' ∧ SRel N n0 ρ' (E.putO o.dst v) G' a' w' ∧ K v G') Q := fun hv => by
    have h' : SRel N G.next ρ E G a w := ⟨h.size, h.defers, h.slots, h.world, Nat.le_refl _⟩
    obtain ⟨w', ρ', v, G', k1, k2, k3, k4, k5⟩ := vmap_ok h' hf.1 hv
    unfold Oper.wp
    rcases k5 with ⟨x, k5, k6⟩ | ⟨k5, k6⟩
    · rw [k5]
      exact ⟨ρ', v, G', k2.mono h.low, h.put k1 (k2.mono h.low) (Nat.le_trans h.low k3) (slots k2 k3) hd k6, k4⟩
    · rw [k5]
      exact ⟨ρ', v, G', k2.mono h.low, h.put k1 (k2.mono h.low) (Nat.le_trans h.low k3) (slots k2 k3) hd k6, k4⟩
  unfold vloud at hv
  split at hv
  · rename_i f args ts hop
    split at hv
    · rename_i fn first captured hfv
      have hv : VCalls P fn (first ++ args.toList.map (vev E) ++ captured) G K := by
        split at hv
        · rename_i p u H hs
          exact (hS _ _ _ _ _ _ hs hv.1).mono fun v G' ⟨e1, e2⟩ => e1 ▸ e2 ▸ hv.2
        · exact hv
      have hops := hf.1
      unfold Op.fits at hops
      rw [hop] at hops
      simp only [Op.operands, Call.operands, Array.toList_append, List.all_append, Bool.and_eq_true] at hops
      have hF := h.ev (x := f) (by simpa using hops.1)
      rw [hfv] at hF
      have hA := h.evs hops.2
      generalize hFe : a.eval f = F at hF
      cases hF with
      | func _ _ _ xs ys k1 k2 k3 k4 =>
        have hfirst : VRs ρ G.next first xs := ⟨k1, k3⟩
        have hcapt : VRs ρ G.next captured ys := ⟨k2, k4⟩
        have hall := (hfirst.append hA).append hcapt
        have hrun : (execOp a.eval o).run P w = .ok (.enter fn (xs ++ args.toList.map a.eval ++ ys).toArray) w := by
          simp only [execOp, hop, resolve, hFe, Deferred.ofValue, Sem.run_bind, Sem.run_pure, Result.andThen_ok, invoke, callFunc_run hv.1]
          congr 2
          apply Array.toList_inj.1
          simp
        unfold Oper.wp
        rw [hrun]
        refine (hv.2 ρ w _ h.world hall).mono ?_
        rintro e w' ⟨x, ρ', v, G', rfl, g1, g2, g3, g4, g5⟩
        exact ⟨ρ', v, G', g2.mono h.low, h.put g1 (g2.mono h.low) (Nat.le_trans h.low g3) (slots g2 g3) hd g4, g5⟩
    · exact hv.elim
  · split at hv
    · exact maps hv
    · exact loud hv
theorem vquiet_ok (h : SRel N n0 ρ E G a w) {o : Oper} (hf : Oper.fits N o = true) {p : Prop} {v : V} (hq : vq P E G o.op = some (p, v)) (hp : p) :
    ∃ x w' ρ', (execOp a.eval o).run P w = .ok (.value x) w' ∧ Rho.Le n0 ρ ρ' ∧ SRel N n0 ρ' (E.putO o.dst v) G (a.put o.dst x) w' := by
  unfold Oper.fits at hf
  simp only [Bool.and_eq_true] at hf
  have hd : ∀ d, o.dst = some d → d < N := fun d e => by have := hf.2; rw [e] at this; simpa using this
  obtain ⟨x, w', ρ', h1, h2, h3, h4⟩ := vq_ok h hf.1 hq hp
  exact ⟨x, w', ρ', h1, h3.mono h.low, h.put h2 (h3.mono h.low) h.low (fun t ht => (h.slots t ht).le h3 (Nat.le_refl _)) hd h4⟩
theorem vop_ok (hS : SOk P S) (h : SRel N n0 ρ E G a w) {o : Oper} (hf : Oper.fits N o = true) {K : V → Heap → Prop} (hv : vop P S E G K o.op) {Q : Exit → Act → World → Prop} :
    o.wp P a w (fun a' w' => ∃ ρ' v G', Rho.Le n0 ρ ρ' ∧ SRel N n0 ρ' (E.putO o.dst v) G' a' w' ∧ K v G') Q := by
  unfold vop at hv
  split at hv
  · rename_i p v hq
    obtain ⟨x, w', ρ', h1, h2, h3⟩ := vquiet_ok h hf hq hv.1
    unfold Oper.wp
    rw [h1]
    exact ⟨ρ', v, G, h2, h3, hv.2⟩
  · exact vloud_ok hS h hf hv
theorem Env.put_same {E : Env} {d : Nat} {v : V} (h : E d = v) : E.put d v = E := by
  funext t
  unfold Env.put
  split
  · rename_i e; subst e; exact h.symm
  · rfl
theorem yielded_of (h : SRel N n0 ρ E G a w) {ops : Array Oper} {j d : Nat} {b : Bool} (hg : gslot ops j = some d) (hdN : d < N) (hb : E d = .bool b) : yielded ops a.tmps j = some b := by
  unfold yielded
  unfold gslot at hg
  rw [hg]
  have := h.slots d hdN
  rw [hb] at this
  have hx := this.bool_inv
  have hlt : d < a.tmps.size := by rw [h.size]; exact hdN
  simp only [Array.getD_eq_getD_getElem?, Array.getElem?_eq_getElem hlt, Option.getD_some] at hx
  simp [Array.getElem?_eq_getElem hlt, hx]
theorem VR.undef (ρ : Rho) (n : Nat) : VR ρ n (.tup []) undef := .tup [] [] rfl (by simp)
theorem unyielded_of (h : SRel N n0 ρ E G a w) {ops : Array Oper} {j d : Nat} (hg : gslot ops j = some d) (hb : E d = .tup []) : yielded ops a.tmps j = none := by
  unfold yielded
  unfold gslot at hg
  rw [hg]
  simp only [Option.bind_some]
  rcases Nat.lt_or_ge d N with hdN | hdN
  · have := h.slots d hdN
    rw [hb] at this
    have hlt : d < a.tmps.size := by rw [h.size]; exact hdN
    simp only [Array.getD_eq_getD_getElem?, Array.getElem?_eq_getElem hlt, Option.getD_some] at this
    rw [Array.getElem?_eq_getElem hlt]
    generalize a.tmps[d] = x at this
    cases this
    rfl
  · rw [Array.getElem?_eq_none (by rw [h.size]; exact hdN)]
theorem vstep_ok (hS : SOk P S) (h : SRel N n0 ρ E G a w) {ops : Array Oper} {o : Oper} (hf : Oper.fits N o = true) (hall : ∀ (j : Nat) (oj : Oper), ops[j]? = some oj → Oper.fits N oj = true) {K : Env → Heap → Prop} (hv : vstep P S ops o E G K) {Q : Exit → Act → World → Prop} {next : Act → World → Prop}
    (hnext : ∀ ρ' E' G' a' w', Rho.Le n0 ρ ρ' → SRel N n0 ρ' E' G' a' w' → K E' G' → next a' w') : if Region.wanted o (yielded ops a.tmps) then o.wp P a w next Q else next (a.put o.dst undef) w := by
  have hd : ∀ d, o.dst = some d → d < N := fun d e => by
    unfold Oper.fits at hf
    simp only [Bool.and_eq_true] at hf
    have := hf.2; rw [e] at this; simpa using this
  unfold vstep at hv
  unfold Region.wanted
  split at hv
  · rename_i hg
    rw [hg]
    simp only [if_true]
    refine Oper.wp_mono ?_ (vop_ok hS h hf hv)
    rintro a' w' ⟨ρ', v, G', h1, h2, h3⟩
    exact hnext ρ' _ G' a' w' h1 h2 h3
  · rename_i j want hg
    rw [hg]
    split at hv
    · rename_i d hgs
      split at hv
      · rename_i b hb
        have hdN : d < N := by
          unfold gslot at hgs
          simp only [Option.bind_eq_some_iff] at hgs
          obtain ⟨oj, h1, h2⟩ := hgs
          have := hall j oj h1
          unfold Oper.fits at this
          simp only [Bool.and_eq_true] at this
          rw [h2] at this
          simpa using this.2
        have hy := yielded_of h hgs hdN hb
        simp only [hy]
        by_cases hbw : b = want
        · subst hbw
          rw [if_pos rfl] at hv
          rw [Env.put_same hb] at hv
          simp only [beq_self_eq_true, if_true]
          refine Oper.wp_mono ?_ (vop_ok hS h hf hv)
          rintro a' w' ⟨ρ', v, G', h1, h2, h3⟩
          exact hnext ρ' _ G' a' w' h1 h2 h3
        · rw [if_neg hbw] at hv
          have hb' : E d = .bool (!want) := by rw [hb]; cases b <;> cases want <;> simp_all
          rw [Env.put_same hb'] at hv
          have : (some b == some want) = false := by cases b <;> cases want <;> simp_all
          simp only [this, Bool.false_eq_true, if_false]
          exact hnext ρ _ G _ w (Rho.Le.refl _ _) (h.put h.world (Rho.Le.refl _ _) h.low h.slots hd (VR.undef _ _)) hv
      · rename_i hb
        have hy := unyielded_of h hgs hb
        simp only [hy]
        exact hnext ρ _ G _ w (Rho.Le.refl _ _) (h.put h.world (Rho.Le.refl _ _) h.low h.slots hd (VR.undef _ _)) hv
      · exact hv.elim
    · exact hv.elim
theorem vops_ok (hS : SOk P S) {ops : Array Oper} (hall : ∀ (j : Nat) (oj : Oper), ops[j]? = some oj → Oper.fits N oj = true) {K : Env → Heap → Prop} {Q : Exit → Act → World → Prop} :
    ∀ (l : List Oper) (ρ : Rho) (E : Env) (G : Heap) (a : Act) (w : World), (∀ o, o ∈ l → Oper.fits N o = true) → SRel N n0 ρ E G a w → vops P S ops l E G K → (∀ ρ' E' G' a' w', Rho.Le n0 ρ ρ' → SRel N n0 ρ' E' G' a' w' → K E' G' → Q .normal a' w') → wpList P ops Q l a w
  | [], ρ, E, G, a, w, _, h, hv, hK => hK ρ E G a w (Rho.Le.refl _ _) h hv
  | o :: rest, ρ, E, G, a, w, hl, h, hv, hK => by
    have := vstep_ok (Q := Q) (next := wpList P ops Q rest) hS h (hl o (by simp)) hall hv (fun ρ' E' G' a' w' h1 h2 h3 =>
      vops_ok hS hall rest ρ' E' G' a' w' (fun o ho => hl o (by simp [ho])) h2 h3 fun ρ'' E'' G'' a'' w'' k1 k2 k3 => hK ρ'' E'' G'' a'' w'' (h1.trans k1 (Nat.le_refl _)) k2 k3)
    unfold wpList
    split
    · rename_i hw; rw [if_pos hw] at this; exact .inl this
    · rename_i hw; rw [if_neg hw] at this; exact this
end
end Go.Vf
