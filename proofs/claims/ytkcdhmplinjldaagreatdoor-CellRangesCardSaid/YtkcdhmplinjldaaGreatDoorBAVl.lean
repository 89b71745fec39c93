/- A part of the proof: Vl. -/
import Derived.Test.YtkcdhmplinjldaaGreatDoorBAVk2
set_option linter.unusedVariables false
set_option linter.unusedSimpArgs false
namespace Go.Vf
open Go.RowKit
def VLe (v u : V) : Prop := ∀ (ρ : Rho) (n : Nat) (x : Value), VR ρ n v x → VR ρ n u x
theorem VLe.refl (v : V) : VLe v v := fun _ _ _ h => h
theorem VLe.top (v : V) : VLe v .top := fun _ _ x _ => .top x
def Ghost (E : Env) (G : Heap) (E1 : Env) (G1 : Heap) : Prop := ∀ (N n0 : Nat) (ρ : Rho) (a : Act) (w : World), SRel N n0 ρ E G a w → ∃ ρ', Rho.Le n0 ρ ρ' ∧ SRel N n0 ρ' E1 G1 a w
structure Tab where
  ord : Nat → List Nat × Rd
  ghost : Nat → Bool
abbrev VPost := Exit → Env → Heap → Prop
def vthen (next : Env → Heap → Prop) (Q : VPost) : VPost
  | .normal, E, G => next E G
  | e, E, G => Q e E G
def vblock (id : Nat) (Q : VPost) : VPost
  | .exit id', E, G => if id' = id then Q .normal E G else Q (.exit id') E G
  | e, E, G => Q e E G
def vloopN (body : VPost → Env → Heap → Prop) (Q : VPost) : Nat → Env → Heap → Prop
  | 0, _, _ => False
  | n + 1, E, G => ∃ E1 G1, Ghost E G E1 G1 ∧ body (vthen (vloopN body Q n) Q) E1 G1
def vloop (body : VPost → Env → Heap → Prop) (Q : VPost) (E : Env) (G : Heap) : Prop := ∃ n, vloopN body Q n E G
def vregion (P : Program) (S : Specs) (T : Tab) (id : Nat) (ops : Array Oper) (draw : Bool) (Q : VPost) (E : Env) (G : Heap) : Prop :=
  match draw with
  | true => vopsD2 P S ops (T.ord id).2 (T.ord id).1 E G (Q .normal) (altOf (T.ord id).2)
  | false => vops P S ops ops.toList E G (Q .normal)
def vwp (P : Program) (S : Specs) (T : Tab) : Code → VPost → Env → Heap → Prop
  | .skip, Q, E, G => Q .normal E G
  | .region id ops draw, Q, E, G => match T.ghost id with
    | true => ∃ E1 G1, Ghost E G E1 G1 ∧ vregion P S T id ops draw Q E1 G1
    | false => vregion P S T id ops draw Q E G
  | .seq x y, Q, E, G => vwp P S T x (vthen (vwp P S T y Q) Q) E G
  | .cond c x y, Q, E, G => match vev E c with
    | .bool t => if t = true then vwp P S T x Q E G else vwp P S T y Q E G
    | _ => False
  | .block id c, Q, E, G => vwp P S T c (vblock id Q) E G
  | .loop c, Q, E, G => vloop (Held (vwp P S T c) .mk) (Held Q .mk) E G
  | .exit id, Q, E, G => Q (.exit id) E G
  | .ret, Q, E, G => Q .ret E G
  | .label _, Q, E, G => Q .normal E G
  | _, _, _, _ => False
def opsFit (N : Nat) (ops : Array Oper) : Bool := ops.toList.all (Oper.fits N)
def fitsV (N : Nat) (T : Tab) : Code → Bool
  | .region id ops draw => opsFit N ops && (!draw || drawOk2 ops (T.ord id).1 (T.ord id).2)
  | .seq x y => fitsV N T x && fitsV N T y
  | .cond c x y => Operand.fits N c && fitsV N T x && fitsV N T y
  | .block _ c => fitsV N T c
  | .loop c => fitsV N T c
  | _ => true
section
variable {P : Program} {S : Specs} {T : Tab} {N n0 : Nat}
theorem opsFit_get {ops : Array Oper} (h : opsFit N ops = true) : ∀ (j : Nat) (oj : Oper), ops[j]? = some oj → Oper.fits N oj = true := fun j oj hj => by
  unfold opsFit at h
  exact List.all_eq_true.1 h oj (by have := Array.mem_of_getElem? hj; simpa using this)
open Classical in
noncomputable def least (p : Nat → Prop) : Nat := if h : ∃ n, p n ∧ ∀ m, p m → n ≤ m then Classical.choose h else 0
theorem exists_least {p : Nat → Prop} : ∀ (n : Nat), p n → ∃ n, p n ∧ ∀ m, p m → n ≤ m := by
  intro n
  induction n using Nat.strongRecOn with
  | ind n ih =>
    intro h
    by_cases hex : ∃ m, m < n ∧ p m
    · obtain ⟨m, hm, hp⟩ := hex; exact ih m hm hp
    · exact ⟨n, h, fun m hm => by
        rcases Nat.lt_or_ge m n with h' | h'
        · exact (hex ⟨m, h', hm⟩).elim
        · exact h'⟩
theorem least_spec {p : Nat → Prop} {n : Nat} (h : p n) : p (least p) ∧ ∀ m, p m → least p ≤ m := by
  have hex := exists_least n h
  unfold least
  rw [dif_pos hex]
  exact Classical.choose_spec hex
theorem vwp_sound (hS : SOk P S) (hm : P.follows .mixedOrders = true) : ∀ (c : Code) (Q : VPost) (Q' : Exit → Act → World → Prop) (ρ : Rho) (E : Env) (G : Heap) (a : Act) (w : World), fitsV N T c = true → SRel N n0 ρ E G a w → vwp P S T c Q E G →
    (∀ e ρ' E' G' a' w', Rho.Le n0 ρ ρ' → SRel N n0 ρ' E' G' a' w' → Q e E' G' → Q' e a' w') → c.wp P Q' a w := by
  intro c
  have region : ∀ (id : Nat) (ops : Array Oper) (draw : Bool) (Q : VPost) (Q' : Exit → Act → World → Prop) (ρ : Rho) (E : Env) (G : Heap) (a : Act) (w : World), fitsV N T (.region id ops draw) = true → SRel N n0 ρ E G a w → vregion P S T id ops draw Q E G →
    (∀ e ρ' E' G' a' w', Rho.Le n0 ρ ρ' → SRel N n0 ρ' E' G' a' w' → Q e E' G' → Q' e a' w') → (Code.region id ops draw).wp P Q' a w := by
    intro id ops draw Q Q' ρ E G a w hf h hv hQ
    simp only [fitsV, Bool.and_eq_true] at hf
    unfold vregion at hv
    cases draw with
    | true =>
      simp only at hv
      exact vopsD2_ok hS hm (opsFit_get hf.1) (by simpa using hf.2) h hv fun ρ' E' G' a' w' h1 h2 h3 => hQ .normal ρ' E' G' a' w' h1 h2 h3
    | false =>
      simp only at hv
      refine wp_region_list (vops_ok hS (opsFit_get hf.1) ops.toList ρ E G a w (fun o ho => ?_) h hv fun ρ' E' G' a' w' h1 h2 h3 => hQ .normal ρ' E' G' a' w' h1 h2 h3)
      have := hf.1
      unfold opsFit at this
      exact List.all_eq_true.1 this o ho
  induction c with
  | skip => intro Q Q' ρ E G a w hf h hv hQ; exact wp_skip (hQ _ ρ E G a w (Rho.Le.refl _ _) h hv)
  | label l => intro Q Q' ρ E G a w hf h hv hQ; exact wp_label (hQ _ ρ E G a w (Rho.Le.refl _ _) h hv)
  | exit id => intro Q Q' ρ E G a w hf h hv hQ; exact wp_exit (hQ _ ρ E G a w (Rho.Le.refl _ _) h hv)
  | ret => intro Q Q' ρ E G a w hf h hv hQ; exact wp_ret (hQ _ ρ E G a w (Rho.Le.refl _ _) h hv)
  | region id ops draw =>
    intro Q Q' ρ E G a w hf h hv hQ
    unfold vwp at hv
    split at hv
    · obtain ⟨E1, G1, hg, hv⟩ := hv
      obtain ⟨ρ1, h1, h2⟩ := hg N n0 ρ a w h
      exact region id ops draw Q Q' ρ1 E1 G1 a w hf h2 hv fun e ρ' E' G' a' w' k1 k2 k3 => hQ e ρ' E' G' a' w' (h1.trans k1 (Nat.le_refl _)) k2 k3
    · exact region id ops draw Q Q' ρ E G a w hf h hv hQ
  | seq x y ihx ihy =>
    intro Q Q' ρ E G a w hf h hv hQ
    simp only [fitsV, Bool.and_eq_true] at hf
    refine wp_seq (ihx (vthen (vwp P S T y Q) Q) _ ρ E G a w hf.1 h hv ?_)
    intro e ρ' E' G' a' w' h1 h2 h3
    cases e with
    | normal => exact ihy Q Q' ρ' E' G' a' w' hf.2 h2 h3 fun e ρ'' E'' G'' a'' w'' k1 k2 k3 => hQ e ρ'' E'' G'' a'' w'' (h1.trans k1 (Nat.le_refl _)) k2 k3
    | _ => exact hQ _ ρ' E' G' a' w' h1 h2 h3
  | cond c x y ihx ihy =>
    intro Q Q' ρ E G a w hf h hv hQ
    simp only [fitsV, Bool.and_eq_true] at hf
    unfold vwp at hv
    split at hv
    · rename_i t ht
      have hc := h.ev hf.1.1
      rw [ht] at hc
      refine wp_cond hc.bool_inv ?_
      split at hv
      · rename_i e; rw [if_pos e]; exact ihx Q Q' ρ E G a w hf.1.2 h hv hQ
      · rename_i e; rw [if_neg e]; exact ihy Q Q' ρ E G a w hf.2 h hv hQ
    · exact hv.elim
  | block id c ih =>
    intro Q Q' ρ E G a w hf h hv hQ
    refine wp_block (ih (vblock id Q) _ ρ E G a w hf h hv ?_)
    intro e ρ' E' G' a' w' h1 h2 h3
    cases e with
    | exit id' =>
      simp only [vblock] at h3
      simp only [Exit.inBlock]
      split at h3
      · rename_i e; rw [if_pos e]; exact hQ _ ρ' E' G' a' w' h1 h2 h3
      · rename_i e; rw [if_neg e]; exact hQ _ ρ' E' G' a' w' h1 h2 h3
    | _ => exact hQ _ ρ' E' G' a' w' h1 h2 h3
  | loop c ih =>
    intro Q Q' ρ E G a w hf h hv hQ
    obtain ⟨n, hn⟩ := hv
    let J : Nat → Act → World → Prop := fun n a w => ∃ ρ' E G, Rho.Le n0 ρ ρ' ∧ SRel N n0 ρ' E G a w ∧ vloopN (vwp P S T c) Q n E G
    refine wp_loop (fun a w => ∃ n, J n a w) (fun a w => least (fun n => J n a w)) ⟨n, ρ, E, G, Rho.Le.refl _ _, h, hn⟩ ?_
    rintro a w ⟨n, hJ⟩
    obtain ⟨⟨ρ1, E1, G1, h1, h2, h3⟩, hmin⟩ := least_spec (p := fun n => J n a w) hJ
    generalize hl : least (fun n => J n a w) = m at *
    cases m with
    | zero => exact h3.elim
    | succ m =>
      obtain ⟨E2, G2, hg, hb⟩ := h3
      obtain ⟨ρ2, g1, g2⟩ := hg N n0 ρ1 a w h2
      refine ih _ _ ρ2 E2 G2 a w hf g2 hb ?_
      intro e ρ' E' G' a' w' k1 k2 k3
      cases e with
      | normal =>
        have hj : J m a' w' := ⟨ρ', E', G', (h1.trans g1 (Nat.le_refl _)).trans k1 (Nat.le_refl _), k2, k3⟩
        exact ⟨⟨m, hj⟩, Nat.lt_succ_of_le ((least_spec (p := fun n => J n a' w') hj).2 m hj)⟩
      | _ => exact hQ _ ρ' E' G' a' w' ((h1.trans g1 (Nat.le_refl _)).trans k1 (Nat.le_refl _)) k2 k3
  | _ => intro Q Q' ρ E G a w hf h hv hQ; exact hv.elim
theorem vop_mono {op : Op} {E : Env} {G : Heap} {K K' : V → Heap → Prop} (hk : ∀ v G', K v G' → K' v G') (h : vop P S E G K op) : vop P S E G K' op := by
  unfold vop at *
  split at h
  · exact ⟨h.1, hk _ _ h.2⟩
  · exact vloud_mono hk h
theorem vstep_mono {ops : Array Oper} {o : Oper} {E : Env} {G : Heap} {K K' : Env → Heap → Prop} (hk : ∀ E' G', K E' G' → K' E' G') (h : vstep P S ops o E G K) : vstep P S ops o E G K' := by
  unfold vstep at *
  split at h
  · exact vop_mono (fun v G' => hk _ _) h
  · split at h
    · split at h
      · split at h
        · rename_i e; rw [if_pos e]; exact vop_mono (fun v G' => hk _ _) h
        · rename_i e; rw [if_neg e]; exact hk _ _ h
      · exact hk _ _ h
      · exact h
    · exact h
theorem vops_mono {ops : Array Oper} {K K' : Env → Heap → Prop} (hk : ∀ E' G', K E' G' → K' E' G') : ∀ {l : List Oper} {E : Env} {G : Heap}, vops P S ops l E G K → vops P S ops l E G K'
  | [], _, _, h => hk _ _ h
  | o :: rest, _, _, h => vstep_mono (fun E' G' h' => vops_mono hk h') h
theorem vopsD_mono {ops : Array Oper} {U : Rd} {K K' : Env → Heap → Prop} (hk : ∀ E' G', K E' G' → K' E' G') : ∀ {l : List (Nat × Oper)} {E : Env} {G : Heap} {rd : Rd}, vopsD P S ops U l E G rd K → vopsD P S ops U l E G rd K'
  | [], _, _, _, h => hk _ _ h
  | (k, o) :: rest, _, _, _, h => vstepD_mono (fun p hp => hp) (fun E' G' r r' hs h' => vopsD_mono hk (vopsD_sub hs h')) h
theorem vregion_mono {id : Nat} {ops : Array Oper} {draw : Bool} {E : Env} {G : Heap} {Q Q' : VPost} (hq : ∀ e E G, Q e E G → Q' e E G) (h : vregion P S T id ops draw Q E G) : vregion P S T id ops draw Q' E G := by
  unfold vregion at *
  cases draw
  · exact vops_mono (hq .normal) h
  · simp only at h ⊢
    cases hu : altOf (T.ord id).2 with
    | none => rw [hu] at h; exact vopsD_mono (hq .normal) h
    | some LA => rw [hu] at h; exact ⟨vopsD_mono (hq .normal) h.1, vopsD_mono (hq .normal) h.2⟩
theorem vthen_mono {K K' : Env → Heap → Prop} {Q Q' : VPost} (hk : ∀ E G, K E G → K' E G) (hq : ∀ e E G, Q e E G → Q' e E G) : ∀ e E G, vthen K Q e E G → vthen K' Q' e E G := by
  intro e E G h
  cases e <;> first | exact hk _ _ h | exact hq _ _ _ h
theorem vloopN_mono {body : VPost → Env → Heap → Prop} (hb : ∀ (Q Q' : VPost) (E : Env) (G : Heap), (∀ e E G, Q e E G → Q' e E G) → body Q E G → body Q' E G) {Q Q' : VPost} (hq : ∀ e E G, Q e E G → Q' e E G) : ∀ {n : Nat} {E : Env} {G : Heap}, vloopN body Q n E G → vloopN body Q' n E G
  | 0, _, _, h => h
  | n + 1, _, _, ⟨E1, G1, h1, h2⟩ => ⟨E1, G1, h1, hb _ _ _ _ (vthen_mono (fun E G h => vloopN_mono hb hq h) hq) h2⟩
theorem vwp_mono : ∀ {c : Code} {Q Q' : VPost} {E : Env} {G : Heap}, (∀ e E G, Q e E G → Q' e E G) → vwp P S T c Q E G → vwp P S T c Q' E G := by
  intro c
  induction c with
  | skip => intro Q Q' E G hq h; exact hq _ _ _ h
  | label l => intro Q Q' E G hq h; exact hq _ _ _ h
  | exit id => intro Q Q' E G hq h; exact hq _ _ _ h
  | ret => intro Q Q' E G hq h; exact hq _ _ _ h
  | region id ops draw =>
    intro Q Q' E G hq h
    unfold vwp at *
    split at h
    · obtain ⟨E1, G1, h1, h2⟩ := h; exact ⟨E1, G1, h1, vregion_mono hq h2⟩
    · exact vregion_mono hq h
  | seq x y ihx ihy => intro Q Q' E G hq h; exact ihx (vthen_mono (fun E G h => ihy hq h) hq) h
  | cond c x y ihx ihy =>
    intro Q Q' E G hq h
    simp only [vwp] at h ⊢
    split at h
    · split at h
      · rename_i e; rw [if_pos e]; exact ihx hq h
      · rename_i e; rw [if_neg e]; exact ihy hq h
    · exact h
  | block id c ih =>
    intro Q Q' E G hq h
    refine ih (fun e E G h => ?_) h
    cases e with
    | exit id' =>
      simp only [vblock] at *
      split at h
      · rename_i e; rw [if_pos e]; exact hq _ _ _ h
      · rename_i e; rw [if_neg e]; exact hq _ _ _ h
    | _ => exact hq _ _ _ h
  | loop c ih => intro Q Q' E G hq h; obtain ⟨n, hn⟩ := h; exact ⟨n, vloopN_mono (body := vwp P S T c) (fun Q Q' E G hq h => ih hq h) hq hn⟩
  | _ => intro Q Q' E G hq h; exact h.elim
theorem vloop_at {c : Code} {Q : VPost} {α : Type} (Ex : α → Env) (Gx : α → Heap) (μ : α → Nat) (x : α) {E : Env} {G : Heap} (h0 : Ghost E G (Ex x) (Gx x))
    (round : ∀ x, vwp P S T c (vthen (fun E' G' => ∃ y, μ y < μ x ∧ Ghost E' G' (Ex y) (Gx y)) Q) (Ex x) (Gx x)) : vwp P S T (.loop c) Q E G := by
  suffices key : ∀ (n : Nat) (x : α) (E : Env) (G : Heap), μ x < n → Ghost E G (Ex x) (Gx x) → vloopN (vwp P S T c) Q n E G from ⟨μ x + 1, key _ x E G (Nat.lt_succ_self _) h0⟩
  intro n
  induction n with
  | zero => intro x E G h; omega
  | succ n ih =>
    intro x E G hn hg
    exact ⟨_, _, hg, vwp_mono (vthen_mono (fun E' G' ⟨y, h1, h2⟩ => ih y E' G' (by omega) h2) (fun _ _ _ h => h)) (round x)⟩
def vres1 (P : Program) (E : Env) (G : Heap) : ResultVar → Option (Prop × V)
  | .tmp t => some (True, E t)
  | .cell a t => vload P t G (E a)
def vresL (P : Program) (E : Env) (G : Heap) : List ResultVar → Option (Prop × List V)
  | [] => some (True, [])
  | r :: rs => match vres1 P E G r, vresL P E G rs with
    | some (p, v), some (q, vs) => some (p ∧ q, v :: vs)
    | _, _ => none
def vone : List V → V
  | [v] => v
  | vs => .tup vs
def VDone (n0 : Nat) (v : V) (G : Heap) (R : V → Heap → Prop) : Prop := ∀ (ρ : Rho) (w : World) (x : Value), WRel ρ G w → n0 ≤ G.next → VR ρ G.next v x →
  ∃ ρ' v' G', Rho.Le n0 ρ ρ' ∧ WRel ρ' G' w ∧ n0 ≤ G'.next ∧ VR ρ' G'.next v' x ∧ R v' G'
def vpost (P : Program) (rs : List ResultVar) (n0 : Nat) (R : V → Heap → Prop) : VPost
  | .normal, E, G | .ret, E, G => match vresL P E G rs with
    | some (p, vs) => p ∧ VDone n0 (vone vs) G R
    | none => False
  | _, _, _ => False
def resFit (N : Nat) : ResultVar → Bool
  | .tmp t => decide (t < N)
  | .cell a _ => decide (a < N)
def resRun (tmps : Array Value) : ResultVar → Sem Value
  | .tmp t => pure (tmps.getD t undef)
  | .cell b t => do loadVar t (← asAddr (tmps.getD b undef))
theorem load_asAddr {ρ : Rho} {n : Nat} {t : TypeId} {G : Heap} {v : V} {A : Value} (hv : VR ρ n v A) (h : vload P t G v ≠ none) : (do loadVar t (← asAddr A)) = Instr.loadAt t A := by
  cases hv <;> first | rfl | (simp [vload] at h)
theorem vresL_ok {ρ : Rho} {E : Env} {G : Heap} {a : Act} {w : World} (h : SRel N n0 ρ E G a w) : ∀ {rs : List ResultVar} {p : Prop} {vs : List V}, rs.all (resFit N) = true → vresL P E G rs = some (p, vs) → p →
    ∃ xs, (rs.mapM (m := Sem) (resRun a.tmps)).run P w = .ok xs w ∧ VRs ρ G.next vs xs
  | [], p, vs, _, e, hp => by
    simp only [vresL, Option.some.injEq, Prod.mk.injEq] at e
    refine ⟨[], by simp [List.mapM_nil, Sem.run_pure], ?_⟩
    rw [← e.2]
    exact ⟨rfl, by simp⟩
  | r :: rs, p, vs, hf, e, hp => by
    simp only [List.all_cons, Bool.and_eq_true] at hf
    simp only [vresL] at e
    split at e
    · rename_i p1 v p2 vs2 e1 e2
      simp only [Option.some.injEq, Prod.mk.injEq] at e
      obtain ⟨rfl, rfl⟩ := e
      obtain ⟨xs, h1, h2⟩ := vresL_ok h hf.2 e2 hp.2
      have hx : ∃ x, (resRun a.tmps r).run P w = .ok x w ∧ VR ρ G.next v x := by
        cases r with
        | tmp t =>
          simp only [vres1, Option.some.injEq, Prod.mk.injEq] at e1
          refine ⟨a.tmps.getD t undef, by simp [resRun, Sem.run_pure], ?_⟩
          rw [← e1.2]
          exact h.slots t (by simpa [resFit] using hf.1)
        | cell b t =>
          simp only [vres1] at e1
          have hb := h.slots b (by simpa [resFit] using hf.1)
          obtain ⟨x, k1, k2⟩ := vload_ok (P := P) h.world hb e1 hp.1
          refine ⟨x, ?_, k2⟩
          rw [← load_asAddr hb (by rw [e1]; simp)] at k1
          exact k1
      obtain ⟨x, g1, g2⟩ := hx
      refine ⟨x :: xs, ?_, ?_⟩
      · rw [List.mapM_cons]
        simp only [Sem.run_bind, Sem.run_pure]
        rw [g1]
        simp only [Result.andThen_ok]
        rw [h1]
        rfl
      · refine ⟨by simp [h2.1], fun i v' x' e1 e2 => ?_⟩
        cases i with
        | zero => simp at e1 e2; exact e1 ▸ e2 ▸ g2
        | succ i => exact h2.2 i v' x' (by simpa using e1) (by simpa using e2)
    · cases e
theorem vend_ok {ρ : Rho} {E : Env} {G : Heap} {a : Act} {w : World} (h : SRel N n0 ρ E G a w) {fn : Func} (hr : fn.results.toList.all (resFit N) = true) {R : V → Heap → Prop} {p : Prop} {vs : List V} (e : vresL P E G fn.results.toList = some (p, vs)) (hp : p) (hd : VDone n0 (vone vs) G R) :
    ∃ x ρ' v' G', (results fn a.tmps).run P w = .ok x w ∧ Rho.Le n0 ρ ρ' ∧ WRel ρ' G' w ∧ n0 ≤ G'.next ∧ VR ρ' G'.next v' x ∧ R v' G' := by
  obtain ⟨xs, h1, h2⟩ := vresL_ok (P := P) h hr e hp
  have hv : VR ρ G.next (vone vs) (if h : xs.toArray.size = 1 then xs.toArray[0] else .tuple xs.toArray) := by
    unfold vone
    split
    · rename_i v
      have hl : xs.length = 1 := h2.1
      rw [dif_pos (by simpa using hl)]
      exact h2.2 0 v _ rfl (by simp)
    · rename_i hne
      have hl : ¬xs.length = 1 := by
        rw [h2.1]
        intro hl
        obtain ⟨v, hv⟩ := List.length_eq_one_iff.1 hl
        exact hne v hv
      rw [dif_neg (by simpa using hl)]
      exact .tup _ _ h2.1 h2.2
  obtain ⟨ρ', v', G', k1, k2, k3, k4, k5⟩ := hd ρ w _ h.world h.low hv
  refine ⟨_, ρ', v', G', ?_, k1, k2, k3, k4, k5⟩
  have hf : results fn a.tmps = (do let vs ← fn.results.mapM (resRun a.tmps); pure (if h : vs.size = 1 then vs[0] else .tuple vs)) := by
    unfold results
    congr 1
  rw [hf]
  simp only [Array.mapM_eq_mapM_toList, Sem.run_bind, Sem.run_map, h1, Result.andThen_ok, Sem.run_pure]
def envAt : Nat → List V → Env
  | _, [] => fun _ => .top
  | k, v :: r => fun t => if t = k then v else envAt (k + 1) r t
theorem envAt_ge : ∀ (l : List V) (k t : Nat), envAt k l t = if k ≤ t then l.getD (t - k) .top else .top
  | [], k, t => by simp [envAt]
  | v :: r, k, t => by
    simp only [envAt]
    rw [envAt_ge r (k + 1) t]
    by_cases h : t = k
    · subst h; simp
    · rw [if_neg h]
      by_cases h2 : k ≤ t
      · rw [if_pos h2, if_pos (by omega)]
        obtain ⟨d, rfl⟩ : ∃ d, t = k + 1 + d := ⟨t - (k + 1), by omega⟩
        rw [show k + 1 + d - (k + 1) = d by omega, show k + 1 + d - k = d + 1 by omega]
        simp
      · rw [if_neg h2, if_neg (by omega)]
def fnOk (P : Program) (f : FuncId) (T : Tab) (nargs : Nat) : Bool := isGo P f && match P.funcs[f]? with
  | some fn => (match fn.body with | some c => fitsV fn.ntmps T c | none => false) && fn.results.toList.all (resFit fn.ntmps) && decide (nargs ≤ fn.ntmps)
  | none => false
def fnWp (P : Program) (S : Specs) (f : FuncId) (T : Tab) (Q : List ResultVar → VPost) (E : Env) (G : Heap) : Prop := match P.funcs[f]? with
  | some fn => match fn.body with
    | some c => vwp P S T c (Q fn.results.toList) E G
    | none => False
  | none => False
theorem VCalls.of (hSp : SOk P S) (hm : P.follows .mixedOrders = true) {f : FuncId} {args : List V} {G : Heap} {R : V → Heap → Prop} (T : Tab) (hok : fnOk P f T args.length = true)
    (h : G.Wf → fnWp P S f T (fun rs => vpost P rs G.next R) (envAt 0 args) G) : VCalls P f args G R := by
  unfold fnOk at hok
  simp only [Bool.and_eq_true] at hok
  refine ⟨hok.1, fun ρ w xs hW hx => ?_⟩
  have h := h hW.heapWf
  unfold fnWp at h
  have hok := hok.2
  split at h
  · rename_i fn hfn
    rw [hfn] at hok
    split at h
    · rename_i c hc
      simp only [hc] at hok
      simp only [Bool.and_eq_true, decide_eq_true_eq] at hok
      obtain ⟨⟨h1, h2⟩, h3⟩ := hok
      refine calls_of_wp hfn hc ?_
      have hS : SRel fn.ntmps G.next ρ (envAt 0 args) G { tmps := xs.toArray ++ Array.replicate (fn.ntmps - xs.toArray.size) undef, defers := [] } w := by
        refine ⟨by simp [hx.1]; omega, rfl, fun t ht => ?_, hW, Nat.le_refl _⟩
        rw [envAt_ge]
        simp only [Nat.zero_le, if_true, Nat.sub_zero]
        rcases Nat.lt_or_ge t args.length with hlt | hge
        · have hx' : t < xs.length := by rw [hx.1]; exact hlt
          have := hx.2 t args[t] xs[t] (List.getElem?_eq_getElem hlt) (List.getElem?_eq_getElem hx')
          simp only [List.getD, List.getElem?_eq_getElem hlt, Option.getD_some, Array.getD_eq_getD_getElem?]
          rw [Array.getElem?_append_left (by simpa using hx')]
          simpa [hx'] using this
        · simp only [List.getD, List.getElem?_eq_none hge, Option.getD_none]
          exact .top _
      refine vwp_sound hSp hm c _ _ ρ _ G _ w h1 hS h ?_
      intro e ρ' E' G' a' w' g1 g2 g3
      have done : ∀ {E' : Env} {G' : Heap}, SRel fn.ntmps G.next ρ' E' G' a' w' → (match vresL P E' G' fn.results.toList with | some (p, vs) => p ∧ VDone G.next (vone vs) G' R | none => False) → a'.defers = [] ∧ ∃ v, (results fn a'.tmps).run P w' = .ok v w' ∧ ∃ x ρ'' u G'', Ending.returned v = .returned x ∧ WRel ρ'' G'' w' ∧ Rho.Le G.next ρ ρ'' ∧ G.next ≤ G''.next ∧ VR ρ'' G''.next u x ∧ R u G'' := by
        intro E' G' g2 g3
        split at g3
        · rename_i p vs hvs
          obtain ⟨x, ρ'', u, G'', k1, k2, k3, k4, k5, k6⟩ := vend_ok g2 h2 hvs g3.1 g3.2
          exact ⟨g2.defers, x, k1, x, ρ'', u, G'', rfl, k3, g1.trans k2 (Nat.le_refl _), k4, k5, k6⟩
        · exact g3.elim
      cases e with
      | normal => exact done g2 g3
      | ret => exact done g2 g3
      | _ => exact g3.elim
    · exact h.elim
  · exact h.elim
end
end Go.Vf
