/- A part of the proof: Vm. -/
import Derived.Test.YtkcdhmplinjldaaGreatDoorBAVl
set_option linter.unusedVariables false
set_option linter.unusedSimpArgs false
namespace Go.Vf
open Go.RowKit
theorem VLe.trans {a b c : V} (h : VLe a b) (k : VLe b c) : VLe a c := fun ρ n x hx => k ρ n x (h ρ n x hx)
theorem VLe.nil_sl (sz : Nat) : VLe .nilsl (.sl sz 0 []) := fun ρ n x h => by cases h; exact .sl0 _ _ _
theorem VLe.slc_sl (sz n : Nat) (cs : List V) : VLe (.slc sz n cs) (.sl sz n cs) := fun ρ k x h => by
  cases h with
  | slc _ _ _ xs b o h1 h2 h3 h4 h5 => exact .sl _ _ _ xs b o n h1 h2 (Nat.le_refl _) h3 h4 h5
  | slc0 => exact .sl0 _ _ _
def VLes : List V → List V → Prop
  | [], [] => True
  | a :: x, b :: y => VLe a b ∧ VLes x y
  | _, _ => False
theorem VLes.refl : ∀ l, VLes l l
  | [] => trivial
  | a :: l => ⟨.refl a, VLes.refl l⟩
theorem VLes.append : ∀ {a b c d : List V}, VLes a b → VLes c d → VLes (a ++ c) (b ++ d)
  | [], [], _, _, _, h => h
  | _ :: _, _ :: _, _, _, h, k => ⟨h.1, VLes.append h.2 k⟩
theorem VLes.get : ∀ {a b : List V}, VLes a b → a.length = b.length ∧ ∀ (i : Nat) (u : V), b[i]? = some u → ∃ v, a[i]? = some v ∧ VLe v u
  | [], [], _ => ⟨rfl, fun i u h => by simp at h⟩
  | a :: x, b :: y, h => by
    obtain ⟨h1, h2⟩ := VLes.get h.2
    refine ⟨by simp [h1], fun i u hu => ?_⟩
    cases i with
    | zero => simp at hu; exact ⟨a, rfl, hu ▸ h.1⟩
    | succ i => exact h2 i u (by simpa using hu)
theorem VLes.vrs {ρ : Rho} {n : Nat} {a b : List V} {xs : List Value} (h : VLes a b) (k : VRs ρ n a xs) : VRs ρ n b xs := by
  obtain ⟨h1, h2⟩ := h.get
  refine ⟨k.1.trans h1, fun i u x e1 e2 => ?_⟩
  obtain ⟨v, hv, hle⟩ := h2 i u e1
  exact hle _ _ _ (k.2 i v x hv e2)
theorem VLe.agg {a b : List V} (h : VLes a b) : VLe (.agg a) (.agg b) := fun ρ n x hx => by
  cases hx with
  | agg _ xs h1 h2 =>
    have := h.vrs (xs := xs) ⟨h1, h2⟩
    exact .agg _ _ this.1 this.2
theorem VLe.tup {a b : List V} (h : VLes a b) : VLe (.tup a) (.tup b) := fun ρ n x hx => by
  cases hx with
  | tup _ xs h1 h2 =>
    have := h.vrs (xs := xs) ⟨h1, h2⟩
    exact .tup _ _ this.1 this.2
theorem VCalls.weak {P : Program} {f : FuncId} {us bs : List V} {G : Heap} {R : V → Heap → Prop} (h : VCalls P f bs G R) (hw : VLes us bs) : VCalls P f us G R :=
  ⟨h.1, fun ρ w xs hW hx => h.2 ρ w xs hW (hw.vrs hx)⟩
theorem Ghost.refl (E : Env) (G : Heap) : Ghost E G E G := fun N n0 ρ a w h => ⟨ρ, Rho.Le.refl _ _, h⟩
theorem Ghost.trans {E E1 E2 : Env} {G G1 G2 : Heap} (h : Ghost E G E1 G1) (k : Ghost E1 G1 E2 G2) : Ghost E G E2 G2 := fun N n0 ρ a w hS => by
  obtain ⟨ρ1, h1, h2⟩ := h N n0 ρ a w hS
  obtain ⟨ρ2, k1, k2⟩ := k N n0 ρ1 a w h2
  exact ⟨ρ2, h1.trans k1 (Nat.le_refl _), k2⟩
structure Sub (G G1 : Heap) : Prop where
  next : G1.next = G.next
  get : ∀ id b, G1.get id = some b → G.get id = some b
theorem Sub.refl (G : Heap) : Sub G G := ⟨rfl, fun _ _ h => h⟩
theorem Ghost.weak {E E1 : Env} {G G1 : Heap} (he : ∀ t, VLe (E t) (E1 t)) (hg : Sub G G1) : Ghost E G E1 G1 := fun N n0 ρ a w hS => by
  refine ⟨ρ, Rho.Le.refl _ _, hS.size, hS.defers, fun t ht => ?_, hS.world.drop hg.get ⟨fun {id b} e => ?_, fun {id b} e => ?_⟩, by rw [hg.next]; exact hS.low⟩
  · rw [hg.next]; exact he t _ _ _ (hS.slots t ht)
  · rw [hg.next]; exact hS.world.lt _ _ (hg.get _ _ e)
  · rw [hg.next]; exact hS.world.wf _ _ (hg.get _ _ e)
def keeps (E : Env) : List (Nat × V) → Prop
  | [] => True
  | (t, v) :: r => VLe (E t) v ∧ keeps E r
theorem keeps_of {E : Env} : ∀ {l : List (Nat × V)}, keeps E l → ∀ t, VLe (E t) (Env.of l t)
  | [], _, t => .top _
  | (d, v) :: r, h, t => by
    simp only [Env.of]
    split
    · rename_i e; subst e; exact h.1
    · exact keeps_of h.2 t
theorem Ghost.of {E : Env} {G G1 : Heap} {l : List (Nat × V)} (h : keeps E l) (hg : Sub G G1) : Ghost E G (Env.of l) G1 := .weak (keeps_of h) hg
theorem Ghost.own {E : Env} {G : Heap} (d sz : Nat) (h : E d = .nilsl) : Ghost E G (E.put d (.arr sz G.next 0 0 0)) (G.alloc (.cells 0 [])) := fun N n0 ρ a w hS => by
  have hle := Rho.set_le_new (n := G.next) ρ 0 .none (Nat.le_refl _)
  have hW := hS.world.new (blk := .cells 0 []) (Below.refl _ _) (r := .none) rfl (fun b cap e => by cases e) rfl
  refine ⟨_, hle.mono hS.low, hS.size, hS.defers, fun t ht => ?_, hW, Nat.le_trans hS.low (Nat.le_succ _)⟩
  by_cases e : t = d
  · subst e
    have hv := hS.slots t ht
    rw [h] at hv
    rw [Env.put_at, if_pos rfl]
    generalize a.tmps.getD t undef = x at hv ⊢
    cases hv
    exact .arr0 _ _ _ _ (Nat.lt_succ_self _) (Rho.set_same ..)
  · rw [Env.put_at, if_neg e]
    exact (hS.slots t ht).le hle (Nat.le_succ _)
def pub1 (id g : Nat) (cs : List V) : V → V
  | .arr sz id' g' off n => if id' = id ∧ g' = g ∧ off + n * sz ≤ cs.length then .sl sz n ((cs.drop off).take (n * sz)) else .arr sz id' g' off n
  | .ptr id' g' off => if id' = id ∧ g' = g then .iptr cs off else .ptr id' g' off
  | v => v
def pubV (id g : Nat) (cs : List V) : V → V
  | .agg l => .agg (l.map (pub1 id g cs))
  | .tup l => .tup (l.map fun v => match v with | .agg l => .agg (l.map (pub1 id g cs)) | v => pub1 id g cs v)
  | .iface t v => .iface t (pub1 id g cs v)
  | .func f a b => .func f (a.map (pub1 id g cs)) (b.map (pub1 id g cs))
  | v => pub1 id g cs v
theorem vrs_map {ρ ρ' : Rho} {n : Nat} {f : V → V} (hf : ∀ v x, VR ρ n v x → VR ρ' n (f v) x) {cs : List V} {xs : List Value} (h : ∀ (i : Nat) (v : V) (x : Value), cs[i]? = some v → xs[i]? = some x → VR ρ n v x) :
    ∀ (i : Nat) (v : V) (x : Value), (cs.map f)[i]? = some v → xs[i]? = some x → VR ρ' n v x := fun i v x e1 e2 => by
  simp only [List.getElem?_map, Option.map_eq_some_iff] at e1
  obtain ⟨u, hu, rfl⟩ := e1
  exact hf u x (h i u x hu e2)
theorem pub_ok {ρ : Rho} {G : Heap} {w : World} (hW : WRel ρ G w) {id g : Nat} {cs : List V} (hg : G.get id = some (.cells g cs)) (hc : V.closedL cs = true) (k : Nat) :
    ∃ ρ', Rho.Le k ρ ρ' ∧ WRel ρ' (G.del id) w ∧ ∀ v x, VR ρ G.next v x → VR ρ' G.next (pubV id g cs v) x := by
  obtain ⟨r, hr, hb⟩ := hW.live id _ hg
  simp only [Blk.gen] at hr
  have lift : ∀ ρ', (∀ n, Rho.Le n ρ ρ') → (∀ v x, VR ρ G.next v x → VR ρ' G.next (pub1 id g cs v) x) → ∀ v x, VR ρ G.next v x → VR ρ' G.next (pubV id g cs v) x := by
    intro ρ' hle h1 v x hv
    have hv0 := hv
    cases hv with
    | agg l xs hl h => exact .agg _ _ (by simpa using hl) (vrs_map h1 h)
    | tup l xs hl h =>
      refine .tup _ _ (by simpa using hl) (vrs_map (fun v x hv => ?_) h)
      have hv0 := hv
      cases hv with
      | agg l xs hl h => exact .agg _ _ (by simpa using hl) (vrs_map h1 h)
      | _ => exact h1 _ _ hv0
    | iface t v x h => exact .iface _ _ _ (h1 _ _ h)
    | func f a b xs ys ha hb h2 h3 => exact .func _ _ _ _ _ (by simpa using ha) (by simpa using hb) (vrs_map h1 h2) (vrs_map h1 h3)
    | _ => exact h1 _ _ hv0
  cases r with
  | none =>
    have hcs : cs = [] := hb
    subst hcs
    refine ⟨ρ, Rho.Le.refl _ _, hW.drop (fun i b e => ?_) ⟨fun {i b} e => ?_, fun {i b} e => ?_⟩, lift ρ (fun n => Rho.Le.refl _ _) ?_⟩
    · rw [Heap.del_get] at e
      split at e
      · cases e
      · exact e
    · rw [Heap.del_get] at e
      split at e
      · cases e
      · exact hW.lt _ _ e
    · rw [Heap.del_get] at e
      split at e
      · cases e
      · exact hW.wf _ _ e
    · intro v x hv
      have hv0 := hv
      cases hv with
      | arr sz id' g' off m b cap c h1 h2 h3 h4 =>
        simp only [pub1]
        split
        · rename_i e; obtain ⟨rfl, rfl, _⟩ := e; rw [hr] at h2; cases h2
        · exact .arr _ _ _ _ _ _ _ _ h1 h2 h3 h4
      | arr0 sz id' g' A h1 h2 =>
        simp only [pub1]
        split
        · simp only [Nat.zero_mul, List.drop_nil, List.take_nil]; exact .sl0 _ _ _
        · exact .arr0 _ _ _ _ h1 h2
      | ptr id' g' off b cap h1 h2 =>
        simp only [pub1]
        split
        · rename_i e; obtain ⟨rfl, rfl⟩ := e; rw [hr] at h2; cases h2
        · exact .ptr _ _ _ _ _ h1 h2
      | _ => exact hv0
  | pend => 
    refine ⟨ρ, Rho.Le.refl _ _, hW.drop (fun i b e => ?_) ⟨fun {i b} e => ?_, fun {i b} e => ?_⟩, lift ρ (fun n => Rho.Le.refl _ _) ?_⟩
    · rw [Heap.del_get] at e
      split at e
      · cases e
      · exact e
    · rw [Heap.del_get] at e
      split at e
      · cases e
      · exact hW.lt _ _ e
    · rw [Heap.del_get] at e
      split at e
      · cases e
      · exact hW.wf _ _ e
    · intro v x hv
      have hv0 := hv
      cases hv with
      | arr sz id' g' off m b cap c h1 h2 h3 h4 =>
        simp only [pub1]
        split
        · rename_i e; obtain ⟨rfl, rfl, _⟩ := e; rw [hr] at h2; cases h2
        · exact .arr _ _ _ _ _ _ _ _ h1 h2 h3 h4
      | arr0 sz id' g' A h1 h2 =>
        simp only [pub1]
        split
        · rename_i e; obtain ⟨rfl, rfl, _⟩ := e; rw [hr] at h2; cases h2
        · exact .arr0 _ _ _ _ h1 h2
      | ptr id' g' off b cap h1 h2 =>
        simp only [pub1]
        split
        · rename_i e; obtain ⟨rfl, rfl⟩ := e; rw [hr] at h2; cases h2
        · exact .ptr _ _ _ _ _ h1 h2
      | _ => exact hv0
  | «at» b cap =>
    obtain ⟨c, e, fz, h3, h4, h5, h6, h7⟩ := hb
    have hno := (hW.apart id _ b cap hg hr).2
    have hle : ∀ n, Rho.Le n ρ (ρ.lay b c.toList) := fun n => Rho.lay_le ρ b c.toList hno
    have imm : ∀ off k, IsImm (ρ.lay b c.toList) b off ((c.toList.drop off).take k) := fun off k i x hx => by
      rw [List.getElem?_take] at hx
      split at hx
      · simp only [Rho.lay, if_true]; rw [← hx]; simp
      · cases hx
    have cell : ∀ (i : Nat) (v : V) (x : Value), cs[i]? = some v → c.toList[i]? = some x → VR (ρ.lay b c.toList) G.next v x := fun i v x e1 e2 => (h6 i v x e1 (by simpa using e2)).le (hle _) (Nat.le_refl _)
    refine ⟨ρ.lay b c.toList, hle _, hW.lay hg hr (fun o x hx => ?_), lift _ hle ?_⟩
    · simp only [World.cell?, h3]; simpa using hx
    · intro v x hv
      have hv0 := hv
      cases hv with
      | arr sz id' g' off m b' cap' c' k1 k2 k3 k4 =>
        simp only [pub1]
        split
        · rename_i e; obtain ⟨rfl, rfl, hlen⟩ := e
          rw [hr] at k2; cases k2
          refine .sl _ _ _ ((c.toList.drop off).take (m * sz)) _ _ _ (closedL_take (closedL_drop hc _) _) (by simp; omega) k4 (imm _ _) (by simp; omega) fun i v x e1 e2 => ?_
          rw [List.getElem?_take] at e1 e2
          split at e1
          · rename_i hi
            rw [if_pos hi] at e2
            exact cell (off + i) v x (by simpa using e1) (by simpa using e2)
          · cases e1
        · exact hv0.le (hle _) (Nat.le_refl _)
      | arr0 sz id' g' A k1 k2 =>
        simp only [pub1]
        split
        · simp only [Nat.zero_mul, List.take_zero]; exact .sl0 _ _ _
        · exact hv0.le (hle _) (Nat.le_refl _)
      | ptr id' g' off b' cap' k1 k2 =>
        simp only [pub1]
        split
        · rename_i e; obtain ⟨rfl, rfl⟩ := e
          rw [hr] at k2; cases k2
          refine (VR.iptr cs off (c.toList.take cs.length) b 0 hc (fun i x hx => ?_) (by simp; omega) fun i v x e1 e2 => ?_).cast (by simp)
          · have := imm 0 cs.length i x (by simpa using hx)
            simpa using this
          · rw [List.getElem?_take] at e2
            split at e2
            · exact cell i v x e1 e2
            · cases e2
        · exact hv0.le (hle _) (Nat.le_refl _)
      | _ => exact hv0.le (hle _) (Nat.le_refl _)
theorem Ghost.pub {E : Env} {G : Heap} {id g : Nat} {cs : List V} (hg : G.get id = some (.cells g cs)) (hc : V.closedL cs = true) : Ghost E G (fun t => pubV id g cs (E t)) (G.del id) := fun N n0 ρ a w hS => by
  obtain ⟨ρ', h1, h2, h3⟩ := pub_ok hS.world hg hc n0
  exact ⟨ρ', h1, hS.size, hS.defers, fun t ht => h3 _ _ (hS.slots t ht), h2, hS.low⟩
section
variable {n0 : Nat} {v : V} {G : Heap} {R : V → Heap → Prop}
theorem VDone.ok (h : R v G) : VDone n0 v G R := fun ρ w x hW hn hv => ⟨ρ, v, G, Rho.Le.refl _ _, hW, hn, hv, h⟩
theorem VDone.weak {u : V} (hl : VLe v u) (h : VDone n0 u G R) : VDone n0 v G R := fun ρ w x hW hn hv => h ρ w x hW hn (hl _ _ _ hv)
theorem VDone.pub {id g : Nat} {cs : List V} (hg : G.get id = some (.cells g cs)) (hc : V.closedL cs = true) (h : VDone n0 (pubV id g cs v) (G.del id) R) : VDone n0 v G R := fun ρ w x hW hn hv => by
  obtain ⟨ρ', h1, h2, h3⟩ := pub_ok hW hg hc n0
  obtain ⟨ρ2, v', G', k1, k2, k3, k4, k5⟩ := h ρ' w x h2 hn (h3 _ _ hv)
  exact ⟨ρ2, v', G', h1.trans k1 (Nat.le_refl _), k2, k3, k4, k5⟩
theorem VDone.drop {G1 : Heap} (hs : ∀ id b, G1.get id = some b → G.get id = some b) (hw : G1.Wf) (hn1 : n0 ≤ G1.next) (hu : v.under G1.next = true) (h : VDone n0 v G1 R) : VDone n0 v G R := fun ρ w x hW hn hv =>
  h ρ w x (hW.drop hs hw) hn1 (hv.under _ hu)
theorem VDone.pure {G1 : Heap} (hs : ∀ id b, G1.get id = some b → G.get id = some b) (hw : G1.Wf) (hv : v.under G1.next = true) (h : R v G1) : VDone G1.next v G R :=
  .drop hs hw (Nat.le_refl _) hv (.ok h)
end
def Heap.over (G : Heap) (m : Nat) : List (Nat × Blk) → Heap
  | [] => ⟨m, G.get⟩
  | (i, b) :: l => ⟨m, fun j => if j = i then some b else (Heap.over G m l).get j⟩
theorem over_next (G : Heap) (m : Nat) (l : List (Nat × Blk)) : (G.over m l).next = m := by cases l <;> rfl
theorem over_nil (G : Heap) (m j : Nat) : (G.over m []).get j = G.get j := rfl
theorem over_cons (G : Heap) (m i : Nat) (b : Blk) (l : List (Nat × Blk)) (j : Nat) : (G.over m ((i, b) :: l)).get j = if j = i then some b else (G.over m l).get j := rfl
def tells (G : Heap) : List (Nat × Blk) → Prop
  | [] => True
  | (i, b) :: l => G.get i = some b ∧ tells G l
theorem over_sub {G G' : Heap} (hrest : ∀ id b, G.get id = some b → G'.get id = some b) : ∀ {m : Nat} {l : List (Nat × Blk)}, tells G' l → ∀ id b, (G.over m l).get id = some b → G'.get id = some b
  | m, [], _, id, b, h => hrest id b h
  | m, (i, c) :: l, hl, id, b, h => by
    rw [over_cons] at h
    split at h
    · rename_i e; subst e; cases h; exact hl.1
    · exact over_sub hrest hl.2 id b h
theorem Sub.over {G G' : Heap} (hG : G.Wf) {m : Nat} {l : List (Nat × Blk)} (hm : G'.next = m) (hl : tells G' l) (hrest : ∀ id, id < G.next → G'.get id = G.get id) : Sub G' (G.over m l) :=
  ⟨(over_next G m l).trans hm.symm, over_sub (fun id b h => by rw [hrest id (hG.lt h)]; exact h) hl⟩
theorem VDone.back {G0 G : Heap} {v u : V} (hG : G0.Wf) (hrest : ∀ id, id < G0.next → G.get id = G0.get id) (hv : v.under G0.next = true) (e : v = u) : VDone G0.next v G fun w H => w = u ∧ H = G0 :=
  .pure (fun id b h => by rw [hrest id (hG.lt h)]; exact h) hG hv ⟨e, rfl⟩
theorem vloop_by {P : Program} {S : Specs} {T : Tab} {c : Code} {Q : VPost} {t1 : Tag (vwp P S T c)} {t2 : Tag Q} {α : Type} (I : α → Prop) (Ex : α → Env) (Gx : α → Heap) (μ : α → Nat) (x : α) {E : Env} {G : Heap} (h0 : Ghost E G (Ex x) (Gx x)) (hI : I x)
    (round : ∀ x, I x → vwp P S T c (vthen (Held (fun E' G' => ∃ y, I y ∧ μ y < μ x ∧ Ghost E' G' (Ex y) (Gx y)) .mk) Q) (Ex x) (Gx x)) : vloop (Held (vwp P S T c) t1) (Held Q t2) E G := by
  refine vloop_at (T := T) (fun y : { y : α // I y } => Ex y.1) (fun y => Gx y.1) (fun y => μ y.1) ⟨x, hI⟩ h0 fun ⟨x, hx⟩ => ?_
  exact vwp_mono (vthen_mono (fun E' G' ⟨y, h1, h2, h3⟩ => ⟨⟨y, h1⟩, h2, h3⟩) (fun _ _ _ h => h)) (round x hx)
def vexit (id : Nat) (M : Env → Heap → Prop) (Q : VPost) : VPost
  | .exit id', E, G => if id' = id then M E G else Q (.exit id') E G
  | e, E, G => Q e E G
theorem vloop_to {P : Program} {S : Specs} {T : Tab} {c : Code} {Q : VPost} {t1 : Tag (vwp P S T c)} {t2 : Tag Q} (id : Nat) {α : Type} (I : α → Prop) (Ex : α → Env) (Gx : α → Heap) (μ : α → Nat) (x : α) (M : Env → Heap → Prop) {E : Env} {G : Heap} (h0 : Ghost E G (Ex x) (Gx x)) (hI : I x)
    (round : ∀ x, I x → vwp P S T c (vthen (Held (fun E' G' => ∃ y, I y ∧ μ y < μ x ∧ Ghost E' G' (Ex y) (Gx y)) .mk) (vexit id (Held M .mk) (Held Q .mk))) (Ex x) (Gx x))
    (after : ∀ E G, M E G → Q (.exit id) E G) : vloop (Held (vwp P S T c) t1) (Held Q t2) E G := by
  refine vloop_by I Ex Gx μ x h0 hI fun x hx => vwp_mono (vthen_mono (fun _ _ h => h) ?_) (round x hx)
  intro e E G h
  cases e with
  | exit id' =>
    simp only [vexit] at h
    split at h
    · rename_i e; subst e; exact after E G h
    · exact h
  | _ => exact h
theorem envAt_cons (k : Nat) (v : V) (r : List V) (t : Nat) : envAt k (v :: r) t = if t = k then v else envAt (k + 1) r t := rfl
theorem envAt_nil (k t : Nat) : envAt k [] t = .top := rfl
theorem heldE {K : Env → Heap → Prop} {t : Tag K} (E : Env) (G : Heap) : Held K t E G = K E G := rfl
theorem heldQ {K : VPost} {t : Tag K} (e : Exit) (E : Env) (G : Heap) : Held K t e E G = K e E G := rfl
def VPure (P : Program) (f : FuncId) (args : List V) (G : Heap) (v : V) : Prop := VCalls P f args G fun u G' => u = v ∧ G' = G
def Specs.add (S : Specs) (f : FuncId) (g : List V → Option (Prop × V)) : Specs := fun f' xs G => if f' = f then (g xs).map fun r => (r.1, r.2, G) else S f' xs G
theorem add_at (S : Specs) (f : FuncId) (g : List V → Option (Prop × V)) (f' : FuncId) (xs : List V) (G : Heap) : (S.add f g) f' xs G = if f' = f then (g xs).map fun r => (r.1, r.2, G) else S f' xs G := rfl
theorem SOk.add {P : Program} {S : Specs} (hS : SOk P S) {f : FuncId} {g : List V → Option (Prop × V)} (h : ∀ xs G p v, g xs = some (p, v) → p → VPure P f xs G v) : SOk P (S.add f g) := fun f' xs G p v G' e hp => by
  rw [add_at] at e
  split at e
  · rename_i ef; subst ef
    simp only [Option.map_eq_some_iff] at e
    obtain ⟨r, hr, er⟩ := e
    simp only [Prod.mk.injEq] at er
    obtain ⟨e1, e2, e3⟩ := er
    subst e1; subst e2; subst e3
    exact h xs G _ _ hr hp
  · exact hS f' xs G p v G' e hp
def Specs.none : Specs := fun _ _ _ => Option.none
theorem none_at (f : FuncId) (xs : List V) (G : Heap) : Specs.none f xs G = Option.none := rfl
theorem SOk.none (P : Program) : SOk P Specs.none := fun f xs G p v G' e => by cases e
theorem VPure.lift {P : Program} {f : FuncId} {args : List V} {G : Heap} {v : V} (hg : isGo P f = true) (h : ∀ (ρ : Rho) (w : World) (xs : List Value), WRel ρ G w → VRs ρ G.next args xs → Calls P f xs.toArray w fun e w' => ∃ x, e = .returned x ∧ w' = w ∧ VR ρ G.next v x) : VPure P f args G v :=
  ⟨hg, fun ρ w xs hW hx => (h ρ w xs hW hx).mono fun e w' ⟨x, e1, e2, e3⟩ => ⟨x, ρ, v, G, e1, e2 ▸ hW, Rho.Le.refl _ _, Nat.le_refl _, e3, rfl, rfl⟩⟩
theorem VPure.calls {P : Program} {f : FuncId} {args : List V} {G : Heap} {v : V} {K : V → Heap → Prop} (h : VPure P f args G v) (hk : K v G) : VCalls P f args G K := h.mono fun _ _ ⟨e1, e2⟩ => e1 ▸ e2 ▸ hk
end Go.Vf
