/- A part of the proof: Vg4. -/
import Derived.Test.YtkcdhmplinjldaaGreatDoorBAVg1
import Derived.MapKept
set_option linter.unusedVariables false
set_option linter.unusedSimpArgs false
namespace Go.Vf
open Go.RowKit
def vkind (d : TypeDesc) : V → Bool
  | .bool _ => match d with | .bool => true | _ => false
  | .int k _ => match d with | .int k' => decide (k = k') | _ => false
  | .str _ => match d with | .string => true | _ => false
  | _ => false
def vkeq : V → V → Bool
  | .bool a, .bool b => decide (a = b)
  | .int _ a, .int _ b => decide (a = b)
  | .str a, .str b => decide (a = b)
  | _, _ => false
def vfind (k : V) : List (V × V × Nat) → Nat → Option (Nat × V)
  | [], _ => none
  | e :: r, i => if vkeq k e.1 = true then some (i, e.2.1) else vfind k r (i + 1)
def vkeys (d : TypeDesc) (es : List (V × V × Nat)) : Bool := es.all fun e => vkind d e.1
def vzeroV (P : Program) (t : TypeId) : Option V := match P.info? t with | some i => i.zero.map vconst | none => none
def vlooked (ok : Bool) (z : Option V) : Option (Nat × V) → Option V
  | some (_, v) => some (if ok = true then .tup [v, .bool true] else v)
  | none => z.map fun z => if ok = true then .tup [z, .bool false] else z
def vlookK (G : Heap) (K : V → Heap → Prop) : Option V → Prop | some v => K v G | none => False
def vupd (k x : V) (clock : Nat) (es : List (V × V × Nat)) : Option (Nat × V) → Blk
  | some (j, _) => .map (es.modify j fun e => (k, x, e.2.2)) clock
  | none => .map (es ++ [(k, x, clock)]) (clock + 1)
def vmapLook (P : Program) (G : Heap) (K : V → Heap → Prop) (ok : Bool) (k : V) : Option TypeDesc → V → Prop
  | some (.map kt et), .map id => match G.get id, P.underlying kt with
    | some (.map es _), some d => vkind d k = true ∧ vkeys d es = true ∧ vlookK G K (vlooked ok (vzeroV P et) (vfind k es 0))
    | _, _ => False
  | _, _ => False
def vmapTurn (P : Program) (G : Heap) (K : V → Heap → Prop) (k x : V) : Option TypeDesc → V → Prop
  | some (.map kt et), .map id => match G.get id, P.underlying kt with
    | some (.map es clock), some d => vkind d k = true ∧ vkeys d es = true ∧ K .top (G.put id (vupd k x clock es (vfind k es 0)))
    | _, _ => False
  | _, _ => False
def isMapOp : Op → Bool | .makeMap _ none | .lookup .. | .mapUpdate .. => true | _ => false
def vmap (P : Program) (E : Env) (G : Heap) (K : V → Heap → Prop) : Op → Prop
  | .makeMap _ none => K (.map G.next) (G.alloc (.map [] 0))
  | .lookup t x k ok => vmapLook P G K ok (vev E k) (P.underlying t) (vev E x)
  | .mapUpdate t m k x => vmapTurn P G K (vev E k) (vev E x) (P.underlying t) (vev E m)
  | _ => False
section
variable {P : Program} {N n0 : Nat} {ρ : Rho} {E : Env} {G : Heap} {a : Act} {w : World} {n : Nat}
theorem vkind_key {d : TypeDesc} {k : V} {K : Value} (h : VR ρ n k K) (hk : vkind d k = true) : MapKept.IsKey d K := by
  cases h <;> cases d <;> simp_all [vkind, MapKept.IsKey]
theorem str_ext {s t : List UInt8} (h : (⟨s.toArray⟩ : ByteArray) = ⟨t.toArray⟩) : s = t := by
  have := congrArg (fun b : ByteArray => b.data.toList) h
  simpa using this
theorem vkeq_iff {d : TypeDesc} {k e : V} {K X : Value} (h1 : VR ρ n k K) (h2 : VR ρ n e X) (k1 : vkind d k = true) (k2 : vkind d e = true) : vkeq k e = true ↔ X = K := by
  cases k with
  | bool x =>
    cases d <;> simp only [vkind] at k1 <;> first | (cases k1; done) | skip
    cases e with
    | bool y =>
      cases h1; cases h2
      simp only [vkeq, decide_eq_true_eq, Value.bool.injEq]
      exact eq_comm
    | _ => simp [vkind] at k2
  | int i x =>
    cases d <;> simp only [vkind] at k1 <;> first | (cases k1; done) | skip
    cases e with
    | int j y =>
      simp only [vkind, decide_eq_true_eq] at k1 k2
      subst k1; subst k2
      cases h1; cases h2
      simp only [vkeq, decide_eq_true_eq, Value.int.injEq, true_and]
      exact eq_comm
    | _ => simp [vkind] at k2
  | str x =>
    cases d <;> simp only [vkind] at k1 <;> first | (cases k1; done) | skip
    cases e with
    | str y =>
      cases h1; cases h2
      simp only [vkeq, decide_eq_true_eq, Value.string.injEq]
      exact ⟨fun h => by rw [h], fun h => (str_ext h).symm⟩
    | _ => simp [vkind] at k2
  | _ => simp [vkind] at k1
def Rows (ρ : Rho) (n : Nat) (es : List (V × V × Nat)) (xs : List MapEntry) : Prop :=
  xs.length = es.length ∧ ∀ (i : Nat) (e : V × V × Nat) (x : MapEntry), es[i]? = some e → xs[i]? = some x → VR ρ n e.1 x.key ∧ VR ρ n e.2.1 x.val ∧ x.born = e.2.2
theorem vfind_ok {d : TypeDesc} {k : V} {K : Value} (hk : VR ρ n k K) (kk : vkind d k = true) : ∀ (es : List (V × V × Nat)) (xs : List MapEntry) (i : Nat), Rows ρ n es xs → vkeys d es = true →
    (vfind k es i = none ∧ Instr.findNow d K xs i = some none) ∨ ∃ m e x, vfind k es i = some (i + m, e.2.1) ∧ es[m]? = some e ∧ xs[m]? = some x ∧ x.key = K ∧ Instr.findNow d K xs i = some (some (i + m, x.val))
  | [], xs, i, h, _ => by
    have : xs = [] := List.eq_nil_of_length_eq_zero (by rw [h.1]; rfl)
    subst this
    exact .inl ⟨rfl, rfl⟩
  | e :: r, [], i, h, _ => by have := h.1; simp at this
  | e :: r, x :: s, i, h, hks => by
    unfold vkeys at hks
    rw [List.all_cons, Bool.and_eq_true] at hks
    obtain ⟨g1, g2, g3⟩ := h.2 0 e x rfl rfl
    have hr : Rows ρ n r s := ⟨by have := h.1; simpa using this, fun j e' x' h1 h2 => h.2 (j + 1) e' x' h1 h2⟩
    obtain ⟨b, hb, hiff⟩ := MapKept.sameNow_of_keys (vkind_key hk kk) (vkind_key g1 hks.1)
    have heq := vkeq_iff hk g1 kk hks.1
    unfold vfind Instr.findNow
    rw [hb]
    cases b with
    | true =>
      have hx : x.key = K := (hiff.1 rfl).symm
      rw [if_pos (heq.2 hx)]
      exact .inr ⟨0, e, x, rfl, rfl, rfl, hx, rfl⟩
    | false =>
      have hne : ¬vkeq k e.1 = true := fun c => by have := hiff.2 (heq.1 c).symm; cases this
      rw [if_neg hne]
      rcases vfind_ok hk kk r s (i + 1) hr hks.2 with ⟨h1, h2⟩ | ⟨m, e', x', h1, h2, h3, h4, h5⟩
      · exact .inl ⟨h1, h2⟩
      · refine .inr ⟨m + 1, e', x', ?_, h2, h3, h4, ?_⟩
        · rw [h1]; congr 2; omega
        · simp only; rw [h5]; congr 3; omega
theorem vzero_ok {t : TypeId} {z : V} (h : vzeroV P t = some z) : ∃ zv, (zeroValue t).run P w = .ok zv w ∧ VR ρ n z zv := by
  unfold vzeroV at h
  split at h
  · rename_i i hi
    simp only [Option.map_eq_some_iff] at h
    obtain ⟨zv, hz, rfl⟩ := h
    exact ⟨zv, by simp [zeroValue, typeInfo, hi, hz], vconst_ok _ _ _⟩
  · cases h
theorem map_rows (hW : WRel ρ G w) {id : Nat} {X : Value} (hx : VR ρ G.next (.map id) X) {es : List (V × V × Nat)} {clock : Nat} (hg : G.get id = some (.map es clock)) :
    ∃ b xs, X = .map (some b) ∧ ρ.blk id 0 = some (.at b 0) ∧ w.heap[b]? = some (.map xs clock) ∧ Rows ρ G.next es xs.toList := by
  cases hx with
  | map _ b h1 h2 =>
    obtain ⟨r, k1, k2⟩ := hW.live _ _ hg
    simp only [Blk.gen] at k1
    rw [h2] at k1; cases k1
    obtain ⟨xs, g1, g2, g3⟩ := k2
    exact ⟨b, xs, rfl, h2, g1, by simpa using g2, fun i e x e1 e2 => g3 i e x e1 (by simpa using e2)⟩
theorem makeMap_ok (hW : WRel ρ G w) (hlow : n0 ≤ G.next) {t : TypeId} {K : V → Heap → Prop} (hK : K (.map G.next) (G.alloc (.map [] 0))) :
    LRun P n0 ρ w (do pure (Next.value (← Instr.makeMap t none))) K := by
  have g := hW.new (blk := .map [] 0) (r := .at w.heap.size 0) (below_alloc w (.map #[] 0)) ⟨#[], by show (w.heap.push _)[w.heap.size]? = _; simp, rfl, fun i e x h _ => by cases h⟩ (fun b cap e => by cases e; exact Nat.le_refl _) rfl
  refine ⟨_, _, _, _, g, (Rho.set_le_new (n := G.next) ρ 0 _ (Nat.le_refl _)).mono hlow, by simp; omega, hK, .inl ⟨.map (some w.heap.size), ?_, ?_⟩⟩
  · simp [Instr.makeMap]
  · exact .map _ _ (by simp) (Rho.set_same ..)
theorem lookup_ok (hW : WRel ρ G w) (hlow : n0 ≤ G.next) {t : TypeId} {x k : V} {X Kv : Value} (hx : VR ρ G.next x X) (hk : VR ρ G.next k Kv) {ok : Bool} {K : V → Heap → Prop} (h : vmapLook P G K ok k (P.underlying t) x) :
    LRun P n0 ρ w (do pure (Next.value (← Instr.lookup t X Kv ok))) K := by
  unfold vmapLook at h
  split at h
  · rename_i kt et id hu
    split at h
    · rename_i es clock d hg hd
      obtain ⟨h1, h2, h3⟩ := h
      obtain ⟨b, xs, rfl, hb, hw, hr⟩ := map_rows hW hx hg
      have hkey := vkind_key hk h1
      rcases vfind_ok hk h1 es xs.toList 0 hr h2 with ⟨f1, f2⟩ | ⟨m, e, y, f1, f2, f3, f4, f5⟩
      · rw [f1] at h3
        unfold vlooked at h3
        simp only at h3
        cases hz : vzeroV P et with
        | none => rw [hz] at h3; exact h3.elim
        | some z =>
          rw [hz] at h3
          obtain ⟨zv, z1, z2⟩ := vzero_ok (P := P) (ρ := ρ) (n := G.next) (w := w) hz
          cases ok with
          | false => exact ⟨w, ρ, _, G, hW, Rho.Le.refl _ _, hlow, h3, .inl ⟨zv, by simp [Instr.lookup, run_underlying hu, MapKept.run_getObj_map hw, MapKept.run_checkKey hd hkey, MapKept.run_findKey hd f2, z1, Result.andThen], z2⟩⟩
          | true => exact ⟨w, ρ, _, G, hW, Rho.Le.refl _ _, hlow, h3, .inl ⟨.tuple #[zv, .bool false], by simp [Instr.lookup, run_underlying hu, MapKept.run_getObj_map hw, MapKept.run_checkKey hd hkey, MapKept.run_findKey hd f2, z1, Result.andThen], (VRs.cons z2 (VRs.cons (.bool false) VRs.nil)).tup.cast (by simp)⟩⟩
      · rw [f1] at h3
        have hv := (hr.2 m e y f2 f3).2.1
        cases ok with
        | false => exact ⟨w, ρ, _, G, hW, Rho.Le.refl _ _, hlow, h3, .inl ⟨y.val, by simp [Instr.lookup, run_underlying hu, MapKept.run_getObj_map hw, MapKept.run_checkKey hd hkey, MapKept.run_findKey hd f5, Result.andThen], hv⟩⟩
        | true => exact ⟨w, ρ, _, G, hW, Rho.Le.refl _ _, hlow, h3, .inl ⟨.tuple #[y.val, .bool true], by simp [Instr.lookup, run_underlying hu, MapKept.run_getObj_map hw, MapKept.run_checkKey hd hkey, MapKept.run_findKey hd f5, Result.andThen], (VRs.cons hv (VRs.cons (.bool true) VRs.nil)).tup.cast (by simp)⟩⟩
    · exact h.elim
  · exact h.elim
theorem mapUpdate_ok (hW : WRel ρ G w) (hlow : n0 ≤ G.next) {t : TypeId} {m k x : V} {M Kv X : Value} (hm : VR ρ G.next m M) (hk : VR ρ G.next k Kv) (hx : VR ρ G.next x X) {K : V → Heap → Prop} (h : vmapTurn P G K k x (P.underlying t) m) :
    LRun P n0 ρ w (do Instr.mapUpdate t M Kv X; pure .skip) K := by
  unfold vmapTurn at h
  split at h
  · rename_i kt et id hu
    split at h
    · rename_i es clock d hg hd
      obtain ⟨h1, h2, h3⟩ := h
      obtain ⟨b, xs, rfl, hb, hw, hr⟩ := map_rows hW hm hg
      have hkey := vkind_key hk h1
      have hlt := (Array.getElem?_eq_some_iff.1 hw).1
      have hun := hW.wf _ _ hg
      have hku := hk.isUnder
      have hxu := hx.isUnder
      rcases vfind_ok hk h1 es xs.toList 0 hr h2 with ⟨f1, f2⟩ | ⟨j, e, y, f1, f2, f3, f4, f5⟩
      · rw [f1] at h3
        refine ⟨{ w with heap := w.heap.setIfInBounds b (.map (xs.push { key := Kv, val := X, born := clock }) (clock + 1)) }, ρ, .top, G.put id (.map (es ++ [(k, x, clock)]) (clock + 1)), ?_, Rho.Le.refl _ _, hlow, h3, .inr ⟨?_, .top _⟩⟩
        · refine hW.put (blk' := .map (es ++ [(k, x, clock)]) (clock + 1)) hg hb rfl rfl rfl (by simp) (fun q hq => by simp [Array.getElem?_setIfInBounds, Ne.symm hq]) rfl ?_ ?_
          · refine ⟨xs.push { key := Kv, val := X, born := clock }, by show (w.heap.setIfInBounds b _)[b]? = _; simp [hlt], by have := hr.1; simp at this ⊢; omega, fun i e' x' e1 e2 => ?_⟩
            have hl := hr.1
            have e2' : (xs.toList ++ [{ key := Kv, val := X, born := clock }])[i]? = some x' := by rw [← e2]; simp [← Array.getElem?_toList]
            rcases Nat.lt_or_ge i es.length with hi | hi
            · rw [List.getElem?_append_left hi] at e1
              rw [List.getElem?_append_left (by omega)] at e2'
              exact hr.2 i e' x' e1 e2'
            · rw [List.getElem?_append_right hi] at e1
              rw [List.getElem?_append_right (by omega), hl] at e2'
              rcases hq : i - es.length with _ | q
              · rw [hq] at e1 e2'
                cases e1; cases e2'
                exact ⟨hk, hx, rfl⟩
              · rw [hq] at e1; cases e1
          · unfold Blk.under at hun ⊢
            simp only [List.all_append, Bool.and_eq_true, List.all_cons, List.all_nil, Bool.and_true]
            exact ⟨hun, hku, hxu⟩
        · simp [Instr.mapUpdate, run_underlying hu, MapKept.run_getObj_map hw, MapKept.run_checkKey hd hkey, MapKept.run_findKey hd f2, MapKept.run_setObj_map _ hw, Result.andThen]
      · rw [f1] at h3
        rw [Nat.zero_add] at h3 f5
        have f3' : xs[j]? = some y := by simpa using f3
        refine ⟨{ w with heap := w.heap.setIfInBounds b (.map (xs.modify j fun e => { e with key := Kv, val := X }) clock) }, ρ, .top, G.put id (.map (es.modify j fun e => (k, x, e.2.2)) clock), ?_, Rho.Le.refl _ _, hlow, h3, .inr ⟨?_, .top _⟩⟩
        · refine hW.put (blk' := .map (es.modify j fun e => (k, x, e.2.2)) clock) hg hb rfl rfl rfl (by simp) (fun q hq => by simp [Array.getElem?_setIfInBounds, Ne.symm hq]) rfl ?_ ?_
          · refine ⟨xs.modify j fun e => { e with key := Kv, val := X }, by show (w.heap.setIfInBounds b _)[b]? = _; simp [hlt], by have := hr.1; simp at this ⊢; omega, fun i e' x' e1 e2 => ?_⟩
            rw [List.getElem?_modify] at e1
            rw [Array.getElem?_modify] at e2
            by_cases hij : j = i
            · subst hij
              rw [if_pos rfl, f3'] at e2
              rw [f2] at e1
              simp at e1 e2
              subst e1 e2
              exact ⟨hk, hx, (hr.2 j e y f2 f3).2.2⟩
            · rw [if_neg hij] at e2
              have e1' : es[i]? = some e' := by
                rcases h' : es[i]? with _ | q
                · rw [h'] at e1; simp at e1
                · rw [h'] at e1; simp [hij] at e1; rw [e1]
              exact hr.2 i e' x' e1' (by simpa using e2)
          · unfold Blk.under at hun ⊢
            rw [List.all_eq_true] at hun ⊢
            intro q hq
            obtain ⟨i, hi⟩ := List.getElem?_of_mem hq
            rw [List.getElem?_modify] at hi
            rcases h' : es[i]? with _ | q'
            · rw [h'] at hi; simp at hi
            · rw [h'] at hi
              have hq' := hun q' (List.mem_of_getElem? h')
              by_cases hij : j = i
              · subst hij
                simp at hi
                subst hi
                simp only [Bool.and_eq_true]
                exact ⟨hku, hxu⟩
              · simp [hij] at hi
                subst hi
                exact hq'
        · simp [Instr.mapUpdate, run_underlying hu, MapKept.run_getObj_map hw, MapKept.run_checkKey hd hkey, MapKept.run_findKey hd f5, f3', f4, MapKept.run_keyThatStays hkey, MapKept.run_setObj_map _ hw, Result.andThen]
    · exact h.elim
  · exact h.elim
theorem vmap_ok (hs : SRel N n0 ρ E G a w) {o : Oper} (hf : Op.fits N o.op = true) {K : V → Heap → Prop} (h : vmap P E G K o.op) : LRun P n0 ρ w (execOp a.eval o) K := by
  obtain ⟨dst, op, type, pos, after, guard⟩ := o
  have hW := hs.world
  have hlow := hs.low
  have one : ∀ {x : Operand}, Operand.fits N x = true → VR ρ G.next (vev E x) (a.eval x) := fun hx => hs.ev hx
  unfold Op.fits at hf
  simp only at h hf
  cases op with
  | makeMap t r =>
    cases r with
    | none => simp only [vmap] at h; simp only [execOp]; exact makeMap_ok hW hlow h
    | some r => simp [vmap] at h
  | lookup t x k ok =>
    simp only [vmap] at h
    simp only [Op.operands] at hf
    simp only [execOp]
    simp only [List.all_cons, List.all_nil, Bool.and_true, Bool.and_eq_true] at hf
    exact lookup_ok hW hlow (one hf.1) (one hf.2) h
  | mapUpdate t m k x =>
    simp only [vmap] at h
    simp only [Op.operands] at hf
    simp only [execOp]
    simp only [List.all_cons, List.all_nil, Bool.and_true, Bool.and_eq_true] at hf
    exact mapUpdate_ok hW hlow (one hf.1) (one hf.2.1) (one hf.2.2) h
  | _ => simp [vmap] at h
end
end Go.Vf
