/- The quiet operations, one by one: slices of slices and texts, lengths, conversions, what is built. -/
import Derived.Test.YtdplbmooogglaaaDoorVf2
set_option linter.unusedVariables false
set_option linter.unusedSimpArgs false
namespace Go.Vf
open Go.RowKit

section
variable {P : Program} {ρ : Rho} {G : Heap} {w : World} {n : Nat}

theorem extract_mk (s : List UInt8) (i j : Nat) : (⟨s.toArray⟩ : ByteArray).extract i j = ⟨((s.take j).drop i).toArray⟩ := by
  apply ByteArray.ext
  simp [List.drop_take]

theorem vindex_ok {t : TypeId} {a i : V} {A I : Value} {p : Prop} {v : V} (ha : VR ρ n a A) (hI : VR ρ n i I) (h : vindex P t a i = some (p, v)) (hp : p) :
    ∃ x, (Instr.index t A I).run P w = .ok x w ∧ VR ρ n v x := by
  unfold vindex at h
  split at h
  · rename_i s k j hu
    simp only [Option.some.injEq, Prod.mk.injEq] at h
    obtain ⟨rfl, rfl⟩ := h
    obtain rfl := ha.str_inv
    obtain rfl := hI.int_inv
    have hj : j.toNat < s.length := by omega
    refine ⟨.int .u8 (s[j.toNat].toNat : Int), ?_, ?_⟩
    · simp only [Instr.index, Sem.run_bind, asIntOf, Sem.run_pure, Result.andThen_ok, run_und hu, if_pos hp.1]
      have : (⟨s.toArray⟩ : ByteArray)[j.toNat]? = some s[j.toNat] := by
        show (if h : j.toNat < (⟨s.toArray⟩ : ByteArray).size then some _ else none) = _
        rw [dif_pos (by rw [size_mk]; exact hj)]
        rfl
      simp [this]
    · rw [List.getD_eq_getElem?_getD, List.getElem?_eq_getElem hj]
      exact .int _ _
  · cases h

def OptR (ρ : Rho) (n : Nat) (lo : Option V) (LO : Option Value) : Prop := match lo, LO with | none, none => True | some v, some x => VR ρ n v x | _, _ => False

theorem vlow_inv {lo : Option V} {LO : Option Value} {l : Int} (h : vlow lo = some l) (hr : OptR ρ n lo LO) :
    (lo = none ∧ LO = none ∧ l = 0) ∨ ∃ k, lo = some (.int k l) ∧ LO = some (.int k l) := by
  cases lo with
  | none => cases LO with
    | none => simp [vlow] at h; exact .inl ⟨rfl, rfl, h.symm⟩
    | some _ => exact hr.elim
  | some v => cases LO with
    | none => exact hr.elim
    | some x => cases v <;> simp [vlow] at h
                subst h; obtain rfl := VR.int_inv hr; exact .inr ⟨_, rfl, rfl⟩
theorem vhigh_inv {m : Nat} {hi : Option V} {HI : Option Value} {l : Int} (h : vhigh m hi = some l) (hr : OptR ρ n hi HI) :
    (hi = none ∧ HI = none ∧ l = m) ∨ ∃ k, hi = some (.int k l) ∧ HI = some (.int k l) := by
  cases hi with
  | none => cases HI with
    | none => simp [vhigh] at h; exact .inl ⟨rfl, rfl, h.symm⟩
    | some _ => exact hr.elim
  | some v => cases HI with
    | none => exact hr.elim
    | some x => cases v <;> simp [vhigh] at h
                subst h; obtain rfl := VR.int_inv hr; exact .inr ⟨_, rfl, rfl⟩

theorem bounds_none {isS : Bool} {len cap : Nat} {lo hi : Option V} {LO HI : Option Value} {l h : Int} (hl : vlow lo = some l) (hh : vhigh len hi = some h)
    (hlo : OptR ρ n lo LO) (hhi : OptR ρ n hi HI)
    (h0 : 0 ≤ l) (h1 : l ≤ h) (h2 : h ≤ (len : Int)) (hc : len ≤ cap) : (Instr.sliceBounds isS len cap LO HI none).run P w = .ok (l.toNat, h.toNat, cap) w := by
  rcases vlow_inv hl hlo with ⟨rfl, rfl, rfl⟩ | ⟨k, rfl, rfl⟩ <;> rcases vhigh_inv hh hhi with ⟨rfl, rfl, rfl⟩ | ⟨k', rfl, rfl⟩
  · simp [Instr.sliceBounds]
  · have : (0 : Int) ≤ h := by omega
    have h3 : h ≤ (cap : Int) := by omega
    simp [Instr.sliceBounds, Instr.sliceBound, asIntOf, this, h3]
  · simp [Instr.sliceBounds, Instr.sliceBound, asIntOf, h0, h1]
  · have : (0 : Int) ≤ h := by omega
    have h3 : h ≤ (cap : Int) := by omega
    have h4 : l ≤ max h 0 := by omega
    simp [Instr.sliceBounds, Instr.sliceBound, asIntOf, this, h3, h0, h4]
theorem bounds_max {isS : Bool} {len cap : Nat} {lo hi : Option V} {LO HI : Option Value} {l h m : Int} {kk : IntKind} (hl : vlow lo = some l) (hh : vhigh len hi = some h)
    (hlo : OptR ρ n lo LO) (hhi : OptR ρ n hi HI) (his : hi.isSome = true)
    (h0 : 0 ≤ l) (h1 : l ≤ h) (h2 : h ≤ (len : Int)) (hm : m = h) (hc : len ≤ cap) : (Instr.sliceBounds isS len cap LO HI (some (.int kk m))).run P w = .ok (l.toNat, h.toNat, h.toNat) w := by
  subst hm
  have hm0 : (0 : Int) ≤ m := by omega
  have hm1 : m ≤ (cap : Int) := by omega
  have hm2 : m ≤ max m 0 := by omega
  have hm3 : l ≤ max m 0 := by omega
  rcases vhigh_inv hh hhi with ⟨rfl, rfl, rfl⟩ | ⟨k', rfl, rfl⟩
  · cases his
  rcases vlow_inv hl hlo with ⟨rfl, rfl, rfl⟩ | ⟨k, rfl, rfl⟩
  · simp [Instr.sliceBounds, Instr.sliceBound, asIntOf, hm0, hm1, hm2]
  · simp [Instr.sliceBounds, Instr.sliceBound, asIntOf, hm0, hm1, hm2, h0, hm3]


theorem vdrop_eq {α : Type} {k : Nat} {lo : Option V} {l : Int} (h : vlow lo = some l) (xs : List α) : vdrop k lo xs = xs.drop (l.toNat * k) := by
  cases lo with
  | none => simp [vlow] at h; subst h; simp [vdrop]
  | some v => cases v <;> simp [vlow] at h; subst h; simp [vdrop]
theorem vtake_eq {α : Type} {k m : Nat} {hi : Option V} {h : Int} (hh : vhigh m hi = some h) (xs : List α) (hx : xs.length = m * k) : vtake k hi xs = xs.take (h.toNat * k) := by
  cases hi with
  | none => simp [vhigh] at hh; subst hh; simp [vtake, ← hx]
  | some v => cases v <;> simp [vhigh] at hh; subst hh; simp [vtake]
theorem vless_eq {m : Nat} {lo hi : Option V} {l h : Int} (hl : vlow lo = some l) (hh : vhigh m hi = some h) : vless m lo hi = h.toNat - l.toNat := by
  cases lo with
  | none =>
    simp [vlow] at hl; subst hl
    cases hi with
    | none => simp [vhigh] at hh; subst hh; simp [vless]
    | some v => cases v <;> simp [vhigh] at hh; subst hh; simp [vless]
  | some u =>
    cases u <;> simp [vlow] at hl
    subst hl
    cases hi with
    | none => simp [vhigh] at hh; subst hh; simp [vless]
    | some v => cases v <;> simp [vhigh] at hh; subst hh; simp [vless]

theorem SlOk.cut {sz m : Nat} {cells : List V} {A : Option Addr} (hs : SlOk ρ n sz m cells A) {l h : Nat} (h1 : l ≤ h) (h2 : h ≤ m) (mm : Nat) (hmm' : h ≤ mm) :
    SlOk ρ n sz (h - l) ((cells.take (h * sz)).drop (l * sz)) (if mm = l then A else A.map (·.add (l * sz))) ∨ h = l := by
  by_cases he : h = l
  · exact .inr he
  left
  have hlen : ((cells.take (h * sz)).drop (l * sz)).length = (h - l) * sz := by
    rw [List.length_drop, List.length_take, hs.len, Nat.sub_mul, Nat.min_eq_left (Nat.mul_le_mul_right sz h2)]
  refine ⟨closedL_drop (closedL_take hs.closed _) _, hlen, ?_⟩
  rcases hs.place with rfl | ⟨b, o, xs, rfl, hi, hv⟩
  · left; simp
  · right
    by_cases hmm : mm = l
    · omega
    · refine ⟨b, o + l * sz, (xs.take (h * sz)).drop (l * sz), by simp [hmm], (hi.take _).drop _, (hv.take _).drop _⟩

theorem slice_run {t e : TypeId} (ht : P.underlying t = some (.slice e)) (hi : (P.info? e).isSome = true) {A : Option Addr} {len cap l h m : Nat} {LO HI MX : Option Value} (hb : (Instr.sliceBounds true len cap LO HI MX).run P w = .ok (l, h, m) w) :
    (Instr.sliceAt t (.slice A len cap) LO HI MX).run P w = .ok (.slice (if m = l then A else A.map (·.add (l * P.cellsOf e))) (h - l) (m - l)) w := by
  simp only [Instr.sliceAt, Sem.run_bind, run_und ht, Result.andThen_ok, Instr.slice, hb, run_sizeOf hi, Sem.run_pure]

theorem cut_nil {α : Type} (xs : List α) (a sz : Nat) : (xs.take (a * sz)).drop (a * sz) = [] := by
  apply List.drop_eq_nil_of_le
  rw [List.length_take]; omega

theorem SlOk.cut_sl {sz m : Nat} {cells : List V} {A : Option Addr} (hs : SlOk ρ n sz m cells A) {l h : Nat} (h1 : l ≤ h) (h2 : h ≤ m) (hz : 0 < sz) {mm : Nat} (hmm : h ≤ mm) :
    VR ρ n (.sl sz (h - l) ((cells.take (h * sz)).drop (l * sz))) (.slice (if mm = l then A else A.map (·.add (l * sz))) (h - l) (mm - l)) := by
  rcases hs.cut h1 h2 mm hmm with k | rfl
  · refine k.sl (by omega) fun e => ?_
    have := k.len
    rw [e, List.length_nil] at this
    rcases Nat.mul_eq_zero.1 this.symm with h' | h' <;> omega
  · rw [cut_nil, Nat.sub_self]; exact .sl0 _ _ _
theorem SlOk.cut_slc {sz m : Nat} {cells : List V} {A : Option Addr} (hs : SlOk ρ n sz m cells A) {l h : Nat} (h1 : l ≤ h) (h2 : h ≤ m) (hz : 0 < sz) :
    VR ρ n (.slc sz (h - l) ((cells.take (h * sz)).drop (l * sz))) (.slice (if h = l then A else A.map (·.add (l * sz))) (h - l) (h - l)) := by
  rcases hs.cut h1 h2 h (Nat.le_refl _) with k | rfl
  · refine k.slc fun e => ?_
    have := k.len
    rw [e, List.length_nil] at this
    rcases Nat.mul_eq_zero.1 this.symm with h' | h' <;> omega
  · rw [cut_nil, Nat.sub_self]; exact .slc0 _ _

theorem vslice_ok {t : TypeId} {a : V} {A : Value} {lo hi mx : Option V} {LO HI MX : Option Value} {p : Prop} {v : V} (ha : VR ρ n a A) (hlo : OptR ρ n lo LO) (hhi : OptR ρ n hi HI) (hmx : OptR ρ n mx MX)
    (h : vslice P t a lo hi mx = some (p, v)) (hp : p) : ∃ x, (Instr.sliceAt t A LO HI MX).run P w = .ok x w ∧ VR ρ n v x := by
  have nomax : mx = none → MX = none := fun e => by subst e; cases MX with | none => rfl | some _ => exact hmx.elim
  have ismax : ∀ {k i}, mx = some (.int k i) → MX = some (.int k i) := fun {k i} e => by
    subst e; cases MX with
    | none => exact hmx.elim
    | some x => rw [VR.int_inv (show VR ρ n (.int k i) x from hmx)]
  have sls : ∀ {sz m cap : Nat} {cells : List V} {B : Option Addr} {e : TypeId} {l h : Int}, SlOk ρ n sz m cells B → m ≤ cap → telem P t = some e → P.cellsOf e = sz → (P.info? e).isSome = true → 0 < sz → vlow lo = some l → vhigh m hi = some h →
      0 ≤ l → l ≤ h → h ≤ (m : Int) → MX = none → ∃ x, (Instr.sliceAt t (.slice B m cap) LO HI MX).run P w = .ok x w ∧ VR ρ n (.sl sz (vless m lo hi) (vdrop sz lo (vtake sz hi cells))) x :=
    fun {sz m cap cells B e l h} hs hcap he hz hi' hpos el eh h0 h1 h2 hm => by
      subst hm; subst hz
      refine ⟨_, slice_run (telem_inv he) hi' (bounds_none el eh hlo hhi h0 h1 h2 hcap), ?_⟩
      rw [vdrop_eq el, vtake_eq eh cells hs.len, vless_eq el eh]
      exact hs.cut_sl (by omega) (by omega) hpos (by omega)
  have slcs : ∀ {sz m cap : Nat} {cells : List V} {B : Option Addr} {e : TypeId} {l h mm : Int} {kk : IntKind}, SlOk ρ n sz m cells B → m ≤ cap → telem P t = some e → P.cellsOf e = sz → (P.info? e).isSome = true → 0 < sz → vlow lo = some l → vhigh m hi = some h → hi.isSome = true →
      0 ≤ l → l ≤ h → h ≤ (m : Int) → mm = h → MX = some (.int kk mm) → ∃ x, (Instr.sliceAt t (.slice B m cap) LO HI MX).run P w = .ok x w ∧ VR ρ n (.slc sz (vless m lo hi) (vdrop sz lo (vtake sz hi cells))) x :=
    fun {sz m cap cells B e l h mm kk} hs hcap he hz hi' hpos el eh his h0 h1 h2 hmm hm => by
      subst hm; subst hz
      refine ⟨_, slice_run (telem_inv he) hi' (bounds_max el eh hlo hhi his h0 h1 h2 hmm hcap), ?_⟩
      rw [vdrop_eq el, vtake_eq eh cells hs.len, vless_eq el eh]
      exact hs.cut_slc (by omega) (by omega) hpos
  unfold vslice at h
  split at h
  · -- a text
    rename_i s
    split at h
    · rename_i l hh hu el eh
      simp only [Option.some.injEq, Prod.mk.injEq] at h
      obtain ⟨rfl, rfl⟩ := h
      obtain rfl := ha.str_inv
      obtain rfl := nomax rfl
      refine ⟨.string ⟨((s.take hh.toNat).drop l.toNat).toArray⟩, ?_, ?_⟩
      · simp only [Instr.sliceAt, Sem.run_bind, run_und hu, Result.andThen_ok, Instr.slice, Option.isSome_none, Bool.false_eq_true, if_false, Sem.run_pure]
        rw [bounds_none (n := n) (ρ := ρ) el (by rw [size_mk]; exact eh) hlo hhi hp.1 hp.2.1 (by rw [size_mk]; exact hp.2.2) (Nat.le_refl _)]
        simp only [Result.andThen_ok, Sem.run_pure, extract_mk]
      · rw [vdrop_eq el, vtake_eq eh s (by simp), Nat.mul_one, Nat.mul_one]
        exact .str _
    · cases h
  · -- nil
    split at h
    · rename_i e l hh he el eh
      by_cases hinf : (P.info? e).isSome = true
      case neg => rw [if_neg hinf] at h; cases h
      rw [if_pos hinf] at h
      simp only [Option.some.injEq, Prod.mk.injEq] at h
      obtain ⟨rfl, rfl⟩ := h
      obtain rfl : A = .slice none 0 0 := by cases ha; rfl
      obtain rfl := nomax rfl
      obtain ⟨rfl, rfl⟩ := hp
      refine ⟨.slice none 0 0, ?_, .nilsl⟩
      have hu := telem_inv he
      simp only [Instr.sliceAt, Sem.run_bind, run_und hu, Result.andThen_ok, Instr.slice]
      rw [bounds_none (n := n) (ρ := ρ) el eh hlo hhi (by omega) (by omega) (by omega) (Nat.le_refl _)]
      simp only [Result.andThen_ok, Int.toNat_zero, run_sizeOf hinf, Sem.run_pure]
      simp
    · cases h
  · rename_i sz m cells
    obtain ⟨B, cap, rfl, hcap, hs⟩ := ha.sl_inv
    split at h
    · rename_i e l hh he el eh
      split at h
      · rename_i hc
        simp only [Option.some.injEq, Prod.mk.injEq] at h
        obtain ⟨rfl, rfl⟩ := h
        exact sls hs hcap he hc.1 hc.2.1 hc.2.2 el eh hp.1 hp.2.1 hp.2.2 (nomax rfl)
      · cases h
    · rename_i e l hh k mm he el eh
      split at h
      · rename_i hc
        simp only [Option.some.injEq, Prod.mk.injEq] at h
        obtain ⟨rfl, rfl⟩ := h
        exact slcs hs hcap he hc.1 hc.2.1 hc.2.2.1 el eh hc.2.2.2 hp.1 hp.2.1 hp.2.2.1 hp.2.2.2 (ismax rfl)
      · cases h
    · cases h
  · rename_i sz m cells
    obtain ⟨B, rfl, hs⟩ := ha.slc_inv
    split at h
    · rename_i e l hh he el eh
      split at h
      · rename_i hc
        simp only [Option.some.injEq, Prod.mk.injEq] at h
        obtain ⟨rfl, rfl⟩ := h
        cases hi with
        | some u => simp only [Option.isNone_some, Bool.false_eq_true, if_false]; exact sls hs (Nat.le_refl _) he hc.1 hc.2.1 hc.2.2 el eh hp.1 hp.2.1 hp.2.2 (nomax rfl)
        | none =>
          obtain rfl : HI = none := by cases HI with | none => rfl | some _ => exact hhi.elim
          obtain rfl := nomax rfl
          obtain rfl : hh = (m : Int) := by simp [vhigh] at eh; exact eh.symm
          obtain rfl := hc.1
          simp only [Option.isNone_none, if_true]
          refine ⟨_, slice_run (telem_inv he) hc.2.1 (bounds_none (n := n) (ρ := ρ) el eh hlo trivial hp.1 hp.2.1 hp.2.2 (Nat.le_refl _)), ?_⟩
          rw [vdrop_eq el, vless_eq el eh]
          have := hs.cut_slc (l := l.toNat) (h := m) (by omega) (Nat.le_refl _) hc.2.2
          rw [List.take_of_length_le (by rw [hs.len]; exact Nat.le_refl _)] at this
          simpa using this
      · cases h
    · rename_i e l hh k mm he el eh
      split at h
      · rename_i hc
        simp only [Option.some.injEq, Prod.mk.injEq] at h
        obtain ⟨rfl, rfl⟩ := h
        exact slcs hs (Nat.le_refl _) he hc.1 hc.2.1 hc.2.2.1 el eh hc.2.2.2 hp.1 hp.2.1 hp.2.2.1 hp.2.2.2 (ismax rfl)
      · cases h
    · cases h
  · rename_i sz id g off m
    split at h
    · rename_i e l hh he el eh
      split at h
      · rename_i hc
        simp only [Option.some.injEq, Prod.mk.injEq] at h
        obtain ⟨rfl, rfl⟩ := h
        obtain rfl := hc.1
        obtain rfl := nomax rfl
        have key : ∀ {B : Option Addr} {c : Nat}, m ≤ c → (Instr.sliceAt t (.slice B m c) LO HI none).run P w = .ok (.slice (if c = l.toNat then B else B.map (·.add (l.toNat * P.cellsOf e))) (hh.toNat - l.toNat) (c - l.toNat)) w :=
          fun {B c} hm => slice_run (telem_inv he) hc.2.1 (bounds_none (n := n) (ρ := ρ) el eh hlo hhi hp.1 hp.2.1 hp.2.2.1 hm)
        rw [vless_eq el eh]
        cases ha with
        | arr _ _ _ _ _ b cap c h1 h2 h3 h4 =>
          refine ⟨_, key h4, ?_⟩
          have hle : l.toNat * P.cellsOf e ≤ c * P.cellsOf e := Nat.mul_le_mul_right _ (by omega)
          refine (VR.arr (P.cellsOf e) id g (off + l.toNat * P.cellsOf e) (hh.toNat - l.toNat) b cap (c - l.toNat) h1 h2 (by rw [Nat.sub_mul]; omega) (by omega)).cast ?_
          by_cases hcl : c = l.toNat
          · rcases hp.2.2.2 with hl0 | hl1
            · subst hl0; simp
            · omega
          · simp [hcl]
        | arr0 _ _ _ B h1 h2 =>
          refine ⟨_, key (Nat.le_refl _), ?_⟩
          have : l.toNat = 0 := by omega
          have h' : hh.toNat = 0 := by omega
          simp only [this, h', Nat.zero_mul, Nat.add_zero, Nat.sub_self]
          exact .arr0 _ _ _ _ h1 h2
      · cases h
    · cases h
  · cases h
end
end Go.Vf
