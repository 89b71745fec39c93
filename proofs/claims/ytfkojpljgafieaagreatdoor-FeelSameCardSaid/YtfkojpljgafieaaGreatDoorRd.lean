/- FeelSame: an argument that reads as an expression is one. -/
import Derived.Test.YtfkojpljgafieaaGreatDoorRc
import Derived.ChangeArms
set_option linter.unusedVariables false
set_option linter.unusedSimpArgs false
namespace Go.Vf
open Go.Proofs Go.RowKit

/-- The first state, all that is there being as it is. -/
def rho1 (W : World) : Rho := ⟨W, fun b o => W.cell? ⟨b, o, none⟩, fun _ _ => none⟩
theorem spot_none {W : World} {a : Addr} {v : Value} (h : W.cell? a = some v) : a.spot = none := by
  unfold World.cell? at h
  split at h
  · split at h
    · cases h
    · rename_i c; simpa using c
  · cases h
theorem cell_add {W : World} {a : Addr} {k : Nat} {v : Value} (h : W.cell? (a.add k) = some v) : W.cell? ⟨a.block, a.off + k, none⟩ = some v := by
  have hs := spot_none h
  unfold Addr.add at h hs
  split at h
  · rename_i e
    rw [if_pos e] at hs
    subst e
    obtain ⟨b, o, s⟩ := a
    simp only at hs
    subst hs
    exact h
  · exact h
theorem add_parts (a : Addr) (k : Nat) : (a.add k).block = a.block ∧ (a.add k).off = a.off + k := by
  unfold Addr.add; split
  · rename_i e; subst e; exact ⟨rfl, rfl⟩
  · exact ⟨rfl, rfl⟩
theorem cells_get {W : World} {a : Addr} {n : Nat} {cs : List Value} (h : W.cells? 0 a n = some cs) : cs.length = n ∧ ∀ j v, cs[j]? = some v → W.cell? (a.add j) = some v := by
  unfold World.cells? at h
  rw [if_pos (Nat.zero_le _)] at h
  have hl : cs.length = n := by simpa using mapM_some_length h
  refine ⟨hl, fun j v hj => ?_⟩
  have hjn : j < n := by have := (List.getElem?_eq_some_iff.1 hj).1; omega
  have := mapM_some_get h j j (by simp [hjn])
  rw [this]; exact hj
theorem len8 {α : Type} {l : List α} (h : l.length = 8) : ∃ a b c d e f g i, l = [a, b, c, d, e, f, g, i] := by
  rcases l with _ | ⟨a, _ | ⟨b, _ | ⟨c, _ | ⟨d, _ | ⟨e, _ | ⟨f, _ | ⟨g, _ | ⟨i, _ | ⟨j, l⟩⟩⟩⟩⟩⟩⟩⟩⟩ <;> simp at h
  exact ⟨a, b, c, d, e, f, g, i, rfl⟩
theorem len7 {α : Type} {l : List α} (h : l.length = 7) : ∃ a b c d e f g, l = [a, b, c, d, e, f, g] := by
  rcases l with _ | ⟨a, _ | ⟨b, _ | ⟨c, _ | ⟨d, _ | ⟨e, _ | ⟨f, _ | ⟨g, _ | ⟨i, l⟩⟩⟩⟩⟩⟩⟩⟩ <;> simp at h
  exact ⟨a, b, c, d, e, f, g, rfl⟩
theorem len2 {α : Type} {l : List α} (h : l.length = 2) : ∃ a b, l = [a, b] := by
  rcases l with _ | ⟨a, _ | ⟨b, _ | ⟨c, l⟩⟩⟩ <;> simp at h
  exact ⟨a, b, rfl⟩
theorem fitL_snoc : ∀ {l : List Ex} {x : Ex}, fitL l → fitE x → fitL (l ++ [x])
  | [], x, _, h => by rw [List.nil_append, fitL, fitL]; exact ⟨h, trivial⟩
  | a :: r, x, hl, h => by rw [fitL] at hl; rw [List.cons_append, fitL]; exact ⟨hl.1, fitL_snoc hl.2 h⟩
theorem vr_string {ρ : Rho} {n : Nat} (s : ByteArray) : VR ρ n (.str s.data.toList) (.string s) := by
  have := VR.str (ρ := ρ) (n := n) s.data.toList
  simpa using this

set_option maxRecDepth 100000 in
theorem ex_of {H : Type} {enc : TypeId × Value → H} {W : World} {n : Nat} : ∀ (fuel : Nat) (cs : List Value) (x : DataW H × List MemPlace), DataW.trod enc Tryz.prog W 0 (fun _ => true) true fuel 26 cs = some x → ∃ e : Ex, fitE e ∧ VRs (rho1 W) n e.cells cs := by
  intro fuel
  induction fuel using Nat.strongRecOn with
  | ind fuel ih =>
    intro cs x h
    obtain ⟨xs, m, rfl, hx, hlen, hxl, hf⟩ := DataW.trod_struct Tryz.underlying26 h
    rw [c26] at hlen
    obtain ⟨v0, v1, v2, v3, v4, v5, v6, v7, rfl⟩ := len8 hlen
    have hxl : xs.length = 7 := hxl
    obtain ⟨x0, x1, x2, x3, x4, x5, x6, rfl⟩ := len7 hxl
    have f0 := hf 0 { name := "Kind", type := 3, offset := 0, embedded := false, tag := "", pkgPath := "", byteOffset := 0 } rfl
    have f1 := hf 1 { name := "B", type := 4, offset := 1, embedded := false, tag := "", pkgPath := "", byteOffset := 8 } rfl
    have f2 := hf 2 { name := "D", type := 23, offset := 2, embedded := false, tag := "", pkgPath := "", byteOffset := 16 } rfl
    have f3 := hf 3 { name := "T", type := 9, offset := 4, embedded := false, tag := "", pkgPath := "", byteOffset := 32 } rfl
    have f4 := hf 4 { name := "Lo", type := 4, offset := 5, embedded := false, tag := "", pkgPath := "", byteOffset := 48 } rfl
    have f5 := hf 5 { name := "Hi", type := 4, offset := 6, embedded := false, tag := "", pkgPath := "", byteOffset := 49 } rfl
    have f6 := hf 6 { name := "Kids", type := 24, offset := 7, embedded := false, tag := "", pkgPath := "", byteOffset := 56 } rfl
    have k3 : Tryz.prog.cellsOf 3 = 1 := c3
    have k4 : Tryz.prog.cellsOf 4 = 1 := by kernel_rfl
    have k9 : Tryz.prog.cellsOf 9 = 1 := c9
    have k24 : Tryz.prog.cellsOf 24 = 1 := by kernel_rfl
    simp only [k3, k4, k9, k24, c23, List.drop_zero, List.drop_succ_cons, List.take_succ_cons, List.take_zero, List.getElem?_cons_zero, List.getElem?_cons_succ] at f0 f1 f2 f3 f4 f5 f6
    obtain ⟨i0, e0, -, -⟩ := DataW.trod_int Tryz.underlying3 f0
    obtain ⟨b1, e1, -⟩ := DataW.trod_bool Tryz.underlying4 f1
    obtain ⟨ys, m2, -, -, hl2, hyl, hg⟩ := DataW.trod_struct Tryz.underlying23 f2
    have hyl : ys.length = 2 := hyl
    obtain ⟨y0, y1, rfl⟩ := len2 hyl
    have g0 := hg 0 { name := "M", type := 3, offset := 0, embedded := false, tag := "", pkgPath := "", byteOffset := 0 } rfl
    have g1 := hg 1 { name := "S", type := 3, offset := 1, embedded := false, tag := "", pkgPath := "", byteOffset := 8 } rfl
    simp only [k3, List.drop_zero, List.drop_succ_cons, List.take_succ_cons, List.take_zero, List.getElem?_cons_zero, List.getElem?_cons_succ] at g0 g1
    obtain ⟨i2, e2, -, -⟩ := DataW.trod_int Tryz.underlying3 g0
    obtain ⟨i3, e3, -, -⟩ := DataW.trod_int Tryz.underlying3 g1
    obtain ⟨s4, e4, -, -⟩ := DataW.trod_string Tryz.underlying9 f3
    obtain ⟨b5, e5, -⟩ := DataW.trod_bool Tryz.underlying4 f4
    obtain ⟨b6, e6, -⟩ := DataW.trod_bool Tryz.underlying4 f5
    cases e0
    cases e1
    cases e2
    cases e3
    cases e4
    cases e5
    cases e6
    have close : ∀ ks : List Ex, ks.length ≤ 9223372036854775807 → fitL ks → VR (rho1 W) n (.sl 8 ks.length (exsC ks)) v7 → ∃ e : Ex, fitE e ∧ VRs (rho1 W) n e.cells [.int .i64 i0, .bool b1, .int .i64 i2, .int .i64 i3, .string s4, .bool b5, .bool b6, v7] := fun ks h1 h2 h3 =>
      ⟨.mk i0 b1 i2 i3 s4.data.toList b5 b6 ks, by rw [fitE]; exact ⟨h1, h2⟩, by
        rw [Ex.cells]
        exact .cons (.int _ _) (.cons (.bool _) (.cons (.int _ _) (.cons (.int _ _) (.cons (vr_string _) (.cons (.bool _) (.cons (.bool _) (.cons h3 .nil)))))))⟩
    rcases DataW.trod_slice Tryz.underlying24 f6 with ⟨e7, -⟩ | ⟨a, len, cap, elems, rest, n', hm, e7, -, -, hle, hcap, hel, hget, -, -⟩
    · cases e7
      exact close [] (Nat.zero_le _) (by rw [fitL]; trivial) (.sl0 8 none 0)
    · cases e7
      have build : ∀ p, p ≤ len → ∃ (ks : List Ex) (zs : List Value), ks.length = p ∧ zs.length = p * 8 ∧ fitL ks ∧ VRs (rho1 W) n (exsC ks) zs ∧ ∀ j v, zs[j]? = some v → W.cell? ⟨a.block, a.off + j, none⟩ = some v := by
        intro p
        induction p with
        | zero => intro _; exact ⟨[], [], rfl, rfl, by rw [fitL]; trivial, by rw [exsC]; exact .nil, fun j v h => by cases h⟩
        | succ p ihp =>
          intro hp
          obtain ⟨ks, zs, h1, h2, h3, h4, h5⟩ := ihp (by omega)
          have hg := hget p (by omega)
          rw [c26, List.getElem?_eq_getElem (by omega), Option.bind_eq_some_iff] at hg
          obtain ⟨csi, hcs, htr⟩ := hg
          obtain ⟨e, he, hv⟩ := ih n' (by omega) csi _ htr
          obtain ⟨hc1, hc2⟩ := cells_get hcs
          refine ⟨ks ++ [e], zs ++ csi, by simp [h1], by rw [List.length_append, h2, hc1]; omega, fitL_snoc h3 he, by rw [exsC_snoc]; exact h4.append hv, fun j v hj => ?_⟩
          rcases Nat.lt_or_ge j zs.length with hjl | hjl
          · rw [List.getElem?_append_left hjl] at hj
            exact h5 j v hj
          · rw [List.getElem?_append_right hjl, h2] at hj
            have := cell_add (hc2 _ v hj)
            rw [(add_parts a (p * 8)).1, (add_parts a (p * 8)).2] at this
            have e : a.off + p * 8 + (j - p * 8) = a.off + j := by omega
            rw [e] at this
            exact this
      obtain ⟨ks, zs, h1, h2, h3, h4, h5⟩ := build len (Nat.le_refl _)
      have hcap' : cap ≤ 9223372036854775807 := hcap
      rcases Nat.eq_zero_or_pos len with h0 | h0
      · subst h0
        exact close [] (Nat.zero_le _) (by rw [fitL]; trivial) (.sl0 8 (some a) cap)
      · subst h1
        refine close ks (by omega) h3 ?_
        have hsp : a.spot = none := by
          have hg := hget 0 h0
          rw [c26, List.getElem?_eq_getElem (by omega), Option.bind_eq_some_iff] at hg
          obtain ⟨csi, hcs, -⟩ := hg
          obtain ⟨hc1, hc2⟩ := cells_get hcs
          have := spot_none (hc2 0 _ (List.getElem?_eq_getElem (by omega)))
          simpa [Addr.add] using this
        obtain ⟨ab, ao, asp⟩ := a
        simp only at hsp h5
        subst hsp
        have hl := exsC_len ks
        exact .sl 8 ks.length (exsC ks) zs ab ao cap (exsC_closed ks) hl hle (fun i v hi => h5 i v hi) h4.1 h4.2
end Go.Vf
