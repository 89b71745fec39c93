/- A part of the proof: Tj. -/
import Derived.Test.YtkcdhmplinjldaaGreatDoorBATh
import Derived.Test.YtkcdhmplinjldaaGreatDoorBARd
set_option linter.unusedVariables false
set_option linter.unusedSimpArgs false
namespace Go.Vf
open Go.Proofs Go.RowKit
set_option maxRecDepth 100000 in
theorem ints_of {H : Type} {enc : TypeId × Value → H} {W : World} {n : Nat} (fuel : Nat) (v : Value) (x : DataW H × List MemPlace) (h : DataW.trod enc Tryz.prog W 0 (fun _ => true) true fuel 46 [v] = some x) : ∃ l : List Int, l.length ≤ 9223372036854775807 ∧ VR (rho1 W) n (.sl 1 l.length (l.map (V.int .i64))) v := by
  have k3 : Tryz.prog.cellsOf 3 = 1 := c3
  rcases DataW.trod_slice Tryz.underlying46 h with ⟨e7, -⟩ | ⟨a, len, cap, elems, rest, n', hm, e7, -, -, hle, hcap, hel, hget, -, -⟩
  · cases e7
    exact ⟨[], by simp, .sl0 1 none 0⟩
  · cases e7
    have build : ∀ p, p ≤ len → ∃ (l : List Int) (zs : List Value), l.length = p ∧ zs.length = p ∧ VRs (rho1 W) n (l.map (V.int .i64)) zs ∧ ∀ j v, zs[j]? = some v → W.cell? ⟨a.block, a.off + j, none⟩ = some v := by
      intro p
      induction p with
      | zero => intro _; exact ⟨[], [], rfl, rfl, .nil, fun j v h => by cases h⟩
      | succ p ihp =>
        intro hp
        obtain ⟨l, zs, h1, h2, h4, h5⟩ := ihp (by omega)
        have hg := hget p (by omega)
        rw [k3, List.getElem?_eq_getElem (by omega), Option.bind_eq_some_iff] at hg
        obtain ⟨csi, hcs, htr⟩ := hg
        obtain ⟨hc1, hc2⟩ := cells_get hcs
        obtain ⟨c, rfl⟩ : ∃ c, csi = [c] := by
          rcases csi with _ | ⟨c, _ | ⟨d, r⟩⟩
          · simp at hc1
          · exact ⟨c, rfl⟩
          · simp at hc1
        obtain ⟨i0, e0, -, -⟩ := DataW.trod_int Tryz.underlying3 htr
        cases e0
        refine ⟨l ++ [i0], zs ++ [.int .i64 i0], by simp [h1], by simp [h2], by rw [List.map_append]; exact h4.append (.cons (.int _ _) .nil), fun j v hj => ?_⟩
        rcases Nat.lt_or_ge j zs.length with hjl | hjl
        · rw [List.getElem?_append_left hjl] at hj
          exact h5 j v hj
        · rw [List.getElem?_append_right hjl, h2] at hj
          have := cell_add (hc2 _ v hj)
          rw [(add_parts a (p * 1)).1, (add_parts a (p * 1)).2] at this
          have e : a.off + p * 1 + (j - p) = a.off + j := by omega
          rw [e] at this
          exact this
    obtain ⟨l, zs, h1, h2, h4, h5⟩ := build len (Nat.le_refl _)
    have hcap' : cap ≤ 9223372036854775807 := hcap
    rcases Nat.eq_zero_or_pos len with h0 | h0
    · subst h0
      exact ⟨[], by simp, .sl0 1 (some a) cap⟩
    · subst h1
      refine ⟨l, by omega, ?_⟩
      have hsp : a.spot = none := by
        have hg := hget 0 h0
        rw [k3, List.getElem?_eq_getElem (by omega), Option.bind_eq_some_iff] at hg
        obtain ⟨csi, hcs, -⟩ := hg
        obtain ⟨hc1, hc2⟩ := cells_get hcs
        have := spot_none (hc2 0 _ (List.getElem?_eq_getElem (by omega)))
        simpa [Addr.add] using this
      obtain ⟨ab, ao, asp⟩ := a
      simp only at hsp h5
      subst hsp
      exact .sl 1 l.length (l.map (V.int .i64)) zs ab ao cap (ints_closed l) (by simp) hle (fun i v hi => h5 i v hi) h4.1 h4.2
end Go.Vf
