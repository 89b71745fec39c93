/- A part of the proof: Ra. -/
import Derived.Test.YtkcdhmplinjldaaGreatDoorPAQb
set_option linter.unusedVariables false
set_option linter.unusedSimpArgs false
namespace Go.Vf
open Go.Proofs Go.RowKit
mutual
def fitE : Ex → Prop
  | .mk k b m s t lo hi ks => ks.length ≤ 9223372036854775807 ∧ fitL ks
def fitL : List Ex → Prop
  | [] => True
  | a :: r => fitE a ∧ fitL r
end
mutual
theorem dsame_walk : ∀ (a b : Ex), fitE a → ∀ G, VPure Tryz.prog 29 [.agg a.cells, .agg b.cells] G (.bool (sameE a b))
  | .mk k b m s t lo hi ks, .mk k' b' m' s' t' lo' hi' ks', h, G => by
    rw [fitE] at h
    exact same_walk0 k b m s t lo hi ks k' b' m' s' t' lo' hi' ks' h.1 (fun i h1 h2 G => dsames_walk ks h.2 i h1 _ G) G
theorem dsames_walk : ∀ (l : List Ex), fitL l → ∀ (i : Nat) (h : i < l.length) (b : Ex) (G : Heap), VPure Tryz.prog 29 [.agg l[i].cells, .agg b.cells] G (.bool (sameE l[i] b))
  | a :: r, hs, 0, _, b, G => by rw [fitL] at hs; exact dsame_walk a b hs.1 G
  | a :: r, hs, i + 1, h, b, G => by rw [fitL] at hs; exact dsames_walk r hs.2 i (by simpa using h) b G
end
end Go.Vf
