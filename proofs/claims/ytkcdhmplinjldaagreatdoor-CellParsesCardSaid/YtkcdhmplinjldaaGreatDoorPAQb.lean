/- A part of the proof: Qb. -/
import Derived.Test.YtkcdhmplinjldaaGreatDoorPAQa
import Derived.Test.YtkcdhmplinjldaaGreatDoorPAPa
import Derived.Test.YtkcdhmplinjldaaGreatDoorPAOh
set_option linter.unusedVariables false
set_option linter.unusedSimpArgs false
namespace Go.Vf
open Go.Proofs Go.RowKit
mutual
def smallE : Ex → Prop
  | .mk k b m s t lo hi ks => ks.length ≤ 2000 ∧ smallL ks
def smallL : List Ex → Prop
  | [] => True
  | a :: r => smallE a ∧ smallL r
end
mutual
theorem same_refl : ∀ a : Ex, sameE a a = true
  | .mk k b m s t lo hi ks => by
    rw [sameE, if_pos ⟨rfl, rfl⟩, sames_refl ks, Bool.and_true]
    unfold headE
    simp
theorem sames_refl : ∀ l : List Ex, sameL l l = true
  | [] => by rw [sameL]
  | a :: r => by rw [sameL, same_refl a, sames_refl r]; rfl
end
def Smalls (k : Kid) : Prop := ∀ s, smallE (k s).1
theorem small_zero : smallE Ex.zero := by unfold Ex.zero; rw [smallE, smallL]; exact ⟨by decide, trivial⟩
theorem small_leaf (k : Int) (b : Bool) (m s : Int) (t : List UInt8) : smallE (.mk k b m s t false false []) := by rw [smallE, smallL]; exact ⟨by decide, trivial⟩
theorem small_bin {op : List UInt8} {a b : Ex} (h1 : smallE a) (h2 : smallE b) : smallE (Ex.bin op a b) := by
  unfold Ex.bin; rw [smallE, smallL, smallL, smallL]; exact ⟨by simp, h1, h2, trivial⟩
theorem smallL_snoc : ∀ {l : List Ex} {x : Ex}, smallL l → smallE x → smallL (l ++ [x])
  | [], x, _, h => by rw [List.nil_append, smallL, smallL]; exact ⟨h, trivial⟩
  | a :: r, x, hl, h => by rw [smallL] at hl; rw [List.cons_append, smallL]; exact ⟨hl.1, smallL_snoc hl.2 h⟩
theorem rowGo_small {kid : Kid} {op : St → List UInt8 × St} (hk : Smalls kid) : ∀ (f : Nat) (x : Ex) (s : St), smallE x → smallE (rowGo kid op f x s).1
  | 0, x, s, h => h
  | f + 1, x, s, h => by
    unfold rowGo
    split
    · exact h
    · exact rowGo_small hk f _ _ (small_bin h (hk _))
theorem rowP_small {T : List Tok} {kid : Kid} {op : St → List UInt8 × St} (hk : Smalls kid) : Smalls (rowP T kid op) := fun s => rowGo_small hk _ _ _ (hk s)
theorem inR_small {T : List Tok} {en : Int} {ex : Kid} {x : Ex} (hk : Smalls ex) (hx : smallE x) : Smalls (inR T en ex x) := fun s => by
  unfold inR
  rw [smallE, smallL, smallL, smallL, smallL]
  exact ⟨by simp, hx, hk _, hk _, trivial⟩
theorem cmpR_small {T : List Tok} {en : Int} {add ex : Kid} (ha : Smalls add) (hk : Smalls ex) : Smalls (cmpR T en add ex) := fun s => by
  unfold cmpR
  split
  · split
    · exact inR_small hk (ha _) _
    · exact ha _
  · exact small_bin (ha _) (ha _)
theorem ifR_small {T : List Tok} {en : Int} {ex : Kid} (hk : Smalls ex) : Smalls (ifR T en ex) := fun s => by
  unfold ifR
  rw [smallE, smallL, smallL, smallL, smallL]
  exact ⟨by simp, hk _, hk _, hk _, trivial⟩
theorem rowGoR_small {T : List Tok} {en : Int} {ex : Kid} {cl : List UInt8} (hk : Smalls ex) : ∀ (f : Nat) (acc : List Ex) (s : St), smallL acc → smallL (rowGoR T en ex cl f acc s).1 ∧ (rowGoR T en ex cl f acc s).1.length ≤ acc.length + f
  | 0, acc, s, h => ⟨h, Nat.le_refl _⟩
  | f + 1, acc, s, h => by
    unfold rowGoR
    have h1 := smallL_snoc h (hk s)
    split
    · have := rowGoR_small (T := T) (en := en) (cl := cl) hk f (acc ++ [(ex s).1]) (mustR T en (ex s).2 [[44], cl]).2 h1
      rw [List.length_append] at this
      exact ⟨this.1, by simp at this; omega⟩
    · exact ⟨h1, by simp⟩
theorem rowR_small {T : List Tok} {en : Int} {ex : Kid} {cl : List UInt8} (hT : T.length ≤ 1000) (hk : Smalls ex) (s : St) (k : Int) (t : List UInt8) : smallE (.mk k false 0 0 t false false (rowR T en ex cl s).1) := by
  rw [smallE]
  unfold rowR
  split
  · exact ⟨by simp, trivial⟩
  · have := rowGoR_small (T := T) (en := en) (cl := cl) hk (T.length + 1) [] s trivial
    exact ⟨by have h := this.2; simp at h; omega, this.1⟩
theorem atomR_small {T : List Tok} {en : Int} {dec : List UInt8 → DecR} {ex : Kid} (hT : T.length ≤ 1000) (hk : Smalls ex) : Smalls (atomR T en dec ex) := fun s => by
  unfold atomR
  split
  · split
    · unfold atom1R
      split
      · unfold numR; split <;> exact small_leaf ..
      split
      · exact small_leaf ..
      split
      · unfold nameR
        split
        · exact rowR_small hT hk _ _ _
        · exact small_leaf ..
      · unfold atom2R
        split
        · exact small_leaf ..
        split
        · exact small_leaf ..
        split
        · exact small_leaf ..
        split
        · exact hk _
        split
        · exact rowR_small hT hk _ _ _
        split
        · exact ifR_small hk _
        · exact small_zero
    · exact small_zero
  · exact small_zero
theorem kidsR_small {T : List Tok} {en : Int} {dec : List UInt8 → DecR} (hT : T.length ≤ 1000) : ∀ n, Smalls (exR T en dec n) ∧ Smalls (unR T en dec n)
  | 0 => by rw [exR_zero, unR_zero]; exact ⟨fun s => small_zero, fun s => small_zero⟩
  | n + 1 => by
    have ih := kidsR_small (en := en) (dec := dec) hT n
    have hu : Smalls (unR T en dec (n + 1)) := by
      rw [unR_succ]
      intro s
      unfold unSR
      split
      · split
        · unfold Ex.neg; rw [smallE, smallL, smallL]; exact ⟨by simp, ih.2 _, trivial⟩
        · exact atomR_small hT ih.1 _
      · exact small_zero
    refine ⟨?_, hu⟩
    rw [exR_succ]
    intro s
    unfold exSR
    split
    · exact rowP_small (rowP_small (cmpR_small (rowP_small (rowP_small hu)) ih.1)) _
    · exact small_zero
theorem takeF_small {a : Nat} {r : Ex × St} (h : smallE r.1) : smallE (takeF a r).e := by
  unfold takeF; split
  · exact h
  · exact small_zero
theorem decB_at : RDecAt decA := fun t G ht => by
  have h := refdec_walk t ht G
  rw [← decA_eq] at h
  exact h
theorem decA_at : DecAt decA := fun t G ht => dec_walk t ht G
end Go.Vf
