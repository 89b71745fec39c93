/- A part of the proof: Ne, Nf. -/
import Derived.Test.YtkcdhmplinjldaaGreatDoorBANa
set_option linter.unusedVariables false
set_option linter.unusedSimpArgs false
namespace Go.Vf
open Go.Proofs Go.RowKit
theorem mustR_at (T : List Tok) (en : Int) (s : St) (ws : List (List UInt8)) : (mustR T en s ws).2.at_ = (takeR T s ws).2.at_ := by
  unfold mustR; split
  · unfold errsT; split <;> rfl
  · rfl
theorem mustR_goes {T : List Tok} {en : Int} {s : St} (h : s.at_ ≤ T.length) (ws : List (List UInt8)) : s.at_ ≤ (mustR T en s ws).2.at_ ∧ (mustR T en s ws).2.at_ ≤ T.length := by
  rw [mustR_at]; exact takeR_goes h ws
def relW : List (List UInt8) := [[60], [60, 61], [62], [62, 61], [61], [33, 61]]
def inW : List UInt8 := [105, 110]
def opW : List (List UInt8) := [[91], [40]]
def clW : List (List UInt8) := [[93], [41]]
def ddW : List (List UInt8) := [[46, 46]]
def inR (T : List Tok) (en : Int) (ex : Kid) (x : Ex) : Kid := fun s =>
  (Ex.mk 11 false 0 0 [] (decide ((mustR T en s opW).1 = [91])) (decide ((mustR T en (ex (mustR T en (ex (mustR T en s opW).2).2 ddW).2).2 clW).1 = [93]))
    [x, (ex (mustR T en s opW).2).1, (ex (mustR T en (ex (mustR T en s opW).2).2 ddW).2).1],
   (mustR T en (ex (mustR T en (ex (mustR T en s opW).2).2 ddW).2).2 clW).2)
theorem inR_goes {T : List Tok} {en : Int} {ex : Kid} (me : Goes T ex) (x : Ex) : Goes T (inR T en ex x) := fun s h => by
  unfold inR
  simp only
  have h1 := mustR_goes (T := T) (en := en) h opW
  have h2 := me _ h1.2
  have h3 := mustR_goes (T := T) (en := en) h2.2 ddW
  have h4 := me _ h3.2
  have h5 := mustR_goes (T := T) (en := en) h4.2 clW
  omega
def cmpR (T : List Tok) (en : Int) (add ex : Kid) : Kid := fun s =>
  if (takeR T (add s).2 relW).1 = [] then
    (if isR T (takeR T (add s).2 relW).2 inW = true then inR T en ex (add s).1 (nextS (takeR T (add s).2 relW).2)
    else ((add s).1, (takeR T (add s).2 relW).2))
  else (Ex.bin (takeR T (add s).2 relW).1 (add s).1 (add (takeR T (add s).2 relW).2).1, (add (takeR T (add s).2 relW).2).2)
theorem nextS_goes {T : List Tok} {s : St} {w : List UInt8} (h : isR T s w = true) : (nextS s).at_ ≤ T.length := (isR_lt h).2
theorem cmpR_goes {T : List Tok} {en : Int} {add ex : Kid} (ma : Goes T add) (me : Goes T ex) : Goes T (cmpR T en add ex) := fun s h => by
  have h1 := ma s h
  have h2 := takeR_goes (T := T) h1.2 relW
  have h4 := ma _ h2.2
  have hn : ∀ s : St, (nextS s).at_ = s.at_ + 1 := fun _ => rfl
  unfold cmpR
  split
  · split
    · rename_i c
      have hn' := hn (takeR T (add s).2 relW).2
      have := inR_goes (en := en) me (add s).1 _ (nextS_goes c)
      omega
    · simp only; omega
  · simp only; omega
def unaryR (T : List Tok) (en : Int) (d : Int) (un atom : Kid) : Kid := fun s =>
  if (deepI T en s d).err = 0 then
    (if isR T s [45] = true then (Ex.neg (un (nextS s)).1, (un (nextS s)).2) else atom s)
  else (Ex.zero, deepI T en s d)
theorem unaryR_goes {T : List Tok} {en : Int} {d : Int} {un atom : Kid} (mu : Goes T un) (ma : Goes T atom) : Goes T (unaryR T en d un atom) := fun s h => by
  unfold unaryR
  split
  · split
    · rename_i c
      have h1 : (nextS s).at_ = s.at_ + 1 := rfl
      have h2 := mu _ (nextS_goes c)
      simp only; omega
    · exact ma s h
  · simp only [deepI_at]; exact ⟨Nat.le_refl _, h⟩
theorem exprR_goes {T : List Tok} {en : Int} {d : Int} {kid : Kid} (mk : Goes T kid) : Goes T (exprR T en d kid) := fun s h => by
  unfold exprR
  split
  · exact rowP_goes mk (steps_take _ _) s h
  · simp only [deepI_at]; exact ⟨Nat.le_refl _, h⟩
end Go.Vf
set_option linter.unusedVariables false
set_option linter.unusedSimpArgs false
namespace Go.Vf
open Go.Proofs Go.RowKit
def rowGoR (T : List Tok) (en : Int) (ex : Kid) (cl : List UInt8) : Nat → List Ex → St → List Ex × St
  | 0, acc, s => (acc, s)
  | f + 1, acc, s => if (mustR T en (ex s).2 [[44], cl]).1 = [44] then rowGoR T en ex cl f (acc ++ [(ex s).1]) (mustR T en (ex s).2 [[44], cl]).2 else (acc ++ [(ex s).1], (mustR T en (ex s).2 [[44], cl]).2)
def rowR (T : List Tok) (en : Int) (ex : Kid) (cl : List UInt8) (s : St) : List Ex × St :=
  if isR T s cl = true then ([], nextS s) else rowGoR T en ex cl (T.length + 1) [] s
theorem rowGoR_goes {T : List Tok} {en : Int} {ex : Kid} (me : Goes T ex) (cl : List UInt8) : ∀ (f : Nat) (acc : List Ex) (s : St), s.at_ ≤ T.length → s.at_ ≤ (rowGoR T en ex cl f acc s).2.at_ ∧ (rowGoR T en ex cl f acc s).2.at_ ≤ T.length
  | 0, _, s, h => ⟨Nat.le_refl _, h⟩
  | f + 1, acc, s, h => by
    unfold rowGoR
    have h1 := me s h
    have h2 := mustR_goes (T := T) (en := en) (s := (ex s).2) h1.2 [[44], cl]
    split
    · have := rowGoR_goes (en := en) me cl f (acc ++ [(ex s).1]) _ h2.2
      omega
    · simp only; omega
theorem rowR_goes {T : List Tok} {en : Int} {ex : Kid} (me : Goes T ex) (cl : List UInt8) (s : St) (h : s.at_ ≤ T.length) : s.at_ ≤ (rowR T en ex cl s).2.at_ ∧ (rowR T en ex cl s).2.at_ ≤ T.length := by
  unfold rowR
  split
  · rename_i c
    have h1 : (nextS s).at_ = s.at_ + 1 := rfl
    have h2 := nextS_goes c
    simp only; omega
  · exact rowGoR_goes me cl _ _ _ h
end Go.Vf
