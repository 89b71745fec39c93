/- A part of the proof: Na, Nb, Nc, Nd. -/
import Derived.Test.YtkcdhmplinjldaaGreatDoorBAMh
set_option linter.unusedVariables false
set_option linter.unusedSimpArgs false
namespace Go.Vf
open Go.Proofs Go.RowKit
def rcells (T : List Tok) (en : Int) (s : St) : List V := [.sl 3 T.length (toksC T), .int .i64 s.at_, .int .i64 en, .int .i64 s.err, .int .i64 s.pos]
def ReaderAt (G : Heap) (id : Nat) (T : List Tok) (en : Int) (s : St) : Prop := G.get id = some (.cells 0 (rcells T en s)) ∧ T.length ≤ 1000 ∧ s.at_ ≤ T.length
theorem ReaderAt.put {G : Heap} {id : Nat} {T : List Tok} {en : Int} {s s' : St} (h : ReaderAt G id T en s) (h' : s'.at_ ≤ T.length) : ReaderAt (G.put id (.cells 0 (rcells T en s'))) id T en s' := ⟨by simp [Heap.put], h.2.1, h'⟩
def hereT (T : List Tok) (en : Int) (a : Nat) : Int := if a < T.length then (T.getD a ⟨0, [], 0⟩).pos else en
theorem errsT_here (T : List Tok) (en : Int) (s : St) (e : Int) : errsT T en s e = if s.err = 0 then ⟨s.at_, hereT T en s.at_, e⟩ else s := by
  unfold errsT hereT
  by_cases h : s.err = 0
  · simp [h]
  · simp [h]
end Go.Vf
set_option linter.unusedVariables false
set_option linter.unusedSimpArgs false
namespace Go.Vf
open Go.Proofs Go.RowKit
def isR (T : List Tok) (s : St) (w : List UInt8) : Bool := decide (s.err = 0) && (decide (s.at_ < T.length) && (decide ((T.getD s.at_ ⟨0, [], 0⟩).text = w) && (decide ((T.getD s.at_ ⟨0, [], 0⟩).kind = 4) || (decide ((T.getD s.at_ ⟨0, [], 0⟩).kind = 1) && wordR w))))
theorem isR_lt {T : List Tok} {s : St} {w : List UInt8} (h : isR T s w = true) : s.err = 0 ∧ s.at_ < T.length := by
  unfold isR at h
  simp only [Bool.and_eq_true, decide_eq_true_eq] at h
  exact ⟨h.1, h.2.1⟩
def takeR (T : List Tok) (s : St) : List (List UInt8) → List UInt8 × St
  | [] => ([], s)
  | w :: r => if isR T s w = true then (w, nextS s) else takeR T s r
theorem takeR_goes {T : List Tok} {s : St} (h : s.at_ ≤ T.length) : ∀ ws, s.at_ ≤ (takeR T s ws).2.at_ ∧ (takeR T s ws).2.at_ ≤ T.length
  | [] => ⟨Nat.le_refl _, h⟩
  | w :: r => by
    unfold takeR
    split
    · rename_i c
      have := (isR_lt c).2
      exact ⟨Nat.le_succ _, this⟩
    · exact takeR_goes h r
def mustR (T : List Tok) (en : Int) (s : St) (ws : List (List UInt8)) : List UInt8 × St := if (takeR T s ws).1 = [] then ((takeR T s ws).1, errsT T en (takeR T s ws).2 2) else takeR T s ws
end Go.Vf
set_option linter.unusedVariables false
set_option linter.unusedSimpArgs false
namespace Go.Vf
open Go.Proofs Go.RowKit
def opR (T : List Tok) (ws : List (List UInt8)) : St → List UInt8 × St := fun s => takeR T s ws
theorem takeR_adv {T : List Tok} {s : St} : ∀ ws, (takeR T s ws).1 ≠ [] → s.at_ < (takeR T s ws).2.at_
  | [], h => (h rfl).elim
  | w :: r, h => by
    unfold takeR at h ⊢
    split
    · exact Nat.lt_succ_self _
    · rename_i c
      rw [if_neg c] at h
      exact takeR_adv r h
theorem steps_take (T : List Tok) (ws : List (List UInt8)) : Steps T (opR T ws) := fun s h =>
  ⟨(takeR_goes h ws).1, (takeR_goes h ws).2, takeR_adv ws⟩
def sumsW : List (List UInt8) := [[43], [45]]
def productsW : List (List UInt8) := [[42], [47]]
end Go.Vf
set_option linter.unusedVariables false
set_option linter.unusedSimpArgs false
namespace Go.Vf
open Go.Proofs Go.RowKit
def deepI (T : List Tok) (en : Int) (s : St) (d : Int) : St := if 8 < d then errsT T en s 12 else s
theorem deepI_at (T : List Tok) (en : Int) (s : St) (d : Int) : (deepI T en s d).at_ = s.at_ := by unfold deepI errsT; split <;> rfl
theorem take1 (T : List Tok) (s : St) (w : List UInt8) : takeR T s [w] = if isR T s w = true then (w, nextS s) else ([], s) := rfl
def andW : List UInt8 := [97, 110, 100]
def orW : List UInt8 := [111, 114]
def exprR (T : List Tok) (en : Int) (d : Int) (kid : Kid) : Kid := fun s => if (deepI T en s d).err = 0 then rowP T kid (opR T [orW]) s else (Ex.zero, deepI T en s d)
end Go.Vf
