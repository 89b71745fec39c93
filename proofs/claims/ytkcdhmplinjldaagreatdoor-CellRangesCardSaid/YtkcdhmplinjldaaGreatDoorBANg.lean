/- A part of the proof: Ng, Nh, Ni. -/
import Derived.Test.YtkcdhmplinjldaaGreatDoorBANe
set_option linter.unusedVariables false
set_option linter.unusedSimpArgs false
namespace Go.Vf
open Go.Proofs Go.RowKit
def parB : List UInt8 := [40]
def braB : List UInt8 := [91]
def atW : List (List UInt8) := [trueB, falseB, nullB, parB, braB, ifB]
def ifR (T : List Tok) (en : Int) (ex : Kid) : Kid := fun s =>
  (Ex.mk 8 false 0 0 [] false false [(ex s).1, (ex (mustR T en (ex s).2 [thenB]).2).1, (ex (mustR T en (ex (mustR T en (ex s).2 [thenB]).2).2 [elseB]).2).1], (ex (mustR T en (ex (mustR T en (ex s).2 [thenB]).2).2 [elseB]).2).2)
def atom2R (T : List Tok) (en : Int) (ex : Kid) (w : List UInt8) : Kid := fun s =>
  if w = trueB then (.mk 2 true 0 0 [] false false [], s)
  else if w = falseB then (.mk 2 false 0 0 [] false false [], s)
  else if w = nullB then (.mk 1 false 0 0 [] false false [], s)
  else if w = parB then ((ex s).1, (mustR T en (ex s).2 [[41]]).2)
  else if w = braB then (.mk 9 false 0 0 [] false false (rowR T en ex [93] s).1, (rowR T en ex [93] s).2)
  else if w = ifB then ifR T en ex s
  else (Ex.zero, s)
def numR (T : List Tok) (en : Int) (decR : List UInt8 → DecR) (w : List UInt8) : Kid := fun s =>
  if (decR w).err = 0 then (.mk 3 false (decR w).m (decR w).s [] false false [], nextS s)
  else (.mk 3 false (decR w).m (decR w).s [] false false [], nextS (errsT T en s (decR w).err))
def nameR (T : List Tok) (en : Int) (ex : Kid) (w : List UInt8) : Kid := fun s =>
  if isR T (nextS s) [40] = true then (.mk 10 false 0 0 w false false (rowR T en ex [41] (nextS (nextS s))).1, (rowR T en ex [41] (nextS (nextS s))).2)
  else (.mk 5 false 0 0 w false false [], nextS s)
def atom1R (T : List Tok) (en : Int) (decR : List UInt8 → DecR) (ex : Kid) (t : Tok) : Kid := fun s =>
  if t.kind = 2 then numR T en decR t.text s
  else if t.kind = 3 then (.mk 4 false 0 0 t.text false false [], nextS s)
  else if t.kind = 1 ∧ wordR t.text = false then nameR T en ex t.text s
  else atom2R T en ex (mustR T en s atW).1 (mustR T en s atW).2
def atomR (T : List Tok) (en : Int) (decR : List UInt8 → DecR) (ex : Kid) : Kid := fun s =>
  if s.err = 0 then (if s.at_ < T.length then atom1R T en decR ex (T.getD s.at_ ⟨0, [], 0⟩) s else (Ex.zero, errsT T en s 2)) else (Ex.zero, errsT T en s 2)
theorem errsT_at (T : List Tok) (en : Int) (s : St) (e : Int) : (errsT T en s e).at_ = s.at_ := by unfold errsT; split <;> rfl
theorem ifR_goes {T : List Tok} {en : Int} {ex : Kid} (me : Goes T ex) : Goes T (ifR T en ex) := fun s h => by
  unfold ifR
  have h1 := me s h
  have h2 := mustR_goes (T := T) (en := en) h1.2 [thenB]
  have h3 := me _ h2.2
  have h4 := mustR_goes (T := T) (en := en) h3.2 [elseB]
  have h5 := me _ h4.2
  simp only; omega
theorem atom2R_goes {T : List Tok} {en : Int} {ex : Kid} (me : Goes T ex) (w : List UInt8) : Goes T (atom2R T en ex w) := fun s h => by
  unfold atom2R
  have h1 := me s h
  have h2 := mustR_goes (T := T) (en := en) h1.2 [[41]]
  have h3 := rowR_goes (en := en) me [93] s h
  have h4 := ifR_goes (en := en) me s h
  split
  · exact ⟨Nat.le_refl _, h⟩
  · split
    · exact ⟨Nat.le_refl _, h⟩
    · split
      · exact ⟨Nat.le_refl _, h⟩
      · split
        · simp only; omega
        · split
          · exact h3
          · split
            · exact h4
            · exact ⟨Nat.le_refl _, h⟩
theorem atomR_goes {T : List Tok} {en : Int} {decR : List UInt8 → DecR} {ex : Kid} (me : Goes T ex) : Goes T (atomR T en decR ex) := fun s h => by
  have hn : ∀ s : St, (nextS s).at_ = s.at_ + 1 := fun _ => rfl
  have he := errsT_at T en s
  unfold atomR
  split
  · split
    · rename_i h0
      unfold atom1R
      split
      · unfold numR
        split
        · have := hn s; simp only; omega
        · have h1 := hn (errsT T en s (decR (T.getD s.at_ ⟨0, [], 0⟩).text).err)
          rw [he] at h1
          simp only; omega
      · split
        · have := hn s; simp only; omega
        · split
          · unfold nameR
            split
            · rename_i c
              have h1 := hn s
              have h2 := nextS_goes c
              have h3 := rowR_goes (en := en) me [41] _ h2
              have h4 := hn (nextS s)
              simp only; omega
            · have := hn s; simp only; omega
          · have h1 := mustR_goes (T := T) (en := en) h atW
            have h2 := atom2R_goes (en := en) me (mustR T en s atW).1 _ h1.2
            omega
    · simp only [he]; exact ⟨Nat.le_refl _, h⟩
  · simp only [he]; exact ⟨Nat.le_refl _, h⟩
end Go.Vf
set_option linter.unusedVariables false
set_option linter.unusedSimpArgs false
namespace Go.Vf
open Go.Proofs Go.RowKit
def addR (T : List Tok) (un : Kid) : Kid := rowP T (rowP T un (opR T productsW)) (opR T sumsW)
def unSR (T : List Tok) (en : Int) (decR : List UInt8 → DecR) (ex un : Kid) : Kid := fun s =>
  if s.err = 0 then (if isR T s [45] = true then (Ex.neg (un (nextS s)).1, (un (nextS s)).2) else atomR T en decR ex s) else (Ex.zero, s)
def andR (T : List Tok) (en : Int) (ex un : Kid) : Kid := rowP T (cmpR T en (addR T un) ex) (opR T [andW])
def exSR (T : List Tok) (en : Int) (ex un : Kid) : Kid := fun s => if s.err = 0 then rowP T (andR T en ex un) (opR T [orW]) s else (Ex.zero, s)
def stepR (T : List Tok) (en : Int) (decR : List UInt8 → DecR) (p : Kid × Kid) : Kid × Kid := (exSR T en p.1 (unSR T en decR p.1 p.2), unSR T en decR p.1 p.2)
def kidsR (T : List Tok) (en : Int) (decR : List UInt8 → DecR) (k : Nat) : Kid × Kid := iterA (stepR T en decR) (zeroK T en, zeroK T en) k
def exR (T : List Tok) (en : Int) (decR : List UInt8 → DecR) (k : Nat) : Kid := (kidsR T en decR k).1
def unR (T : List Tok) (en : Int) (decR : List UInt8 → DecR) (k : Nat) : Kid := (kidsR T en decR k).2
theorem exR_zero (T : List Tok) (en : Int) (decR : List UInt8 → DecR) : exR T en decR 0 = zeroK T en := by unfold exR kidsR; rw [iterA_zero]
theorem unR_zero (T : List Tok) (en : Int) (decR : List UInt8 → DecR) : unR T en decR 0 = zeroK T en := by unfold unR kidsR; rw [iterA_zero]
theorem exR_succ (T : List Tok) (en : Int) (decR : List UInt8 → DecR) (k : Nat) : exR T en decR (k + 1) = exSR T en (exR T en decR k) (unR T en decR (k + 1)) := by unfold exR unR kidsR; rw [iterA_succ]; rfl
theorem unR_succ (T : List Tok) (en : Int) (decR : List UInt8 → DecR) (k : Nat) : unR T en decR (k + 1) = unSR T en decR (exR T en decR k) (unR T en decR k) := by unfold exR unR kidsR; rw [iterA_succ]; rfl
theorem deepI_no {d : Int} (h : ¬8 < d) (T : List Tok) (en : Int) (s : St) : deepI T en s d = s := by unfold deepI; rw [if_neg h]
theorem unR_eq {T : List Tok} {en : Int} {decR : List UInt8 → DecR} {k : Nat} {d : Int} (h : ¬8 < d) : unR T en decR (k + 1) = unaryR T en d (unR T en decR k) (atomR T en decR (exR T en decR k)) := by
  funext s
  rw [unR_succ, unSR, unaryR, deepI_no h]
theorem exR_eq {T : List Tok} {en : Int} {decR : List UInt8 → DecR} {k : Nat} {d : Int} (h : ¬8 < d) : exR T en decR (k + 1) = exprR T en d (andR T en (exR T en decR k) (unR T en decR (k + 1))) := by
  funext s
  rw [exR_succ, exSR, exprR, deepI_no h]
theorem andR_goes {T : List Tok} {en : Int} {ex un : Kid} (me : Goes T ex) (mu : Goes T un) : Goes T (andR T en ex un) :=
  rowP_goes (cmpR_goes (rowP_goes (rowP_goes mu (steps_take _ _)) (steps_take _ _)) me) (steps_take _ _)
theorem kidsR_go {T : List Tok} {en : Int} {decR : List UInt8 → DecR} : ∀ k, Goes T (exR T en decR k) ∧ Goes T (unR T en decR k)
  | 0 => by rw [exR_zero, unR_zero]; exact ⟨fun s h => ⟨by rw [zeroK, errsT_at]; exact Nat.le_refl _, by rw [zeroK, errsT_at]; exact h⟩, fun s h => ⟨by rw [zeroK, errsT_at]; exact Nat.le_refl _, by rw [zeroK, errsT_at]; exact h⟩⟩
  | k + 1 => by
    have ih := kidsR_go (T := T) (en := en) (decR := decR) k
    have hu : Goes T (unR T en decR (k + 1)) := by rw [unR_eq (d := 0) (by decide)]; exact unaryR_goes ih.2 (atomR_goes ih.1)
    refine ⟨?_, hu⟩
    rw [exR_eq (d := 0) (by decide)]
    exact exprR_goes (andR_goes ih.1 hu)
end Go.Vf
set_option linter.unusedVariables false
set_option linter.unusedSimpArgs false
namespace Go.Vf
open Go.Proofs Go.RowKit
structure Taken where
  e : Ex
  at_ : Int
  pos : Int
  err : Int
def Taken.v (r : Taken) : V := .tup [.agg r.e.cells, .int .i64 r.at_, .int .i64 r.pos, .int .i64 r.err]
def takeF (a : Nat) (r : Ex × St) : Taken := if r.2.err = 0 then ⟨r.1, r.2.at_, 0, 0⟩ else ⟨Ex.zero, a, r.2.pos, r.2.err⟩
theorem u64 : tstruct Tryz.prog 151 = some [.nilsl, .int .i64 0, .int .i64 0, .int .i64 0, .int .i64 0] := by kernel_rfl
def g16L : List V → Option (Prop × V)
  | [.str s] => some (True, (lexL s).v)
  | _ => none
end Go.Vf
