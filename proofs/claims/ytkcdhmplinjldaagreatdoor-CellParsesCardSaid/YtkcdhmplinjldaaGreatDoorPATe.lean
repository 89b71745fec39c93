/- A part of the proof: Te. -/
import Derived.Test.YtkcdhmplinjldaaGreatDoorPATc
set_option linter.unusedVariables false
set_option linter.unusedSimpArgs false
namespace Go.Vf
open Go.Proofs Go.RowKit
mutual
theorem small_fit : ∀ x : Ex, smallE x → fitE x
  | .mk k b m s t lo hi ks, h => by
    rw [smallE] at h
    rw [fitE]
    exact ⟨by omega, smalls_fit ks h.2⟩
theorem smalls_fit : ∀ l : List Ex, smallL l → fitL l
  | [], _ => trivial
  | a :: r, h => by
    rw [smallL] at h
    rw [fitL]
    exact ⟨small_fit a h.1, smalls_fit r h.2⟩
end
theorem zero_fit : fitE Ex.zero := small_fit _ small_zero
theorem tk_fit {T : List Tok} (hT : T.length ≤ 1000) (en : Int) (a : Nat) : fitE (tk T en a).e := small_fit _ (takeF_small ((kidsR_small hT 9).1 _))
theorem exprT_fit {T : List Tok} (hT : T.length ≤ 1000) (en : Int) (s : St) : fitE (exprT T en s).1 := by
  unfold exprT
  split
  · split
    · exact tk_fit hT en _
    · exact zero_fit
  · exact zero_fit
theorem testT_fit {T : List Tok} (hT : T.length ≤ 1000) (en : Int) (s : St) : fitT (testT T en s).1 := by
  unfold testT
  split
  · unfold rangedT
    rw [fitT]
    exact ⟨⟨exprT_fit hT en _, exprT_fit hT en _⟩, by simp, trivial⟩
  · rw [fitT]
    exact ⟨⟨exprT_fit hT en _, zero_fit⟩, by simp, trivial⟩
theorem fitTs_app : ∀ (l : List Te) (x : Te), fitTs l → fitT x → fitTs (l ++ [x])
  | [], x, _, h => by rw [List.nil_append, fitTs, fitTs]; exact ⟨h, trivial⟩
  | a :: r, x, hl, h => by rw [fitTs] at hl; rw [List.cons_append, fitTs]; exact ⟨hl.1, fitTs_app r x hl.2 h⟩
theorem testsT_fit {T : List Tok} (hT : T.length ≤ 1000) (en : Int) : ∀ (f : Nat) (l : List Te) (s : St), fitTs l → fitTs (testsT z1 T en f l s).1
  | 0, l, s, h => by rw [testsT]; exact h
  | f + 1, l, s, h => by
    rw [testsT]
    have h1 := fitTs_app l _ h (testT_fit hT en s)
    split
    · exact testsT_fit hT en f _ _ h1
    · exact h1
theorem z1_len : ∀ l : List Te, (z1 l).length ≤ l.length := fun l => Nat.le_refl _
theorem cellT_fit {T : List Tok} (hT : T.length ≤ 1000) (en : Int) : fitTs (cellT z1 T en).1 ∧ (cellT z1 T en).1.length ≤ 6 := by
  unfold cellT
  split
  · rw [fitTs, fitT]
    exact ⟨⟨⟨⟨zero_fit, zero_fit⟩, by simp, trivial⟩, trivial⟩, by simp⟩
  · split
    · have h1 := testsT_fit hT en 6 [] ⟨2, 0, 0⟩ trivial
      have h2 := testsT_len z1_len (T := T) (en := en) 6 [] ⟨2, 0, 0⟩
      rw [fitTs, fitT]
      exact ⟨⟨⟨⟨zero_fit, zero_fit⟩, by simp at h2; omega, h1⟩, trivial⟩, by simp⟩
    · have h2 := testsT_len z1_len (T := T) (en := en) 6 [] ⟨0, 0, 0⟩
      exact ⟨testsT_fit hT en 6 [] ⟨0, 0, 0⟩ trivial, by simpa using h2⟩
theorem parseC_fit (s : List UInt8) : fitTs (parseC z1 s).l ∧ (parseC z1 s).l.length ≤ 6 := by
  have hl := lexL_len s
  have h := cellT_fit (T := (lexL s).toks) (by omega) (s.length : Int)
  unfold parseC
  split
  · split
    · exact h
    · exact ⟨trivial, by simp⟩
  · exact ⟨trivial, by simp⟩
def gKnown : List V → Option (Prop × V)
  | [] => some (True, .bool true)
  | _ => none
theorem ok_knownS {P : Specs} (hP : SOk Tryz.prog P) : SOk Tryz.prog (P.add 13 gKnown) := hP.add fun xs G p v e hp => by
  unfold gKnown at e
  split at e
  · cases e; exact lknown_walk G
  · cases e
def LS3 : Specs := ((Specs.none.add 10 gParse).add 11 gParse).add 13 gKnown
theorem LS3_at (f : FuncId) (xs : List V) (G : Heap) : LS3 f xs G = (((Specs.none.add 10 gParse).add 11 gParse).add 13 gKnown) f xs G := rfl
theorem okLS3 : SOk Tryz.prog LS3 := ok_knownS (ok_rparseS (ok_parseS (SOk.none _)))
theorem ok_lparses : fnOk Tryz.prog 3 T0 1 = true := by kernel_rfl
set_option maxRecDepth 100000 in
set_option maxHeartbeats 1000000 in
theorem cellParses_walk (s : List UInt8) (G : Heap) : VPure Tryz.prog 3 [.str s] G (.bool true) := by
  refine VCalls.of (okLS3) mixed T0 ok_lparses fun hG => ?_
  by_cases h4 : 400 < (s.length : Int)
  · simp (maxSteps:=999999) -dsimp -implicitDefEqProofs only [↓eqD,eqU,eqV,eqW,vbuiltinQ,vlen,vslice,vindex,vstore,Array.toList,simprocAttr,fnWp_some Tryz.func3,Tryz.f3,T0,FB,FC,none_at,LS3_at,add_at,gParse,gKnown,h4]; (repeat ((with_reducible (refine And.intro ?_ ?_)); (focus (first | omega | exact ⟨by omega, by omega⟩))))
    (repeat ((with_reducible (refine And.intro ?_ ?_)); (focus (first | omega | exact ⟨by omega, by omega⟩)))); (refine VDone.back hG ?_ rfl ?_); (intro j hj; first | rfl | simp (maxSteps:=999999) -dsimp -implicitDefEqProofs only [↓eqD,eqU,eqV,eqW,vbuiltinQ,vlen,vslice,vindex,vstore,Array.toList,simprocAttr,lt6 hj]); (first | rfl | simp [])
  have hf := parseC_fit s
  generalize hr : parseC z1 s = r at *
  obtain ⟨l, n, er⟩ := r
  simp only at hf
  have dl := tesC_closed l
  have hsame := rsame_walk l l (by omega) hf.1
  rw [sameTs_refl] at hsame
  simp (maxSteps:=999999) -dsimp -implicitDefEqProofs only [↓eqD,eqU,eqV,eqW,vbuiltinQ,vlen,vslice,vindex,vstore,Array.toList,simprocAttr,fnWp_some Tryz.func3,Tryz.f3,T0,FB,FC,none_at,LS3_at,add_at,gParse,gKnown,h4,hr,Tests.v,dl]; (repeat ((with_reducible (refine And.intro ?_ ?_)); (focus (first | omega | exact ⟨by omega, by omega⟩))))
  refine VPure.calls (hsame _) ?_
  simp (maxSteps:=999999) -dsimp -implicitDefEqProofs only [↓eqD,eqU,eqV,eqW,vbuiltinQ,vlen,vslice,vindex,vstore,Array.toList,simprocAttr,T0,FB,FC,none_at,LS3_at,add_at,gParse,gKnown]; (repeat ((with_reducible (refine And.intro ?_ ?_)); (focus (first | omega | exact ⟨by omega, by omega⟩))))
  (repeat ((with_reducible (refine And.intro ?_ ?_)); (focus (first | omega | exact ⟨by omega, by omega⟩)))); (refine VDone.back hG ?_ rfl ?_); (intro j hj; first | rfl | simp (maxSteps:=999999) -dsimp -implicitDefEqProofs only [↓eqD,eqU,eqV,eqW,vbuiltinQ,vlen,vslice,vindex,vstore,Array.toList,simprocAttr,lt6 hj]); (first | rfl | simp [])
end Go.Vf
