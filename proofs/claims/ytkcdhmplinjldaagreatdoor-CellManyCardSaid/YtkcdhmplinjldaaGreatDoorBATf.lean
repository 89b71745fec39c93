/- A part of the proof: Tf. -/
import Derived.Test.YtkcdhmplinjldaaGreatDoorBATe
set_option linter.unusedVariables false
set_option linter.unusedSimpArgs false
namespace Go.Vf
open Go.Proofs Go.RowKit
def manyB : Nat → List UInt8
  | 0 => []
  | n + 1 => if n = 0 then [55] else (manyB n ++ [44]) ++ [55]
theorem manyB_len : ∀ n, (manyB n).length ≤ 2 * n
  | 0 => Nat.le_refl _
  | n + 1 => by
    unfold manyB
    have := manyB_len n
    split
    · simp only [List.length_cons, List.length_nil]; omega
    · simp only [List.length_append, List.length_cons, List.length_nil]; omega
def manyOk (k : Nat) : Bool := decide ((lexL (manyB k)).err = 0) && (if 6 < k then decide ((parseC z1 (manyB k)).e = 13) && decide ((parseC z1 (manyB k)).n = 12) else decide ((parseC z1 (manyB k)).e = 0) && decide ((parseC z1 (manyB k)).n = (lexL (manyB k)).n))
theorem many_all : ((List.range 13).all fun k => decide (k = 0) || manyOk k) = true := by kernel_rfl
theorem many_at {k : Nat} (h1 : 1 ≤ k) (h2 : k ≤ 12) : manyOk k = true := by
  have := List.all_eq_true.1 many_all k (List.mem_range.2 (by omega))
  simpa [show ¬k = 0 by omega] using this
theorem many_2 : parseC z1 [91, 49, 46, 46, 50] = ⟨[], 5, 2⟩ := by kernel_rfl
theorem many_0 : parseC z1 [] = ⟨[], 0, 2⟩ := by kernel_rfl
theorem ok_rlexS {P : Specs} (hP : SOk Tryz.prog P) : SOk Tryz.prog (P.add 19 g16L) := hP.add fun xs G p v e hp => by
  unfold g16L at e
  split at e
  · cases e; exact refLex_walk _ G
  · cases e
def LS4 : Specs := ((Specs.none.add 10 gParse).add 19 g16L).add 13 gKnown
theorem LS4_at (f : FuncId) (xs : List V) (G : Heap) : LS4 f xs G = (((Specs.none.add 10 gParse).add 19 g16L).add 13 gKnown) f xs G := rfl
theorem okLS4 : SOk Tryz.prog LS4 := ok_knownS (ok_rlexS (ok_parseS (SOk.none _)))
theorem ok_lmany : fnOk Tryz.prog 7 T0 1 = true := by kernel_rfl
set_option maxRecDepth 100000 in
set_option maxHeartbeats 1000000 in
theorem cellMany_walk (n : Int) (G : Heap) : VPure Tryz.prog 7 [.int .i64 n] G (.bool true) := by
  refine VCalls.of (okLS4) mixed T0 ok_lmany fun hG => ?_
  by_cases h1 : n < 1
  · simp (maxSteps:=999999) -dsimp -implicitDefEqProofs only [↓eqD,eqU,eqV,eqW,vbuiltinQ,vlen,vslice,vindex,vstore,Array.toList,simprocAttr,fnWp_some Tryz.func7,Tryz.f7,T0,FB,FC,none_at,LS4_at,add_at,gParse,g16L,gKnown,h1]; (repeat ((with_reducible (refine And.intro ?_ ?_)); (focus (first | omega | exact ⟨by omega, by omega⟩))))
    (repeat ((with_reducible (refine And.intro ?_ ?_)); (focus (first | omega | exact ⟨by omega, by omega⟩)))); (refine VDone.back hG ?_ rfl ?_); (intro j hj; first | rfl | simp (maxSteps:=999999) -dsimp -implicitDefEqProofs only [↓eqD,eqU,eqV,eqW,vbuiltinQ,vlen,vslice,vindex,vstore,Array.toList,simprocAttr,lt6 hj]); (first | rfl | simp [])
  by_cases h2 : 12 < n
  · simp (maxSteps:=999999) -dsimp -implicitDefEqProofs only [↓eqD,eqU,eqV,eqW,vbuiltinQ,vlen,vslice,vindex,vstore,Array.toList,simprocAttr,fnWp_some Tryz.func7,Tryz.f7,T0,FB,FC,none_at,LS4_at,add_at,gParse,g16L,gKnown,h1,h2]; (repeat ((with_reducible (refine And.intro ?_ ?_)); (focus (first | omega | exact ⟨by omega, by omega⟩))))
    (repeat ((with_reducible (refine And.intro ?_ ?_)); (focus (first | omega | exact ⟨by omega, by omega⟩)))); (refine VDone.back hG ?_ rfl ?_); (intro j hj; first | rfl | simp (maxSteps:=999999) -dsimp -implicitDefEqProofs only [↓eqD,eqU,eqV,eqW,vbuiltinQ,vlen,vslice,vindex,vstore,Array.toList,simprocAttr,lt6 hj]); (first | rfl | simp [])
  obtain ⟨k, rfl⟩ : ∃ k : Nat, n = (k : Int) := ⟨n.toNat, by omega⟩
  have hk := many_at (k := k) (by omega) (by omega)
  simp (maxSteps:=999999) -dsimp -implicitDefEqProofs only [↓eqD,eqU,eqV,eqW,vbuiltinQ,vlen,vslice,vindex,vstore,Array.toList,simprocAttr,fnWp_some Tryz.func7,Tryz.f7,T0,FB,FC,none_at,LS4_at,add_at,gParse,g16L,gKnown,h1,h2]; (repeat ((with_reducible (refine And.intro ?_ ?_)); (focus (first | omega | exact ⟨by omega, by omega⟩))))
  refine vloop_to 0 (fun i : Nat => i ≤ k) (fun i => Env.of [(0, .int .i64 k), (3, .str (manyB i)), (4, .int .i64 (i : Nat))])
    (fun _ => G.over G.next []) (fun i => k - i) 0 (fun E G' => E 0 = .int .i64 k ∧ E 3 = .str (manyB k) ∧ G' = G.over G.next []) ?_ ?_ ?_ ?_
  · refine .of ?_ (.over hG rfl trivial (fun _ _ => rfl))
    simp (maxSteps:=999999) -dsimp -implicitDefEqProofs only [↓eqD,eqU,eqV,eqW,vbuiltinQ,vlen,vslice,vindex,vstore,Array.toList,simprocAttr,manyB]
    (repeat' apply And.intro) <;> exact .refl _
  · exact Nat.zero_le _
  · rintro i hi
    have w1 : IntKind.wrap .i64 ((i : Int) + 1) = ((i + 1 : Nat) : Int) := by rw [w64 (by omega) (by omega)]; rfl
    have hl := manyB_len i
    by_cases hik : i < k
    · have c1 : (i : Int) < (k : Int) := by omega
      by_cases hi0 : i = 0
      · subst hi0
        have c1' : 0 < (k : Int) := by omega
        simp (maxSteps:=999999) -dsimp -implicitDefEqProofs only [↓eqD,eqU,eqV,eqW,vbuiltinQ,vlen,vslice,vindex,vstore,Array.toList,simprocAttr,T0,FB,FC,none_at,LS4_at,add_at,c1',w1,manyB]; (repeat ((with_reducible (refine And.intro ?_ ?_)); (focus (first | omega | exact ⟨by omega, by omega⟩))))
        refine ⟨1, by omega, by omega, .of ?_ (.refl _)⟩
        simp (maxSteps:=999999) -dsimp -implicitDefEqProofs only [↓eqD,eqU,eqV,eqW,vbuiltinQ,vlen,vslice,vindex,vstore,Array.toList,simprocAttr,manyB]
        (repeat' apply And.intro) <;> exact .refl _
      · have c2 : 0 < (i : Int) := by omega
        simp (maxSteps:=999999) -dsimp -implicitDefEqProofs only [↓eqD,eqU,eqV,eqW,vbuiltinQ,vlen,vslice,vindex,vstore,Array.toList,simprocAttr,T0,FB,FC,none_at,LS4_at,add_at,c1,c2,w1,List.length_append,List.length_cons,List.length_nil]; (repeat ((with_reducible (refine And.intro ?_ ?_)); (focus (first | omega | exact ⟨by omega, by omega⟩))))
        refine ⟨i + 1, by omega, by omega, .of ?_ (.refl _)⟩
        simp (maxSteps:=999999) -dsimp -implicitDefEqProofs only [↓eqD,eqU,eqV,eqW,vbuiltinQ,vlen,vslice,vindex,vstore,Array.toList,simprocAttr,manyB,hi0]
        (repeat' apply And.intro) <;> exact .refl _
    · have c1 : ¬(i : Int) < (k : Int) := by omega
      have e : i = k := by omega
      subst e
      simp (maxSteps:=999999) -dsimp -implicitDefEqProofs only [↓eqD,eqU,eqV,eqW,vbuiltinQ,vlen,vslice,vindex,vstore,Array.toList,simprocAttr,T0,FB,FC,none_at,LS4_at,add_at,c1]; (repeat ((with_reducible (refine And.intro ?_ ?_)); (focus (first | omega | exact ⟨by omega, by omega⟩))))
  · rintro E G' ⟨e0, e3, rfl⟩
    unfold manyOk at hk
    generalize hr : parseC z1 (manyB k) = r at *
    generalize hx : lexL (manyB k) = x at *
    obtain ⟨l, pn, pe⟩ := r
    obtain ⟨T, xn, xe⟩ := x
    simp only [Bool.and_eq_true, decide_eq_true_eq] at hk
    obtain ⟨rfl, hk⟩ := hk
    by_cases h6 : 6 < k
    · rw [if_pos h6] at hk
      simp only [Bool.and_eq_true, decide_eq_true_eq] at hk
      obtain ⟨rfl, rfl⟩ := hk
      have c6 : 6 < (k : Int) := by omega
      simp (maxSteps:=999999) -dsimp -implicitDefEqProofs only [↓eqD,eqU,eqV,eqW,vbuiltinQ,vlen,vslice,vindex,vstore,Array.toList,simprocAttr,T0,FB,FC,none_at,LS4_at,add_at,gParse,g16L,gKnown,e0,e3,hr,hx,many_2,many_0,Tests.v,Lexed.v,c6,ne_eq]; (repeat ((with_reducible (refine And.intro ?_ ?_)); (focus (first | omega | exact ⟨by omega, by omega⟩))))
      (repeat ((with_reducible (refine And.intro ?_ ?_)); (focus (first | omega | exact ⟨by omega, by omega⟩)))); (refine VDone.back hG ?_ rfl ?_); (intro j hj; first | rfl | simp (maxSteps:=999999) -dsimp -implicitDefEqProofs only [↓eqD,eqU,eqV,eqW,vbuiltinQ,vlen,vslice,vindex,vstore,Array.toList,simprocAttr,lt6 hj]); (first | rfl | simp [])
    · rw [if_neg h6] at hk
      simp only [Bool.and_eq_true, decide_eq_true_eq] at hk
      obtain ⟨rfl, rfl⟩ := hk
      have c6 : ¬6 < (k : Int) := by omega
      simp (maxSteps:=999999) -dsimp -implicitDefEqProofs only [↓eqD,eqU,eqV,eqW,vbuiltinQ,vlen,vslice,vindex,vstore,Array.toList,simprocAttr,T0,FB,FC,none_at,LS4_at,add_at,gParse,g16L,gKnown,e0,e3,hr,hx,many_2,many_0,Tests.v,Lexed.v,c6,ne_eq]; (repeat ((with_reducible (refine And.intro ?_ ?_)); (focus (first | omega | exact ⟨by omega, by omega⟩))))
      (repeat ((with_reducible (refine And.intro ?_ ?_)); (focus (first | omega | exact ⟨by omega, by omega⟩)))); (refine VDone.back hG ?_ rfl ?_); (intro j hj; first | rfl | simp (maxSteps:=999999) -dsimp -implicitDefEqProofs only [↓eqD,eqU,eqV,eqW,vbuiltinQ,vlen,vslice,vindex,vstore,Array.toList,simprocAttr,lt6 hj]); (first | rfl | simp [])
end Go.Vf
