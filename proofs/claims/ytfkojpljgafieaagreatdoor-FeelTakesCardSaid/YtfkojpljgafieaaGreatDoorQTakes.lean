/- FeelTakes: of any tokens, from any place on. -/
import Derived.Test.YtfkojpljgafieaaGreatDoorQDeep
import Derived.Test.YtfkojpljgafieaaGreatDoorQEnds
set_option linter.unusedVariables false
set_option linter.unusedSimpArgs false
namespace Go.Vf
open Go.Proofs Go.RowKit

theorem p55_1 : tplaces Tryz.prog 55 1 = some (1, 1) := by kernel_rfl
def T18f : Tab := ⟨fun id => if id = 4 then ([0, 1, 2, 3, 4, 5, 6, 7, 8, 9, 10, 11, 12, 13], [(5, 10), (9, 10)]) else if id = 5 then ([0, 1, 2, 3, 4, 5, 6, 7, 8], [(4, 5)]) else ([], []), fun _ => false⟩
theorem T18f_ord (id : Nat) : T18f.ord id = if id = 4 then ([0, 1, 2, 3, 4, 5, 6, 7, 8, 9, 10, 11, 12, 13], [(5, 10), (9, 10)]) else if id = 5 then ([0, 1, 2, 3, 4, 5, 6, 7, 8], [(4, 5)]) else ([], []) := rfl
theorem T18f_ghost (id : Nat) : T18f.ghost id = false := rfl
theorem okm18 : fnOk Tryz.prog 18 T18f 3 = true := by kernel_rfl
set_option maxRecDepth 100000 in
theorem ftake_walk {decF : List UInt8 → DecR} (hdec : DecAt decF) (T : List Tok) (hsh : Short T) (hlen : T.length ≤ 1000) (a : Nat) (ha : a ≤ T.length) (en : Int) (G : Heap) : VPure Tryz.prog 18 [.sl 3 T.length (toksC T), .int .i64 a, .int .i64 en] G (takeF a (exK T en decF 9 ⟨a, 0, 0⟩)).v := by
  refine VCalls.of (SOk.none _) mixed T18f okm18 fun hG => ?_
  have nilw : ∀ (n e f : Int), VLe (.tup [.agg [.int .i64 0, .bool false, .int .i64 0, .int .i64 0, .str [], .bool false, .bool false, .nilsl], .int .i64 n, .int .i64 e, .int .i64 f]) (Taken.v ⟨Ex.zero, n, e, f⟩) := fun n e f => .tup ⟨vle_nil 0 false 0 0 [] false false, .refl _, .refl _, .refl _, trivial⟩
  have hw := (kids_walk (T := T) (en := en) (id := G.next + 1) hsh hdec 9 (by decide)).1
  have hgo := (kids_go (T := T) (en := en) (decF := decF) 9).1 ⟨a, 0, 0⟩ ha
  simp (maxSteps := 1000000) -dsimp -implicitDefEqProofs only [↓eqD, eqU, eqV, eqW, vbuiltinQ, vlen, vslice, vindex, vstore, Int.reduceLE, Int.reduceLT, Nat.reduceBEq, ↓reduceIte, reduceCtorEq, Nat.reduceEqDiff, Nat.reduceAdd, Nat.reduceMul, Nat.reduceLT, Nat.reduceLeDiff, Nat.reduceAnd, Nat.reduceSub, Int.reduceToNat, Array.toList, fnWp_some Tryz.func18, Tryz.f18, T18f_ord, T18f_ghost, FB, none_at, u55, p55_0, p55_1, p55_2]
  refine (hw ⟨a, 0, 0⟩ _ ⟨by simp (maxSteps := 1000000) -dsimp -implicitDefEqProofs only [↓eqD, eqU, eqV, eqW, vbuiltinQ, vlen, vslice, vindex, vstore, Int.reduceLE, Int.reduceLT, Nat.reduceBEq, ↓reduceIte, reduceCtorEq, Nat.reduceEqDiff, Nat.reduceAdd, Nat.reduceMul, Nat.reduceLT, Nat.reduceLeDiff, Nat.reduceAnd, Nat.reduceSub, Int.reduceToNat, Array.toList, FB, pcells], hlen, ha⟩).mono ?_
  rintro _ _ ⟨rfl, rfl⟩
  generalize exK T en decF 9 ⟨a, 0, 0⟩ = ks at *
  obtain ⟨⟨k2, b2, m2, n2, t2, lo2, hi2, kids2⟩, s2⟩ := ks
  have hre : pcells T en s2 = [.sl 3 T.length (toksC T), .int .i64 s2.at_, .int .i64 en, .int .i64 s2.pos, .int .i64 s2.err] := rfl
  unfold takeF
  simp only
  by_cases he : s2.err = 0
  · rw [if_pos he]
    simp (maxSteps := 1000000) -dsimp -implicitDefEqProofs only [↓eqD, eqU, eqV, eqW, vbuiltinQ, vlen, vslice, vindex, vstore, Int.reduceLE, Int.reduceLT, Nat.reduceBEq, ↓reduceIte, reduceCtorEq, Nat.reduceEqDiff, Nat.reduceAdd, Nat.reduceMul, Nat.reduceLT, Nat.reduceLeDiff, Nat.reduceAnd, Nat.reduceSub, Int.reduceToNat, Array.toList, T18f_ord, T18f_ghost, FB, none_at, Ex.cells, hre, he, ne_eq]
    refine VDone.back hG ?_ rfl rfl
    intro j hj; simp (maxSteps := 1000000) -dsimp -implicitDefEqProofs only [↓eqD, eqU, eqV, eqW, vbuiltinQ, vlen, vslice, vindex, vstore, Int.reduceLE, Int.reduceLT, Nat.reduceBEq, ↓reduceIte, reduceCtorEq, Nat.reduceEqDiff, Nat.reduceAdd, Nat.reduceMul, Nat.reduceLT, Nat.reduceLeDiff, Nat.reduceAnd, Nat.reduceSub, Int.reduceToNat, Array.toList, ltx_0 hj, gtx_0 hj, ltx_1 hj, gtx_1 hj, ltx_2 hj, gtx_2 hj, ltx_3 hj, gtx_3 hj, ltx_4 hj, gtx_4 hj, ltx_5 hj, gtx_5 hj]
  · rw [if_neg he]
    simp (maxSteps := 1000000) -dsimp -implicitDefEqProofs only [↓eqD, eqU, eqV, eqW, vbuiltinQ, vlen, vslice, vindex, vstore, Int.reduceLE, Int.reduceLT, Nat.reduceBEq, ↓reduceIte, reduceCtorEq, Nat.reduceEqDiff, Nat.reduceAdd, Nat.reduceMul, Nat.reduceLT, Nat.reduceLeDiff, Nat.reduceAnd, Nat.reduceSub, Int.reduceToNat, Array.toList, T18f_ord, T18f_ghost, FB, none_at, Ex.cells, hre, he, ne_eq]
    refine .weak (nilw _ _ _) (VDone.back hG ?_ rfl rfl)
    intro j hj; simp (maxSteps := 1000000) -dsimp -implicitDefEqProofs only [↓eqD, eqU, eqV, eqW, vbuiltinQ, vlen, vslice, vindex, vstore, Int.reduceLE, Int.reduceLT, Nat.reduceBEq, ↓reduceIte, reduceCtorEq, Nat.reduceEqDiff, Nat.reduceAdd, Nat.reduceMul, Nat.reduceLT, Nat.reduceLeDiff, Nat.reduceAnd, Nat.reduceSub, Int.reduceToNat, Array.toList, ltx_0 hj, gtx_0 hj, ltx_1 hj, gtx_1 hj, ltx_2 hj, gtx_2 hj, ltx_3 hj, gtx_3 hj, ltx_4 hj, gtx_4 hj, ltx_5 hj, gtx_5 hj]
theorem takeF_eq {a b : Ex × St} (h : XSim a b) (k : Nat) : takeF k a = takeF k b := by
  obtain ⟨x, s⟩ := a
  obtain ⟨y, s'⟩ := b
  obtain ⟨⟨h1, h2, h3⟩, h4⟩ := h
  simp only at h1 h2 h3 h4
  unfold takeF
  simp only
  by_cases e : s.err = 0
  · have := h3 e
    subst this
    have := h4 e
    subst this
    rfl
  · rw [if_neg e, if_neg (h1 ▸ e), h1, h2]
theorem okn9 : fnOk Tryz.prog 9 T0 3 = true := by kernel_rfl
set_option maxRecDepth 100000 in
set_option maxHeartbeats 4000000 in
theorem feelTakes_walk (s : List UInt8) (at_ en : Int) (G : Heap) : VPure Tryz.prog 9 [.str s, .int .i64 at_, .int .i64 en] G (.bool true) := by
  refine VCalls.of okS16 mixed T0 okn9 fun hG => ?_
  by_cases h4 : 300 < (s.length : Int)
  · simp (maxSteps := 1000000) -dsimp -implicitDefEqProofs only [↓eqD, eqU, eqV, eqW, vbuiltinQ, vlen, vslice, vindex, vstore, Int.reduceLE, Int.reduceLT, Nat.reduceBEq, ↓reduceIte, reduceCtorEq, Nat.reduceEqDiff, Nat.reduceAdd, Nat.reduceMul, Nat.reduceLT, Nat.reduceLeDiff, Nat.reduceAnd, Nat.reduceSub, Int.reduceToNat, Array.toList, fnWp_some Tryz.func9, Tryz.f9, T0, FB, S16_at, add_at, none_at, g11, g14k, g16d, h4]
    exact VDone.back hG (fun _ _ => rfl) rfl rfl
  have hlen := lexL_len s
  have htl := lexL_textlen s
  have hgd := lexL_signs s
  by_cases he : (lexL s).err = 0
  case neg =>
    simp (maxSteps := 1000000) -dsimp -implicitDefEqProofs only [↓eqD, eqU, eqV, eqW, vbuiltinQ, vlen, vslice, vindex, vstore, Int.reduceLE, Int.reduceLT, Nat.reduceBEq, ↓reduceIte, reduceCtorEq, Nat.reduceEqDiff, Nat.reduceAdd, Nat.reduceMul, Nat.reduceLT, Nat.reduceLeDiff, Nat.reduceAnd, Nat.reduceSub, Int.reduceToNat, Array.toList, fnWp_some Tryz.func9, Tryz.f9, T0, FB, S16_at, add_at, none_at, g11, g14k, g16d, h4, Lexed.v, he, ne_eq]
    exact VDone.back hG (fun _ _ => rfl) rfl rfl
  have hS : Short (lexL s).toks := fun t ht => by have := htl t ht; omega
  by_cases ht : ((lexL s).toks.length : Int) = 0
  · simp (maxSteps := 1000000) -dsimp -implicitDefEqProofs only [↓eqD, eqU, eqV, eqW, vbuiltinQ, vlen, vslice, vindex, vstore, Int.reduceLE, Int.reduceLT, Nat.reduceBEq, ↓reduceIte, reduceCtorEq, Nat.reduceEqDiff, Nat.reduceAdd, Nat.reduceMul, Nat.reduceLT, Nat.reduceLeDiff, Nat.reduceAnd, Nat.reduceSub, Int.reduceToNat, Array.toList, fnWp_some Tryz.func9, Tryz.f9, T0, FB, S16_at, add_at, none_at, g11, g14k, g16d, h4, Lexed.v, he, ht, ne_eq]
    exact VDone.back hG (fun _ _ => rfl) rfl rfl
  obtain ⟨hq1, hq2⟩ : 0 ≤ vbits .and .i64 at_ 1023 ∧ vbits .and .i64 at_ 1023 ≤ 1023 := bits_and at_ 1023 (by decide)
  have hw : IntKind.wrap .i64 (((lexL s).toks.length : Int) + 1) = ((lexL s).toks.length : Int) + 1 := by rw [w64 (by omega) (by omega)]
  have hm1 := Int.tmod_nonneg (((lexL s).toks.length : Int) + 1) hq1
  have hm2 := Int.tmod_lt_of_pos (vbits .and .i64 at_ 1023) (b := ((lexL s).toks.length : Int) + 1) (by omega)
  obtain ⟨k, hk⟩ : ∃ k : Nat, (vbits .and .i64 at_ 1023).tmod (((lexL s).toks.length : Int) + 1) = (k : Int) := ⟨((vbits .and .i64 at_ 1023).tmod (((lexL s).toks.length : Int) + 1)).toNat, by have := hm1; omega⟩
  have hm2 : (vbits .and .i64 at_ 1023).tmod (((lexL s).toks.length : Int) + 1) < ((lexL s).toks.length : Int) + 1 := hm2
  rw [hk] at hm2
  have hne : ¬((lexL s).toks.length : Int) + 1 = 0 := by omega
  have hle : k ≤ (lexL s).toks.length := by omega
  have w1 := ftake_walk decA_at (lexL s).toks hS (by omega) k hle en
  have w2 := taker_walk decB_at (lexL s).toks hS (by omega) k hle en
  have hsim := (kids_sim hgd hS (en := en) (decF := decA) 9).1.at (.refl ⟨k, 0, 0⟩) hle
  rw [takeF_eq hsim] at w1
  have hsm : smallE (takeF k (exR (lexL s).toks en decA 9 ⟨k, 0, 0⟩)).e := takeF_small ((kidsR_small (by omega) 9).1 _)
  generalize takeF k (exR (lexL s).toks en decA 9 ⟨k, 0, 0⟩) = r at *
  obtain ⟨⟨kx, bx, mx, cx, tx, lox, hix, ksx⟩, n, pos, er⟩ := r
  have d1 := exsC_closed ksx
  have hsame := same_walk _ (.mk kx bx mx cx tx lox hix ksx) hsm
  rw [same_refl] at hsame
  simp (maxSteps := 1000000) -dsimp -implicitDefEqProofs only [↓eqD, eqU, eqV, eqW, vbuiltinQ, vlen, vslice, vindex, vstore, Int.reduceLE, Int.reduceLT, Nat.reduceBEq, ↓reduceIte, reduceCtorEq, Nat.reduceEqDiff, Nat.reduceAdd, Nat.reduceMul, Nat.reduceLT, Nat.reduceLeDiff, Nat.reduceAnd, Nat.reduceSub, Int.reduceToNat, Array.toList, fnWp_some Tryz.func9, Tryz.f9, T0, FB, S16_at, add_at, none_at, g11, g14k, g16d, h4, Lexed.v, he, ht, hw, hk, hne, ne_eq]
  refine VPure.calls (w1 _) ?_
  simp (maxSteps := 1000000) -dsimp -implicitDefEqProofs only [↓eqD, eqU, eqV, eqW, vbuiltinQ, vlen, vslice, vindex, vstore, Int.reduceLE, Int.reduceLT, Nat.reduceBEq, ↓reduceIte, reduceCtorEq, Nat.reduceEqDiff, Nat.reduceAdd, Nat.reduceMul, Nat.reduceLT, Nat.reduceLeDiff, Nat.reduceAnd, Nat.reduceSub, Int.reduceToNat, Array.toList, T0, FB, S16_at, add_at, none_at, Taken.v, Ex.cells, d1]
  refine VPure.calls (w2 _) ?_
  simp (maxSteps := 1000000) -dsimp -implicitDefEqProofs only [↓eqD, eqU, eqV, eqW, vbuiltinQ, vlen, vslice, vindex, vstore, Int.reduceLE, Int.reduceLT, Nat.reduceBEq, ↓reduceIte, reduceCtorEq, Nat.reduceEqDiff, Nat.reduceAdd, Nat.reduceMul, Nat.reduceLT, Nat.reduceLeDiff, Nat.reduceAnd, Nat.reduceSub, Int.reduceToNat, Array.toList, T0, FB, S16_at, add_at, none_at, Taken.v, Ex.cells, d1]
  refine VPure.calls (hsame _) ?_
  simp (maxSteps := 1000000) -dsimp -implicitDefEqProofs only [↓eqD, eqU, eqV, eqW, vbuiltinQ, vlen, vslice, vindex, vstore, Int.reduceLE, Int.reduceLT, Nat.reduceBEq, ↓reduceIte, reduceCtorEq, Nat.reduceEqDiff, Nat.reduceAdd, Nat.reduceMul, Nat.reduceLT, Nat.reduceLeDiff, Nat.reduceAnd, Nat.reduceSub, Int.reduceToNat, Array.toList, T0, FB, S16_at, add_at, none_at, g14k]
  refine VDone.back hG ?_ rfl rfl
  intro j hj; simp (maxSteps := 1000000) -dsimp -implicitDefEqProofs only [↓eqD, eqU, eqV, eqW, vbuiltinQ, vlen, vslice, vindex, vstore, Int.reduceLE, Int.reduceLT, Nat.reduceBEq, ↓reduceIte, reduceCtorEq, Nat.reduceEqDiff, Nat.reduceAdd, Nat.reduceMul, Nat.reduceLT, Nat.reduceLeDiff, Nat.reduceAnd, Nat.reduceSub, Int.reduceToNat, Array.toList, ltx_0 hj, gtx_0 hj, ltx_1 hj, gtx_1 hj, ltx_2 hj, gtx_2 hj, ltx_3 hj, gtx_3 hj, ltx_4 hj, gtx_4 hj, ltx_5 hj, gtx_5 hj]
end Go.Vf
