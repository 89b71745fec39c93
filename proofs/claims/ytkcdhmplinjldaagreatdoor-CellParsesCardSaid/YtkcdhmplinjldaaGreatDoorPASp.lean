/- A part of the proof: Sp. -/
import Derived.Test.YtkcdhmplinjldaaGreatDoorPASo
set_option linter.unusedVariables false
set_option linter.unusedSimpArgs false
namespace Go.Vf
open Go.Proofs Go.RowKit
theorem n40 : ¬([40] : List UInt8) = [91] := by decide
def T_rrng : Tab := ⟨fun id => if id = 1 then ([0, 1, 2, 3, 4, 5, 6, 7, 8, 9, 10, 11, 12, 13, 14, 15, 16, 17, 18, 19, 20, 21, 22, 23, 24, 25, 26, 27, 28, 29, 30, 31, 32, 33, 34, 35, 36, 37, 38, 39, 40, 41, 42, 43, 44, 45, 46, 47, 48, 49, 50, 51, 52, 53, 54, 55, 56, 57, 58], []) else if id = 3 then ([0, 1, 2, 3, 4, 5, 6, 7, 8, 9, 10, 11, 12, 13, 14, 15, 16, 17, 18, 19, 20, 21, 22, 23], [(1000013, 19), (3, 19), (7, 19), (12, 19)]) else ([], []), fun _ => false⟩
theorem T_rrng_ord (id : Nat) : T_rrng.ord id = if id = 1 then ([0, 1, 2, 3, 4, 5, 6, 7, 8, 9, 10, 11, 12, 13, 14, 15, 16, 17, 18, 19, 20, 21, 22, 23, 24, 25, 26, 27, 28, 29, 30, 31, 32, 33, 34, 35, 36, 37, 38, 39, 40, 41, 42, 43, 44, 45, 46, 47, 48, 49, 50, 51, 52, 53, 54, 55, 56, 57, 58], []) else if id = 3 then ([0, 1, 2, 3, 4, 5, 6, 7, 8, 9, 10, 11, 12, 13, 14, 15, 16, 17, 18, 19, 20, 21, 22, 23], [(1000013, 19), (3, 19), (7, 19), (12, 19)]) else ([], []) := rfl
theorem T_rrng_ghost (id : Nat) : T_rrng.ghost id = false := rfl
theorem ok_rrng : fnOk Tryz.prog 72 T_rrng 1 = true := by kernel_rfl
set_option maxRecDepth 100000 in
set_option maxHeartbeats 2000000 in
theorem rrng_walk {T : List Tok} (hT : TokOk T) {en : Int} {s : St} {id : Nat} {G : Heap} (h : ReaderAt G id T en s) : VCalls Tryz.prog 72 [.ptr id 0 0] G (Stays G (.bool (isRangeT T en s))) := by
  refine VCalls.of (SOk.none _) mixed T_rrng ok_rrng fun hG => ?_
  have hid := hG.lt h.1
  have h12 := h.2.1
  have h13 := h.2.2
  have h1 := h.1
  rw [rcells_eq] at h1
  have w1 : IntKind.wrap .i64 ((s.at_ : Int) + 1) = ((s.at_ + 1 : Nat) : Int) := by rw [w64 (by omega) (by omega)]; rfl
  unfold isRangeT
  by_cases he : s.err = 0
  case neg =>
    have i1 : ∀ w, isT T s 4 w = false := fun w => by rw [isT_sign]; simp [he]
    rw [i1, i1]
    simp (maxSteps:=999999) -dsimp -implicitDefEqProofs only [↓eqD,eqU,eqV,eqW,vbuiltinQ,vlen,vslice,vindex,vstore,Array.toList,simprocAttr,fnWp_some Tryz.func72,Tryz.f72,T_rrng_ord,T_rrng_ghost,FB,FC,none_at,h1,he,ne_eq,lt6 hid]; (repeat ((with_reducible (refine And.intro ?_ ?_)); (focus (first | omega | exact ⟨by omega, by omega⟩))))
    (repeat ((with_reducible (refine And.intro ?_ ?_)); (focus (first | omega | exact ⟨by omega, by omega⟩)))); (refine VDone.back hG ?_ rfl ?_); (intro j hj; first | rfl | simp (maxSteps:=999999) -dsimp -implicitDefEqProofs only [↓eqD,eqU,eqV,eqW,vbuiltinQ,vlen,vslice,vindex,vstore,Array.toList,simprocAttr,lt6 hj]); (first | rfl | simp [])
  by_cases ha : s.at_ < T.length
  case neg =>
    have i1 : ∀ w, isT T s 4 w = false := fun w => by rw [isT_sign]; unfold signAt; simp [ha]
    have c2 : (T.length : Int) ≤ (s.at_ : Int) := by omega
    rw [i1, i1]
    simp (maxSteps:=999999) -dsimp -implicitDefEqProofs only [↓eqD,eqU,eqV,eqW,vbuiltinQ,vlen,vslice,vindex,vstore,Array.toList,simprocAttr,fnWp_some Tryz.func72,Tryz.f72,T_rrng_ord,T_rrng_ghost,FB,FC,none_at,h1,he,c2,ne_eq,lt6 hid]; (repeat ((with_reducible (refine And.intro ?_ ?_)); (focus (first | omega | exact ⟨by omega, by omega⟩))))
    (repeat ((with_reducible (refine And.intro ?_ ?_)); (focus (first | omega | exact ⟨by omega, by omega⟩)))); (refine VDone.back hG ?_ rfl ?_); (intro j hj; first | rfl | simp (maxSteps:=999999) -dsimp -implicitDefEqProofs only [↓eqD,eqU,eqV,eqW,vbuiltinQ,vlen,vslice,vindex,vstore,Array.toList,simprocAttr,lt6 hj]); (first | rfl | simp [])
  have hxt := toks_at ha
  have hT' : T.getD s.at_ ⟨0, [], 0⟩ = T[s.at_] := by simp [List.getD, ha]
  have c2 : ¬(T.length : Int) ≤ (s.at_ : Int) := by omega
  have hit : ∀ x, isT T s 4 x = (decide (T[s.at_].kind = 4) && decide (T[s.at_].text = x)) := fun x => by
    rw [isT_sign]; unfold signAt; rw [hT']; simp [he, ha]
  generalize T[s.at_] = t at hxt hT' hit
  by_cases hk : t.kind = 4
  case neg =>
    rw [hit, hit]
    simp (maxSteps:=999999) -dsimp -implicitDefEqProofs only [↓eqD,eqU,eqV,eqW,vbuiltinQ,vlen,vslice,vindex,vstore,Array.toList,simprocAttr,fnWp_some Tryz.func72,Tryz.f72,T_rrng_ord,T_rrng_ghost,FB,FC,none_at,h1,he,c2,hxt,Tok.cells,hk,ne_eq,lt6 hid]; (repeat ((with_reducible (refine And.intro ?_ ?_)); (focus (first | omega | exact ⟨by omega, by omega⟩))))
    (repeat ((with_reducible (refine And.intro ?_ ?_)); (focus (first | omega | exact ⟨by omega, by omega⟩)))); (refine VDone.back hG ?_ rfl ?_); (intro j hj; first | rfl | simp (maxSteps:=999999) -dsimp -implicitDefEqProofs only [↓eqD,eqU,eqV,eqW,vbuiltinQ,vlen,vslice,vindex,vstore,Array.toList,simprocAttr,lt6 hj]); (first | rfl | simp [hk])
  by_cases ht : t.text = [91]
  · have hi : isT T s 4 [91] = true := by rw [hit]; simp [hk, ht]
    rw [hi]
    have hlt := (isT_lt (by decide) hi).2
    have w := rtakeE hT h12 (s.at_ + 1) hlt en
    obtain ⟨n, hn, hn1, hn2⟩ := tk_goes (en := en) hlt
    generalize tk T en (s.at_ + 1) = r at *
    obtain ⟨⟨kx, bx, mx, cx, tx, lox, hix, ksx⟩, n', pos, er⟩ := r
    simp only at hn
    subst hn
    unfold signAt
    simp (maxSteps:=999999) -dsimp -implicitDefEqProofs only [↓eqD,eqU,eqV,eqW,vbuiltinQ,vlen,vslice,vindex,vstore,Array.toList,simprocAttr,fnWp_some Tryz.func72,Tryz.f72,T_rrng_ord,T_rrng_ghost,FB,FC,none_at,h1,he,c2,hxt,Tok.cells,hk,ht,w1,n40,ne_eq,lt6 hid]; (repeat ((with_reducible (refine And.intro ?_ ?_)); (focus (first | omega | exact ⟨by omega, by omega⟩))))
    refine ⟨VPure.calls (w _) ?_, VPure.calls (w _) ?_⟩
    all_goals
      by_cases hr : er = 0
      · subst hr
        by_cases hn3 : n < T.length
        · have hx := toks_at hn3
          have hTa : T.getD n ⟨0, [], 0⟩ = T[n] := by simp [List.getD, hn3]
          have c3 : (n : Int) < (T.length : Int) := by omega
          try simp only [Int.toNat_natCast]
          rw [hTa]
          generalize T[n] = t2 at hx hTa
          by_cases hk4 : t2.kind = 4
          · simp (maxSteps:=999999) -dsimp -implicitDefEqProofs only [↓eqD,eqU,eqV,eqW,vbuiltinQ,vlen,vslice,vindex,vstore,Array.toList,simprocAttr,T_rrng_ord,T_rrng_ghost,FB,FC,none_at,h1,Taken.v,Ex.cells,c3,hx,Tok.cells,hk4,hn3,lt6 hid]; (repeat ((with_reducible (refine And.intro ?_ ?_)); (focus (first | omega | exact ⟨by omega, by omega⟩))))
            (repeat ((with_reducible (refine And.intro ?_ ?_)); (focus (first | omega | exact ⟨by omega, by omega⟩)))); (refine VDone.back hG ?_ rfl ?_); (intro j hj; first | rfl | simp (maxSteps:=999999) -dsimp -implicitDefEqProofs only [↓eqD,eqU,eqV,eqW,vbuiltinQ,vlen,vslice,vindex,vstore,Array.toList,simprocAttr,lt6 hj]); (first | rfl | simp [hk4])
          · simp (maxSteps:=999999) -dsimp -implicitDefEqProofs only [↓eqD,eqU,eqV,eqW,vbuiltinQ,vlen,vslice,vindex,vstore,Array.toList,simprocAttr,T_rrng_ord,T_rrng_ghost,FB,FC,none_at,h1,Taken.v,Ex.cells,c3,hx,Tok.cells,hk4,hn3,lt6 hid]; (repeat ((with_reducible (refine And.intro ?_ ?_)); (focus (first | omega | exact ⟨by omega, by omega⟩))))
            (repeat ((with_reducible (refine And.intro ?_ ?_)); (focus (first | omega | exact ⟨by omega, by omega⟩)))); (refine VDone.back hG ?_ rfl ?_); (intro j hj; first | rfl | simp (maxSteps:=999999) -dsimp -implicitDefEqProofs only [↓eqD,eqU,eqV,eqW,vbuiltinQ,vlen,vslice,vindex,vstore,Array.toList,simprocAttr,lt6 hj]); (first | rfl | simp [hk4])
        · have c3 : ¬(n : Int) < (T.length : Int) := by omega
          simp (maxSteps:=999999) -dsimp -implicitDefEqProofs only [↓eqD,eqU,eqV,eqW,vbuiltinQ,vlen,vslice,vindex,vstore,Array.toList,simprocAttr,T_rrng_ord,T_rrng_ghost,FB,FC,none_at,h1,Taken.v,Ex.cells,c3,hn3,Int.toNat_natCast,lt6 hid]; (repeat ((with_reducible (refine And.intro ?_ ?_)); (focus (first | omega | exact ⟨by omega, by omega⟩))))
          (repeat ((with_reducible (refine And.intro ?_ ?_)); (focus (first | omega | exact ⟨by omega, by omega⟩)))); (refine VDone.back hG ?_ rfl ?_); (intro j hj; first | rfl | simp (maxSteps:=999999) -dsimp -implicitDefEqProofs only [↓eqD,eqU,eqV,eqW,vbuiltinQ,vlen,vslice,vindex,vstore,Array.toList,simprocAttr,lt6 hj]); (first | rfl | simp [])
      · simp (maxSteps:=999999) -dsimp -implicitDefEqProofs only [↓eqD,eqU,eqV,eqW,vbuiltinQ,vlen,vslice,vindex,vstore,Array.toList,simprocAttr,T_rrng_ord,T_rrng_ghost,FB,FC,none_at,h1,Taken.v,Ex.cells,hr,lt6 hid]; (repeat ((with_reducible (refine And.intro ?_ ?_)); (focus (first | omega | exact ⟨by omega, by omega⟩))))
        (repeat ((with_reducible (refine And.intro ?_ ?_)); (focus (first | omega | exact ⟨by omega, by omega⟩)))); (refine VDone.back hG ?_ rfl ?_); (intro j hj; first | rfl | simp (maxSteps:=999999) -dsimp -implicitDefEqProofs only [↓eqD,eqU,eqV,eqW,vbuiltinQ,vlen,vslice,vindex,vstore,Array.toList,simprocAttr,lt6 hj]); (first | rfl | simp [])
  by_cases ht2 : t.text = [40]
  · have hi : isT T s 4 [40] = true := by rw [hit]; simp [hk, ht2]
    rw [hi, Bool.or_true]
    have ht := ht2
    have hlt := (isT_lt (by decide) hi).2
    have w := rtakeE hT h12 (s.at_ + 1) hlt en
    obtain ⟨n, hn, hn1, hn2⟩ := tk_goes (en := en) hlt
    generalize tk T en (s.at_ + 1) = r at *
    obtain ⟨⟨kx, bx, mx, cx, tx, lox, hix, ksx⟩, n', pos, er⟩ := r
    simp only at hn
    subst hn
    unfold signAt
    simp (maxSteps:=999999) -dsimp -implicitDefEqProofs only [↓eqD,eqU,eqV,eqW,vbuiltinQ,vlen,vslice,vindex,vstore,Array.toList,simprocAttr,fnWp_some Tryz.func72,Tryz.f72,T_rrng_ord,T_rrng_ghost,FB,FC,none_at,h1,he,c2,hxt,Tok.cells,hk,ht,w1,n40,ne_eq,lt6 hid]; (repeat ((with_reducible (refine And.intro ?_ ?_)); (focus (first | omega | exact ⟨by omega, by omega⟩))))
    refine ⟨VPure.calls (w _) ?_, VPure.calls (w _) ?_⟩
    all_goals
      by_cases hr : er = 0
      · subst hr
        by_cases hn3 : n < T.length
        · have hx := toks_at hn3
          have hTa : T.getD n ⟨0, [], 0⟩ = T[n] := by simp [List.getD, hn3]
          have c3 : (n : Int) < (T.length : Int) := by omega
          try simp only [Int.toNat_natCast]
          rw [hTa]
          generalize T[n] = t2 at hx hTa
          by_cases hk4 : t2.kind = 4
          · simp (maxSteps:=999999) -dsimp -implicitDefEqProofs only [↓eqD,eqU,eqV,eqW,vbuiltinQ,vlen,vslice,vindex,vstore,Array.toList,simprocAttr,T_rrng_ord,T_rrng_ghost,FB,FC,none_at,h1,Taken.v,Ex.cells,c3,hx,Tok.cells,hk4,hn3,lt6 hid]; (repeat ((with_reducible (refine And.intro ?_ ?_)); (focus (first | omega | exact ⟨by omega, by omega⟩))))
            (repeat ((with_reducible (refine And.intro ?_ ?_)); (focus (first | omega | exact ⟨by omega, by omega⟩)))); (refine VDone.back hG ?_ rfl ?_); (intro j hj; first | rfl | simp (maxSteps:=999999) -dsimp -implicitDefEqProofs only [↓eqD,eqU,eqV,eqW,vbuiltinQ,vlen,vslice,vindex,vstore,Array.toList,simprocAttr,lt6 hj]); (first | rfl | simp [hk4])
          · simp (maxSteps:=999999) -dsimp -implicitDefEqProofs only [↓eqD,eqU,eqV,eqW,vbuiltinQ,vlen,vslice,vindex,vstore,Array.toList,simprocAttr,T_rrng_ord,T_rrng_ghost,FB,FC,none_at,h1,Taken.v,Ex.cells,c3,hx,Tok.cells,hk4,hn3,lt6 hid]; (repeat ((with_reducible (refine And.intro ?_ ?_)); (focus (first | omega | exact ⟨by omega, by omega⟩))))
            (repeat ((with_reducible (refine And.intro ?_ ?_)); (focus (first | omega | exact ⟨by omega, by omega⟩)))); (refine VDone.back hG ?_ rfl ?_); (intro j hj; first | rfl | simp (maxSteps:=999999) -dsimp -implicitDefEqProofs only [↓eqD,eqU,eqV,eqW,vbuiltinQ,vlen,vslice,vindex,vstore,Array.toList,simprocAttr,lt6 hj]); (first | rfl | simp [hk4])
        · have c3 : ¬(n : Int) < (T.length : Int) := by omega
          simp (maxSteps:=999999) -dsimp -implicitDefEqProofs only [↓eqD,eqU,eqV,eqW,vbuiltinQ,vlen,vslice,vindex,vstore,Array.toList,simprocAttr,T_rrng_ord,T_rrng_ghost,FB,FC,none_at,h1,Taken.v,Ex.cells,c3,hn3,Int.toNat_natCast,lt6 hid]; (repeat ((with_reducible (refine And.intro ?_ ?_)); (focus (first | omega | exact ⟨by omega, by omega⟩))))
          (repeat ((with_reducible (refine And.intro ?_ ?_)); (focus (first | omega | exact ⟨by omega, by omega⟩)))); (refine VDone.back hG ?_ rfl ?_); (intro j hj; first | rfl | simp (maxSteps:=999999) -dsimp -implicitDefEqProofs only [↓eqD,eqU,eqV,eqW,vbuiltinQ,vlen,vslice,vindex,vstore,Array.toList,simprocAttr,lt6 hj]); (first | rfl | simp [])
      · simp (maxSteps:=999999) -dsimp -implicitDefEqProofs only [↓eqD,eqU,eqV,eqW,vbuiltinQ,vlen,vslice,vindex,vstore,Array.toList,simprocAttr,T_rrng_ord,T_rrng_ghost,FB,FC,none_at,h1,Taken.v,Ex.cells,hr,lt6 hid]; (repeat ((with_reducible (refine And.intro ?_ ?_)); (focus (first | omega | exact ⟨by omega, by omega⟩))))
        (repeat ((with_reducible (refine And.intro ?_ ?_)); (focus (first | omega | exact ⟨by omega, by omega⟩)))); (refine VDone.back hG ?_ rfl ?_); (intro j hj; first | rfl | simp (maxSteps:=999999) -dsimp -implicitDefEqProofs only [↓eqD,eqU,eqV,eqW,vbuiltinQ,vlen,vslice,vindex,vstore,Array.toList,simprocAttr,lt6 hj]); (first | rfl | simp [])
  rw [hit, hit]
  simp (maxSteps:=999999) -dsimp -implicitDefEqProofs only [↓eqD,eqU,eqV,eqW,vbuiltinQ,vlen,vslice,vindex,vstore,Array.toList,simprocAttr,fnWp_some Tryz.func72,Tryz.f72,T_rrng_ord,T_rrng_ghost,FB,FC,none_at,h1,he,c2,hxt,Tok.cells,hk,ht,ht2,ne_eq,lt6 hid]; (repeat ((with_reducible (refine And.intro ?_ ?_)); (focus (first | omega | exact ⟨by omega, by omega⟩))))
  (repeat ((with_reducible (refine And.intro ?_ ?_)); (focus (first | omega | exact ⟨by omega, by omega⟩)))); (refine VDone.back hG ?_ rfl ?_); (intro j hj; first | rfl | simp (maxSteps:=999999) -dsimp -implicitDefEqProofs only [↓eqD,eqU,eqV,eqW,vbuiltinQ,vlen,vslice,vindex,vstore,Array.toList,simprocAttr,lt6 hj]); (first | rfl | simp [ht, ht2])
def g27 : List V → Heap → Option (Prop × V × Heap)
  | [.ptr id 0 0, .slc 1 n x], G => match rOf (G.get id), unstr x with
    | some (T, en, s), some ws => some ((ReaderAt G id T en s ∧ ws.length ≤ 100) ∧ n = ws.length ∧ x = ws.map .str, .str (takeS T s ws).1, G.put id (.cells 0 (rcells T en (takeS T s ws).2)))
    | _, _ => none
  | _, _ => none
theorem ok_rtk {P : Specs} (hP : SOk Tryz.prog P) : SOk Tryz.prog (P.addH 27 g27) := by
  refine hP.addH ?_
  intro xs G p v G' e hp
  unfold g27 at e
  split at e
  · split at e
    · cases e
      obtain ⟨⟨h1, h2⟩, h3, h4⟩ := hp
      rw [h3, h4]
      exact rtake_walk h1 _ h2
    · cases e
  · cases e
theorem ok_rfl {P : Specs} (hP : SOk Tryz.prog P) : SOk Tryz.prog (P.addH 28 (gR r51)) := okR hP fun T en s id G xs v s' h e => by
  unfold r51 at e
  split at e
  · cases e; exact rfail_walk h _
  · cases e
def YS2 : Specs := (Specs.none.addH 27 g27).addH 28 (gR r51)
theorem YS2_at (f : FuncId) (xs : List V) (G : Heap) : YS2 f xs G = ((Specs.none.addH 27 g27).addH 28 (gR r51)) f xs G := rfl
theorem okYS2 : SOk Tryz.prog YS2 := ok_rfl (ok_rtk (SOk.none _))
theorem relS_lit (T : List Tok) (s : St) : takeS T s [[60], [60, 61], [62], [62, 61], [61], [33, 61]] = takeS T s relW := rfl
theorem openS_lit (T : List Tok) (s : St) : takeS T s [[91], [40]] = takeS T s openW := rfl
theorem closeS_lit (T : List Tok) (s : St) : takeS T s [[93], [41]] = takeS T s closeW := rfl
theorem ok_rtest : fnOk Tryz.prog 46 T0 1 = true := by kernel_rfl
set_option maxRecDepth 100000 in
set_option maxHeartbeats 2000000 in
theorem rtest_walk {T : List Tok} (hT : TokOk T) {en : Int} {s : St} {id : Nat} {G : Heap} (h : ReaderAt G id T en s) : VCalls Tryz.prog 46 [.ptr id 0 0] G fun u H => u = .agg (testR T en s).1.cells ∧ H = G.put id (.cells 0 (rcells T en (testR T en s).2)) := by
  refine VCalls.of (okYS2) mixed T0 ok_rtest fun hG => ?_
  have hid := hG.lt h.1
  have hu := fun s' => rcells_under T en s' G.next
  have h11 := h.1
  have h12 := h.2.1
  have h13 := h.2.2
  unfold testR
  have m1 := (takeS_goes (s := s) h13 relW).2
  by_cases ho : (takeS T s relW).1 = []
  case neg =>
    rw [if_pos ho]
    simp (maxSteps:=999999) -dsimp -implicitDefEqProofs only [↓eqD,eqU,eqV,eqW,vbuiltinQ,vlen,vslice,vindex,vstore,Array.toList,simprocAttr,fnWp_some Tryz.func46,Tryz.f46,T0,FB,FC,none_at,YS2_at,addH_at,g27,gR,r51,vreps,vfill,unstr_cons,unstr_nil,map_str_cons,map_str_nil,rOf_rcells,ReaderAt,h11,h12,h13,relS_lit,ho,ne_eq,lt6 hid]; (repeat ((with_reducible (refine And.intro ?_ ?_)); (focus (first | omega | exact ⟨by omega, by omega⟩))))
    generalize takeS T s relW = os at *
    obtain ⟨o, s1⟩ := os
    simp only at m1 ho ⊢
    refine (rexpr_walk hT (en := en) (s := s1) ⟨by simp (maxSteps:=999999) -dsimp -implicitDefEqProofs only [↓eqD,eqU,eqV,eqW,vbuiltinQ,vlen,vslice,vindex,vstore,Array.toList,simprocAttr,lt6 hid], h12, m1⟩).mono ?_
    rintro _ _ ⟨rfl, rfl⟩
    generalize exprT T en s1 = ks at *
    obtain ⟨⟨k1, b1, m1', c1, t1, lo1, hi1, kids1⟩, s2⟩ := ks
    simp only
    simp (maxSteps:=999999) -dsimp -implicitDefEqProofs only [↓eqD,eqU,eqV,eqW,vbuiltinQ,vlen,vslice,vindex,vstore,Array.toList,simprocAttr,T0,FB,FC,none_at,YS2_at,addH_at,Ex.cells,lt6 hid]; (repeat ((with_reducible (refine And.intro ?_ ?_)); (focus (first | omega | exact ⟨by omega, by omega⟩))))
    refine .weak vle_te1 (VDone.turned hG hid (hu _) ?_ ?_ rfl ?_)
    · simp (maxSteps:=999999) -dsimp -implicitDefEqProofs only [↓eqD,eqU,eqV,eqW,vbuiltinQ,vlen,vslice,vindex,vstore,Array.toList,simprocAttr,lt6 hid]
    · intro j hj hji; simp (maxSteps:=999999) -dsimp -implicitDefEqProofs only [↓eqD,eqU,eqV,eqW,vbuiltinQ,vlen,vslice,vindex,vstore,Array.toList,simprocAttr,lt6 hj,hji]
    · rfl
  rw [if_neg (fun h => h ho)]
  simp (maxSteps:=999999) -dsimp -implicitDefEqProofs only [↓eqD,eqU,eqV,eqW,vbuiltinQ,vlen,vslice,vindex,vstore,Array.toList,simprocAttr,fnWp_some Tryz.func46,Tryz.f46,T0,FB,FC,none_at,YS2_at,addH_at,g27,gR,r51,vreps,vfill,unstr_cons,unstr_nil,map_str_cons,map_str_nil,rOf_rcells,ReaderAt,h11,h12,h13,relS_lit,ho,ne_eq,lt6 hid]; (repeat ((with_reducible (refine And.intro ?_ ?_)); (focus (first | omega | exact ⟨by omega, by omega⟩))))
  generalize takeS T s relW = os at *
  obtain ⟨o, s1⟩ := os
  simp only at m1 ho ⊢
  refine (rrng_walk hT (en := en) (s := s1) ⟨by simp (maxSteps:=999999) -dsimp -implicitDefEqProofs only [↓eqD,eqU,eqV,eqW,vbuiltinQ,vlen,vslice,vindex,vstore,Array.toList,simprocAttr,lt6 hid], h12, m1⟩).mono ?_
  rintro _ _ ⟨rfl, rfl⟩
  cases hr : isRangeT T en s1 with
  | false =>
    rw [if_neg (by decide)]
    simp (maxSteps:=999999) -dsimp -implicitDefEqProofs only [↓eqD,eqU,eqV,eqW,vbuiltinQ,vlen,vslice,vindex,vstore,Array.toList,simprocAttr,T0,FB,FC,none_at,YS2_at,addH_at,lt6 hid]; (repeat ((with_reducible (refine And.intro ?_ ?_)); (focus (first | omega | exact ⟨by omega, by omega⟩))))
    refine (rexpr_walk hT (en := en) (s := s1) ⟨by simp (maxSteps:=999999) -dsimp -implicitDefEqProofs only [↓eqD,eqU,eqV,eqW,vbuiltinQ,vlen,vslice,vindex,vstore,Array.toList,simprocAttr,lt6 hid], h12, m1⟩).mono ?_
    rintro _ _ ⟨rfl, rfl⟩
    generalize exprT T en s1 = ks at *
    obtain ⟨⟨k1, b1, m1', c1, t1, lo1, hi1, kids1⟩, s2⟩ := ks
    simp only
    simp (maxSteps:=999999) -dsimp -implicitDefEqProofs only [↓eqD,eqU,eqV,eqW,vbuiltinQ,vlen,vslice,vindex,vstore,Array.toList,simprocAttr,T0,FB,FC,none_at,YS2_at,addH_at,Ex.cells,lt6 hid]; (repeat ((with_reducible (refine And.intro ?_ ?_)); (focus (first | omega | exact ⟨by omega, by omega⟩))))
    refine .weak vle_te1 (VDone.turned hG hid (hu _) ?_ ?_ rfl ?_)
    · simp (maxSteps:=999999) -dsimp -implicitDefEqProofs only [↓eqD,eqU,eqV,eqW,vbuiltinQ,vlen,vslice,vindex,vstore,Array.toList,simprocAttr,lt6 hid]
    · intro j hj hji; simp (maxSteps:=999999) -dsimp -implicitDefEqProofs only [↓eqD,eqU,eqV,eqW,vbuiltinQ,vlen,vslice,vindex,vstore,Array.toList,simprocAttr,lt6 hj,hji]
    · rfl
  | true =>
    rw [if_pos rfl]
    unfold rangedR
    have m2 := (takeS_goes (T := T) (s := s1) m1 openW).2
    simp (maxSteps:=999999) -dsimp -implicitDefEqProofs only [↓eqD,eqU,eqV,eqW,vbuiltinQ,vlen,vslice,vindex,vstore,Array.toList,simprocAttr,T0,FB,FC,none_at,YS2_at,addH_at,g27,gR,r51,vreps,vfill,unstr_cons,unstr_nil,map_str_cons,map_str_nil,rOf_rcells,ReaderAt,h12,m1,openS_lit,lt6 hid]; (repeat ((with_reducible (refine And.intro ?_ ?_)); (focus (first | omega | exact ⟨by omega, by omega⟩))))
    generalize takeS T s1 openW = os at *
    obtain ⟨o2, s2⟩ := os
    simp only at m2 ⊢
    refine (rexpr_walk hT (en := en) (s := s2) ⟨by simp (maxSteps:=999999) -dsimp -implicitDefEqProofs only [↓eqD,eqU,eqV,eqW,vbuiltinQ,vlen,vslice,vindex,vstore,Array.toList,simprocAttr,lt6 hid], h12, m2⟩).mono ?_
    rintro _ _ ⟨rfl, rfl⟩
    have m3 := (exprT_goes (T := T) (en := en) s2 m2).2
    generalize exprT T en s2 = ks at *
    obtain ⟨⟨k1, b1, m1', c1, t1, lo1, hi1, kids1⟩, s3⟩ := ks
    simp only at m3 ⊢
    have m4 := (takeS_goes (T := T) (s := s3) m3 [[46, 46]]).2
    simp (maxSteps:=999999) -dsimp -implicitDefEqProofs only [↓eqD,eqU,eqV,eqW,vbuiltinQ,vlen,vslice,vindex,vstore,Array.toList,simprocAttr,T0,FB,FC,none_at,YS2_at,addH_at,g27,gR,r51,vreps,vfill,unstr_cons,unstr_nil,map_str_cons,map_str_nil,rOf_rcells,ReaderAt,h12,m3,Ex.cells,lt6 hid]; (repeat ((with_reducible (refine And.intro ?_ ?_)); (focus (first | omega | exact ⟨by omega, by omega⟩))))
    generalize takeS T s3 [[46, 46]] = os at *
    obtain ⟨o4, s4⟩ := os
    simp only at m4 ⊢
    refine (rexpr_walk hT (en := en) (s := s4) ⟨by simp (maxSteps:=999999) -dsimp -implicitDefEqProofs only [↓eqD,eqU,eqV,eqW,vbuiltinQ,vlen,vslice,vindex,vstore,Array.toList,simprocAttr,lt6 hid], h12, m4⟩).mono ?_
    rintro _ _ ⟨rfl, rfl⟩
    have m5 := (exprT_goes (T := T) (en := en) s4 m4).2
    generalize exprT T en s4 = ks at *
    obtain ⟨⟨k2, b2, m2', c2, t2, lo2, hi2, kids2⟩, s5⟩ := ks
    simp only at m5 ⊢
    have m6 := (takeS_goes (T := T) (s := s5) m5 closeW).2
    by_cases hc : (takeS T s5 closeW).1 = []
    · simp (maxSteps:=999999) -dsimp -implicitDefEqProofs only [↓eqD,eqU,eqV,eqW,vbuiltinQ,vlen,vslice,vindex,vstore,Array.toList,simprocAttr,T0,FB,FC,none_at,YS2_at,addH_at,g27,gR,r51,vreps,vfill,unstr_cons,unstr_nil,map_str_cons,map_str_nil,rOf_rcells,ReaderAt,h12,m5,m6,Ex.cells,closeS_lit,hc,lt6 hid]; (repeat ((with_reducible (refine And.intro ?_ ?_)); (focus (first | omega | exact ⟨by omega, by omega⟩))))
      refine .weak vle_te0 (VDone.turned hG hid (hu (errsT T en (takeS T s5 closeW).2 2)) ?_ ?_ rfl ?_)
      · simp (maxSteps:=999999) -dsimp -implicitDefEqProofs only [↓eqD,eqU,eqV,eqW,vbuiltinQ,vlen,vslice,vindex,vstore,Array.toList,simprocAttr,lt6 hid]
      · intro j hj hji; simp (maxSteps:=999999) -dsimp -implicitDefEqProofs only [↓eqD,eqU,eqV,eqW,vbuiltinQ,vlen,vslice,vindex,vstore,Array.toList,simprocAttr,lt6 hj,hji]
      · rfl
    · simp (maxSteps:=999999) -dsimp -implicitDefEqProofs only [↓eqD,eqU,eqV,eqW,vbuiltinQ,vlen,vslice,vindex,vstore,Array.toList,simprocAttr,T0,FB,FC,none_at,YS2_at,addH_at,g27,gR,r51,vreps,vfill,unstr_cons,unstr_nil,map_str_cons,map_str_nil,rOf_rcells,ReaderAt,h12,m5,m6,Ex.cells,closeS_lit,hc,lt6 hid]; (repeat ((with_reducible (refine And.intro ?_ ?_)); (focus (first | omega | exact ⟨by omega, by omega⟩))))
      refine .weak vle_te0 (VDone.turned hG hid (hu (takeS T s5 closeW).2) ?_ ?_ rfl ?_)
      · simp (maxSteps:=999999) -dsimp -implicitDefEqProofs only [↓eqD,eqU,eqV,eqW,vbuiltinQ,vlen,vslice,vindex,vstore,Array.toList,simprocAttr,lt6 hid]
      · intro j hj hji; simp (maxSteps:=999999) -dsimp -implicitDefEqProofs only [↓eqD,eqU,eqV,eqW,vbuiltinQ,vlen,vslice,vindex,vstore,Array.toList,simprocAttr,lt6 hj,hji]
      · rfl
end Go.Vf
