/- A part of the proof: Qa. -/
import Derived.Test.YtkcdhmplinjldaaGreatDoorPANg
set_option linter.unusedVariables false
set_option linter.unusedSimpArgs false
namespace Go.Vf
open Go.Proofs Go.RowKit
theorem take8 (e : Ex) : List.take 8 e.cells = e.cells := by rw [List.take_of_length_le]; have := e.cells_len; omega
def headE (k : Int) (b b' : Bool) (m s m' s' : Int) (t t' : List UInt8) (lo lo' hi hi' : Bool) : Bool :=
  if k = 2 then decide (b = b') else if k = 3 then decide (m = m') && decide (s = s')
  else if k = 4 ∨ k = 5 ∨ k = 6 ∨ k = 10 then decide (t = t') else if k = 11 then decide (lo = lo') && decide (hi = hi') else true
mutual
def sameE : Ex → Ex → Bool
  | .mk k b m s t lo hi ks, .mk k' b' m' s' t' lo' hi' ks' => if k = k' ∧ ks.length = ks'.length then headE k b b' m s m' s' t t' lo lo' hi hi' && sameL ks ks' else false
def sameL : List Ex → List Ex → Bool
  | [], [] => true
  | a :: r, b :: r' => sameE a b && sameL r r'
  | _, _ => false
end
theorem exs_at : ∀ {l : List Ex} {i : Nat} (h : i < l.length), velem 8 (exsC l) i = l[i].cells
  | e :: r, 0, _ => by
    unfold velem
    rw [exsC, Nat.zero_mul, List.drop_zero]
    have := e.cells_len
    rw [← this, List.take_left]; rfl
  | e :: r, i + 1, h => by
    have := exs_at (l := r) (i := i) (by simpa using h)
    unfold velem at this ⊢
    have hl := e.cells_len
    have hd : ((i + 1) * 8) = e.cells.length + i * 8 := by omega
    rw [exsC, hd, ← List.drop_drop, List.drop_left, this]; rfl
theorem same_at : ∀ {l l' : List Ex} (i : Nat) (h : i < l.length) (h' : i < l'.length), l.length = l'.length → sameL (l.drop i) (l'.drop i) = (sameE l[i] l'[i] && sameL (l.drop (i + 1)) (l'.drop (i + 1)))
  | a :: r, b :: r', 0, _, _, _ => by simp [sameL]
  | a :: r, b :: r', i + 1, h, h', hl => by
    have := same_at (l := r) (l' := r') i (by simpa using h) (by simpa using h') (by simpa using hl)
    simpa using this
theorem same_out {l l' : List Ex} {i : Nat} (h : l.length ≤ i) (hl : l.length = l'.length) : sameL (l.drop i) (l'.drop i) = true := by
  rw [List.drop_of_length_le h, List.drop_of_length_le (by omega)]; rfl
def T13 : Tab := ⟨fun id => if id = 22 then ([0, 1, 2, 3, 4, 5, 6, 7, 8, 9, 10, 11], []) else ([], []), fun _ => false⟩
theorem T13_ord (id : Nat) : T13.ord id = if id = 22 then ([0, 1, 2, 3, 4, 5, 6, 7, 8, 9, 10, 11], []) else ([], []) := rfl
theorem T13_ghost (id : Nat) : T13.ghost id = false := rfl
theorem k23 : tkinds Tryz.prog 8 32 = some [1, 1] := by kernel_rfl
theorem okn13 : fnOk Tryz.prog 29 T13 2 = true := by kernel_rfl
set_option maxRecDepth 100000 in
set_option maxHeartbeats 4000000 in
theorem same_walk0 (k : Int) (b : Bool) (m s : Int) (t : List UInt8) (lo hi : Bool) (ks : List Ex) (k' : Int) (b' : Bool) (m' s' : Int) (t' : List UInt8) (lo' hi' : Bool) (ks' : List Ex) (hl : ks.length ≤ 9223372036854775807)
    (hk : ∀ (i : Nat) (h : i < ks.length) (h' : i < ks'.length) (G : Heap), VPure Tryz.prog 29 [.agg ks[i].cells, .agg ks'[i].cells] G (.bool (sameE ks[i] ks'[i]))) (G : Heap) :
    VPure Tryz.prog 29 [.agg (Ex.mk k b m s t lo hi ks).cells, .agg (Ex.mk k' b' m' s' t' lo' hi' ks').cells] G (.bool (sameE (.mk k b m s t lo hi ks) (.mk k' b' m' s' t' lo' hi' ks'))) := by
  refine VCalls.of (SOk.none _) mixed T13 okn13 fun hG => ?_
  have d1 := exsC_closed ks
  have d2 := exsC_closed ks'
  rw [sameE]
  by_cases c1 : k = k'
  case neg =>
    rw [if_neg (fun h => c1 h.1)]
    simp (maxSteps:=999999) -dsimp -implicitDefEqProofs only [↓eqD,eqU,eqV,eqW,vbuiltinQ,vlen,vslice,vindex,vstore,Array.toList,simprocAttr,fnWp_some Tryz.func29,Tryz.f29,T13_ord,T13_ghost,FB,none_at,Ex.cells,d1,d2,ne_eq,Int.reduceEq,k23,ag23,c23,i23,z23,veqK,veq1,vtag,Bool.and_eq_true,decide_eq_true_eq,c1]
    refine VDone.back hG ?_ rfl rfl
    intro j hj; simp (maxSteps:=999999) -dsimp -implicitDefEqProofs only [↓eqD,eqU,eqV,eqW,vbuiltinQ,vlen,vslice,vindex,vstore,Array.toList,simprocAttr,lt6 hj]
  subst c1
  by_cases c2 : ks.length = ks'.length
  case neg =>
    rw [if_neg (fun h => c2 h.2)]
    have c2' : ¬(ks.length : Int) = (ks'.length : Int) := by omega
    simp (maxSteps:=999999) -dsimp -implicitDefEqProofs only [↓eqD,eqU,eqV,eqW,vbuiltinQ,vlen,vslice,vindex,vstore,Array.toList,simprocAttr,fnWp_some Tryz.func29,Tryz.f29,T13_ord,T13_ghost,FB,none_at,Ex.cells,d1,d2,ne_eq,Int.reduceEq,k23,ag23,c23,i23,z23,veqK,veq1,vtag,Bool.and_eq_true,decide_eq_true_eq,c2']
    refine VDone.back hG ?_ rfl rfl
    intro j hj; simp (maxSteps:=999999) -dsimp -implicitDefEqProofs only [↓eqD,eqU,eqV,eqW,vbuiltinQ,vlen,vslice,vindex,vstore,Array.toList,simprocAttr,lt6 hj]
  try rw [if_pos ⟨rfl, c2⟩]
  have c2' : (ks.length : Int) = (ks'.length : Int) := by omega
  by_cases q2 : k = 2
  · subst q2
    by_cases e : b = b'
    · subst e
      have hh : headE 2 b b m s m' s' t t' lo lo' hi hi' = true := by unfold headE; simp
      rw [hh, Bool.true_and]
      simp (maxSteps:=999999) -dsimp -implicitDefEqProofs only [↓eqD,eqU,eqV,eqW,vbuiltinQ,vlen,vslice,vindex,vstore,Array.toList,simprocAttr,fnWp_some Tryz.func29,Tryz.f29,T13_ord,T13_ghost,FB,none_at,Ex.cells,d1,d2,ne_eq,Int.reduceEq,k23,ag23,c23,i23,z23,veqK,veq1,vtag,Bool.and_eq_true,decide_eq_true_eq,c2']
      refine vloop_by (fun i : Nat => i ≤ ks.length ∧ sameL ks ks' = sameL (ks.drop i) (ks'.drop i)) (fun i => Env.of [(2, .ptr G.next 0 0), (3, .ptr (G.next + 1) 0 0), (5, .int .i64 i)]) (fun _ => G.over (G.next + 2) [(G.next, .cells 0 [.int .i64 2, .bool b, .int .i64 m, .int .i64 s, .str t, .bool lo, .bool hi, .sl 8 ks.length (exsC ks)]), (G.next + 1, .cells 0 [.int .i64 2, .bool b, .int .i64 m', .int .i64 s', .str t', .bool lo', .bool hi', .sl 8 ks'.length (exsC ks')])]) (fun i => ks.length - i) 0 ?_ ?_ ?_
      · refine .of ?_ (.over hG ?_ ?_ ?_)
        · simp (maxSteps:=999999) -dsimp -implicitDefEqProofs only [↓eqD,eqU,eqV,eqW,vbuiltinQ,vlen,vslice,vindex,vstore,Array.toList,simprocAttr]
          (repeat' apply And.intro) <;> exact .refl _
        · simp (maxSteps:=999999) -dsimp -implicitDefEqProofs only [↓eqD,eqU,eqV,eqW,vbuiltinQ,vlen,vslice,vindex,vstore,Array.toList,simprocAttr]
        · simp (maxSteps:=999999) -dsimp -implicitDefEqProofs only [↓eqD,eqU,eqV,eqW,vbuiltinQ,vlen,vslice,vindex,vstore,Array.toList,simprocAttr,FB]
        · intro j hj
          have hj : j < G.next := hj
          simp (maxSteps:=999999) -dsimp -implicitDefEqProofs only [↓eqD,eqU,eqV,eqW,vbuiltinQ,vlen,vslice,vindex,vstore,Array.toList,simprocAttr,lt6 hj]
      · exact ⟨Nat.zero_le _, rfl⟩
      · intro i ⟨hle, hI⟩
        by_cases hlt : i < ks.length
        · have hlt' : i < ks'.length := by omega
          have hx := exs_at hlt
          have hx' := exs_at hlt'
          have hs := same_at i hlt hlt' c2
          have k1 : (i : Int) < (ks.length : Int) := by omega
          have k2 : 0 ≤ (i : Int) := by omega
          have k3 : (i : Int) < (ks'.length : Int) := by omega
          have kw : IntKind.wrap .i64 ((i : Int) + 1) = ((i + 1 : Nat) : Int) := by rw [w64 (by omega) (by omega)]; rfl
          simp (maxSteps:=999999) -dsimp -implicitDefEqProofs only [↓eqD,eqU,eqV,eqW,vbuiltinQ,vlen,vslice,vindex,vstore,Array.toList,simprocAttr,T13_ord,T13_ghost,FB,none_at,k1,k2,k3,kw,hx,hx',take8,Ex.cells_len,Nat.le_refl]
          refine VPure.calls (hk i hlt hlt' _) ?_
          rw [hI, hs]
          by_cases se : sameE ks[i] ks'[i] = true
          · rw [se]
            simp (maxSteps:=999999) -dsimp -implicitDefEqProofs only [↓eqD,eqU,eqV,eqW,vbuiltinQ,vlen,vslice,vindex,vstore,Array.toList,simprocAttr,T13_ord,T13_ghost,FB,none_at,kw]
            refine ⟨i + 1, ⟨by omega, ?_⟩, by omega, .of ?_ (.over hG ?_ ?_ ?_)⟩
            · rfl
            · simp (maxSteps:=999999) -dsimp -implicitDefEqProofs only [↓eqD,eqU,eqV,eqW,vbuiltinQ,vlen,vslice,vindex,vstore,Array.toList,simprocAttr]
              (repeat' apply And.intro) <;> exact .refl _
            · simp (maxSteps:=999999) -dsimp -implicitDefEqProofs only [↓eqD,eqU,eqV,eqW,vbuiltinQ,vlen,vslice,vindex,vstore,Array.toList,simprocAttr]
            · simp (maxSteps:=999999) -dsimp -implicitDefEqProofs only [↓eqD,eqU,eqV,eqW,vbuiltinQ,vlen,vslice,vindex,vstore,Array.toList,simprocAttr,FB]
            · intro j hj
              have hj : j < G.next := hj
              simp (maxSteps:=999999) -dsimp -implicitDefEqProofs only [↓eqD,eqU,eqV,eqW,vbuiltinQ,vlen,vslice,vindex,vstore,Array.toList,simprocAttr,lt6 hj]
          · have se : sameE ks[i] ks'[i] = false := by simpa using se
            rw [se]
            simp (maxSteps:=999999) -dsimp -implicitDefEqProofs only [↓eqD,eqU,eqV,eqW,vbuiltinQ,vlen,vslice,vindex,vstore,Array.toList,simprocAttr,T13_ord,T13_ghost,FB,none_at,kw]
            refine VDone.back hG ?_ rfl rfl
            intro j hj; simp (maxSteps:=999999) -dsimp -implicitDefEqProofs only [↓eqD,eqU,eqV,eqW,vbuiltinQ,vlen,vslice,vindex,vstore,Array.toList,simprocAttr,lt6 hj]
        · have k1 : ¬(i : Int) < (ks.length : Int) := by omega
          have hs := same_out (l := ks) (l' := ks') (i := i) (by omega) c2
          rw [hI, hs]
          simp (maxSteps:=999999) -dsimp -implicitDefEqProofs only [↓eqD,eqU,eqV,eqW,vbuiltinQ,vlen,vslice,vindex,vstore,Array.toList,simprocAttr,T13_ord,T13_ghost,FB,none_at,k1]
          refine VDone.back hG ?_ rfl rfl
          intro j hj; simp (maxSteps:=999999) -dsimp -implicitDefEqProofs only [↓eqD,eqU,eqV,eqW,vbuiltinQ,vlen,vslice,vindex,vstore,Array.toList,simprocAttr,lt6 hj]
    · have hh : headE 2 b b' m s m' s' t t' lo lo' hi hi' = false := by unfold headE; simp [e]
      rw [hh, Bool.false_and]
      simp (maxSteps:=999999) -dsimp -implicitDefEqProofs only [↓eqD,eqU,eqV,eqW,vbuiltinQ,vlen,vslice,vindex,vstore,Array.toList,simprocAttr,fnWp_some Tryz.func29,Tryz.f29,T13_ord,T13_ghost,FB,none_at,Ex.cells,d1,d2,ne_eq,Int.reduceEq,k23,ag23,c23,i23,z23,veqK,veq1,vtag,Bool.and_eq_true,decide_eq_true_eq,c2',e]
      refine VDone.back hG ?_ rfl rfl
      intro j hj; simp (maxSteps:=999999) -dsimp -implicitDefEqProofs only [↓eqD,eqU,eqV,eqW,vbuiltinQ,vlen,vslice,vindex,vstore,Array.toList,simprocAttr,lt6 hj]
  by_cases q3 : k = 3
  · subst q3
    by_cases e : m = m'
    · subst e
      by_cases f : s = s'
      · subst f
        have hh : headE 3 b b' m s m s t t' lo lo' hi hi' = true := by unfold headE; simp
        rw [hh, Bool.true_and]
        simp (maxSteps:=999999) -dsimp -implicitDefEqProofs only [↓eqD,eqU,eqV,eqW,vbuiltinQ,vlen,vslice,vindex,vstore,Array.toList,simprocAttr,fnWp_some Tryz.func29,Tryz.f29,T13_ord,T13_ghost,FB,none_at,Ex.cells,d1,d2,ne_eq,Int.reduceEq,k23,ag23,c23,i23,z23,veqK,veq1,vtag,Bool.and_eq_true,decide_eq_true_eq,c2']
        refine vloop_by (fun i : Nat => i ≤ ks.length ∧ sameL ks ks' = sameL (ks.drop i) (ks'.drop i)) (fun i => Env.of [(2, .ptr G.next 0 0), (3, .ptr (G.next + 1) 0 0), (5, .int .i64 i)]) (fun _ => G.over (G.next + 2) [(G.next, .cells 0 [.int .i64 3, .bool b, .int .i64 m, .int .i64 s, .str t, .bool lo, .bool hi, .sl 8 ks.length (exsC ks)]), (G.next + 1, .cells 0 [.int .i64 3, .bool b', .int .i64 m, .int .i64 s, .str t', .bool lo', .bool hi', .sl 8 ks'.length (exsC ks')])]) (fun i => ks.length - i) 0 ?_ ?_ ?_
        · refine .of ?_ (.over hG ?_ ?_ ?_)
          · simp (maxSteps:=999999) -dsimp -implicitDefEqProofs only [↓eqD,eqU,eqV,eqW,vbuiltinQ,vlen,vslice,vindex,vstore,Array.toList,simprocAttr]
            (repeat' apply And.intro) <;> exact .refl _
          · simp (maxSteps:=999999) -dsimp -implicitDefEqProofs only [↓eqD,eqU,eqV,eqW,vbuiltinQ,vlen,vslice,vindex,vstore,Array.toList,simprocAttr]
          · simp (maxSteps:=999999) -dsimp -implicitDefEqProofs only [↓eqD,eqU,eqV,eqW,vbuiltinQ,vlen,vslice,vindex,vstore,Array.toList,simprocAttr,FB]
          · intro j hj
            have hj : j < G.next := hj
            simp (maxSteps:=999999) -dsimp -implicitDefEqProofs only [↓eqD,eqU,eqV,eqW,vbuiltinQ,vlen,vslice,vindex,vstore,Array.toList,simprocAttr,lt6 hj]
        · exact ⟨Nat.zero_le _, rfl⟩
        · intro i ⟨hle, hI⟩
          by_cases hlt : i < ks.length
          · have hlt' : i < ks'.length := by omega
            have hx := exs_at hlt
            have hx' := exs_at hlt'
            have hs := same_at i hlt hlt' c2
            have k1 : (i : Int) < (ks.length : Int) := by omega
            have k2 : 0 ≤ (i : Int) := by omega
            have k3 : (i : Int) < (ks'.length : Int) := by omega
            have kw : IntKind.wrap .i64 ((i : Int) + 1) = ((i + 1 : Nat) : Int) := by rw [w64 (by omega) (by omega)]; rfl
            simp (maxSteps:=999999) -dsimp -implicitDefEqProofs only [↓eqD,eqU,eqV,eqW,vbuiltinQ,vlen,vslice,vindex,vstore,Array.toList,simprocAttr,T13_ord,T13_ghost,FB,none_at,k1,k2,k3,kw,hx,hx',take8,Ex.cells_len,Nat.le_refl]
            refine VPure.calls (hk i hlt hlt' _) ?_
            rw [hI, hs]
            by_cases se : sameE ks[i] ks'[i] = true
            · rw [se]
              simp (maxSteps:=999999) -dsimp -implicitDefEqProofs only [↓eqD,eqU,eqV,eqW,vbuiltinQ,vlen,vslice,vindex,vstore,Array.toList,simprocAttr,T13_ord,T13_ghost,FB,none_at,kw]
              refine ⟨i + 1, ⟨by omega, ?_⟩, by omega, .of ?_ (.over hG ?_ ?_ ?_)⟩
              · rfl
              · simp (maxSteps:=999999) -dsimp -implicitDefEqProofs only [↓eqD,eqU,eqV,eqW,vbuiltinQ,vlen,vslice,vindex,vstore,Array.toList,simprocAttr]
                (repeat' apply And.intro) <;> exact .refl _
              · simp (maxSteps:=999999) -dsimp -implicitDefEqProofs only [↓eqD,eqU,eqV,eqW,vbuiltinQ,vlen,vslice,vindex,vstore,Array.toList,simprocAttr]
              · simp (maxSteps:=999999) -dsimp -implicitDefEqProofs only [↓eqD,eqU,eqV,eqW,vbuiltinQ,vlen,vslice,vindex,vstore,Array.toList,simprocAttr,FB]
              · intro j hj
                have hj : j < G.next := hj
                simp (maxSteps:=999999) -dsimp -implicitDefEqProofs only [↓eqD,eqU,eqV,eqW,vbuiltinQ,vlen,vslice,vindex,vstore,Array.toList,simprocAttr,lt6 hj]
            · have se : sameE ks[i] ks'[i] = false := by simpa using se
              rw [se]
              simp (maxSteps:=999999) -dsimp -implicitDefEqProofs only [↓eqD,eqU,eqV,eqW,vbuiltinQ,vlen,vslice,vindex,vstore,Array.toList,simprocAttr,T13_ord,T13_ghost,FB,none_at,kw]
              refine VDone.back hG ?_ rfl rfl
              intro j hj; simp (maxSteps:=999999) -dsimp -implicitDefEqProofs only [↓eqD,eqU,eqV,eqW,vbuiltinQ,vlen,vslice,vindex,vstore,Array.toList,simprocAttr,lt6 hj]
          · have k1 : ¬(i : Int) < (ks.length : Int) := by omega
            have hs := same_out (l := ks) (l' := ks') (i := i) (by omega) c2
            rw [hI, hs]
            simp (maxSteps:=999999) -dsimp -implicitDefEqProofs only [↓eqD,eqU,eqV,eqW,vbuiltinQ,vlen,vslice,vindex,vstore,Array.toList,simprocAttr,T13_ord,T13_ghost,FB,none_at,k1]
            refine VDone.back hG ?_ rfl rfl
            intro j hj; simp (maxSteps:=999999) -dsimp -implicitDefEqProofs only [↓eqD,eqU,eqV,eqW,vbuiltinQ,vlen,vslice,vindex,vstore,Array.toList,simprocAttr,lt6 hj]
      · have hh : headE 3 b b' m s m s' t t' lo lo' hi hi' = false := by unfold headE; simp [f]
        rw [hh, Bool.false_and]
        simp (maxSteps:=999999) -dsimp -implicitDefEqProofs only [↓eqD,eqU,eqV,eqW,vbuiltinQ,vlen,vslice,vindex,vstore,Array.toList,simprocAttr,fnWp_some Tryz.func29,Tryz.f29,T13_ord,T13_ghost,FB,none_at,Ex.cells,d1,d2,ne_eq,Int.reduceEq,k23,ag23,c23,i23,z23,veqK,veq1,vtag,Bool.and_eq_true,decide_eq_true_eq,c2',f]
        refine VDone.back hG ?_ rfl rfl
        intro j hj; simp (maxSteps:=999999) -dsimp -implicitDefEqProofs only [↓eqD,eqU,eqV,eqW,vbuiltinQ,vlen,vslice,vindex,vstore,Array.toList,simprocAttr,lt6 hj]
    · have hh : headE 3 b b' m s m' s' t t' lo lo' hi hi' = false := by unfold headE; simp [e]
      rw [hh, Bool.false_and]
      simp (maxSteps:=999999) -dsimp -implicitDefEqProofs only [↓eqD,eqU,eqV,eqW,vbuiltinQ,vlen,vslice,vindex,vstore,Array.toList,simprocAttr,fnWp_some Tryz.func29,Tryz.f29,T13_ord,T13_ghost,FB,none_at,Ex.cells,d1,d2,ne_eq,Int.reduceEq,k23,ag23,c23,i23,z23,veqK,veq1,vtag,Bool.and_eq_true,decide_eq_true_eq,c2',e]
      refine VDone.back hG ?_ rfl rfl
      intro j hj; simp (maxSteps:=999999) -dsimp -implicitDefEqProofs only [↓eqD,eqU,eqV,eqW,vbuiltinQ,vlen,vslice,vindex,vstore,Array.toList,simprocAttr,lt6 hj]
  by_cases q4 : k = 4
  · subst q4
    by_cases e : t = t'
    · subst e
      have hh : headE 4 b b' m s m' s' t t lo lo' hi hi' = true := by unfold headE; simp
      rw [hh, Bool.true_and]
      simp (maxSteps:=999999) -dsimp -implicitDefEqProofs only [↓eqD,eqU,eqV,eqW,vbuiltinQ,vlen,vslice,vindex,vstore,Array.toList,simprocAttr,fnWp_some Tryz.func29,Tryz.f29,T13_ord,T13_ghost,FB,none_at,Ex.cells,d1,d2,ne_eq,Int.reduceEq,k23,ag23,c23,i23,z23,veqK,veq1,vtag,Bool.and_eq_true,decide_eq_true_eq,c2']
      refine vloop_by (fun i : Nat => i ≤ ks.length ∧ sameL ks ks' = sameL (ks.drop i) (ks'.drop i)) (fun i => Env.of [(2, .ptr G.next 0 0), (3, .ptr (G.next + 1) 0 0), (5, .int .i64 i)]) (fun _ => G.over (G.next + 2) [(G.next, .cells 0 [.int .i64 4, .bool b, .int .i64 m, .int .i64 s, .str t, .bool lo, .bool hi, .sl 8 ks.length (exsC ks)]), (G.next + 1, .cells 0 [.int .i64 4, .bool b', .int .i64 m', .int .i64 s', .str t, .bool lo', .bool hi', .sl 8 ks'.length (exsC ks')])]) (fun i => ks.length - i) 0 ?_ ?_ ?_
      · refine .of ?_ (.over hG ?_ ?_ ?_)
        · simp (maxSteps:=999999) -dsimp -implicitDefEqProofs only [↓eqD,eqU,eqV,eqW,vbuiltinQ,vlen,vslice,vindex,vstore,Array.toList,simprocAttr]
          (repeat' apply And.intro) <;> exact .refl _
        · simp (maxSteps:=999999) -dsimp -implicitDefEqProofs only [↓eqD,eqU,eqV,eqW,vbuiltinQ,vlen,vslice,vindex,vstore,Array.toList,simprocAttr]
        · simp (maxSteps:=999999) -dsimp -implicitDefEqProofs only [↓eqD,eqU,eqV,eqW,vbuiltinQ,vlen,vslice,vindex,vstore,Array.toList,simprocAttr,FB]
        · intro j hj
          have hj : j < G.next := hj
          simp (maxSteps:=999999) -dsimp -implicitDefEqProofs only [↓eqD,eqU,eqV,eqW,vbuiltinQ,vlen,vslice,vindex,vstore,Array.toList,simprocAttr,lt6 hj]
      · exact ⟨Nat.zero_le _, rfl⟩
      · intro i ⟨hle, hI⟩
        by_cases hlt : i < ks.length
        · have hlt' : i < ks'.length := by omega
          have hx := exs_at hlt
          have hx' := exs_at hlt'
          have hs := same_at i hlt hlt' c2
          have k1 : (i : Int) < (ks.length : Int) := by omega
          have k2 : 0 ≤ (i : Int) := by omega
          have k3 : (i : Int) < (ks'.length : Int) := by omega
          have kw : IntKind.wrap .i64 ((i : Int) + 1) = ((i + 1 : Nat) : Int) := by rw [w64 (by omega) (by omega)]; rfl
          simp (maxSteps:=999999) -dsimp -implicitDefEqProofs only [↓eqD,eqU,eqV,eqW,vbuiltinQ,vlen,vslice,vindex,vstore,Array.toList,simprocAttr,T13_ord,T13_ghost,FB,none_at,k1,k2,k3,kw,hx,hx',take8,Ex.cells_len,Nat.le_refl]
          refine VPure.calls (hk i hlt hlt' _) ?_
          rw [hI, hs]
          by_cases se : sameE ks[i] ks'[i] = true
          · rw [se]
            simp (maxSteps:=999999) -dsimp -implicitDefEqProofs only [↓eqD,eqU,eqV,eqW,vbuiltinQ,vlen,vslice,vindex,vstore,Array.toList,simprocAttr,T13_ord,T13_ghost,FB,none_at,kw]
            refine ⟨i + 1, ⟨by omega, ?_⟩, by omega, .of ?_ (.over hG ?_ ?_ ?_)⟩
            · rfl
            · simp (maxSteps:=999999) -dsimp -implicitDefEqProofs only [↓eqD,eqU,eqV,eqW,vbuiltinQ,vlen,vslice,vindex,vstore,Array.toList,simprocAttr]
              (repeat' apply And.intro) <;> exact .refl _
            · simp (maxSteps:=999999) -dsimp -implicitDefEqProofs only [↓eqD,eqU,eqV,eqW,vbuiltinQ,vlen,vslice,vindex,vstore,Array.toList,simprocAttr]
            · simp (maxSteps:=999999) -dsimp -implicitDefEqProofs only [↓eqD,eqU,eqV,eqW,vbuiltinQ,vlen,vslice,vindex,vstore,Array.toList,simprocAttr,FB]
            · intro j hj
              have hj : j < G.next := hj
              simp (maxSteps:=999999) -dsimp -implicitDefEqProofs only [↓eqD,eqU,eqV,eqW,vbuiltinQ,vlen,vslice,vindex,vstore,Array.toList,simprocAttr,lt6 hj]
          · have se : sameE ks[i] ks'[i] = false := by simpa using se
            rw [se]
            simp (maxSteps:=999999) -dsimp -implicitDefEqProofs only [↓eqD,eqU,eqV,eqW,vbuiltinQ,vlen,vslice,vindex,vstore,Array.toList,simprocAttr,T13_ord,T13_ghost,FB,none_at,kw]
            refine VDone.back hG ?_ rfl rfl
            intro j hj; simp (maxSteps:=999999) -dsimp -implicitDefEqProofs only [↓eqD,eqU,eqV,eqW,vbuiltinQ,vlen,vslice,vindex,vstore,Array.toList,simprocAttr,lt6 hj]
        · have k1 : ¬(i : Int) < (ks.length : Int) := by omega
          have hs := same_out (l := ks) (l' := ks') (i := i) (by omega) c2
          rw [hI, hs]
          simp (maxSteps:=999999) -dsimp -implicitDefEqProofs only [↓eqD,eqU,eqV,eqW,vbuiltinQ,vlen,vslice,vindex,vstore,Array.toList,simprocAttr,T13_ord,T13_ghost,FB,none_at,k1]
          refine VDone.back hG ?_ rfl rfl
          intro j hj; simp (maxSteps:=999999) -dsimp -implicitDefEqProofs only [↓eqD,eqU,eqV,eqW,vbuiltinQ,vlen,vslice,vindex,vstore,Array.toList,simprocAttr,lt6 hj]
    · have hh : headE 4 b b' m s m' s' t t' lo lo' hi hi' = false := by unfold headE; simp [e]
      rw [hh, Bool.false_and]
      simp (maxSteps:=999999) -dsimp -implicitDefEqProofs only [↓eqD,eqU,eqV,eqW,vbuiltinQ,vlen,vslice,vindex,vstore,Array.toList,simprocAttr,fnWp_some Tryz.func29,Tryz.f29,T13_ord,T13_ghost,FB,none_at,Ex.cells,d1,d2,ne_eq,Int.reduceEq,k23,ag23,c23,i23,z23,veqK,veq1,vtag,Bool.and_eq_true,decide_eq_true_eq,c2',e]
      refine VDone.back hG ?_ rfl rfl
      intro j hj; simp (maxSteps:=999999) -dsimp -implicitDefEqProofs only [↓eqD,eqU,eqV,eqW,vbuiltinQ,vlen,vslice,vindex,vstore,Array.toList,simprocAttr,lt6 hj]
  by_cases q5 : k = 5
  · subst q5
    by_cases e : t = t'
    · subst e
      have hh : headE 5 b b' m s m' s' t t lo lo' hi hi' = true := by unfold headE; simp
      rw [hh, Bool.true_and]
      simp (maxSteps:=999999) -dsimp -implicitDefEqProofs only [↓eqD,eqU,eqV,eqW,vbuiltinQ,vlen,vslice,vindex,vstore,Array.toList,simprocAttr,fnWp_some Tryz.func29,Tryz.f29,T13_ord,T13_ghost,FB,none_at,Ex.cells,d1,d2,ne_eq,Int.reduceEq,k23,ag23,c23,i23,z23,veqK,veq1,vtag,Bool.and_eq_true,decide_eq_true_eq,c2']
      refine vloop_by (fun i : Nat => i ≤ ks.length ∧ sameL ks ks' = sameL (ks.drop i) (ks'.drop i)) (fun i => Env.of [(2, .ptr G.next 0 0), (3, .ptr (G.next + 1) 0 0), (5, .int .i64 i)]) (fun _ => G.over (G.next + 2) [(G.next, .cells 0 [.int .i64 5, .bool b, .int .i64 m, .int .i64 s, .str t, .bool lo, .bool hi, .sl 8 ks.length (exsC ks)]), (G.next + 1, .cells 0 [.int .i64 5, .bool b', .int .i64 m', .int .i64 s', .str t, .bool lo', .bool hi', .sl 8 ks'.length (exsC ks')])]) (fun i => ks.length - i) 0 ?_ ?_ ?_
      · refine .of ?_ (.over hG ?_ ?_ ?_)
        · simp (maxSteps:=999999) -dsimp -implicitDefEqProofs only [↓eqD,eqU,eqV,eqW,vbuiltinQ,vlen,vslice,vindex,vstore,Array.toList,simprocAttr]
          (repeat' apply And.intro) <;> exact .refl _
        · simp (maxSteps:=999999) -dsimp -implicitDefEqProofs only [↓eqD,eqU,eqV,eqW,vbuiltinQ,vlen,vslice,vindex,vstore,Array.toList,simprocAttr]
        · simp (maxSteps:=999999) -dsimp -implicitDefEqProofs only [↓eqD,eqU,eqV,eqW,vbuiltinQ,vlen,vslice,vindex,vstore,Array.toList,simprocAttr,FB]
        · intro j hj
          have hj : j < G.next := hj
          simp (maxSteps:=999999) -dsimp -implicitDefEqProofs only [↓eqD,eqU,eqV,eqW,vbuiltinQ,vlen,vslice,vindex,vstore,Array.toList,simprocAttr,lt6 hj]
      · exact ⟨Nat.zero_le _, rfl⟩
      · intro i ⟨hle, hI⟩
        by_cases hlt : i < ks.length
        · have hlt' : i < ks'.length := by omega
          have hx := exs_at hlt
          have hx' := exs_at hlt'
          have hs := same_at i hlt hlt' c2
          have k1 : (i : Int) < (ks.length : Int) := by omega
          have k2 : 0 ≤ (i : Int) := by omega
          have k3 : (i : Int) < (ks'.length : Int) := by omega
          have kw : IntKind.wrap .i64 ((i : Int) + 1) = ((i + 1 : Nat) : Int) := by rw [w64 (by omega) (by omega)]; rfl
          simp (maxSteps:=999999) -dsimp -implicitDefEqProofs only [↓eqD,eqU,eqV,eqW,vbuiltinQ,vlen,vslice,vindex,vstore,Array.toList,simprocAttr,T13_ord,T13_ghost,FB,none_at,k1,k2,k3,kw,hx,hx',take8,Ex.cells_len,Nat.le_refl]
          refine VPure.calls (hk i hlt hlt' _) ?_
          rw [hI, hs]
          by_cases se : sameE ks[i] ks'[i] = true
          · rw [se]
            simp (maxSteps:=999999) -dsimp -implicitDefEqProofs only [↓eqD,eqU,eqV,eqW,vbuiltinQ,vlen,vslice,vindex,vstore,Array.toList,simprocAttr,T13_ord,T13_ghost,FB,none_at,kw]
            refine ⟨i + 1, ⟨by omega, ?_⟩, by omega, .of ?_ (.over hG ?_ ?_ ?_)⟩
            · rfl
            · simp (maxSteps:=999999) -dsimp -implicitDefEqProofs only [↓eqD,eqU,eqV,eqW,vbuiltinQ,vlen,vslice,vindex,vstore,Array.toList,simprocAttr]
              (repeat' apply And.intro) <;> exact .refl _
            · simp (maxSteps:=999999) -dsimp -implicitDefEqProofs only [↓eqD,eqU,eqV,eqW,vbuiltinQ,vlen,vslice,vindex,vstore,Array.toList,simprocAttr]
            · simp (maxSteps:=999999) -dsimp -implicitDefEqProofs only [↓eqD,eqU,eqV,eqW,vbuiltinQ,vlen,vslice,vindex,vstore,Array.toList,simprocAttr,FB]
            · intro j hj
              have hj : j < G.next := hj
              simp (maxSteps:=999999) -dsimp -implicitDefEqProofs only [↓eqD,eqU,eqV,eqW,vbuiltinQ,vlen,vslice,vindex,vstore,Array.toList,simprocAttr,lt6 hj]
          · have se : sameE ks[i] ks'[i] = false := by simpa using se
            rw [se]
            simp (maxSteps:=999999) -dsimp -implicitDefEqProofs only [↓eqD,eqU,eqV,eqW,vbuiltinQ,vlen,vslice,vindex,vstore,Array.toList,simprocAttr,T13_ord,T13_ghost,FB,none_at,kw]
            refine VDone.back hG ?_ rfl rfl
            intro j hj; simp (maxSteps:=999999) -dsimp -implicitDefEqProofs only [↓eqD,eqU,eqV,eqW,vbuiltinQ,vlen,vslice,vindex,vstore,Array.toList,simprocAttr,lt6 hj]
        · have k1 : ¬(i : Int) < (ks.length : Int) := by omega
          have hs := same_out (l := ks) (l' := ks') (i := i) (by omega) c2
          rw [hI, hs]
          simp (maxSteps:=999999) -dsimp -implicitDefEqProofs only [↓eqD,eqU,eqV,eqW,vbuiltinQ,vlen,vslice,vindex,vstore,Array.toList,simprocAttr,T13_ord,T13_ghost,FB,none_at,k1]
          refine VDone.back hG ?_ rfl rfl
          intro j hj; simp (maxSteps:=999999) -dsimp -implicitDefEqProofs only [↓eqD,eqU,eqV,eqW,vbuiltinQ,vlen,vslice,vindex,vstore,Array.toList,simprocAttr,lt6 hj]
    · have hh : headE 5 b b' m s m' s' t t' lo lo' hi hi' = false := by unfold headE; simp [e]
      rw [hh, Bool.false_and]
      simp (maxSteps:=999999) -dsimp -implicitDefEqProofs only [↓eqD,eqU,eqV,eqW,vbuiltinQ,vlen,vslice,vindex,vstore,Array.toList,simprocAttr,fnWp_some Tryz.func29,Tryz.f29,T13_ord,T13_ghost,FB,none_at,Ex.cells,d1,d2,ne_eq,Int.reduceEq,k23,ag23,c23,i23,z23,veqK,veq1,vtag,Bool.and_eq_true,decide_eq_true_eq,c2',e]
      refine VDone.back hG ?_ rfl rfl
      intro j hj; simp (maxSteps:=999999) -dsimp -implicitDefEqProofs only [↓eqD,eqU,eqV,eqW,vbuiltinQ,vlen,vslice,vindex,vstore,Array.toList,simprocAttr,lt6 hj]
  by_cases q6 : k = 6
  · subst q6
    by_cases e : t = t'
    · subst e
      have hh : headE 6 b b' m s m' s' t t lo lo' hi hi' = true := by unfold headE; simp
      rw [hh, Bool.true_and]
      simp (maxSteps:=999999) -dsimp -implicitDefEqProofs only [↓eqD,eqU,eqV,eqW,vbuiltinQ,vlen,vslice,vindex,vstore,Array.toList,simprocAttr,fnWp_some Tryz.func29,Tryz.f29,T13_ord,T13_ghost,FB,none_at,Ex.cells,d1,d2,ne_eq,Int.reduceEq,k23,ag23,c23,i23,z23,veqK,veq1,vtag,Bool.and_eq_true,decide_eq_true_eq,c2']
      refine vloop_by (fun i : Nat => i ≤ ks.length ∧ sameL ks ks' = sameL (ks.drop i) (ks'.drop i)) (fun i => Env.of [(2, .ptr G.next 0 0), (3, .ptr (G.next + 1) 0 0), (5, .int .i64 i)]) (fun _ => G.over (G.next + 2) [(G.next, .cells 0 [.int .i64 6, .bool b, .int .i64 m, .int .i64 s, .str t, .bool lo, .bool hi, .sl 8 ks.length (exsC ks)]), (G.next + 1, .cells 0 [.int .i64 6, .bool b', .int .i64 m', .int .i64 s', .str t, .bool lo', .bool hi', .sl 8 ks'.length (exsC ks')])]) (fun i => ks.length - i) 0 ?_ ?_ ?_
      · refine .of ?_ (.over hG ?_ ?_ ?_)
        · simp (maxSteps:=999999) -dsimp -implicitDefEqProofs only [↓eqD,eqU,eqV,eqW,vbuiltinQ,vlen,vslice,vindex,vstore,Array.toList,simprocAttr]
          (repeat' apply And.intro) <;> exact .refl _
        · simp (maxSteps:=999999) -dsimp -implicitDefEqProofs only [↓eqD,eqU,eqV,eqW,vbuiltinQ,vlen,vslice,vindex,vstore,Array.toList,simprocAttr]
        · simp (maxSteps:=999999) -dsimp -implicitDefEqProofs only [↓eqD,eqU,eqV,eqW,vbuiltinQ,vlen,vslice,vindex,vstore,Array.toList,simprocAttr,FB]
        · intro j hj
          have hj : j < G.next := hj
          simp (maxSteps:=999999) -dsimp -implicitDefEqProofs only [↓eqD,eqU,eqV,eqW,vbuiltinQ,vlen,vslice,vindex,vstore,Array.toList,simprocAttr,lt6 hj]
      · exact ⟨Nat.zero_le _, rfl⟩
      · intro i ⟨hle, hI⟩
        by_cases hlt : i < ks.length
        · have hlt' : i < ks'.length := by omega
          have hx := exs_at hlt
          have hx' := exs_at hlt'
          have hs := same_at i hlt hlt' c2
          have k1 : (i : Int) < (ks.length : Int) := by omega
          have k2 : 0 ≤ (i : Int) := by omega
          have k3 : (i : Int) < (ks'.length : Int) := by omega
          have kw : IntKind.wrap .i64 ((i : Int) + 1) = ((i + 1 : Nat) : Int) := by rw [w64 (by omega) (by omega)]; rfl
          simp (maxSteps:=999999) -dsimp -implicitDefEqProofs only [↓eqD,eqU,eqV,eqW,vbuiltinQ,vlen,vslice,vindex,vstore,Array.toList,simprocAttr,T13_ord,T13_ghost,FB,none_at,k1,k2,k3,kw,hx,hx',take8,Ex.cells_len,Nat.le_refl]
          refine VPure.calls (hk i hlt hlt' _) ?_
          rw [hI, hs]
          by_cases se : sameE ks[i] ks'[i] = true
          · rw [se]
            simp (maxSteps:=999999) -dsimp -implicitDefEqProofs only [↓eqD,eqU,eqV,eqW,vbuiltinQ,vlen,vslice,vindex,vstore,Array.toList,simprocAttr,T13_ord,T13_ghost,FB,none_at,kw]
            refine ⟨i + 1, ⟨by omega, ?_⟩, by omega, .of ?_ (.over hG ?_ ?_ ?_)⟩
            · rfl
            · simp (maxSteps:=999999) -dsimp -implicitDefEqProofs only [↓eqD,eqU,eqV,eqW,vbuiltinQ,vlen,vslice,vindex,vstore,Array.toList,simprocAttr]
              (repeat' apply And.intro) <;> exact .refl _
            · simp (maxSteps:=999999) -dsimp -implicitDefEqProofs only [↓eqD,eqU,eqV,eqW,vbuiltinQ,vlen,vslice,vindex,vstore,Array.toList,simprocAttr]
            · simp (maxSteps:=999999) -dsimp -implicitDefEqProofs only [↓eqD,eqU,eqV,eqW,vbuiltinQ,vlen,vslice,vindex,vstore,Array.toList,simprocAttr,FB]
            · intro j hj
              have hj : j < G.next := hj
              simp (maxSteps:=999999) -dsimp -implicitDefEqProofs only [↓eqD,eqU,eqV,eqW,vbuiltinQ,vlen,vslice,vindex,vstore,Array.toList,simprocAttr,lt6 hj]
          · have se : sameE ks[i] ks'[i] = false := by simpa using se
            rw [se]
            simp (maxSteps:=999999) -dsimp -implicitDefEqProofs only [↓eqD,eqU,eqV,eqW,vbuiltinQ,vlen,vslice,vindex,vstore,Array.toList,simprocAttr,T13_ord,T13_ghost,FB,none_at,kw]
            refine VDone.back hG ?_ rfl rfl
            intro j hj; simp (maxSteps:=999999) -dsimp -implicitDefEqProofs only [↓eqD,eqU,eqV,eqW,vbuiltinQ,vlen,vslice,vindex,vstore,Array.toList,simprocAttr,lt6 hj]
        · have k1 : ¬(i : Int) < (ks.length : Int) := by omega
          have hs := same_out (l := ks) (l' := ks') (i := i) (by omega) c2
          rw [hI, hs]
          simp (maxSteps:=999999) -dsimp -implicitDefEqProofs only [↓eqD,eqU,eqV,eqW,vbuiltinQ,vlen,vslice,vindex,vstore,Array.toList,simprocAttr,T13_ord,T13_ghost,FB,none_at,k1]
          refine VDone.back hG ?_ rfl rfl
          intro j hj; simp (maxSteps:=999999) -dsimp -implicitDefEqProofs only [↓eqD,eqU,eqV,eqW,vbuiltinQ,vlen,vslice,vindex,vstore,Array.toList,simprocAttr,lt6 hj]
    · have hh : headE 6 b b' m s m' s' t t' lo lo' hi hi' = false := by unfold headE; simp [e]
      rw [hh, Bool.false_and]
      simp (maxSteps:=999999) -dsimp -implicitDefEqProofs only [↓eqD,eqU,eqV,eqW,vbuiltinQ,vlen,vslice,vindex,vstore,Array.toList,simprocAttr,fnWp_some Tryz.func29,Tryz.f29,T13_ord,T13_ghost,FB,none_at,Ex.cells,d1,d2,ne_eq,Int.reduceEq,k23,ag23,c23,i23,z23,veqK,veq1,vtag,Bool.and_eq_true,decide_eq_true_eq,c2',e]
      refine VDone.back hG ?_ rfl rfl
      intro j hj; simp (maxSteps:=999999) -dsimp -implicitDefEqProofs only [↓eqD,eqU,eqV,eqW,vbuiltinQ,vlen,vslice,vindex,vstore,Array.toList,simprocAttr,lt6 hj]
  by_cases q10 : k = 10
  · subst q10
    by_cases e : t = t'
    · subst e
      have hh : headE 10 b b' m s m' s' t t lo lo' hi hi' = true := by unfold headE; simp
      rw [hh, Bool.true_and]
      simp (maxSteps:=999999) -dsimp -implicitDefEqProofs only [↓eqD,eqU,eqV,eqW,vbuiltinQ,vlen,vslice,vindex,vstore,Array.toList,simprocAttr,fnWp_some Tryz.func29,Tryz.f29,T13_ord,T13_ghost,FB,none_at,Ex.cells,d1,d2,ne_eq,Int.reduceEq,k23,ag23,c23,i23,z23,veqK,veq1,vtag,Bool.and_eq_true,decide_eq_true_eq,c2']
      refine vloop_by (fun i : Nat => i ≤ ks.length ∧ sameL ks ks' = sameL (ks.drop i) (ks'.drop i)) (fun i => Env.of [(2, .ptr G.next 0 0), (3, .ptr (G.next + 1) 0 0), (5, .int .i64 i)]) (fun _ => G.over (G.next + 2) [(G.next, .cells 0 [.int .i64 10, .bool b, .int .i64 m, .int .i64 s, .str t, .bool lo, .bool hi, .sl 8 ks.length (exsC ks)]), (G.next + 1, .cells 0 [.int .i64 10, .bool b', .int .i64 m', .int .i64 s', .str t, .bool lo', .bool hi', .sl 8 ks'.length (exsC ks')])]) (fun i => ks.length - i) 0 ?_ ?_ ?_
      · refine .of ?_ (.over hG ?_ ?_ ?_)
        · simp (maxSteps:=999999) -dsimp -implicitDefEqProofs only [↓eqD,eqU,eqV,eqW,vbuiltinQ,vlen,vslice,vindex,vstore,Array.toList,simprocAttr]
          (repeat' apply And.intro) <;> exact .refl _
        · simp (maxSteps:=999999) -dsimp -implicitDefEqProofs only [↓eqD,eqU,eqV,eqW,vbuiltinQ,vlen,vslice,vindex,vstore,Array.toList,simprocAttr]
        · simp (maxSteps:=999999) -dsimp -implicitDefEqProofs only [↓eqD,eqU,eqV,eqW,vbuiltinQ,vlen,vslice,vindex,vstore,Array.toList,simprocAttr,FB]
        · intro j hj
          have hj : j < G.next := hj
          simp (maxSteps:=999999) -dsimp -implicitDefEqProofs only [↓eqD,eqU,eqV,eqW,vbuiltinQ,vlen,vslice,vindex,vstore,Array.toList,simprocAttr,lt6 hj]
      · exact ⟨Nat.zero_le _, rfl⟩
      · intro i ⟨hle, hI⟩
        by_cases hlt : i < ks.length
        · have hlt' : i < ks'.length := by omega
          have hx := exs_at hlt
          have hx' := exs_at hlt'
          have hs := same_at i hlt hlt' c2
          have k1 : (i : Int) < (ks.length : Int) := by omega
          have k2 : 0 ≤ (i : Int) := by omega
          have k3 : (i : Int) < (ks'.length : Int) := by omega
          have kw : IntKind.wrap .i64 ((i : Int) + 1) = ((i + 1 : Nat) : Int) := by rw [w64 (by omega) (by omega)]; rfl
          simp (maxSteps:=999999) -dsimp -implicitDefEqProofs only [↓eqD,eqU,eqV,eqW,vbuiltinQ,vlen,vslice,vindex,vstore,Array.toList,simprocAttr,T13_ord,T13_ghost,FB,none_at,k1,k2,k3,kw,hx,hx',take8,Ex.cells_len,Nat.le_refl]
          refine VPure.calls (hk i hlt hlt' _) ?_
          rw [hI, hs]
          by_cases se : sameE ks[i] ks'[i] = true
          · rw [se]
            simp (maxSteps:=999999) -dsimp -implicitDefEqProofs only [↓eqD,eqU,eqV,eqW,vbuiltinQ,vlen,vslice,vindex,vstore,Array.toList,simprocAttr,T13_ord,T13_ghost,FB,none_at,kw]
            refine ⟨i + 1, ⟨by omega, ?_⟩, by omega, .of ?_ (.over hG ?_ ?_ ?_)⟩
            · rfl
            · simp (maxSteps:=999999) -dsimp -implicitDefEqProofs only [↓eqD,eqU,eqV,eqW,vbuiltinQ,vlen,vslice,vindex,vstore,Array.toList,simprocAttr]
              (repeat' apply And.intro) <;> exact .refl _
            · simp (maxSteps:=999999) -dsimp -implicitDefEqProofs only [↓eqD,eqU,eqV,eqW,vbuiltinQ,vlen,vslice,vindex,vstore,Array.toList,simprocAttr]
            · simp (maxSteps:=999999) -dsimp -implicitDefEqProofs only [↓eqD,eqU,eqV,eqW,vbuiltinQ,vlen,vslice,vindex,vstore,Array.toList,simprocAttr,FB]
            · intro j hj
              have hj : j < G.next := hj
              simp (maxSteps:=999999) -dsimp -implicitDefEqProofs only [↓eqD,eqU,eqV,eqW,vbuiltinQ,vlen,vslice,vindex,vstore,Array.toList,simprocAttr,lt6 hj]
          · have se : sameE ks[i] ks'[i] = false := by simpa using se
            rw [se]
            simp (maxSteps:=999999) -dsimp -implicitDefEqProofs only [↓eqD,eqU,eqV,eqW,vbuiltinQ,vlen,vslice,vindex,vstore,Array.toList,simprocAttr,T13_ord,T13_ghost,FB,none_at,kw]
            refine VDone.back hG ?_ rfl rfl
            intro j hj; simp (maxSteps:=999999) -dsimp -implicitDefEqProofs only [↓eqD,eqU,eqV,eqW,vbuiltinQ,vlen,vslice,vindex,vstore,Array.toList,simprocAttr,lt6 hj]
        · have k1 : ¬(i : Int) < (ks.length : Int) := by omega
          have hs := same_out (l := ks) (l' := ks') (i := i) (by omega) c2
          rw [hI, hs]
          simp (maxSteps:=999999) -dsimp -implicitDefEqProofs only [↓eqD,eqU,eqV,eqW,vbuiltinQ,vlen,vslice,vindex,vstore,Array.toList,simprocAttr,T13_ord,T13_ghost,FB,none_at,k1]
          refine VDone.back hG ?_ rfl rfl
          intro j hj; simp (maxSteps:=999999) -dsimp -implicitDefEqProofs only [↓eqD,eqU,eqV,eqW,vbuiltinQ,vlen,vslice,vindex,vstore,Array.toList,simprocAttr,lt6 hj]
    · have hh : headE 10 b b' m s m' s' t t' lo lo' hi hi' = false := by unfold headE; simp [e]
      rw [hh, Bool.false_and]
      simp (maxSteps:=999999) -dsimp -implicitDefEqProofs only [↓eqD,eqU,eqV,eqW,vbuiltinQ,vlen,vslice,vindex,vstore,Array.toList,simprocAttr,fnWp_some Tryz.func29,Tryz.f29,T13_ord,T13_ghost,FB,none_at,Ex.cells,d1,d2,ne_eq,Int.reduceEq,k23,ag23,c23,i23,z23,veqK,veq1,vtag,Bool.and_eq_true,decide_eq_true_eq,c2',e]
      refine VDone.back hG ?_ rfl rfl
      intro j hj; simp (maxSteps:=999999) -dsimp -implicitDefEqProofs only [↓eqD,eqU,eqV,eqW,vbuiltinQ,vlen,vslice,vindex,vstore,Array.toList,simprocAttr,lt6 hj]
  by_cases q11 : k = 11
  · subst q11
    by_cases e : lo = lo'
    · subst e
      by_cases f : hi = hi'
      · subst f
        have hh : headE 11 b b' m s m' s' t t' lo lo hi hi = true := by unfold headE; simp
        rw [hh, Bool.true_and]
        simp (maxSteps:=999999) -dsimp -implicitDefEqProofs only [↓eqD,eqU,eqV,eqW,vbuiltinQ,vlen,vslice,vindex,vstore,Array.toList,simprocAttr,fnWp_some Tryz.func29,Tryz.f29,T13_ord,T13_ghost,FB,none_at,Ex.cells,d1,d2,ne_eq,Int.reduceEq,k23,ag23,c23,i23,z23,veqK,veq1,vtag,Bool.and_eq_true,decide_eq_true_eq,c2']
        refine vloop_by (fun i : Nat => i ≤ ks.length ∧ sameL ks ks' = sameL (ks.drop i) (ks'.drop i)) (fun i => Env.of [(2, .ptr G.next 0 0), (3, .ptr (G.next + 1) 0 0), (5, .int .i64 i)]) (fun _ => G.over (G.next + 2) [(G.next, .cells 0 [.int .i64 11, .bool b, .int .i64 m, .int .i64 s, .str t, .bool lo, .bool hi, .sl 8 ks.length (exsC ks)]), (G.next + 1, .cells 0 [.int .i64 11, .bool b', .int .i64 m', .int .i64 s', .str t', .bool lo, .bool hi, .sl 8 ks'.length (exsC ks')])]) (fun i => ks.length - i) 0 ?_ ?_ ?_
        · refine .of ?_ (.over hG ?_ ?_ ?_)
          · simp (maxSteps:=999999) -dsimp -implicitDefEqProofs only [↓eqD,eqU,eqV,eqW,vbuiltinQ,vlen,vslice,vindex,vstore,Array.toList,simprocAttr]
            (repeat' apply And.intro) <;> exact .refl _
          · simp (maxSteps:=999999) -dsimp -implicitDefEqProofs only [↓eqD,eqU,eqV,eqW,vbuiltinQ,vlen,vslice,vindex,vstore,Array.toList,simprocAttr]
          · simp (maxSteps:=999999) -dsimp -implicitDefEqProofs only [↓eqD,eqU,eqV,eqW,vbuiltinQ,vlen,vslice,vindex,vstore,Array.toList,simprocAttr,FB]
          · intro j hj
            have hj : j < G.next := hj
            simp (maxSteps:=999999) -dsimp -implicitDefEqProofs only [↓eqD,eqU,eqV,eqW,vbuiltinQ,vlen,vslice,vindex,vstore,Array.toList,simprocAttr,lt6 hj]
        · exact ⟨Nat.zero_le _, rfl⟩
        · intro i ⟨hle, hI⟩
          by_cases hlt : i < ks.length
          · have hlt' : i < ks'.length := by omega
            have hx := exs_at hlt
            have hx' := exs_at hlt'
            have hs := same_at i hlt hlt' c2
            have k1 : (i : Int) < (ks.length : Int) := by omega
            have k2 : 0 ≤ (i : Int) := by omega
            have k3 : (i : Int) < (ks'.length : Int) := by omega
            have kw : IntKind.wrap .i64 ((i : Int) + 1) = ((i + 1 : Nat) : Int) := by rw [w64 (by omega) (by omega)]; rfl
            simp (maxSteps:=999999) -dsimp -implicitDefEqProofs only [↓eqD,eqU,eqV,eqW,vbuiltinQ,vlen,vslice,vindex,vstore,Array.toList,simprocAttr,T13_ord,T13_ghost,FB,none_at,k1,k2,k3,kw,hx,hx',take8,Ex.cells_len,Nat.le_refl]
            refine VPure.calls (hk i hlt hlt' _) ?_
            rw [hI, hs]
            by_cases se : sameE ks[i] ks'[i] = true
            · rw [se]
              simp (maxSteps:=999999) -dsimp -implicitDefEqProofs only [↓eqD,eqU,eqV,eqW,vbuiltinQ,vlen,vslice,vindex,vstore,Array.toList,simprocAttr,T13_ord,T13_ghost,FB,none_at,kw]
              refine ⟨i + 1, ⟨by omega, ?_⟩, by omega, .of ?_ (.over hG ?_ ?_ ?_)⟩
              · rfl
              · simp (maxSteps:=999999) -dsimp -implicitDefEqProofs only [↓eqD,eqU,eqV,eqW,vbuiltinQ,vlen,vslice,vindex,vstore,Array.toList,simprocAttr]
                (repeat' apply And.intro) <;> exact .refl _
              · simp (maxSteps:=999999) -dsimp -implicitDefEqProofs only [↓eqD,eqU,eqV,eqW,vbuiltinQ,vlen,vslice,vindex,vstore,Array.toList,simprocAttr]
              · simp (maxSteps:=999999) -dsimp -implicitDefEqProofs only [↓eqD,eqU,eqV,eqW,vbuiltinQ,vlen,vslice,vindex,vstore,Array.toList,simprocAttr,FB]
              · intro j hj
                have hj : j < G.next := hj
                simp (maxSteps:=999999) -dsimp -implicitDefEqProofs only [↓eqD,eqU,eqV,eqW,vbuiltinQ,vlen,vslice,vindex,vstore,Array.toList,simprocAttr,lt6 hj]
            · have se : sameE ks[i] ks'[i] = false := by simpa using se
              rw [se]
              simp (maxSteps:=999999) -dsimp -implicitDefEqProofs only [↓eqD,eqU,eqV,eqW,vbuiltinQ,vlen,vslice,vindex,vstore,Array.toList,simprocAttr,T13_ord,T13_ghost,FB,none_at,kw]
              refine VDone.back hG ?_ rfl rfl
              intro j hj; simp (maxSteps:=999999) -dsimp -implicitDefEqProofs only [↓eqD,eqU,eqV,eqW,vbuiltinQ,vlen,vslice,vindex,vstore,Array.toList,simprocAttr,lt6 hj]
          · have k1 : ¬(i : Int) < (ks.length : Int) := by omega
            have hs := same_out (l := ks) (l' := ks') (i := i) (by omega) c2
            rw [hI, hs]
            simp (maxSteps:=999999) -dsimp -implicitDefEqProofs only [↓eqD,eqU,eqV,eqW,vbuiltinQ,vlen,vslice,vindex,vstore,Array.toList,simprocAttr,T13_ord,T13_ghost,FB,none_at,k1]
            refine VDone.back hG ?_ rfl rfl
            intro j hj; simp (maxSteps:=999999) -dsimp -implicitDefEqProofs only [↓eqD,eqU,eqV,eqW,vbuiltinQ,vlen,vslice,vindex,vstore,Array.toList,simprocAttr,lt6 hj]
      · have hh : headE 11 b b' m s m' s' t t' lo lo hi hi' = false := by unfold headE; simp [f]
        rw [hh, Bool.false_and]
        simp (maxSteps:=999999) -dsimp -implicitDefEqProofs only [↓eqD,eqU,eqV,eqW,vbuiltinQ,vlen,vslice,vindex,vstore,Array.toList,simprocAttr,fnWp_some Tryz.func29,Tryz.f29,T13_ord,T13_ghost,FB,none_at,Ex.cells,d1,d2,ne_eq,Int.reduceEq,k23,ag23,c23,i23,z23,veqK,veq1,vtag,Bool.and_eq_true,decide_eq_true_eq,c2',f]
        refine VDone.back hG ?_ rfl rfl
        intro j hj; simp (maxSteps:=999999) -dsimp -implicitDefEqProofs only [↓eqD,eqU,eqV,eqW,vbuiltinQ,vlen,vslice,vindex,vstore,Array.toList,simprocAttr,lt6 hj]
    · have hh : headE 11 b b' m s m' s' t t' lo lo' hi hi' = false := by unfold headE; simp [e]
      rw [hh, Bool.false_and]
      simp (maxSteps:=999999) -dsimp -implicitDefEqProofs only [↓eqD,eqU,eqV,eqW,vbuiltinQ,vlen,vslice,vindex,vstore,Array.toList,simprocAttr,fnWp_some Tryz.func29,Tryz.f29,T13_ord,T13_ghost,FB,none_at,Ex.cells,d1,d2,ne_eq,Int.reduceEq,k23,ag23,c23,i23,z23,veqK,veq1,vtag,Bool.and_eq_true,decide_eq_true_eq,c2',e]
      refine VDone.back hG ?_ rfl rfl
      intro j hj; simp (maxSteps:=999999) -dsimp -implicitDefEqProofs only [↓eqD,eqU,eqV,eqW,vbuiltinQ,vlen,vslice,vindex,vstore,Array.toList,simprocAttr,lt6 hj]
  have hh : headE k b b' m s m' s' t t' lo lo' hi hi' = true := by unfold headE; simp [q2, q3, q4, q5, q6, q10, q11]
  rw [hh, Bool.true_and]
  simp (maxSteps:=999999) -dsimp -implicitDefEqProofs only [↓eqD,eqU,eqV,eqW,vbuiltinQ,vlen,vslice,vindex,vstore,Array.toList,simprocAttr,fnWp_some Tryz.func29,Tryz.f29,T13_ord,T13_ghost,FB,none_at,Ex.cells,d1,d2,ne_eq,Int.reduceEq,k23,ag23,c23,i23,z23,veqK,veq1,vtag,Bool.and_eq_true,decide_eq_true_eq,c2',q2,q3,q4,q5,q6,q10,q11]
  refine vloop_by (fun i : Nat => i ≤ ks.length ∧ sameL ks ks' = sameL (ks.drop i) (ks'.drop i)) (fun i => Env.of [(2, .ptr G.next 0 0), (3, .ptr (G.next + 1) 0 0), (5, .int .i64 i)]) (fun _ => G.over (G.next + 2) [(G.next, .cells 0 [.int .i64 k, .bool b, .int .i64 m, .int .i64 s, .str t, .bool lo, .bool hi, .sl 8 ks.length (exsC ks)]), (G.next + 1, .cells 0 [.int .i64 k, .bool b', .int .i64 m', .int .i64 s', .str t', .bool lo', .bool hi', .sl 8 ks'.length (exsC ks')])]) (fun i => ks.length - i) 0 ?_ ?_ ?_
  · refine .of ?_ (.over hG ?_ ?_ ?_)
    · simp (maxSteps:=999999) -dsimp -implicitDefEqProofs only [↓eqD,eqU,eqV,eqW,vbuiltinQ,vlen,vslice,vindex,vstore,Array.toList,simprocAttr]
      (repeat' apply And.intro) <;> exact .refl _
    · simp (maxSteps:=999999) -dsimp -implicitDefEqProofs only [↓eqD,eqU,eqV,eqW,vbuiltinQ,vlen,vslice,vindex,vstore,Array.toList,simprocAttr]
    · simp (maxSteps:=999999) -dsimp -implicitDefEqProofs only [↓eqD,eqU,eqV,eqW,vbuiltinQ,vlen,vslice,vindex,vstore,Array.toList,simprocAttr,FB]
    · intro j hj
      have hj : j < G.next := hj
      simp (maxSteps:=999999) -dsimp -implicitDefEqProofs only [↓eqD,eqU,eqV,eqW,vbuiltinQ,vlen,vslice,vindex,vstore,Array.toList,simprocAttr,lt6 hj]
  · exact ⟨Nat.zero_le _, rfl⟩
  · intro i ⟨hle, hI⟩
    by_cases hlt : i < ks.length
    · have hlt' : i < ks'.length := by omega
      have hx := exs_at hlt
      have hx' := exs_at hlt'
      have hs := same_at i hlt hlt' c2
      have k1 : (i : Int) < (ks.length : Int) := by omega
      have k2 : 0 ≤ (i : Int) := by omega
      have k3 : (i : Int) < (ks'.length : Int) := by omega
      have kw : IntKind.wrap .i64 ((i : Int) + 1) = ((i + 1 : Nat) : Int) := by rw [w64 (by omega) (by omega)]; rfl
      simp (maxSteps:=999999) -dsimp -implicitDefEqProofs only [↓eqD,eqU,eqV,eqW,vbuiltinQ,vlen,vslice,vindex,vstore,Array.toList,simprocAttr,T13_ord,T13_ghost,FB,none_at,k1,k2,k3,kw,hx,hx',take8,Ex.cells_len,Nat.le_refl]
      refine VPure.calls (hk i hlt hlt' _) ?_
      rw [hI, hs]
      by_cases se : sameE ks[i] ks'[i] = true
      · rw [se]
        simp (maxSteps:=999999) -dsimp -implicitDefEqProofs only [↓eqD,eqU,eqV,eqW,vbuiltinQ,vlen,vslice,vindex,vstore,Array.toList,simprocAttr,T13_ord,T13_ghost,FB,none_at,kw]
        refine ⟨i + 1, ⟨by omega, ?_⟩, by omega, .of ?_ (.over hG ?_ ?_ ?_)⟩
        · rfl
        · simp (maxSteps:=999999) -dsimp -implicitDefEqProofs only [↓eqD,eqU,eqV,eqW,vbuiltinQ,vlen,vslice,vindex,vstore,Array.toList,simprocAttr]
          (repeat' apply And.intro) <;> exact .refl _
        · simp (maxSteps:=999999) -dsimp -implicitDefEqProofs only [↓eqD,eqU,eqV,eqW,vbuiltinQ,vlen,vslice,vindex,vstore,Array.toList,simprocAttr]
        · simp (maxSteps:=999999) -dsimp -implicitDefEqProofs only [↓eqD,eqU,eqV,eqW,vbuiltinQ,vlen,vslice,vindex,vstore,Array.toList,simprocAttr,FB]
        · intro j hj
          have hj : j < G.next := hj
          simp (maxSteps:=999999) -dsimp -implicitDefEqProofs only [↓eqD,eqU,eqV,eqW,vbuiltinQ,vlen,vslice,vindex,vstore,Array.toList,simprocAttr,lt6 hj]
      · have se : sameE ks[i] ks'[i] = false := by simpa using se
        rw [se]
        simp (maxSteps:=999999) -dsimp -implicitDefEqProofs only [↓eqD,eqU,eqV,eqW,vbuiltinQ,vlen,vslice,vindex,vstore,Array.toList,simprocAttr,T13_ord,T13_ghost,FB,none_at,kw]
        refine VDone.back hG ?_ rfl rfl
        intro j hj; simp (maxSteps:=999999) -dsimp -implicitDefEqProofs only [↓eqD,eqU,eqV,eqW,vbuiltinQ,vlen,vslice,vindex,vstore,Array.toList,simprocAttr,lt6 hj]
    · have k1 : ¬(i : Int) < (ks.length : Int) := by omega
      have hs := same_out (l := ks) (l' := ks') (i := i) (by omega) c2
      rw [hI, hs]
      simp (maxSteps:=999999) -dsimp -implicitDefEqProofs only [↓eqD,eqU,eqV,eqW,vbuiltinQ,vlen,vslice,vindex,vstore,Array.toList,simprocAttr,T13_ord,T13_ghost,FB,none_at,k1]
      refine VDone.back hG ?_ rfl rfl
      intro j hj; simp (maxSteps:=999999) -dsimp -implicitDefEqProofs only [↓eqD,eqU,eqV,eqW,vbuiltinQ,vlen,vslice,vindex,vstore,Array.toList,simprocAttr,lt6 hj]
end Go.Vf
