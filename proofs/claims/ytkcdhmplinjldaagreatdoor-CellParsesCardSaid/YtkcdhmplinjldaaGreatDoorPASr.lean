/- A part of the proof: Sr. -/
import Derived.Test.YtkcdhmplinjldaaGreatDoorPASq
set_option linter.unusedVariables false
set_option linter.unusedSimpArgs false
namespace Go.Vf
open Go.Proofs Go.RowKit
theorem tes_at : ∀ {l : List Te} {i : Nat} (h : i < l.length), velem 21 (tesC l) i = l[i].cells
  | a :: r, 0, _ => by
    unfold velem
    rw [tesC]
    simp only [Nat.zero_mul, List.drop_zero, List.getElem_cons_zero]
    rw [List.take_append_of_le_length (by rw [a.cells_len]; exact Nat.le_refl _), List.take_of_length_le (by rw [a.cells_len]; exact Nat.le_refl _)]
  | a :: r, i + 1, h => by
    have ih := tes_at (l := r) (i := i) (by simpa using h)
    unfold velem at *
    rw [tesC]
    have e : (i + 1) * 21 = a.cells.length + i * 21 := by rw [a.cells_len]; omega
    rw [e, List.drop_append]
    simp only [Nat.add_sub_cancel_left, List.getElem_cons_succ]
    rw [List.drop_of_length_le (by omega), List.nil_append]
    exact ih
theorem sameTs_at {l l' : List Te} {i : Nat} (h : i < l.length) (h' : i < l'.length) : sameTs (l.drop i) (l'.drop i) = (sameT l[i] l'[i] && sameTs (l.drop (i + 1)) (l'.drop (i + 1))) := by
  rw [List.drop_eq_getElem_cons h, List.drop_eq_getElem_cons h', sameTs]
theorem sameTs_len : ∀ {l l' : List Te}, l.length ≠ l'.length → sameTs l l' = false
  | [], [], h => (h rfl).elim
  | [], b :: r, _ => by rw [sameTs]; all_goals (intros; simp_all)
  | a :: r, [], _ => by rw [sameTs]; all_goals (intros; simp_all)
  | a :: r, b :: r', h => by rw [sameTs, sameTs_len (l := r) (l' := r') (fun e => h (by simp [e])), Bool.and_false]
def Te.A : Te → Ex | .mk _ _ a _ _ _ _ => a
def Te.B : Te → Ex | .mk _ _ _ b _ _ _ => b
def Te.ks : Te → List Te | .mk _ _ _ _ _ _ ks => ks
mutual
def fitT : Te → Prop
  | .mk _ _ a b _ _ ks => (fitE a ∧ fitE b) ∧ ks.length ≤ 9223372036854775807 ∧ fitTs ks
def fitTs : List Te → Prop
  | [] => True
  | a :: r => fitT a ∧ fitTs r
end
theorem fitT_at : ∀ {l : List Te} (i : Nat) (h : i < l.length), fitTs l → fitT l[i]
  | a :: r, 0, _, hs => by rw [fitTs] at hs; exact hs.1
  | a :: r, i + 1, h, hs => by rw [fitTs] at hs; exact fitT_at i (by simpa using h) hs.2
def T_rsame : Tab := ⟨fun id => if id = 6 then ([0, 1, 2, 3, 4, 5, 6, 7, 8, 9, 10, 11], [(1000008, 9), (3, 8), (3, 9), (7, 8), (7, 9), (7, 10)]) else ([], []), fun _ => false⟩
theorem T_rsame_ord (id : Nat) : T_rsame.ord id = if id = 6 then ([0, 1, 2, 3, 4, 5, 6, 7, 8, 9, 10, 11], [(1000008, 9), (3, 8), (3, 9), (7, 8), (7, 9), (7, 10)]) else ([], []) := rfl
theorem T_rsame_ghost (id : Nat) : T_rsame.ghost id = false := rfl
theorem ok_rsame : fnOk Tryz.prog 12 T_rsame 2 = true := by kernel_rfl
set_option maxRecDepth 100000 in
set_option maxHeartbeats 8000000 in
theorem rsame_walk0 (l l' : List Te) (hl : l.length ≤ 9223372036854775807) (hf : fitTs l)
    (hk : ∀ (i : Nat) (h : i < l.length) (ks' : List Te) (G : Heap), VPure Tryz.prog 12 [.sl 21 l[i].ks.length (tesC l[i].ks), .sl 21 ks'.length (tesC ks')] G (.bool (sameTs l[i].ks ks'))) (G : Heap) :
    VPure Tryz.prog 12 [.sl 21 l.length (tesC l), .sl 21 l'.length (tesC l')] G (.bool (sameTs l l')) := by
  refine VCalls.of (SOk.none _) mixed T_rsame ok_rsame fun hG => ?_
  by_cases c2 : l.length = l'.length
  case neg =>
    rw [sameTs_len c2]
    have c2' : ¬(l.length : Int) = (l'.length : Int) := by omega
    simp (maxSteps:=999999) -dsimp -implicitDefEqProofs only [↓eqD,eqU,eqV,eqW,vbuiltinQ,vlen,vslice,vindex,vstore,Array.toList,simprocAttr,fnWp_some Tryz.func12,Tryz.f12,T_rsame_ord,T_rsame_ghost,FB,FC,none_at,c2',ne_eq]; (repeat ((with_reducible (refine And.intro ?_ ?_)); (focus (first | omega | exact ⟨by omega, by omega⟩))))
    (repeat ((with_reducible (refine And.intro ?_ ?_)); (focus (first | omega | exact ⟨by omega, by omega⟩)))); (refine VDone.back hG ?_ rfl ?_); (intro j hj; first | rfl | simp (maxSteps:=999999) -dsimp -implicitDefEqProofs only [↓eqD,eqU,eqV,eqW,vbuiltinQ,vlen,vslice,vindex,vstore,Array.toList,simprocAttr,lt6 hj]); (first | rfl | simp [])
  have c2' : (l.length : Int) = (l'.length : Int) := by omega
  simp (maxSteps:=999999) -dsimp -implicitDefEqProofs only [↓eqD,eqU,eqV,eqW,vbuiltinQ,vlen,vslice,vindex,vstore,Array.toList,simprocAttr,fnWp_some Tryz.func12,Tryz.f12,T_rsame_ord,T_rsame_ghost,FB,FC,none_at,c2',ne_eq]; (repeat ((with_reducible (refine And.intro ?_ ?_)); (focus (first | omega | exact ⟨by omega, by omega⟩))))
  refine vloop_by (fun x : Nat × Nat => x.1 ≤ l.length ∧ G.next ≤ x.2 ∧ sameTs l l' = sameTs (l.drop x.1) (l'.drop x.1)) (fun x => Env.of [(0, .sl 21 l.length (tesC l)), (1, .sl 21 l'.length (tesC l')), (5, .int .i64 x.1)]) (fun x => G.over x.2 []) (fun x => l.length - x.1) (0, G.next) ?_ ?_ ?_
  · refine .of ?_ (.over hG ?_ ?_ ?_)
    · simp (maxSteps:=999999) -dsimp -implicitDefEqProofs only [↓eqD,eqU,eqV,eqW,vbuiltinQ,vlen,vslice,vindex,vstore,Array.toList,simprocAttr]
      (repeat' apply And.intro) <;> exact .refl _
    · simp (maxSteps:=999999) -dsimp -implicitDefEqProofs only [↓eqD,eqU,eqV,eqW,vbuiltinQ,vlen,vslice,vindex,vstore,Array.toList,simprocAttr]
    · simp (maxSteps:=999999) -dsimp -implicitDefEqProofs only [↓eqD,eqU,eqV,eqW,vbuiltinQ,vlen,vslice,vindex,vstore,Array.toList,simprocAttr,FB,FC]
    · intro j hj
      have hj : j < G.next := hj
      simp (maxSteps:=999999) -dsimp -implicitDefEqProofs only [↓eqD,eqU,eqV,eqW,vbuiltinQ,vlen,vslice,vindex,vstore,Array.toList,simprocAttr,lt6 hj]
  · exact ⟨Nat.zero_le _, Nat.le_refl _, rfl⟩
  · rintro ⟨i, n⟩ ⟨hle, hn, hI⟩
    simp only at hle hn hI ⊢
    by_cases hlt : i < l.length
    case neg =>
      have k1 : ¬(i : Int) < (l.length : Int) := by omega
      have k1' : ¬(i : Int) < (l'.length : Int) := by omega
      rw [hI, List.drop_of_length_le (by omega), List.drop_of_length_le (by omega), sameTs]
      simp (maxSteps:=999999) -dsimp -implicitDefEqProofs only [↓eqD,eqU,eqV,eqW,vbuiltinQ,vlen,vslice,vindex,vstore,Array.toList,simprocAttr,T_rsame_ord,T_rsame_ghost,FB,FC,none_at,k1,k1',c2']; (repeat ((with_reducible (refine And.intro ?_ ?_)); (focus (first | omega | exact ⟨by omega, by omega⟩))))
      refine VDone.back hG ?_ rfl rfl
      intro j hj; simp (maxSteps:=999999) -dsimp -implicitDefEqProofs only [↓eqD,eqU,eqV,eqW,vbuiltinQ,vlen,vslice,vindex,vstore,Array.toList,simprocAttr,lt6 hj]
    have hlt' : i < l'.length := by omega
    have hx := tes_at hlt
    have hx' := tes_at hlt'
    have hs := sameTs_at hlt hlt'
    have k1 : (i : Int) < (l.length : Int) := by omega
    have k1' : (i : Int) < (l'.length : Int) := by omega
    have k2 : 0 ≤ (i : Int) := by omega
    have kw : IntKind.wrap .i64 ((i : Int) + 1) = ((i + 1 : Nat) : Int) := by rw [w64 (by omega) (by omega)]; rfl
    have w := hk i hlt
    have hft := fitT_at i hlt hf
    generalize l[i] = e1 at *
    generalize l'[i] = e2 at *
    obtain ⟨k, r, A, B, lo, hi, ks⟩ := e1
    obtain ⟨k', r', A', B', lo', hi', ks'⟩ := e2
    rw [fitT] at hft
    have wA := dsame_walk A A' hft.1.1
    have wB := dsame_walk B B' hft.1.2
    rw [hI, hs, sameT]
    simp only [Te.ks] at w
    have w := w ks'
    generalize sameE A A' = sA at *
    generalize sameE B B' = sB at *
    generalize sameTs ks ks' = sK at *
    obtain ⟨ka, ba, ma, na, ta, loa, hia, kidsa⟩ := A
    obtain ⟨kb, bb, mb, nb, tb, lob, hib, kidsb⟩ := B
    obtain ⟨ka', ba', ma', na', ta', loa', hia', kidsa'⟩ := A'
    obtain ⟨kb', bb', mb', nb', tb', lob', hib', kidsb'⟩ := B'
    have da := exsC_closed kidsa
    have db := exsC_closed kidsb
    have dk := tesC_closed ks
    have da' := exsC_closed kidsa'
    have db' := exsC_closed kidsb'
    have dk' := tesC_closed ks'
    simp only [Te.cells_eq, Ex.cells, List.cons_append, List.nil_append] at hx hx'
    simp only [Ex.cells] at wA wB
    by_cases e1 : k = k'
    case neg =>
      rw [decide_eq_false e1]
      simp (maxSteps:=999999) -dsimp -implicitDefEqProofs only [↓eqD,eqU,eqV,eqW,vbuiltinQ,vlen,vslice,vindex,vstore,Array.toList,simprocAttr,T_rsame_ord,T_rsame_ghost,FB,FC,none_at,k1,k1',k2,c2',hx,hx',da,db,dk,da',db',dk',e1]; (repeat ((with_reducible (refine And.intro ?_ ?_)); (focus (first | omega | exact ⟨by omega, by omega⟩))))
      (try refine ⟨?_, ?_⟩)
      all_goals
        refine VDone.back hG ?_ rfl (by simp)
        intro j hj
        have hj2 : j < n := by omega
        simp (maxSteps:=999999) -dsimp -implicitDefEqProofs only [↓eqD,eqU,eqV,eqW,vbuiltinQ,vlen,vslice,vindex,vstore,Array.toList,simprocAttr,lt6 hj2]
    subst e1
    by_cases q2 : k = 2
    · subst q2
      by_cases er : r = r'
      · subst er
        cases sA with
        | true =>
          simp only [decide_true, Bool.true_and, if_true, Bool.and_true]
          simp (maxSteps:=999999) -dsimp -implicitDefEqProofs only [↓eqD,eqU,eqV,eqW,vbuiltinQ,vlen,vslice,vindex,vstore,Array.toList,simprocAttr,T_rsame_ord,T_rsame_ghost,FB,FC,none_at,k1,k1',k2,c2',hx,hx',da,db,dk,da',db',dk']; (repeat ((with_reducible (refine And.intro ?_ ?_)); (focus (first | omega | exact ⟨by omega, by omega⟩))))
          refine ⟨VPure.calls (wA _) ?_, VPure.calls (wA _) ?_⟩
          all_goals
            simp (maxSteps:=999999) -dsimp -implicitDefEqProofs only [↓eqD,eqU,eqV,eqW,vbuiltinQ,vlen,vslice,vindex,vstore,Array.toList,simprocAttr,T_rsame_ord,T_rsame_ghost,FB,FC,none_at,kw]; (repeat ((with_reducible (refine And.intro ?_ ?_)); (focus (first | omega | exact ⟨by omega, by omega⟩))))
            refine ⟨(i + 1, n + 1 + 1), ⟨by simp only; omega, by simp only; omega, rfl⟩, by simp only; omega, .of ?_ (.over hG ?_ ?_ ?_)⟩
            · simp (maxSteps:=999999) -dsimp -implicitDefEqProofs only [↓eqD,eqU,eqV,eqW,vbuiltinQ,vlen,vslice,vindex,vstore,Array.toList,simprocAttr]
              (repeat' apply And.intro) <;> exact .refl _
            · simp (maxSteps:=999999) -dsimp -implicitDefEqProofs only [↓eqD,eqU,eqV,eqW,vbuiltinQ,vlen,vslice,vindex,vstore,Array.toList,simprocAttr]
            · simp (maxSteps:=999999) -dsimp -implicitDefEqProofs only [↓eqD,eqU,eqV,eqW,vbuiltinQ,vlen,vslice,vindex,vstore,Array.toList,simprocAttr,FB,FC]
            · intro j hj
              have hj : j < G.next := hj
              have hj2 : j < n := by omega
              simp (maxSteps:=999999) -dsimp -implicitDefEqProofs only [↓eqD,eqU,eqV,eqW,vbuiltinQ,vlen,vslice,vindex,vstore,Array.toList,simprocAttr,lt6 hj2]
        | false =>
          simp (maxSteps:=999999) -dsimp -implicitDefEqProofs only [↓eqD,eqU,eqV,eqW,vbuiltinQ,vlen,vslice,vindex,vstore,Array.toList,simprocAttr,T_rsame_ord,T_rsame_ghost,FB,FC,none_at,k1,k1',k2,c2',hx,hx',da,db,dk,da',db',dk']; (repeat ((with_reducible (refine And.intro ?_ ?_)); (focus (first | omega | exact ⟨by omega, by omega⟩))))
          refine ⟨VPure.calls (wA _) ?_, VPure.calls (wA _) ?_⟩
          all_goals
            simp (maxSteps:=999999) -dsimp -implicitDefEqProofs only [↓eqD,eqU,eqV,eqW,vbuiltinQ,vlen,vslice,vindex,vstore,Array.toList,simprocAttr,T_rsame_ord,T_rsame_ghost,FB,FC,none_at,kw]; (repeat ((with_reducible (refine And.intro ?_ ?_)); (focus (first | omega | exact ⟨by omega, by omega⟩))))
            refine VDone.back hG ?_ rfl (by simp)
            intro j hj
            have hj2 : j < n := by omega
            simp (maxSteps:=999999) -dsimp -implicitDefEqProofs only [↓eqD,eqU,eqV,eqW,vbuiltinQ,vlen,vslice,vindex,vstore,Array.toList,simprocAttr,lt6 hj2]
      · simp (maxSteps:=999999) -dsimp -implicitDefEqProofs only [↓eqD,eqU,eqV,eqW,vbuiltinQ,vlen,vslice,vindex,vstore,Array.toList,simprocAttr,T_rsame_ord,T_rsame_ghost,FB,FC,none_at,k1,k1',k2,c2',hx,hx',da,db,dk,da',db',dk',er]; (repeat ((with_reducible (refine And.intro ?_ ?_)); (focus (first | omega | exact ⟨by omega, by omega⟩))))
        (try refine ⟨?_, ?_⟩)
        all_goals
          refine VDone.back hG ?_ rfl (by simp)
          intro j hj
          have hj2 : j < n := by omega
          simp (maxSteps:=999999) -dsimp -implicitDefEqProofs only [↓eqD,eqU,eqV,eqW,vbuiltinQ,vlen,vslice,vindex,vstore,Array.toList,simprocAttr,lt6 hj2]
    by_cases q3 : k = 3
    · subst q3
      rw [decide_eq_true rfl, if_neg (by decide), if_pos rfl, Bool.true_and]
      by_cases el : lo = lo'
      case neg =>
        rw [decide_eq_false el]
        simp (maxSteps:=999999) -dsimp -implicitDefEqProofs only [↓eqD,eqU,eqV,eqW,vbuiltinQ,vlen,vslice,vindex,vstore,Array.toList,simprocAttr,T_rsame_ord,T_rsame_ghost,FB,FC,none_at,k1,k1',k2,c2',hx,hx',da,db,dk,da',db',dk',el]; (repeat ((with_reducible (refine And.intro ?_ ?_)); (focus (first | omega | exact ⟨by omega, by omega⟩))))
        (try refine ⟨?_, ?_⟩)
        all_goals
          refine VDone.back hG ?_ rfl (by simp)
          intro j hj
          have hj2 : j < n := by omega
          simp (maxSteps:=999999) -dsimp -implicitDefEqProofs only [↓eqD,eqU,eqV,eqW,vbuiltinQ,vlen,vslice,vindex,vstore,Array.toList,simprocAttr,lt6 hj2]
      by_cases eh : hi = hi'
      case neg =>
        rw [decide_eq_false eh, Bool.false_and, Bool.and_false]
        simp (maxSteps:=999999) -dsimp -implicitDefEqProofs only [↓eqD,eqU,eqV,eqW,vbuiltinQ,vlen,vslice,vindex,vstore,Array.toList,simprocAttr,T_rsame_ord,T_rsame_ghost,FB,FC,none_at,k1,k1',k2,c2',hx,hx',da,db,dk,da',db',dk',el,eh]; (repeat ((with_reducible (refine And.intro ?_ ?_)); (focus (first | omega | exact ⟨by omega, by omega⟩))))
        (try refine ⟨?_, ?_⟩)
        all_goals
          refine VDone.back hG ?_ rfl (by simp)
          intro j hj
          have hj2 : j < n := by omega
          simp (maxSteps:=999999) -dsimp -implicitDefEqProofs only [↓eqD,eqU,eqV,eqW,vbuiltinQ,vlen,vslice,vindex,vstore,Array.toList,simprocAttr,lt6 hj2]
      rw [decide_eq_true el, decide_eq_true eh, Bool.true_and, Bool.true_and]
      subst el
      subst eh
      cases sA with
      | false =>
        simp (maxSteps:=999999) -dsimp -implicitDefEqProofs only [↓eqD,eqU,eqV,eqW,vbuiltinQ,vlen,vslice,vindex,vstore,Array.toList,simprocAttr,T_rsame_ord,T_rsame_ghost,FB,FC,none_at,k1,k1',k2,c2',hx,hx',da,db,dk,da',db',dk']; (repeat ((with_reducible (refine And.intro ?_ ?_)); (focus (first | omega | exact ⟨by omega, by omega⟩))))
        refine ⟨VPure.calls (wA _) ?_, VPure.calls (wA _) ?_⟩
        all_goals
          simp (maxSteps:=999999) -dsimp -implicitDefEqProofs only [↓eqD,eqU,eqV,eqW,vbuiltinQ,vlen,vslice,vindex,vstore,Array.toList,simprocAttr,T_rsame_ord,T_rsame_ghost,FB,FC,none_at,kw]; (repeat ((with_reducible (refine And.intro ?_ ?_)); (focus (first | omega | exact ⟨by omega, by omega⟩))))
          refine VDone.back hG ?_ rfl (by simp)
          intro j hj
          have hj2 : j < n := by omega
          simp (maxSteps:=999999) -dsimp -implicitDefEqProofs only [↓eqD,eqU,eqV,eqW,vbuiltinQ,vlen,vslice,vindex,vstore,Array.toList,simprocAttr,lt6 hj2]
      | true =>
        simp (maxSteps:=999999) -dsimp -implicitDefEqProofs only [↓eqD,eqU,eqV,eqW,vbuiltinQ,vlen,vslice,vindex,vstore,Array.toList,simprocAttr,T_rsame_ord,T_rsame_ghost,FB,FC,none_at,k1,k1',k2,c2',hx,hx',da,db,dk,da',db',dk']; (repeat ((with_reducible (refine And.intro ?_ ?_)); (focus (first | omega | exact ⟨by omega, by omega⟩))))
        refine ⟨VPure.calls (wA _) ?_, VPure.calls (wA _) ?_⟩
        all_goals
          simp (maxSteps:=999999) -dsimp -implicitDefEqProofs only [↓eqD,eqU,eqV,eqW,vbuiltinQ,vlen,vslice,vindex,vstore,Array.toList,simprocAttr,T_rsame_ord,T_rsame_ghost,FB,FC,none_at,kw]; (repeat ((with_reducible (refine And.intro ?_ ?_)); (focus (first | omega | exact ⟨by omega, by omega⟩))))
          refine VPure.calls (wB _) ?_
          cases sB with
          | false =>
            simp (maxSteps:=999999) -dsimp -implicitDefEqProofs only [↓eqD,eqU,eqV,eqW,vbuiltinQ,vlen,vslice,vindex,vstore,Array.toList,simprocAttr,T_rsame_ord,T_rsame_ghost,FB,FC,none_at,kw]; (repeat ((with_reducible (refine And.intro ?_ ?_)); (focus (first | omega | exact ⟨by omega, by omega⟩))))
            refine VDone.back hG ?_ rfl (by simp)
            intro j hj
            have hj2 : j < n := by omega
            simp (maxSteps:=999999) -dsimp -implicitDefEqProofs only [↓eqD,eqU,eqV,eqW,vbuiltinQ,vlen,vslice,vindex,vstore,Array.toList,simprocAttr,lt6 hj2]
          | true =>
            simp (maxSteps:=999999) -dsimp -implicitDefEqProofs only [↓eqD,eqU,eqV,eqW,vbuiltinQ,vlen,vslice,vindex,vstore,Array.toList,simprocAttr,T_rsame_ord,T_rsame_ghost,FB,FC,none_at,kw]; (repeat ((with_reducible (refine And.intro ?_ ?_)); (focus (first | omega | exact ⟨by omega, by omega⟩))))
            refine ⟨(i + 1, n + 1 + 1), ⟨by simp only; omega, by simp only; omega, rfl⟩, by simp only; omega, .of ?_ (.over hG ?_ ?_ ?_)⟩
            · simp (maxSteps:=999999) -dsimp -implicitDefEqProofs only [↓eqD,eqU,eqV,eqW,vbuiltinQ,vlen,vslice,vindex,vstore,Array.toList,simprocAttr]
              (repeat' apply And.intro) <;> exact .refl _
            · simp (maxSteps:=999999) -dsimp -implicitDefEqProofs only [↓eqD,eqU,eqV,eqW,vbuiltinQ,vlen,vslice,vindex,vstore,Array.toList,simprocAttr]
            · simp (maxSteps:=999999) -dsimp -implicitDefEqProofs only [↓eqD,eqU,eqV,eqW,vbuiltinQ,vlen,vslice,vindex,vstore,Array.toList,simprocAttr,FB,FC]
            · intro j hj
              have hj : j < G.next := hj
              have hj2 : j < n := by omega
              simp (maxSteps:=999999) -dsimp -implicitDefEqProofs only [↓eqD,eqU,eqV,eqW,vbuiltinQ,vlen,vslice,vindex,vstore,Array.toList,simprocAttr,lt6 hj2]
    by_cases q4 : k = 4
    · subst q4
      rw [decide_eq_true rfl, if_neg (by decide), if_neg (by decide), if_pos rfl, Bool.true_and]
      cases sK with
      | false =>
        simp (maxSteps:=999999) -dsimp -implicitDefEqProofs only [↓eqD,eqU,eqV,eqW,vbuiltinQ,vlen,vslice,vindex,vstore,Array.toList,simprocAttr,T_rsame_ord,T_rsame_ghost,FB,FC,none_at,k1,k1',k2,c2',hx,hx',da,db,dk,da',db',dk']; (repeat ((with_reducible (refine And.intro ?_ ?_)); (focus (first | omega | exact ⟨by omega, by omega⟩))))
        refine ⟨VPure.calls (w _) ?_, VPure.calls (w _) ?_⟩
        all_goals
          simp (maxSteps:=999999) -dsimp -implicitDefEqProofs only [↓eqD,eqU,eqV,eqW,vbuiltinQ,vlen,vslice,vindex,vstore,Array.toList,simprocAttr,T_rsame_ord,T_rsame_ghost,FB,FC,none_at,kw]; (repeat ((with_reducible (refine And.intro ?_ ?_)); (focus (first | omega | exact ⟨by omega, by omega⟩))))
          refine VDone.back hG ?_ rfl (by simp)
          intro j hj
          have hj2 : j < n := by omega
          simp (maxSteps:=999999) -dsimp -implicitDefEqProofs only [↓eqD,eqU,eqV,eqW,vbuiltinQ,vlen,vslice,vindex,vstore,Array.toList,simprocAttr,lt6 hj2]
      | true =>
        simp (maxSteps:=999999) -dsimp -implicitDefEqProofs only [↓eqD,eqU,eqV,eqW,vbuiltinQ,vlen,vslice,vindex,vstore,Array.toList,simprocAttr,T_rsame_ord,T_rsame_ghost,FB,FC,none_at,k1,k1',k2,c2',hx,hx',da,db,dk,da',db',dk']; (repeat ((with_reducible (refine And.intro ?_ ?_)); (focus (first | omega | exact ⟨by omega, by omega⟩))))
        refine ⟨VPure.calls (w _) ?_, VPure.calls (w _) ?_⟩
        all_goals
          simp (maxSteps:=999999) -dsimp -implicitDefEqProofs only [↓eqD,eqU,eqV,eqW,vbuiltinQ,vlen,vslice,vindex,vstore,Array.toList,simprocAttr,T_rsame_ord,T_rsame_ghost,FB,FC,none_at,kw]; (repeat ((with_reducible (refine And.intro ?_ ?_)); (focus (first | omega | exact ⟨by omega, by omega⟩))))
          refine ⟨(i + 1, n + 1 + 1), ⟨by simp only; omega, by simp only; omega, rfl⟩, by simp only; omega, .of ?_ (.over hG ?_ ?_ ?_)⟩
          · simp (maxSteps:=999999) -dsimp -implicitDefEqProofs only [↓eqD,eqU,eqV,eqW,vbuiltinQ,vlen,vslice,vindex,vstore,Array.toList,simprocAttr]
            (repeat' apply And.intro) <;> exact .refl _
          · simp (maxSteps:=999999) -dsimp -implicitDefEqProofs only [↓eqD,eqU,eqV,eqW,vbuiltinQ,vlen,vslice,vindex,vstore,Array.toList,simprocAttr]
          · simp (maxSteps:=999999) -dsimp -implicitDefEqProofs only [↓eqD,eqU,eqV,eqW,vbuiltinQ,vlen,vslice,vindex,vstore,Array.toList,simprocAttr,FB,FC]
          · intro j hj
            have hj : j < G.next := hj
            have hj2 : j < n := by omega
            simp (maxSteps:=999999) -dsimp -implicitDefEqProofs only [↓eqD,eqU,eqV,eqW,vbuiltinQ,vlen,vslice,vindex,vstore,Array.toList,simprocAttr,lt6 hj2]
    rw [decide_eq_true rfl, if_neg q2, if_neg q3, if_neg q4, Bool.true_and, Bool.true_and]
    simp (maxSteps:=999999) -dsimp -implicitDefEqProofs only [↓eqD,eqU,eqV,eqW,vbuiltinQ,vlen,vslice,vindex,vstore,Array.toList,simprocAttr,T_rsame_ord,T_rsame_ghost,FB,FC,none_at,k1,k1',k2,c2',hx,hx',da,db,dk,da',db',dk',q2,q3,q4,kw]; (repeat ((with_reducible (refine And.intro ?_ ?_)); (focus (first | omega | exact ⟨by omega, by omega⟩))))
    (try refine ⟨?_, ?_⟩)
    all_goals
      refine ⟨(i + 1, n + 1 + 1), ⟨by simp only; omega, by simp only; omega, rfl⟩, by simp only; omega, .of ?_ (.over hG ?_ ?_ ?_)⟩
      · simp (maxSteps:=999999) -dsimp -implicitDefEqProofs only [↓eqD,eqU,eqV,eqW,vbuiltinQ,vlen,vslice,vindex,vstore,Array.toList,simprocAttr]
        (repeat' apply And.intro) <;> exact .refl _
      · simp (maxSteps:=999999) -dsimp -implicitDefEqProofs only [↓eqD,eqU,eqV,eqW,vbuiltinQ,vlen,vslice,vindex,vstore,Array.toList,simprocAttr]
      · simp (maxSteps:=999999) -dsimp -implicitDefEqProofs only [↓eqD,eqU,eqV,eqW,vbuiltinQ,vlen,vslice,vindex,vstore,Array.toList,simprocAttr,FB,FC]
      · intro j hj
        have hj : j < G.next := hj
        have hj2 : j < n := by omega
        simp (maxSteps:=999999) -dsimp -implicitDefEqProofs only [↓eqD,eqU,eqV,eqW,vbuiltinQ,vlen,vslice,vindex,vstore,Array.toList,simprocAttr,lt6 hj2]
mutual
theorem rsame_walk : ∀ (l l' : List Te), l.length ≤ 9223372036854775807 → fitTs l → ∀ G, VPure Tryz.prog 12 [.sl 21 l.length (tesC l), .sl 21 l'.length (tesC l')] G (.bool (sameTs l l'))
  | l, l', hl, hf, G => rsame_walk0 l l' hl hf (fun i h ks' G => rsames_walk l hf i h ks' G) G
theorem rsames_walk : ∀ (l : List Te), fitTs l → ∀ (i : Nat) (h : i < l.length) (ks' : List Te) (G : Heap), VPure Tryz.prog 12 [.sl 21 l[i].ks.length (tesC l[i].ks), .sl 21 ks'.length (tesC ks')] G (.bool (sameTs l[i].ks ks'))
  | .mk k r a b lo hi ks :: q, hs, 0, _, ks', G => by rw [fitTs, fitT] at hs; exact rsame_walk ks ks' hs.1.2.1 hs.1.2.2 G
  | a :: r, hs, i + 1, h, ks', G => by rw [fitTs] at hs; exact rsames_walk r hs.2 i (by simpa using h) ks' G
end
mutual
theorem sameT_refl : ∀ a : Te, sameT a a = true
  | .mk k r a b lo hi ks => by
    rw [sameT, same_refl a, same_refl b, sameTs_refl ks]
    simp
theorem sameTs_refl : ∀ l : List Te, sameTs l l = true
  | [] => by rw [sameTs]
  | a :: r => by rw [sameTs, sameT_refl a, sameTs_refl r]; rfl
end
end Go.Vf
