/- lex.next: the token with which a text begins. -/
import Derived.Test.YtdplbmooogglaaaDoorLd
set_option linter.unusedVariables false
set_option linter.unusedSimpArgs false
namespace Go.Vf
open Go.Proofs Go.RowKit

def lettersL : List UInt8 := [97, 98, 99, 100, 101, 102, 103, 104, 105, 106, 107, 108, 109, 110, 111, 112, 113, 114, 115, 116, 117, 118, 119, 120, 121, 122]
def namesL : List UInt8 := [97, 98, 99, 100, 101, 102, 103, 104, 105, 106, 107, 108, 109, 110, 111, 112, 113, 114, 115, 116, 117, 118, 119, 120, 121, 122, 48, 49, 50, 51, 52, 53, 54, 55, 56, 57]
theorem letters_fold : ([97, 98, 99, 100, 101, 102, 103, 104, 105, 106, 107, 108, 109, 110, 111, 112, 113, 114, 115, 116, 117, 118, 119, 120, 121, 122] : List UInt8) = lettersL := rfl
theorem names_fold : (97 :: 98 :: 99 :: 100 :: 101 :: 102 :: 103 :: 104 :: 105 :: 106 :: 107 :: 108 :: 109 :: 110 :: 111 :: 112 :: 113 :: 114 :: 115 :: 116 :: 117 :: 118 :: 119 :: 120 :: 121 :: 122 :: digitsL : List UInt8) = namesL := rfl

/-- A token as it is taken: its kind, its text; how long it is; the error. -/
structure Took where
  kind : Int
  text : List UInt8
  n : Nat
  err : Int
def Took.v (t : Took) : V := .tup [.agg [.int .i64 t.kind, .str t.text, .int .i64 0], .int .i64 (t.n : Nat), .int .i64 t.err]
def nextL (s : List UInt8) : Took :=
  if 0 < runN s lettersL then
    (if 8 < runN s namesL ∧ wordB (s.take (runN s namesL)) = false then ⟨0, [], 0, 13⟩ else ⟨1, s.take (runN s namesL), runN s namesL, 0⟩)
  else if 0 < runN s digitsL then ⟨2, s.take (numN s), numN s, 0⟩
  else if s.getD 0 0 = 34 then
    (if textN s = 0 then ⟨0, [], 0, 2⟩ else if 18 < textN s then ⟨0, [], 0, 13⟩ else ⟨3, (s.take (textN s - 1)).drop 1, textN s, 0⟩)
  else if signL s = [] then ⟨0, [], 0, 2⟩ else ⟨4, signL s, (signL s).length, 0⟩
def g17 : List V → Option (Prop × V)
  | [.str s] => some (s ≠ [] ∧ s.length < 4294967281, (nextL s).v)
  | _ => none

theorem numN_le (s : List UInt8) : numN s ≤ s.length := by
  unfold numN
  have h1 := runN_le s digitsL
  have h2 := runN_le (s.drop (runN s digitsL + 1)) digitsL
  simp only [List.length_drop] at h2
  split <;> omega
theorem textGo_le : ∀ (l : List UInt8) (i : Nat), textGo l i ≤ l.length + i ∧ (textGo l i = 0 ∨ i < textGo l i)
  | [], i => by simp [textGo]
  | b :: r, i => by
    have ih := textGo_le r (i + 1)
    unfold textGo
    split
    · split
      · simp; omega
      · simp only [List.length_cons]; omega
    · simp
theorem textN_le {s : List UInt8} (h : s ≠ []) : textN s ≤ s.length ∧ (textN s = 0 ∨ 1 < textN s) := by
  have h1 := textGo_le (s.drop 1) 1
  have : 1 ≤ s.length := by cases s with | nil => exact (h rfl).elim | cons => simp
  simp only [List.length_drop] at h1
  unfold textN
  omega

def SE : Specs := ((SD.add 22 g22).add 23 g23).add 24 g24
theorem okE : SOk Tryd.prog SE := by
  refine ((okD.add ?_).add ?_).add ?_
  · intro xs G p v e hp
    unfold g22 at e
    split at e
    · cases e; exact num_walk _ hp G
    · cases e
  · intro xs G p v e hp
    unfold g23 at e
    split at e
    · cases e; exact text_walk _ hp G
    · cases e
  · intro xs G p v e hp
    unfold g24 at e
    split at e
    · cases e; exact sign_walk _ G
    · cases e
theorem ok17 : fnOk Tryd.prog 17 T0 1 = true := by kernel_rfl
set_option maxRecDepth 100000 in
set_option maxHeartbeats 4000000 in
theorem next_walk (s : List UInt8) (h0 : s ≠ []) (hs : s.length < 4294967281) (G : Heap) : VPure Tryd.prog 17 [.str s] G (nextL s).v := by
  refine VCalls.of okE mixed T0 ok17 fun hG => ?_
  have hd1 : ascii digitsL = true := by decide
  have hd2 : ascii lettersL = true := by decide
  have hd3 : ascii namesL = true := by decide
  have hl1 : s.length ≤ 4611686018427387904 := by omega
  simp (maxSteps := 1000000) -dsimp -implicitDefEqProofs only [fnB_some, eq_self, Nat.mul_one, Int.le_refl, Int.reduceLE, Int.reduceLT, vbyte, decide_eq_true_eq, ↓vwp_skip, ↓vwp_region, ↓vwp_seq, ↓vwp_cond, ↓vwp_block, ↓vwp_loop, ↓vwp_exit, ↓vwp_ret, ↓vwp_label, vghost_false, vghost_true, vcond_bool, ↓vregion_ordered, ↓vregion_drawn, vops_nil, vops_cons, vopsD_nil, vopsD_cons, ↓rowsOf_eq, rowsL, nthL, rowsC_some, ↓vstep_free, ↓vstep_guard, vguard_some, vtest_bool, vtest_tup, ↓vop_q, vopQ_some, vopQ_none, ↓vloud_call, ↓vloud_alloc, ↓vloud_box, ↓vloud_buildSlice, ↓vloud_store, ↓vloud_make, ↓vloud_append, ↓vloud_range, ↓vloud_next, vallocK_some, vbuildE_some, vbuildZ_some, vbuildC_some, vstoreK_ptr, vstoreC_some, vmakeK_int, vmakeZ_some, vappT_some, vappR_some, vappS_nil1, vappS_nil, vappS_slc, vappS_arr, vappC_some, vrangeK_str, vnextK_ptr, vnextC_iter, vcallF_func, vcallQ_some, vcallQ_none, ↓vrun_b, vrunB_true, vrunB_false, vrunQ_some, ↓vstepD_free, ↓vstepD_guard, vguardD_some, vtestD_bool, vtestD_tup, gslotL, quietSyn, vnote_nil, vsafe_nil, vsafe_rd_nil, vsafe_same, vnote, vreads, vreads1, List.any_cons, List.any_nil, Nat.reduceBEq, vq, vev, vconst, vconst1, Env.putO_some, Env.putO_none, Env.put_at, Env.of_cons, Env.of_nil, envAt_cons, envAt_nil, vthen_normal, vthen_exit, vthen_ret, vblock_normal, vblock_exit, vblock_ret, vexit_normal, vexit_exit, vexit_ret, heldE, heldQ, held2, ↓reduceIte, reduceCtorEq, Nat.reduceEqDiff, Nat.reduceAdd, Nat.reduceMul, Nat.reduceLT, Nat.reduceLeDiff, Nat.zero_add, Nat.add_zero, List.map_cons, List.map_nil, List.nil_append, List.append_nil, List.cons_append, List.length_cons, List.length_nil, List.getElem?_cons_zero, List.getElem?_cons_succ, List.getElem?_nil, true_and, and_true, and_self, vbuiltinQ, vlen, vbin, vun, veq, vite, vextract, vslice, vlow, vhigh, vdrop, vtake, vless, vindex, vindexAddr, vread, vload, vfield, vfieldAddr, vconvert, vstore, vflat, vsplice, vfill, Option.map_some, Option.map_none, Option.bind_some, Option.bind_none, Option.isSome_some, Option.isSome_none, Option.isNone_none, Option.isNone_some, isConst, over_next, over_nil, over_cons, Heap.put_get, Heap.put_next, Heap.alloc_get, Heap.alloc_next, Heap.del_get, Heap.del_next, vpost_ret, vpost_normal, vpostK_some, vresL, vres1, vone, keeps_nil, keeps_cons, tells_nil, tells_cons, Bool.false_eq_true, Bool.true_eq_false, Bool.not_true, Bool.not_false, if_true, if_false, Bool.true_or, Bool.or_true, Bool.false_or, Bool.or_false, Bool.and_true, Bool.true_and, Bool.and_false, Bool.false_and, decide_true, decide_false, Nat.reduceAnd, List.take_succ_cons, List.take_zero, List.take_nil, List.drop_succ_cons, List.drop_zero, List.drop_nil, V.scalarL, V.scalar, V.closedL, V.closed, Array.toList, List.toList_toArray, not_true_eq_false, not_false_eq_true, List.getD_cons_zero, List.getD_cons_succ, ite_self, Nat.reduceSub, Int.reduceToNat, Int.toNat_natCast, fnWp_some Tryd.func17, Tryd.f17, T0, z33, st33, u3, u5, u9, i33, c33, p33_0, p33_1, p33_2, ag33, SE, SD, SC, SB, SA, add_at, g12, g16, g21, g22, g23, g24, digits_fold, letters_fold, names_fold, hd1, hd2, hd3, hl1, hs]
  have hp : ∀ b b' id, id < G.next → ((G.alloc b).put G.next b').get id = G.get id := fun b b' id hid => by simp (maxSteps := 1000000) -dsimp -implicitDefEqProofs only [fnB_some, eq_self, Nat.mul_one, Int.le_refl, Int.reduceLE, Int.reduceLT, vbyte, decide_eq_true_eq, ↓vwp_skip, ↓vwp_region, ↓vwp_seq, ↓vwp_cond, ↓vwp_block, ↓vwp_loop, ↓vwp_exit, ↓vwp_ret, ↓vwp_label, vghost_false, vghost_true, vcond_bool, ↓vregion_ordered, ↓vregion_drawn, vops_nil, vops_cons, vopsD_nil, vopsD_cons, ↓rowsOf_eq, rowsL, nthL, rowsC_some, ↓vstep_free, ↓vstep_guard, vguard_some, vtest_bool, vtest_tup, ↓vop_q, vopQ_some, vopQ_none, ↓vloud_call, ↓vloud_alloc, ↓vloud_box, ↓vloud_buildSlice, ↓vloud_store, ↓vloud_make, ↓vloud_append, ↓vloud_range, ↓vloud_next, vallocK_some, vbuildE_some, vbuildZ_some, vbuildC_some, vstoreK_ptr, vstoreC_some, vmakeK_int, vmakeZ_some, vappT_some, vappR_some, vappS_nil1, vappS_nil, vappS_slc, vappS_arr, vappC_some, vrangeK_str, vnextK_ptr, vnextC_iter, vcallF_func, vcallQ_some, vcallQ_none, ↓vrun_b, vrunB_true, vrunB_false, vrunQ_some, ↓vstepD_free, ↓vstepD_guard, vguardD_some, vtestD_bool, vtestD_tup, gslotL, quietSyn, vnote_nil, vsafe_nil, vsafe_rd_nil, vsafe_same, vnote, vreads, vreads1, List.any_cons, List.any_nil, Nat.reduceBEq, vq, vev, vconst, vconst1, Env.putO_some, Env.putO_none, Env.put_at, Env.of_cons, Env.of_nil, envAt_cons, envAt_nil, vthen_normal, vthen_exit, vthen_ret, vblock_normal, vblock_exit, vblock_ret, vexit_normal, vexit_exit, vexit_ret, heldE, heldQ, held2, ↓reduceIte, reduceCtorEq, Nat.reduceEqDiff, Nat.reduceAdd, Nat.reduceMul, Nat.reduceLT, Nat.reduceLeDiff, Nat.zero_add, Nat.add_zero, List.map_cons, List.map_nil, List.nil_append, List.append_nil, List.cons_append, List.length_cons, List.length_nil, List.getElem?_cons_zero, List.getElem?_cons_succ, List.getElem?_nil, true_and, and_true, and_self, vbuiltinQ, vlen, vbin, vun, veq, vite, vextract, vslice, vlow, vhigh, vdrop, vtake, vless, vindex, vindexAddr, vread, vload, vfield, vfieldAddr, vconvert, vstore, vflat, vsplice, vfill, Option.map_some, Option.map_none, Option.bind_some, Option.bind_none, Option.isSome_some, Option.isSome_none, Option.isNone_none, Option.isNone_some, isConst, over_next, over_nil, over_cons, Heap.put_get, Heap.put_next, Heap.alloc_get, Heap.alloc_next, Heap.del_get, Heap.del_next, vpost_ret, vpost_normal, vpostK_some, vresL, vres1, vone, keeps_nil, keeps_cons, tells_nil, tells_cons, Bool.false_eq_true, Bool.true_eq_false, Bool.not_true, Bool.not_false, if_true, if_false, Bool.true_or, Bool.or_true, Bool.false_or, Bool.or_false, Bool.and_true, Bool.true_and, Bool.and_false, Bool.false_and, decide_true, decide_false, Nat.reduceAnd, List.take_succ_cons, List.take_zero, List.take_nil, List.drop_succ_cons, List.drop_zero, List.drop_nil, V.scalarL, V.scalar, V.closedL, V.closed, Array.toList, List.toList_toArray, not_true_eq_false, not_false_eq_true, List.getD_cons_zero, List.getD_cons_succ, ite_self, Nat.reduceSub, Int.reduceToNat, Int.toNat_natCast, Nat.ne_of_lt hid]
  have dn : ∀ t : Took, nextL s = t → ∀ b b', VDone G.next t.v ((G.alloc b).put G.next b') fun u G' => u = (nextL s).v ∧ G' = G := fun t ht b b' => VDone.back hG (hp b b') rfl (by rw [ht])
  have l1 := runN_le s namesL
  have l2 := numN_le s
  have l3 := textN_le h0
  have hpos : 0 < s.length := by cases s with | nil => exact (h0 rfl).elim | cons => simp
  have hq : ((s.getD 0 0).toNat : Int) = 34 ↔ s.getD 0 0 = 34 := by
    constructor
    · intro h; exact UInt8.toNat_inj.1 (by simpa using Int.ofNat_inj.1 h)
    · intro h; rw [h]; rfl
  split
  · rename_i c1
    split
    · rename_i c2
      refine ⟨by omega, by simp; omega, ?_⟩
      split
      · rename_i c3
        exact dn ⟨0, [], 0, 13⟩ (by unfold nextL; rw [if_pos c1, if_pos ⟨by omega, by simpa using c3⟩]) _ _
      · rename_i c3
        exact ⟨by omega, dn ⟨1, s.take (runN s namesL), runN s namesL, 0⟩ (by unfold nextL; rw [if_pos c1, if_neg (fun h => c3 (by rw [h.2]; rfl))]) _ _⟩
    · rename_i c2
      exact ⟨by omega, dn ⟨1, s.take (runN s namesL), runN s namesL, 0⟩ (by unfold nextL; rw [if_pos c1, if_neg (fun h => c2 (by have := h.1; omega))]) _ _⟩
  · rename_i c1
    split
    · rename_i c2
      exact ⟨by omega, dn ⟨2, s.take (numN s), numN s, 0⟩ (by unfold nextL; rw [if_neg c1, if_pos c2]) _ _⟩
    · rename_i c2
      refine ⟨by omega, ?_⟩
      split
      · rename_i c3
        split
        · rename_i c4
          exact dn ⟨0, [], 0, 2⟩ (by unfold nextL; rw [if_neg c1, if_neg c2, if_pos (hq.1 c3), if_pos (by omega)]) _ _
        · rename_i c4
          have w2 : IntKind.wrap .i64 ((textN s : Int) - 2) = ((textN s - 2 : Nat) : Int) := by rw [w64 (by omega) (by omega)]; omega
          have w1 : IntKind.wrap .i64 ((textN s : Int) - 1) = ((textN s - 1 : Nat) : Int) := by rw [w64 (by omega) (by omega)]; omega
          rw [w2, w1]
          split
          · rename_i c5
            exact dn ⟨0, [], 0, 13⟩ (by unfold nextL; rw [if_neg c1, if_neg c2, if_pos (hq.1 c3), if_neg (by omega), if_pos (by omega)]) _ _
          · rename_i c5
            refine ⟨⟨by omega, by omega⟩, ?_⟩
            exact dn ⟨3, (s.take (textN s - 1)).drop 1, textN s, 0⟩ (by unfold nextL; rw [if_neg c1, if_neg c2, if_pos (hq.1 c3), if_neg (by omega), if_neg (by omega)]) _ _
      · rename_i c3
        split
        · rename_i c4
          exact dn ⟨0, [], 0, 2⟩ (by unfold nextL; rw [if_neg c1, if_neg c2, if_neg (fun h => c3 (hq.2 h)), if_pos c4]) _ _
        · rename_i c4
          exact dn ⟨4, signL s, (signL s).length, 0⟩ (by unfold nextL; rw [if_neg c1, if_neg c2, if_neg (fun h => c3 (hq.2 h)), if_neg c4]) _ _
end Go.Vf
