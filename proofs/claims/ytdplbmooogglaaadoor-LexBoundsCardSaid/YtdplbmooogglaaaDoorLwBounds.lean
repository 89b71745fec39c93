/- LexBounds: texts, names, rows of tokens up to their limits, and no longer: the walk. -/
import Derived.Test.YtdplbmooogglaaaDoorLo
set_option linter.unusedVariables false
set_option linter.unusedSimpArgs false
namespace Go.Vf
open Go.Proofs Go.RowKit

def boundC : Nat → List UInt8
  | 0 => [97]
  | 1 => [97]
  | 2 => [43]
  | _ => [32]
def rep (n : Nat) (c : List UInt8) : List UInt8 := match n with | 0 => [] | n + 1 => rep n c ++ c
def boundS (n kind : Nat) : List UInt8 := if kind = 1 then ([34] ++ rep n (boundC kind)) ++ [34] else rep n (boundC kind)
theorem rep_len {c : List UInt8} (h : c.length = 1) : ∀ n, (rep n c).length = n
  | 0 => rfl
  | n + 1 => by rw [rep, List.length_append, rep_len h n, h]
theorem boundC_len (k : Nat) : (boundC k).length = 1 := by unfold boundC; split <;> rfl
def most (k : Nat) : Nat := if k = 0 then 8 else if k = 1 then 16 else if k = 2 then 60 else 200
def boundB (n k : Nat) : Bool := (decide ((lexL (boundS n k)).err = 0) == (decide (n ≤ most k) && decide ((boundS n k).length ≤ 200))) && (decide ((lexL (boundS n k)).err = 0) || decide ((lexL (boundS n k)).err = 13))
theorem bounds_three : ((List.range 251).all fun n => boundB n 0 && boundB n 1 && boundB n 3) = true := by decide +kernel
theorem rep_all (n : Nat) (c : UInt8) : ∀ i, i < n → (rep n [c]).getD i 0 = c := by
  induction n with
  | zero => intro i h; omega
  | succ n ih =>
    intro i h
    rw [rep]
    by_cases hi : i < n
    · rw [List.getD, List.getElem?_append_left (by rw [rep_len rfl]; exact hi)]
      exact ih i hi
    · have : i = n := by omega
      subst this
      rw [List.getD, List.getElem?_append_right (by rw [rep_len rfl]; exact Nat.le_refl _), rep_len rfl, Nat.sub_self]
      rfl
theorem plus_next (r : List UInt8) : nextL (43 :: r) = ⟨4, [43], 1, 0⟩ := by
  have h1 : runN (43 :: r) lettersL = 0 := by rw [runN_eq]; rfl
  have h2 : runN (43 :: r) digitsL = 0 := by rw [runN_eq]; rfl
  unfold nextL
  rw [h1, h2]
  rfl
theorem plus_go {s : List UInt8} (hs : ∀ i, i < s.length → s.getD i 0 = 43) : ∀ (f p : Nat) (acc : List Tok), s.length < p + f → p ≤ s.length → acc.length ≤ 60 → (lexGo s f p acc).err = if s.length - p + acc.length ≤ 60 then 0 else 13
  | 0, p, acc, h1, h2, h3 => by omega
  | f + 1, p, acc, h1, h2, h3 => by
    unfold lexGo
    by_cases hp : p < s.length
    · have hr : runN (s.drop (p + 1)) [32] = 0 := by
        by_cases hp1 : p + 1 < s.length
        · exact runN_out hp1 (by rw [hs _ hp1]; rfl)
        · exact runN_end _ (by omega)
      rw [if_pos hp, drop_at hp, hs p hp, plus_next]
      simp only
      by_cases ha : 60 ≤ acc.length
      · rw [if_pos ⟨trivial, ha⟩, if_neg (by omega)]
      · rw [if_neg (fun h => ha h.2), if_neg (fun h => h rfl), hr]
        rw [plus_go hs f (p + 1 + 0) _ (by omega) (by omega) (by rw [List.length_append]; simp; omega), List.length_append]
        simp only [List.length_cons, List.length_nil]
        by_cases hc : s.length - p + acc.length ≤ 60
        · rw [if_pos (by omega), if_pos hc]
        · rw [if_neg (by omega), if_neg hc]
    · rw [if_neg hp]
      simp only
      rw [if_pos (by omega)]
theorem bounds_plus (n : Nat) : boundB n 2 = true := by
  have hl : (rep n [43]).length = n := rep_len rfl n
  have hs : ∀ i, i < (rep n [43]).length → (rep n [43]).getD i 0 = 43 := fun i hi => rep_all n 43 i (by omega)
  have e : boundS n 2 = rep n [43] := rfl
  have key : (lexL (rep n [43])).err = if n ≤ 60 then 0 else 13 := by
    unfold lexL
    by_cases h : 200 < n
    · rw [if_pos (by omega), if_neg (by omega)]
    · rw [if_neg (by omega)]
      have hr : runN (rep n [43]) [32] = 0 := by
        by_cases h0 : 0 < n
        · have := runN_out (s := rep n [43]) (set := [32]) (e := 0) (by omega) (by rw [hs _ (by omega)]; rfl)
          simpa using this
        · have := runN_end (s := rep n [43]) [32] (e := 0) (by omega)
          simpa using this
      rw [hr, plus_go hs _ 0 [] (by omega) (Nat.zero_le _) (Nat.zero_le _), hl]
      simp
  unfold boundB
  rw [e, key, hl]
  by_cases h : n ≤ 60
  · have h2 : n ≤ most 2 := h
    rw [if_pos h]
    simp [h2]; omega
  · have h2 : ¬n ≤ most 2 := h
    rw [if_neg h]
    simp [h2]
theorem bounds_law {n k : Nat} (hn : n < 251) (hk : k < 4) : boundB n k = true := by
  have := List.all_eq_true.1 bounds_three n (List.mem_range.2 hn)
  simp only [Bool.and_eq_true] at this
  obtain rfl | rfl | rfl | rfl : k = 0 ∨ k = 1 ∨ k = 2 ∨ k = 3 := by omega
  · exact this.1.1
  · exact this.1.2
  · exact bounds_plus n
  · exact this.2
theorem bounds_end {e : Int} {n m : Nat} {L : Int} {l : Nat} (hL : L = l) {D F : Prop} (d : D)
    (law : ((decide (e = 0) == (decide (n ≤ m) && decide (l ≤ 200))) && (decide (e = 0) || decide (e = 13))) = true) :
    if (n : Int) ≤ (m : Int) then (if decide (e = 0) = decide (L ≤ 200) then (if decide (e = 0) = false then (if e = 13 then D else F) else D) else F)
    else (if decide (e = 0) = false then (if decide (e = 0) = false then (if e = 13 then D else F) else D) else F) := by
  subst hL
  simp only [Bool.and_eq_true, beq_iff_eq, Bool.or_eq_true, decide_eq_true_eq] at law
  obtain ⟨h1, h2⟩ := law
  by_cases hn : n ≤ m
  · rw [if_pos (by omega)]
    have hd : decide ((l : Int) ≤ 200) = decide (l ≤ 200) := by rw [Bool.eq_iff_iff]; simp; omega
    rw [hd, h1, if_pos (by simp [hn])]
    rcases h2 with h | h
    · subst h
      split
      · rename_i c; rw [← h1] at c; simp at c
      · exact d
    · split
      · first | exact d | (rw [if_pos h]; exact d)
      · exact d
  · rw [if_neg (by omega)]
    have : decide (e = 0) = false := by rw [h1]; simp [hn]
    rw [if_pos this, if_pos this]
    rcases h2 with h | h
    · subst h; simp at this
    · rw [if_pos h]; exact d

theorem u36 : Tryd.prog.underlying 36 = some (.slice 3) := by kernel_rfl
theorem te36 : telem Tryd.prog 36 = some 3 := by kernel_rfl
theorem z3 : tzero Tryd.prog 3 = some [.int .i64 0] := by kernel_rfl
theorem ok6 : fnOk Tryd.prog 6 T0 2 = true := by kernel_rfl
set_option maxRecDepth 100000 in
theorem lexBounds_walk (a b : Int) (G : Heap) : VPure Tryd.prog 6 [.int .i64 a, .int .i64 b] G (.bool true) := by
  refine VCalls.of okM mixed T0 ok6 fun hG => ?_
  have dn : ∀ G', (∀ id, id < G.next → G'.get id = G.get id) → VDone G.next (.bool true) G' fun u G' => u = .bool true ∧ G' = G := fun G' hg => VDone.back hG hg rfl rfl
  by_cases h1 : a < 1
  · simp (maxSteps := 1000000) -dsimp -implicitDefEqProofs only [fnB_some, eq_self, Nat.mul_one, Int.le_refl, Int.reduceLE, Int.reduceLT, vbyte, decide_eq_true_eq, ↓vwp_skip, ↓vwp_region, ↓vwp_seq, ↓vwp_cond, ↓vwp_block, ↓vwp_loop, ↓vwp_exit, ↓vwp_ret, ↓vwp_label, vghost_false, vghost_true, vcond_bool, ↓vregion_ordered, ↓vregion_drawn, vops_nil, vops_cons, vopsD_nil, vopsD_cons, ↓rowsOf_eq, rowsL, nthL, rowsC_some, ↓vstep_free, ↓vstep_guard, vguard_some, vtest_bool, vtest_tup, ↓vop_q, vopQ_some, vopQ_none, ↓vloud_call, ↓vloud_alloc, ↓vloud_box, ↓vloud_buildSlice, ↓vloud_store, ↓vloud_make, ↓vloud_append, ↓vloud_range, ↓vloud_next, vallocK_some, vbuildE_some, vbuildZ_some, vbuildC_some, vstoreK_ptr, vstoreC_some, vmakeK_int, vmakeZ_some, vappT_some, vappR_some, vappS_nil1, vappS_nil, vappS_slc, vappS_arr, vappC_some, vrangeK_str, vnextK_ptr, vnextC_iter, vcallF_func, vcallQ_some, vcallQ_none, ↓vrun_b, vrunB_true, vrunB_false, vrunQ_some, ↓vstepD_free, ↓vstepD_guard, vguardD_some, vtestD_bool, vtestD_tup, gslotL, quietSyn, vnote_nil, vsafe_nil, vsafe_rd_nil, vsafe_same, vnote, vreads, vreads1, List.any_cons, List.any_nil, Nat.reduceBEq, vq, vev, vconst, vconst1, Env.putO_some, Env.putO_none, Env.put_at, Env.of_cons, Env.of_nil, envAt_cons, envAt_nil, vthen_normal, vthen_exit, vthen_ret, vblock_normal, vblock_exit, vblock_ret, vexit_normal, vexit_exit, vexit_ret, heldE, heldQ, held2, ↓reduceIte, reduceCtorEq, Nat.reduceEqDiff, Nat.reduceAdd, Nat.reduceMul, Nat.reduceLT, Nat.reduceLeDiff, Nat.zero_add, Nat.add_zero, List.map_cons, List.map_nil, List.nil_append, List.append_nil, List.cons_append, List.length_cons, List.length_nil, List.getElem?_cons_zero, List.getElem?_cons_succ, List.getElem?_nil, true_and, and_true, and_self, vbuiltinQ, vlen, vbin, vun, veq, vite, vextract, vslice, vlow, vhigh, vdrop, vtake, vless, vindex, vindexAddr, vread, vload, vfield, vfieldAddr, vconvert, vstore, vflat, vsplice, vfill, Option.map_some, Option.map_none, Option.bind_some, Option.bind_none, Option.isSome_some, Option.isSome_none, Option.isNone_none, Option.isNone_some, isConst, over_next, over_nil, over_cons, Heap.put_get, Heap.put_next, Heap.alloc_get, Heap.alloc_next, Heap.del_get, Heap.del_next, vpost_ret, vpost_normal, vpostK_some, vresL, vres1, vone, keeps_nil, keeps_cons, tells_nil, tells_cons, Bool.false_eq_true, Bool.true_eq_false, Bool.not_true, Bool.not_false, if_true, if_false, Bool.true_or, Bool.or_true, Bool.false_or, Bool.or_false, Bool.and_true, Bool.true_and, Bool.and_false, Bool.false_and, decide_true, decide_false, Nat.reduceAnd, List.take_succ_cons, List.take_zero, List.take_nil, List.drop_succ_cons, List.drop_zero, List.drop_nil, V.scalarL, V.scalar, V.closedL, V.closed, Array.toList, List.toList_toArray, not_true_eq_false, not_false_eq_true, List.getD_cons_zero, List.getD_cons_succ, ite_self, Nat.reduceSub, Int.reduceToNat, Int.toNat_natCast, fnWp_some Tryd.func6, Tryd.f6, T0, u3, u4, u5, u9, u21, u22, u23, u35, te22, te35, ag3, ag5, ag9, ag33, z33, z9, st33, c33, c9, c3, i33, i9, i3, b33, b9, f33_0, f33_1, f33_2, p33_0, p33_1, p33_2, k33, g33, g9, s22, h1]
    exact dn _ fun _ _ => rfl
  by_cases h2 : 250 < a
  · simp (maxSteps := 1000000) -dsimp -implicitDefEqProofs only [fnB_some, eq_self, Nat.mul_one, Int.le_refl, Int.reduceLE, Int.reduceLT, vbyte, decide_eq_true_eq, ↓vwp_skip, ↓vwp_region, ↓vwp_seq, ↓vwp_cond, ↓vwp_block, ↓vwp_loop, ↓vwp_exit, ↓vwp_ret, ↓vwp_label, vghost_false, vghost_true, vcond_bool, ↓vregion_ordered, ↓vregion_drawn, vops_nil, vops_cons, vopsD_nil, vopsD_cons, ↓rowsOf_eq, rowsL, nthL, rowsC_some, ↓vstep_free, ↓vstep_guard, vguard_some, vtest_bool, vtest_tup, ↓vop_q, vopQ_some, vopQ_none, ↓vloud_call, ↓vloud_alloc, ↓vloud_box, ↓vloud_buildSlice, ↓vloud_store, ↓vloud_make, ↓vloud_append, ↓vloud_range, ↓vloud_next, vallocK_some, vbuildE_some, vbuildZ_some, vbuildC_some, vstoreK_ptr, vstoreC_some, vmakeK_int, vmakeZ_some, vappT_some, vappR_some, vappS_nil1, vappS_nil, vappS_slc, vappS_arr, vappC_some, vrangeK_str, vnextK_ptr, vnextC_iter, vcallF_func, vcallQ_some, vcallQ_none, ↓vrun_b, vrunB_true, vrunB_false, vrunQ_some, ↓vstepD_free, ↓vstepD_guard, vguardD_some, vtestD_bool, vtestD_tup, gslotL, quietSyn, vnote_nil, vsafe_nil, vsafe_rd_nil, vsafe_same, vnote, vreads, vreads1, List.any_cons, List.any_nil, Nat.reduceBEq, vq, vev, vconst, vconst1, Env.putO_some, Env.putO_none, Env.put_at, Env.of_cons, Env.of_nil, envAt_cons, envAt_nil, vthen_normal, vthen_exit, vthen_ret, vblock_normal, vblock_exit, vblock_ret, vexit_normal, vexit_exit, vexit_ret, heldE, heldQ, held2, ↓reduceIte, reduceCtorEq, Nat.reduceEqDiff, Nat.reduceAdd, Nat.reduceMul, Nat.reduceLT, Nat.reduceLeDiff, Nat.zero_add, Nat.add_zero, List.map_cons, List.map_nil, List.nil_append, List.append_nil, List.cons_append, List.length_cons, List.length_nil, List.getElem?_cons_zero, List.getElem?_cons_succ, List.getElem?_nil, true_and, and_true, and_self, vbuiltinQ, vlen, vbin, vun, veq, vite, vextract, vslice, vlow, vhigh, vdrop, vtake, vless, vindex, vindexAddr, vread, vload, vfield, vfieldAddr, vconvert, vstore, vflat, vsplice, vfill, Option.map_some, Option.map_none, Option.bind_some, Option.bind_none, Option.isSome_some, Option.isSome_none, Option.isNone_none, Option.isNone_some, isConst, over_next, over_nil, over_cons, Heap.put_get, Heap.put_next, Heap.alloc_get, Heap.alloc_next, Heap.del_get, Heap.del_next, vpost_ret, vpost_normal, vpostK_some, vresL, vres1, vone, keeps_nil, keeps_cons, tells_nil, tells_cons, Bool.false_eq_true, Bool.true_eq_false, Bool.not_true, Bool.not_false, if_true, if_false, Bool.true_or, Bool.or_true, Bool.false_or, Bool.or_false, Bool.and_true, Bool.true_and, Bool.and_false, Bool.false_and, decide_true, decide_false, Nat.reduceAnd, List.take_succ_cons, List.take_zero, List.take_nil, List.drop_succ_cons, List.drop_zero, List.drop_nil, V.scalarL, V.scalar, V.closedL, V.closed, Array.toList, List.toList_toArray, not_true_eq_false, not_false_eq_true, List.getD_cons_zero, List.getD_cons_succ, ite_self, Nat.reduceSub, Int.reduceToNat, Int.toNat_natCast, fnWp_some Tryd.func6, Tryd.f6, T0, u3, u4, u5, u9, u21, u22, u23, u35, te22, te35, ag3, ag5, ag9, ag33, z33, z9, st33, c33, c9, c3, i33, i9, i3, b33, b9, f33_0, f33_1, f33_2, p33_0, p33_1, p33_2, k33, g33, g9, s22, h1, h2]
    exact dn _ fun _ _ => rfl
  by_cases h3 : b < 0
  · simp (maxSteps := 1000000) -dsimp -implicitDefEqProofs only [fnB_some, eq_self, Nat.mul_one, Int.le_refl, Int.reduceLE, Int.reduceLT, vbyte, decide_eq_true_eq, ↓vwp_skip, ↓vwp_region, ↓vwp_seq, ↓vwp_cond, ↓vwp_block, ↓vwp_loop, ↓vwp_exit, ↓vwp_ret, ↓vwp_label, vghost_false, vghost_true, vcond_bool, ↓vregion_ordered, ↓vregion_drawn, vops_nil, vops_cons, vopsD_nil, vopsD_cons, ↓rowsOf_eq, rowsL, nthL, rowsC_some, ↓vstep_free, ↓vstep_guard, vguard_some, vtest_bool, vtest_tup, ↓vop_q, vopQ_some, vopQ_none, ↓vloud_call, ↓vloud_alloc, ↓vloud_box, ↓vloud_buildSlice, ↓vloud_store, ↓vloud_make, ↓vloud_append, ↓vloud_range, ↓vloud_next, vallocK_some, vbuildE_some, vbuildZ_some, vbuildC_some, vstoreK_ptr, vstoreC_some, vmakeK_int, vmakeZ_some, vappT_some, vappR_some, vappS_nil1, vappS_nil, vappS_slc, vappS_arr, vappC_some, vrangeK_str, vnextK_ptr, vnextC_iter, vcallF_func, vcallQ_some, vcallQ_none, ↓vrun_b, vrunB_true, vrunB_false, vrunQ_some, ↓vstepD_free, ↓vstepD_guard, vguardD_some, vtestD_bool, vtestD_tup, gslotL, quietSyn, vnote_nil, vsafe_nil, vsafe_rd_nil, vsafe_same, vnote, vreads, vreads1, List.any_cons, List.any_nil, Nat.reduceBEq, vq, vev, vconst, vconst1, Env.putO_some, Env.putO_none, Env.put_at, Env.of_cons, Env.of_nil, envAt_cons, envAt_nil, vthen_normal, vthen_exit, vthen_ret, vblock_normal, vblock_exit, vblock_ret, vexit_normal, vexit_exit, vexit_ret, heldE, heldQ, held2, ↓reduceIte, reduceCtorEq, Nat.reduceEqDiff, Nat.reduceAdd, Nat.reduceMul, Nat.reduceLT, Nat.reduceLeDiff, Nat.zero_add, Nat.add_zero, List.map_cons, List.map_nil, List.nil_append, List.append_nil, List.cons_append, List.length_cons, List.length_nil, List.getElem?_cons_zero, List.getElem?_cons_succ, List.getElem?_nil, true_and, and_true, and_self, vbuiltinQ, vlen, vbin, vun, veq, vite, vextract, vslice, vlow, vhigh, vdrop, vtake, vless, vindex, vindexAddr, vread, vload, vfield, vfieldAddr, vconvert, vstore, vflat, vsplice, vfill, Option.map_some, Option.map_none, Option.bind_some, Option.bind_none, Option.isSome_some, Option.isSome_none, Option.isNone_none, Option.isNone_some, isConst, over_next, over_nil, over_cons, Heap.put_get, Heap.put_next, Heap.alloc_get, Heap.alloc_next, Heap.del_get, Heap.del_next, vpost_ret, vpost_normal, vpostK_some, vresL, vres1, vone, keeps_nil, keeps_cons, tells_nil, tells_cons, Bool.false_eq_true, Bool.true_eq_false, Bool.not_true, Bool.not_false, if_true, if_false, Bool.true_or, Bool.or_true, Bool.false_or, Bool.or_false, Bool.and_true, Bool.true_and, Bool.and_false, Bool.false_and, decide_true, decide_false, Nat.reduceAnd, List.take_succ_cons, List.take_zero, List.take_nil, List.drop_succ_cons, List.drop_zero, List.drop_nil, V.scalarL, V.scalar, V.closedL, V.closed, Array.toList, List.toList_toArray, not_true_eq_false, not_false_eq_true, List.getD_cons_zero, List.getD_cons_succ, ite_self, Nat.reduceSub, Int.reduceToNat, Int.toNat_natCast, fnWp_some Tryd.func6, Tryd.f6, T0, u3, u4, u5, u9, u21, u22, u23, u35, te22, te35, ag3, ag5, ag9, ag33, z33, z9, st33, c33, c9, c3, i33, i9, i3, b33, b9, f33_0, f33_1, f33_2, p33_0, p33_1, p33_2, k33, g33, g9, s22, h1, h2, h3]
    exact dn _ fun _ _ => rfl
  by_cases h4 : 3 < b
  · simp (maxSteps := 1000000) -dsimp -implicitDefEqProofs only [fnB_some, eq_self, Nat.mul_one, Int.le_refl, Int.reduceLE, Int.reduceLT, vbyte, decide_eq_true_eq, ↓vwp_skip, ↓vwp_region, ↓vwp_seq, ↓vwp_cond, ↓vwp_block, ↓vwp_loop, ↓vwp_exit, ↓vwp_ret, ↓vwp_label, vghost_false, vghost_true, vcond_bool, ↓vregion_ordered, ↓vregion_drawn, vops_nil, vops_cons, vopsD_nil, vopsD_cons, ↓rowsOf_eq, rowsL, nthL, rowsC_some, ↓vstep_free, ↓vstep_guard, vguard_some, vtest_bool, vtest_tup, ↓vop_q, vopQ_some, vopQ_none, ↓vloud_call, ↓vloud_alloc, ↓vloud_box, ↓vloud_buildSlice, ↓vloud_store, ↓vloud_make, ↓vloud_append, ↓vloud_range, ↓vloud_next, vallocK_some, vbuildE_some, vbuildZ_some, vbuildC_some, vstoreK_ptr, vstoreC_some, vmakeK_int, vmakeZ_some, vappT_some, vappR_some, vappS_nil1, vappS_nil, vappS_slc, vappS_arr, vappC_some, vrangeK_str, vnextK_ptr, vnextC_iter, vcallF_func, vcallQ_some, vcallQ_none, ↓vrun_b, vrunB_true, vrunB_false, vrunQ_some, ↓vstepD_free, ↓vstepD_guard, vguardD_some, vtestD_bool, vtestD_tup, gslotL, quietSyn, vnote_nil, vsafe_nil, vsafe_rd_nil, vsafe_same, vnote, vreads, vreads1, List.any_cons, List.any_nil, Nat.reduceBEq, vq, vev, vconst, vconst1, Env.putO_some, Env.putO_none, Env.put_at, Env.of_cons, Env.of_nil, envAt_cons, envAt_nil, vthen_normal, vthen_exit, vthen_ret, vblock_normal, vblock_exit, vblock_ret, vexit_normal, vexit_exit, vexit_ret, heldE, heldQ, held2, ↓reduceIte, reduceCtorEq, Nat.reduceEqDiff, Nat.reduceAdd, Nat.reduceMul, Nat.reduceLT, Nat.reduceLeDiff, Nat.zero_add, Nat.add_zero, List.map_cons, List.map_nil, List.nil_append, List.append_nil, List.cons_append, List.length_cons, List.length_nil, List.getElem?_cons_zero, List.getElem?_cons_succ, List.getElem?_nil, true_and, and_true, and_self, vbuiltinQ, vlen, vbin, vun, veq, vite, vextract, vslice, vlow, vhigh, vdrop, vtake, vless, vindex, vindexAddr, vread, vload, vfield, vfieldAddr, vconvert, vstore, vflat, vsplice, vfill, Option.map_some, Option.map_none, Option.bind_some, Option.bind_none, Option.isSome_some, Option.isSome_none, Option.isNone_none, Option.isNone_some, isConst, over_next, over_nil, over_cons, Heap.put_get, Heap.put_next, Heap.alloc_get, Heap.alloc_next, Heap.del_get, Heap.del_next, vpost_ret, vpost_normal, vpostK_some, vresL, vres1, vone, keeps_nil, keeps_cons, tells_nil, tells_cons, Bool.false_eq_true, Bool.true_eq_false, Bool.not_true, Bool.not_false, if_true, if_false, Bool.true_or, Bool.or_true, Bool.false_or, Bool.or_false, Bool.and_true, Bool.true_and, Bool.and_false, Bool.false_and, decide_true, decide_false, Nat.reduceAnd, List.take_succ_cons, List.take_zero, List.take_nil, List.drop_succ_cons, List.drop_zero, List.drop_nil, V.scalarL, V.scalar, V.closedL, V.closed, Array.toList, List.toList_toArray, not_true_eq_false, not_false_eq_true, List.getD_cons_zero, List.getD_cons_succ, ite_self, Nat.reduceSub, Int.reduceToNat, Int.toNat_natCast, fnWp_some Tryd.func6, Tryd.f6, T0, u3, u4, u5, u9, u21, u22, u23, u35, te22, te35, ag3, ag5, ag9, ag33, z33, z9, st33, c33, c9, c3, i33, i9, i3, b33, b9, f33_0, f33_1, f33_2, p33_0, p33_1, p33_2, k33, g33, g9, s22, h1, h2, h3, h4]
    exact dn _ fun _ _ => rfl
  obtain ⟨n, rfl⟩ : ∃ n : Nat, a = n := ⟨a.toNat, by omega⟩
  obtain ⟨k, rfl⟩ : ∃ k : Nat, b = k := ⟨b.toNat, by omega⟩
  simp (maxSteps := 1000000) -dsimp -implicitDefEqProofs only [fnB_some, eq_self, Nat.mul_one, Int.le_refl, Int.reduceLE, Int.reduceLT, vbyte, decide_eq_true_eq, ↓vwp_skip, ↓vwp_region, ↓vwp_seq, ↓vwp_cond, ↓vwp_block, ↓vwp_loop, ↓vwp_exit, ↓vwp_ret, ↓vwp_label, vghost_false, vghost_true, vcond_bool, ↓vregion_ordered, ↓vregion_drawn, vops_nil, vops_cons, vopsD_nil, vopsD_cons, ↓rowsOf_eq, rowsL, nthL, rowsC_some, ↓vstep_free, ↓vstep_guard, vguard_some, vtest_bool, vtest_tup, ↓vop_q, vopQ_some, vopQ_none, ↓vloud_call, ↓vloud_alloc, ↓vloud_box, ↓vloud_buildSlice, ↓vloud_store, ↓vloud_make, ↓vloud_append, ↓vloud_range, ↓vloud_next, vallocK_some, vbuildE_some, vbuildZ_some, vbuildC_some, vstoreK_ptr, vstoreC_some, vmakeK_int, vmakeZ_some, vappT_some, vappR_some, vappS_nil1, vappS_nil, vappS_slc, vappS_arr, vappC_some, vrangeK_str, vnextK_ptr, vnextC_iter, vcallF_func, vcallQ_some, vcallQ_none, ↓vrun_b, vrunB_true, vrunB_false, vrunQ_some, ↓vstepD_free, ↓vstepD_guard, vguardD_some, vtestD_bool, vtestD_tup, gslotL, quietSyn, vnote_nil, vsafe_nil, vsafe_rd_nil, vsafe_same, vnote, vreads, vreads1, List.any_cons, List.any_nil, Nat.reduceBEq, vq, vev, vconst, vconst1, Env.putO_some, Env.putO_none, Env.put_at, Env.of_cons, Env.of_nil, envAt_cons, envAt_nil, vthen_normal, vthen_exit, vthen_ret, vblock_normal, vblock_exit, vblock_ret, vexit_normal, vexit_exit, vexit_ret, heldE, heldQ, held2, ↓reduceIte, reduceCtorEq, Nat.reduceEqDiff, Nat.reduceAdd, Nat.reduceMul, Nat.reduceLT, Nat.reduceLeDiff, Nat.zero_add, Nat.add_zero, List.map_cons, List.map_nil, List.nil_append, List.append_nil, List.cons_append, List.length_cons, List.length_nil, List.getElem?_cons_zero, List.getElem?_cons_succ, List.getElem?_nil, true_and, and_true, and_self, vbuiltinQ, vlen, vbin, vun, veq, vite, vextract, vslice, vlow, vhigh, vdrop, vtake, vless, vindex, vindexAddr, vread, vload, vfield, vfieldAddr, vconvert, vstore, vflat, vsplice, vfill, Option.map_some, Option.map_none, Option.bind_some, Option.bind_none, Option.isSome_some, Option.isSome_none, Option.isNone_none, Option.isNone_some, isConst, over_next, over_nil, over_cons, Heap.put_get, Heap.put_next, Heap.alloc_get, Heap.alloc_next, Heap.del_get, Heap.del_next, vpost_ret, vpost_normal, vpostK_some, vresL, vres1, vone, keeps_nil, keeps_cons, tells_nil, tells_cons, Bool.false_eq_true, Bool.true_eq_false, Bool.not_true, Bool.not_false, if_true, if_false, Bool.true_or, Bool.or_true, Bool.false_or, Bool.or_false, Bool.and_true, Bool.true_and, Bool.and_false, Bool.false_and, decide_true, decide_false, Nat.reduceAnd, List.take_succ_cons, List.take_zero, List.take_nil, List.drop_succ_cons, List.drop_zero, List.drop_nil, V.scalarL, V.scalar, V.closedL, V.closed, Array.toList, List.toList_toArray, not_true_eq_false, not_false_eq_true, List.getD_cons_zero, List.getD_cons_succ, ite_self, Nat.reduceSub, Int.reduceToNat, Int.toNat_natCast, fnWp_some Tryd.func6, Tryd.f6, T0, u3, u4, u5, u9, u21, u22, u23, u35, te22, te35, ag3, ag5, ag9, ag33, z33, z9, st33, c33, c9, c3, i33, i9, i3, b33, b9, f33_0, f33_1, f33_2, p33_0, p33_1, p33_2, k33, g33, g9, s22, h1, h2, h3, h4]
  have hk : k < 4 := by omega
  refine vloop_to 0 (fun i : Nat => i ≤ n) (fun i => Env.of [(0, .int .i64 n), (1, .int .i64 k), (5, .str (rep i (boundC k))), (6, .int .i64 (i : Nat))])
    (fun _ => G.over G.next []) (fun i => n - i) 0 (fun E G' => E 0 = .int .i64 n ∧ E 1 = .int .i64 k ∧ E 5 = .str (rep n (boundC k)) ∧ G' = G.over G.next []) ?_ ?_ ?_ ?_
  · refine .of ?_ (.over hG rfl trivial (fun _ _ => rfl))
    simp (maxSteps := 1000000) -dsimp -implicitDefEqProofs only [fnB_some, eq_self, Nat.mul_one, Int.le_refl, Int.reduceLE, Int.reduceLT, vbyte, decide_eq_true_eq, ↓vwp_skip, ↓vwp_region, ↓vwp_seq, ↓vwp_cond, ↓vwp_block, ↓vwp_loop, ↓vwp_exit, ↓vwp_ret, ↓vwp_label, vghost_false, vghost_true, vcond_bool, ↓vregion_ordered, ↓vregion_drawn, vops_nil, vops_cons, vopsD_nil, vopsD_cons, ↓rowsOf_eq, rowsL, nthL, rowsC_some, ↓vstep_free, ↓vstep_guard, vguard_some, vtest_bool, vtest_tup, ↓vop_q, vopQ_some, vopQ_none, ↓vloud_call, ↓vloud_alloc, ↓vloud_box, ↓vloud_buildSlice, ↓vloud_store, ↓vloud_make, ↓vloud_append, ↓vloud_range, ↓vloud_next, vallocK_some, vbuildE_some, vbuildZ_some, vbuildC_some, vstoreK_ptr, vstoreC_some, vmakeK_int, vmakeZ_some, vappT_some, vappR_some, vappS_nil1, vappS_nil, vappS_slc, vappS_arr, vappC_some, vrangeK_str, vnextK_ptr, vnextC_iter, vcallF_func, vcallQ_some, vcallQ_none, ↓vrun_b, vrunB_true, vrunB_false, vrunQ_some, ↓vstepD_free, ↓vstepD_guard, vguardD_some, vtestD_bool, vtestD_tup, gslotL, quietSyn, vnote_nil, vsafe_nil, vsafe_rd_nil, vsafe_same, vnote, vreads, vreads1, List.any_cons, List.any_nil, Nat.reduceBEq, vq, vev, vconst, vconst1, Env.putO_some, Env.putO_none, Env.put_at, Env.of_cons, Env.of_nil, envAt_cons, envAt_nil, vthen_normal, vthen_exit, vthen_ret, vblock_normal, vblock_exit, vblock_ret, vexit_normal, vexit_exit, vexit_ret, heldE, heldQ, held2, ↓reduceIte, reduceCtorEq, Nat.reduceEqDiff, Nat.reduceAdd, Nat.reduceMul, Nat.reduceLT, Nat.reduceLeDiff, Nat.zero_add, Nat.add_zero, List.map_cons, List.map_nil, List.nil_append, List.append_nil, List.cons_append, List.length_cons, List.length_nil, List.getElem?_cons_zero, List.getElem?_cons_succ, List.getElem?_nil, true_and, and_true, and_self, vbuiltinQ, vlen, vbin, vun, veq, vite, vextract, vslice, vlow, vhigh, vdrop, vtake, vless, vindex, vindexAddr, vread, vload, vfield, vfieldAddr, vconvert, vstore, vflat, vsplice, vfill, Option.map_some, Option.map_none, Option.bind_some, Option.bind_none, Option.isSome_some, Option.isSome_none, Option.isNone_none, Option.isNone_some, isConst, over_next, over_nil, over_cons, Heap.put_get, Heap.put_next, Heap.alloc_get, Heap.alloc_next, Heap.del_get, Heap.del_next, vpost_ret, vpost_normal, vpostK_some, vresL, vres1, vone, keeps_nil, keeps_cons, tells_nil, tells_cons, Bool.false_eq_true, Bool.true_eq_false, Bool.not_true, Bool.not_false, if_true, if_false, Bool.true_or, Bool.or_true, Bool.false_or, Bool.or_false, Bool.and_true, Bool.true_and, Bool.and_false, Bool.false_and, decide_true, decide_false, Nat.reduceAnd, List.take_succ_cons, List.take_zero, List.take_nil, List.drop_succ_cons, List.drop_zero, List.drop_nil, V.scalarL, V.scalar, V.closedL, V.closed, Array.toList, List.toList_toArray, not_true_eq_false, not_false_eq_true, List.getD_cons_zero, List.getD_cons_succ, ite_self, Nat.reduceSub, Int.reduceToNat, Int.toNat_natCast]
    exact ⟨.refl _, .refl _, .refl _, .refl _⟩
  · exact Nat.zero_le _
  · rintro i hi
    have w1 : IntKind.wrap .i64 ((i : Int) + 1) = ((i + 1 : Nat) : Int) := by rw [w64 (by omega) (by omega)]; rfl
    have hx : velem 1 [.str [97], .str [97], .str [43], .str [32]] k = [.str (boundC k)] := by
      obtain rfl | rfl | rfl | rfl : k = 0 ∨ k = 1 ∨ k = 2 ∨ k = 3 := by omega
      all_goals rfl
    simp (maxSteps := 1000000) -dsimp -implicitDefEqProofs only [fnB_some, eq_self, Nat.mul_one, Int.le_refl, Int.reduceLE, Int.reduceLT, vbyte, decide_eq_true_eq, ↓vwp_skip, ↓vwp_region, ↓vwp_seq, ↓vwp_cond, ↓vwp_block, ↓vwp_loop, ↓vwp_exit, ↓vwp_ret, ↓vwp_label, vghost_false, vghost_true, vcond_bool, ↓vregion_ordered, ↓vregion_drawn, vops_nil, vops_cons, vopsD_nil, vopsD_cons, ↓rowsOf_eq, rowsL, nthL, rowsC_some, ↓vstep_free, ↓vstep_guard, vguard_some, vtest_bool, vtest_tup, ↓vop_q, vopQ_some, vopQ_none, ↓vloud_call, ↓vloud_alloc, ↓vloud_box, ↓vloud_buildSlice, ↓vloud_store, ↓vloud_make, ↓vloud_append, ↓vloud_range, ↓vloud_next, vallocK_some, vbuildE_some, vbuildZ_some, vbuildC_some, vstoreK_ptr, vstoreC_some, vmakeK_int, vmakeZ_some, vappT_some, vappR_some, vappS_nil1, vappS_nil, vappS_slc, vappS_arr, vappC_some, vrangeK_str, vnextK_ptr, vnextC_iter, vcallF_func, vcallQ_some, vcallQ_none, ↓vrun_b, vrunB_true, vrunB_false, vrunQ_some, ↓vstepD_free, ↓vstepD_guard, vguardD_some, vtestD_bool, vtestD_tup, gslotL, quietSyn, vnote_nil, vsafe_nil, vsafe_rd_nil, vsafe_same, vnote, vreads, vreads1, List.any_cons, List.any_nil, Nat.reduceBEq, vq, vev, vconst, vconst1, Env.putO_some, Env.putO_none, Env.put_at, Env.of_cons, Env.of_nil, envAt_cons, envAt_nil, vthen_normal, vthen_exit, vthen_ret, vblock_normal, vblock_exit, vblock_ret, vexit_normal, vexit_exit, vexit_ret, heldE, heldQ, held2, ↓reduceIte, reduceCtorEq, Nat.reduceEqDiff, Nat.reduceAdd, Nat.reduceMul, Nat.reduceLT, Nat.reduceLeDiff, Nat.zero_add, Nat.add_zero, List.map_cons, List.map_nil, List.nil_append, List.append_nil, List.cons_append, List.length_cons, List.length_nil, List.getElem?_cons_zero, List.getElem?_cons_succ, List.getElem?_nil, true_and, and_true, and_self, vbuiltinQ, vlen, vbin, vun, veq, vite, vextract, vslice, vlow, vhigh, vdrop, vtake, vless, vindex, vindexAddr, vread, vload, vfield, vfieldAddr, vconvert, vstore, vflat, vsplice, vfill, Option.map_some, Option.map_none, Option.bind_some, Option.bind_none, Option.isSome_some, Option.isSome_none, Option.isNone_none, Option.isNone_some, isConst, over_next, over_nil, over_cons, Heap.put_get, Heap.put_next, Heap.alloc_get, Heap.alloc_next, Heap.del_get, Heap.del_next, vpost_ret, vpost_normal, vpostK_some, vresL, vres1, vone, keeps_nil, keeps_cons, tells_nil, tells_cons, Bool.false_eq_true, Bool.true_eq_false, Bool.not_true, Bool.not_false, if_true, if_false, Bool.true_or, Bool.or_true, Bool.false_or, Bool.or_false, Bool.and_true, Bool.true_and, Bool.and_false, Bool.false_and, decide_true, decide_false, Nat.reduceAnd, List.take_succ_cons, List.take_zero, List.take_nil, List.drop_succ_cons, List.drop_zero, List.drop_nil, V.scalarL, V.scalar, V.closedL, V.closed, Array.toList, List.toList_toArray, not_true_eq_false, not_false_eq_true, List.getD_cons_zero, List.getD_cons_succ, ite_self, Nat.reduceSub, Int.reduceToNat, Int.toNat_natCast, T0, u3, u4, u5, u9, u21, u22, u23, u35, te22, te35, ag3, ag5, ag9, ag33, z33, z9, st33, c33, c9, c3, i33, i9, i3, b33, b9, f33_0, f33_1, f33_2, p33_0, p33_1, p33_2, k33, g33, g9, s22, vreps, vfill, hx, w1]
    have hl := rep_len (boundC_len k) i
    have hc := boundC_len k
    split
    · rename_i c
      refine ⟨by omega, by omega, i + 1, by omega, by omega, .of ?_ (.refl _)⟩
      simp (maxSteps := 1000000) -dsimp -implicitDefEqProofs only [fnB_some, eq_self, Nat.mul_one, Int.le_refl, Int.reduceLE, Int.reduceLT, vbyte, decide_eq_true_eq, ↓vwp_skip, ↓vwp_region, ↓vwp_seq, ↓vwp_cond, ↓vwp_block, ↓vwp_loop, ↓vwp_exit, ↓vwp_ret, ↓vwp_label, vghost_false, vghost_true, vcond_bool, ↓vregion_ordered, ↓vregion_drawn, vops_nil, vops_cons, vopsD_nil, vopsD_cons, ↓rowsOf_eq, rowsL, nthL, rowsC_some, ↓vstep_free, ↓vstep_guard, vguard_some, vtest_bool, vtest_tup, ↓vop_q, vopQ_some, vopQ_none, ↓vloud_call, ↓vloud_alloc, ↓vloud_box, ↓vloud_buildSlice, ↓vloud_store, ↓vloud_make, ↓vloud_append, ↓vloud_range, ↓vloud_next, vallocK_some, vbuildE_some, vbuildZ_some, vbuildC_some, vstoreK_ptr, vstoreC_some, vmakeK_int, vmakeZ_some, vappT_some, vappR_some, vappS_nil1, vappS_nil, vappS_slc, vappS_arr, vappC_some, vrangeK_str, vnextK_ptr, vnextC_iter, vcallF_func, vcallQ_some, vcallQ_none, ↓vrun_b, vrunB_true, vrunB_false, vrunQ_some, ↓vstepD_free, ↓vstepD_guard, vguardD_some, vtestD_bool, vtestD_tup, gslotL, quietSyn, vnote_nil, vsafe_nil, vsafe_rd_nil, vsafe_same, vnote, vreads, vreads1, List.any_cons, List.any_nil, Nat.reduceBEq, vq, vev, vconst, vconst1, Env.putO_some, Env.putO_none, Env.put_at, Env.of_cons, Env.of_nil, envAt_cons, envAt_nil, vthen_normal, vthen_exit, vthen_ret, vblock_normal, vblock_exit, vblock_ret, vexit_normal, vexit_exit, vexit_ret, heldE, heldQ, held2, ↓reduceIte, reduceCtorEq, Nat.reduceEqDiff, Nat.reduceAdd, Nat.reduceMul, Nat.reduceLT, Nat.reduceLeDiff, Nat.zero_add, Nat.add_zero, List.map_cons, List.map_nil, List.nil_append, List.append_nil, List.cons_append, List.length_cons, List.length_nil, List.getElem?_cons_zero, List.getElem?_cons_succ, List.getElem?_nil, true_and, and_true, and_self, vbuiltinQ, vlen, vbin, vun, veq, vite, vextract, vslice, vlow, vhigh, vdrop, vtake, vless, vindex, vindexAddr, vread, vload, vfield, vfieldAddr, vconvert, vstore, vflat, vsplice, vfill, Option.map_some, Option.map_none, Option.bind_some, Option.bind_none, Option.isSome_some, Option.isSome_none, Option.isNone_none, Option.isNone_some, isConst, over_next, over_nil, over_cons, Heap.put_get, Heap.put_next, Heap.alloc_get, Heap.alloc_next, Heap.del_get, Heap.del_next, vpost_ret, vpost_normal, vpostK_some, vresL, vres1, vone, keeps_nil, keeps_cons, tells_nil, tells_cons, Bool.false_eq_true, Bool.true_eq_false, Bool.not_true, Bool.not_false, if_true, if_false, Bool.true_or, Bool.or_true, Bool.false_or, Bool.or_false, Bool.and_true, Bool.true_and, Bool.and_false, Bool.false_and, decide_true, decide_false, Nat.reduceAnd, List.take_succ_cons, List.take_zero, List.take_nil, List.drop_succ_cons, List.drop_zero, List.drop_nil, V.scalarL, V.scalar, V.closedL, V.closed, Array.toList, List.toList_toArray, not_true_eq_false, not_false_eq_true, List.getD_cons_zero, List.getD_cons_succ, ite_self, Nat.reduceSub, Int.reduceToNat, Int.toNat_natCast, rep]
      exact ⟨.refl _, .refl _, .refl _, .refl _⟩
    · rename_i c
      rw [show i = n by omega]
  · rintro E G' ⟨e0, e1, e5, rfl⟩
    have hx : velem 1 [.int .i64 8, .int .i64 16, .int .i64 60, .int .i64 200] k = [.int .i64 (([8, 16, 60, 200] : List Int).getD k 0)] := by
      obtain rfl | rfl | rfl | rfl : k = 0 ∨ k = 1 ∨ k = 2 ∨ k = 3 := by omega
      all_goals rfl
    simp (maxSteps := 1000000) -dsimp -implicitDefEqProofs only [fnB_some, eq_self, Nat.mul_one, Int.le_refl, Int.reduceLE, Int.reduceLT, vbyte, decide_eq_true_eq, ↓vwp_skip, ↓vwp_region, ↓vwp_seq, ↓vwp_cond, ↓vwp_block, ↓vwp_loop, ↓vwp_exit, ↓vwp_ret, ↓vwp_label, vghost_false, vghost_true, vcond_bool, ↓vregion_ordered, ↓vregion_drawn, vops_nil, vops_cons, vopsD_nil, vopsD_cons, ↓rowsOf_eq, rowsL, nthL, rowsC_some, ↓vstep_free, ↓vstep_guard, vguard_some, vtest_bool, vtest_tup, ↓vop_q, vopQ_some, vopQ_none, ↓vloud_call, ↓vloud_alloc, ↓vloud_box, ↓vloud_buildSlice, ↓vloud_store, ↓vloud_make, ↓vloud_append, ↓vloud_range, ↓vloud_next, vallocK_some, vbuildE_some, vbuildZ_some, vbuildC_some, vstoreK_ptr, vstoreC_some, vmakeK_int, vmakeZ_some, vappT_some, vappR_some, vappS_nil1, vappS_nil, vappS_slc, vappS_arr, vappC_some, vrangeK_str, vnextK_ptr, vnextC_iter, vcallF_func, vcallQ_some, vcallQ_none, ↓vrun_b, vrunB_true, vrunB_false, vrunQ_some, ↓vstepD_free, ↓vstepD_guard, vguardD_some, vtestD_bool, vtestD_tup, gslotL, quietSyn, vnote_nil, vsafe_nil, vsafe_rd_nil, vsafe_same, vnote, vreads, vreads1, List.any_cons, List.any_nil, Nat.reduceBEq, vq, vev, vconst, vconst1, Env.putO_some, Env.putO_none, Env.put_at, Env.of_cons, Env.of_nil, envAt_cons, envAt_nil, vthen_normal, vthen_exit, vthen_ret, vblock_normal, vblock_exit, vblock_ret, vexit_normal, vexit_exit, vexit_ret, heldE, heldQ, held2, ↓reduceIte, reduceCtorEq, Nat.reduceEqDiff, Nat.reduceAdd, Nat.reduceMul, Nat.reduceLT, Nat.reduceLeDiff, Nat.zero_add, Nat.add_zero, List.map_cons, List.map_nil, List.nil_append, List.append_nil, List.cons_append, List.length_cons, List.length_nil, List.getElem?_cons_zero, List.getElem?_cons_succ, List.getElem?_nil, true_and, and_true, and_self, vbuiltinQ, vlen, vbin, vun, veq, vite, vextract, vslice, vlow, vhigh, vdrop, vtake, vless, vindex, vindexAddr, vread, vload, vfield, vfieldAddr, vconvert, vstore, vflat, vsplice, vfill, Option.map_some, Option.map_none, Option.bind_some, Option.bind_none, Option.isSome_some, Option.isSome_none, Option.isNone_none, Option.isNone_some, isConst, over_next, over_nil, over_cons, Heap.put_get, Heap.put_next, Heap.alloc_get, Heap.alloc_next, Heap.del_get, Heap.del_next, vpost_ret, vpost_normal, vpostK_some, vresL, vres1, vone, keeps_nil, keeps_cons, tells_nil, tells_cons, Bool.false_eq_true, Bool.true_eq_false, Bool.not_true, Bool.not_false, if_true, if_false, Bool.true_or, Bool.or_true, Bool.false_or, Bool.or_false, Bool.and_true, Bool.true_and, Bool.and_false, Bool.false_and, decide_true, decide_false, Nat.reduceAnd, List.take_succ_cons, List.take_zero, List.take_nil, List.drop_succ_cons, List.drop_zero, List.drop_nil, V.scalarL, V.scalar, V.closedL, V.closed, Array.toList, List.toList_toArray, not_true_eq_false, not_false_eq_true, List.getD_cons_zero, List.getD_cons_succ, ite_self, Nat.reduceSub, Int.reduceToNat, Int.toNat_natCast, T0, u3, u4, u5, u9, u21, u22, u23, u35, te22, te35, ag3, ag5, ag9, ag33, z33, z9, st33, c33, c9, c3, i33, i9, i3, b33, b9, f33_0, f33_1, f33_2, p33_0, p33_1, p33_2, k33, g33, g9, s22, SM_at, add_at, g9L, g12, gR10, g11, g13, g14, Lexed.v, toksD_C, vreps, vfill, e0, e1, e5, hx, u36, te36, z3]
    have hl := rep_len (boundC_len k) n
    have law := bounds_law (n := n) (k := k) (by omega) hk
    have dn := dn (G.over G.next []) fun _ _ => rfl
    have hmost : ([8, 16, 60, 200] : List Int).getD k 0 = (most k : Nat) := by
      obtain rfl | rfl | rfl | rfl : k = 0 ∨ k = 1 ∨ k = 2 ∨ k = 3 := by omega
      all_goals rfl
    rw [hmost]
    unfold boundB boundS at law
    split
    · rename_i c
      have c : k = 1 := by omega
      rw [if_pos c] at law
      simp only [List.cons_append, List.nil_append] at law
      exact ⟨by omega, by omega, by omega, bounds_end rfl dn law⟩
    · rename_i c
      have c : ¬k = 1 := fun h => c (by omega)
      rw [if_neg c] at law
      exact ⟨by omega, bounds_end rfl dn law⟩
end Go.Vf
