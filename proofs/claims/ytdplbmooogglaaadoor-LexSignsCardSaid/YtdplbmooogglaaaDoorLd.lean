/- lex: runs, words, numbers. -/
import Derived.Test.YtdplbmooogglaaaDoorLc
set_option linter.unusedVariables false
set_option linter.unusedSimpArgs false
namespace Go.Vf
open Go.Proofs Go.RowKit

theorem w64 {x : Int} (h0 : -9223372036854775808 ≤ x) (h1 : x ≤ 9223372036854775807) : IntKind.wrap .i64 x = x := by rw [IntKind.wrap_i64]; omega
def ascii (l : List UInt8) : Bool := l.all fun b => decide (b.toNat < 128)
theorem ascii_mem {l : List UInt8} (h : ascii l = true) : ∀ b, b ∈ l → b.toNat < 128 := fun b hb => by simpa using List.all_eq_true.1 h b hb

def g20 : List V → Option (Prop × V)
  | [.str s, .str set] => some (ascii set = true, .str (cutL s set))
  | _ => none
def runN (s set : List UInt8) : Nat := s.length - (cutL s set).length
def g16 : List V → Option (Prop × V)
  | [.str s, .str set] => some (ascii set = true ∧ s.length ≤ 4611686018427387904, .int .i64 (runN s set : Nat))
  | _ => none
def g21 : List V → Option (Prop × V)
  | [.str s, .str set] => some (ascii set = true ∧ s.length ≤ 4611686018427387904, .bool (decide (0 < runN s set)))
  | _ => none
def gPre : List V → Option (Prop × V)
  | [.str s, .str t] => some (True, .bool (t.isPrefixOf s))
  | _ => none
def g19 : List V → Option (Prop × V)
  | [.str s, .str t] => some (s.length < 4294967281, .bool (Lib.contains s t))
  | _ => none
def g29 : List V → Option (Prop × V)
  | [.str s] => some (s.length < 4294967281 ∧ ascii s = true, .slc 1 (Lib.fields s).length ((Lib.fields s).map .str))
  | _ => none
theorem cutL_le (s set : List UInt8) : (cutL s set).length ≤ s.length := by
  unfold cutL
  exact (List.dropWhile_sublist _).length_le
theorem runN_le (s set : List UInt8) : runN s set ≤ s.length := Nat.sub_le _ _

theorem ok16 : fnOk Tryd.prog 16 T0 2 = true := by kernel_rfl
theorem ok21 : fnOk Tryd.prog 21 T0 2 = true := by kernel_rfl
theorem ok31 : fnOk Tryd.prog 31 T0 2 = true := by kernel_rfl
theorem ok28 : fnOk Tryd.prog 28 T0 2 = true := by kernel_rfl

def SA : Specs := ((Specs.none.add 20 g20).add 19 g19).add 29 g29
theorem okA : SOk Tryd.prog SA := by
  refine ((SOk.add (SOk.none _) ?_).add ?_).add ?_
  · intro xs G p v e hp
    unfold g20 at e
    split at e
    · cases e; exact cutLeft_walk (SOk.none _) _ _ (ascii_mem hp) G
    · cases e
  · intro xs G p v e hp
    unfold g19 at e
    split at e
    · cases e; exact contains_walk _ _ hp G
    · cases e
  · intro xs G p v e hp
    unfold g29 at e
    split at e
    · cases e; exact fields_walk _ hp.1 (ascii_mem hp.2) G
    · cases e

theorem run_walk (s set : List UInt8) (h1 : ascii set = true) (h2 : s.length ≤ 4611686018427387904) (G : Heap) : VPure Tryd.prog 16 [.str s, .str set] G (.int .i64 (runN s set : Nat)) := by
  refine VCalls.of okA mixed T0 ok16 fun hG => ?_
  have hw : IntKind.wrap .i64 ((s.length : Int) - ((cutL s set).length : Int)) = (runN s set : Nat) := by
    have := cutL_le s set
    unfold runN
    rw [w64 (by omega) (by omega)]; omega
  simp (maxSteps := 1000000) -dsimp -implicitDefEqProofs only [fnB_some, eq_self, Nat.mul_one, Int.le_refl, Int.reduceLE, Int.reduceLT, vbyte, decide_eq_true_eq, ↓vwp_skip, ↓vwp_region, ↓vwp_seq, ↓vwp_cond, ↓vwp_block, ↓vwp_loop, ↓vwp_exit, ↓vwp_ret, ↓vwp_label, vghost_false, vghost_true, vcond_bool, ↓vregion_ordered, ↓vregion_drawn, vops_nil, vops_cons, vopsD_nil, vopsD_cons, ↓rowsOf_eq, rowsL, nthL, rowsC_some, ↓vstep_free, ↓vstep_guard, vguard_some, vtest_bool, vtest_tup, ↓vop_q, vopQ_some, vopQ_none, ↓vloud_call, ↓vloud_alloc, ↓vloud_box, ↓vloud_buildSlice, ↓vloud_store, ↓vloud_make, ↓vloud_append, ↓vloud_range, ↓vloud_next, vallocK_some, vbuildE_some, vbuildZ_some, vbuildC_some, vstoreK_ptr, vstoreC_some, vmakeK_int, vmakeZ_some, vappT_some, vappR_some, vappS_nil1, vappS_nil, vappS_slc, vappS_arr, vappC_some, vrangeK_str, vnextK_ptr, vnextC_iter, vcallF_func, vcallQ_some, vcallQ_none, ↓vrun_b, vrunB_true, vrunB_false, vrunQ_some, ↓vstepD_free, ↓vstepD_guard, vguardD_some, vtestD_bool, vtestD_tup, gslotL, quietSyn, vnote_nil, vsafe_nil, vsafe_rd_nil, vsafe_same, vnote, vreads, vreads1, List.any_cons, List.any_nil, Nat.reduceBEq, vq, vev, vconst, vconst1, Env.putO_some, Env.putO_none, Env.put_at, Env.of_cons, Env.of_nil, envAt_cons, envAt_nil, vthen_normal, vthen_exit, vthen_ret, vblock_normal, vblock_exit, vblock_ret, vexit_normal, vexit_exit, vexit_ret, heldE, heldQ, held2, ↓reduceIte, reduceCtorEq, Nat.reduceEqDiff, Nat.reduceAdd, Nat.reduceMul, Nat.reduceLT, Nat.reduceLeDiff, Nat.zero_add, Nat.add_zero, List.map_cons, List.map_nil, List.nil_append, List.append_nil, List.cons_append, List.length_cons, List.length_nil, List.getElem?_cons_zero, List.getElem?_cons_succ, List.getElem?_nil, true_and, and_true, and_self, vbuiltinQ, vlen, vbin, vun, veq, vite, vextract, vslice, vlow, vhigh, vdrop, vtake, vless, vindex, vindexAddr, vread, vload, vfield, vfieldAddr, vconvert, vstore, vflat, vsplice, vfill, Option.map_some, Option.map_none, Option.bind_some, Option.bind_none, Option.isSome_some, Option.isSome_none, Option.isNone_none, Option.isNone_some, isConst, over_next, over_nil, over_cons, Heap.put_get, Heap.put_next, Heap.alloc_get, Heap.alloc_next, Heap.del_get, Heap.del_next, vpost_ret, vpost_normal, vpostK_some, vresL, vres1, vone, keeps_nil, keeps_cons, tells_nil, tells_cons, Bool.false_eq_true, Bool.true_eq_false, Bool.not_true, Bool.not_false, if_true, if_false, Bool.true_or, Bool.or_true, Bool.false_or, Bool.or_false, Bool.and_true, Bool.true_and, Bool.and_false, Bool.false_and, decide_true, decide_false, Nat.reduceAnd, List.take_succ_cons, List.take_zero, List.take_nil, List.drop_succ_cons, List.drop_zero, List.drop_nil, V.scalarL, V.scalar, V.closedL, V.closed, Array.toList, List.toList_toArray, not_true_eq_false, not_false_eq_true, List.getD_cons_zero, List.getD_cons_succ, ite_self, Nat.reduceSub, Int.reduceToNat, Int.toNat_natCast, fnWp_some Tryd.func16, Tryd.f16, T0, u9, SA, add_at, none_at, g20, g19, g29, hw, h1]
  exact VDone.back hG (fun _ _ => rfl) rfl rfl
def SB : Specs := SA.add 16 g16
theorem okB : SOk Tryd.prog SB := by
  refine okA.add ?_
  intro xs G p v e hp
  unfold g16 at e
  split at e
  · cases e; exact run_walk _ _ hp.1 hp.2 G
  · cases e
theorem isOf_walk (s set : List UInt8) (h1 : ascii set = true) (h2 : s.length ≤ 4611686018427387904) (G : Heap) : VPure Tryd.prog 21 [.str s, .str set] G (.bool (decide (0 < runN s set))) := by
  refine VCalls.of okB mixed T0 ok21 fun hG => ?_
  simp (maxSteps := 1000000) -dsimp -implicitDefEqProofs only [fnB_some, eq_self, Nat.mul_one, Int.le_refl, Int.reduceLE, Int.reduceLT, vbyte, decide_eq_true_eq, ↓vwp_skip, ↓vwp_region, ↓vwp_seq, ↓vwp_cond, ↓vwp_block, ↓vwp_loop, ↓vwp_exit, ↓vwp_ret, ↓vwp_label, vghost_false, vghost_true, vcond_bool, ↓vregion_ordered, ↓vregion_drawn, vops_nil, vops_cons, vopsD_nil, vopsD_cons, ↓rowsOf_eq, rowsL, nthL, rowsC_some, ↓vstep_free, ↓vstep_guard, vguard_some, vtest_bool, vtest_tup, ↓vop_q, vopQ_some, vopQ_none, ↓vloud_call, ↓vloud_alloc, ↓vloud_box, ↓vloud_buildSlice, ↓vloud_store, ↓vloud_make, ↓vloud_append, ↓vloud_range, ↓vloud_next, vallocK_some, vbuildE_some, vbuildZ_some, vbuildC_some, vstoreK_ptr, vstoreC_some, vmakeK_int, vmakeZ_some, vappT_some, vappR_some, vappS_nil1, vappS_nil, vappS_slc, vappS_arr, vappC_some, vrangeK_str, vnextK_ptr, vnextC_iter, vcallF_func, vcallQ_some, vcallQ_none, ↓vrun_b, vrunB_true, vrunB_false, vrunQ_some, ↓vstepD_free, ↓vstepD_guard, vguardD_some, vtestD_bool, vtestD_tup, gslotL, quietSyn, vnote_nil, vsafe_nil, vsafe_rd_nil, vsafe_same, vnote, vreads, vreads1, List.any_cons, List.any_nil, Nat.reduceBEq, vq, vev, vconst, vconst1, Env.putO_some, Env.putO_none, Env.put_at, Env.of_cons, Env.of_nil, envAt_cons, envAt_nil, vthen_normal, vthen_exit, vthen_ret, vblock_normal, vblock_exit, vblock_ret, vexit_normal, vexit_exit, vexit_ret, heldE, heldQ, held2, ↓reduceIte, reduceCtorEq, Nat.reduceEqDiff, Nat.reduceAdd, Nat.reduceMul, Nat.reduceLT, Nat.reduceLeDiff, Nat.zero_add, Nat.add_zero, List.map_cons, List.map_nil, List.nil_append, List.append_nil, List.cons_append, List.length_cons, List.length_nil, List.getElem?_cons_zero, List.getElem?_cons_succ, List.getElem?_nil, true_and, and_true, and_self, vbuiltinQ, vlen, vbin, vun, veq, vite, vextract, vslice, vlow, vhigh, vdrop, vtake, vless, vindex, vindexAddr, vread, vload, vfield, vfieldAddr, vconvert, vstore, vflat, vsplice, vfill, Option.map_some, Option.map_none, Option.bind_some, Option.bind_none, Option.isSome_some, Option.isSome_none, Option.isNone_none, Option.isNone_some, isConst, over_next, over_nil, over_cons, Heap.put_get, Heap.put_next, Heap.alloc_get, Heap.alloc_next, Heap.del_get, Heap.del_next, vpost_ret, vpost_normal, vpostK_some, vresL, vres1, vone, keeps_nil, keeps_cons, tells_nil, tells_cons, Bool.false_eq_true, Bool.true_eq_false, Bool.not_true, Bool.not_false, if_true, if_false, Bool.true_or, Bool.or_true, Bool.false_or, Bool.or_false, Bool.and_true, Bool.true_and, Bool.and_false, Bool.false_and, decide_true, decide_false, Nat.reduceAnd, List.take_succ_cons, List.take_zero, List.take_nil, List.drop_succ_cons, List.drop_zero, List.drop_nil, V.scalarL, V.scalar, V.closedL, V.closed, Array.toList, List.toList_toArray, not_true_eq_false, not_false_eq_true, List.getD_cons_zero, List.getD_cons_succ, ite_self, Nat.reduceSub, Int.reduceToNat, Int.toNat_natCast, fnWp_some Tryd.func21, Tryd.f21, T0, u9, SB, add_at, g16, h1, h2]
  refine VDone.back hG (fun _ _ => rfl) rfl ?_
  congr 1
  rw [Bool.eq_iff_iff]; simp
theorem hasPre_walk (s t : List UInt8) (G : Heap) : VPure Tryd.prog 31 [.str s, .str t] G (.bool (t.isPrefixOf s)) := by
  refine VCalls.of okB mixed T0 ok31 fun hG => ?_
  simp (maxSteps := 1000000) -dsimp -implicitDefEqProofs only [fnB_some, eq_self, Nat.mul_one, Int.le_refl, Int.reduceLE, Int.reduceLT, vbyte, decide_eq_true_eq, ↓vwp_skip, ↓vwp_region, ↓vwp_seq, ↓vwp_cond, ↓vwp_block, ↓vwp_loop, ↓vwp_exit, ↓vwp_ret, ↓vwp_label, vghost_false, vghost_true, vcond_bool, ↓vregion_ordered, ↓vregion_drawn, vops_nil, vops_cons, vopsD_nil, vopsD_cons, ↓rowsOf_eq, rowsL, nthL, rowsC_some, ↓vstep_free, ↓vstep_guard, vguard_some, vtest_bool, vtest_tup, ↓vop_q, vopQ_some, vopQ_none, ↓vloud_call, ↓vloud_alloc, ↓vloud_box, ↓vloud_buildSlice, ↓vloud_store, ↓vloud_make, ↓vloud_append, ↓vloud_range, ↓vloud_next, vallocK_some, vbuildE_some, vbuildZ_some, vbuildC_some, vstoreK_ptr, vstoreC_some, vmakeK_int, vmakeZ_some, vappT_some, vappR_some, vappS_nil1, vappS_nil, vappS_slc, vappS_arr, vappC_some, vrangeK_str, vnextK_ptr, vnextC_iter, vcallF_func, vcallQ_some, vcallQ_none, ↓vrun_b, vrunB_true, vrunB_false, vrunQ_some, ↓vstepD_free, ↓vstepD_guard, vguardD_some, vtestD_bool, vtestD_tup, gslotL, quietSyn, vnote_nil, vsafe_nil, vsafe_rd_nil, vsafe_same, vnote, vreads, vreads1, List.any_cons, List.any_nil, Nat.reduceBEq, vq, vev, vconst, vconst1, Env.putO_some, Env.putO_none, Env.put_at, Env.of_cons, Env.of_nil, envAt_cons, envAt_nil, vthen_normal, vthen_exit, vthen_ret, vblock_normal, vblock_exit, vblock_ret, vexit_normal, vexit_exit, vexit_ret, heldE, heldQ, held2, ↓reduceIte, reduceCtorEq, Nat.reduceEqDiff, Nat.reduceAdd, Nat.reduceMul, Nat.reduceLT, Nat.reduceLeDiff, Nat.zero_add, Nat.add_zero, List.map_cons, List.map_nil, List.nil_append, List.append_nil, List.cons_append, List.length_cons, List.length_nil, List.getElem?_cons_zero, List.getElem?_cons_succ, List.getElem?_nil, true_and, and_true, and_self, vbuiltinQ, vlen, vbin, vun, veq, vite, vextract, vslice, vlow, vhigh, vdrop, vtake, vless, vindex, vindexAddr, vread, vload, vfield, vfieldAddr, vconvert, vstore, vflat, vsplice, vfill, Option.map_some, Option.map_none, Option.bind_some, Option.bind_none, Option.isSome_some, Option.isSome_none, Option.isNone_none, Option.isNone_some, isConst, over_next, over_nil, over_cons, Heap.put_get, Heap.put_next, Heap.alloc_get, Heap.alloc_next, Heap.del_get, Heap.del_next, vpost_ret, vpost_normal, vpostK_some, vresL, vres1, vone, keeps_nil, keeps_cons, tells_nil, tells_cons, Bool.false_eq_true, Bool.true_eq_false, Bool.not_true, Bool.not_false, if_true, if_false, Bool.true_or, Bool.or_true, Bool.false_or, Bool.or_false, Bool.and_true, Bool.true_and, Bool.and_false, Bool.false_and, decide_true, decide_false, Nat.reduceAnd, List.take_succ_cons, List.take_zero, List.take_nil, List.drop_succ_cons, List.drop_zero, List.drop_nil, V.scalarL, V.scalar, V.closedL, V.closed, Array.toList, List.toList_toArray, not_true_eq_false, not_false_eq_true, List.getD_cons_zero, List.getD_cons_succ, ite_self, Nat.reduceSub, Int.reduceToNat, Int.toNat_natCast, fnWp_some Tryd.func31, Tryd.f31, T0, u9]
  have hpre : t.isPrefixOf s = decide (s.take t.length = t) := by
    rw [Bool.eq_iff_iff, decide_eq_true_eq, List.isPrefixOf_iff_prefix, List.prefix_iff_eq_take]
    exact eq_comm
  split
  · rename_i h
    refine ⟨by omega, ?_⟩
    refine VDone.back hG (fun _ _ => rfl) rfl ?_
    rw [hpre]
  · rename_i h
    refine VDone.back hG (fun _ _ => rfl) rfl ?_
    rw [hpre]
    congr 1
    symm
    rw [decide_eq_false_iff_not]
    intro e
    have := congrArg List.length e
    simp only [List.length_take] at this
    omega
def SC : Specs := (SB.add 21 g21).add 31 gPre
theorem okC : SOk Tryd.prog SC := by
  refine (okB.add ?_).add ?_
  · intro xs G p v e hp
    unfold g21 at e
    split at e
    · cases e; exact isOf_walk _ _ hp.1 hp.2 G
    · cases e
  · intro xs G p v e hp
    unfold gPre at e
    split at e
    · cases e; exact hasPre_walk _ _ G
    · cases e
theorem hasPrefix_walk (s t : List UInt8) (G : Heap) : VPure Tryd.prog 28 [.str s, .str t] G (.bool (t.isPrefixOf s)) := by
  refine VCalls.of okC mixed T0 ok28 fun hG => ?_
  simp (maxSteps := 1000000) -dsimp -implicitDefEqProofs only [fnB_some, eq_self, Nat.mul_one, Int.le_refl, Int.reduceLE, Int.reduceLT, vbyte, decide_eq_true_eq, ↓vwp_skip, ↓vwp_region, ↓vwp_seq, ↓vwp_cond, ↓vwp_block, ↓vwp_loop, ↓vwp_exit, ↓vwp_ret, ↓vwp_label, vghost_false, vghost_true, vcond_bool, ↓vregion_ordered, ↓vregion_drawn, vops_nil, vops_cons, vopsD_nil, vopsD_cons, ↓rowsOf_eq, rowsL, nthL, rowsC_some, ↓vstep_free, ↓vstep_guard, vguard_some, vtest_bool, vtest_tup, ↓vop_q, vopQ_some, vopQ_none, ↓vloud_call, ↓vloud_alloc, ↓vloud_box, ↓vloud_buildSlice, ↓vloud_store, ↓vloud_make, ↓vloud_append, ↓vloud_range, ↓vloud_next, vallocK_some, vbuildE_some, vbuildZ_some, vbuildC_some, vstoreK_ptr, vstoreC_some, vmakeK_int, vmakeZ_some, vappT_some, vappR_some, vappS_nil1, vappS_nil, vappS_slc, vappS_arr, vappC_some, vrangeK_str, vnextK_ptr, vnextC_iter, vcallF_func, vcallQ_some, vcallQ_none, ↓vrun_b, vrunB_true, vrunB_false, vrunQ_some, ↓vstepD_free, ↓vstepD_guard, vguardD_some, vtestD_bool, vtestD_tup, gslotL, quietSyn, vnote_nil, vsafe_nil, vsafe_rd_nil, vsafe_same, vnote, vreads, vreads1, List.any_cons, List.any_nil, Nat.reduceBEq, vq, vev, vconst, vconst1, Env.putO_some, Env.putO_none, Env.put_at, Env.of_cons, Env.of_nil, envAt_cons, envAt_nil, vthen_normal, vthen_exit, vthen_ret, vblock_normal, vblock_exit, vblock_ret, vexit_normal, vexit_exit, vexit_ret, heldE, heldQ, held2, ↓reduceIte, reduceCtorEq, Nat.reduceEqDiff, Nat.reduceAdd, Nat.reduceMul, Nat.reduceLT, Nat.reduceLeDiff, Nat.zero_add, Nat.add_zero, List.map_cons, List.map_nil, List.nil_append, List.append_nil, List.cons_append, List.length_cons, List.length_nil, List.getElem?_cons_zero, List.getElem?_cons_succ, List.getElem?_nil, true_and, and_true, and_self, vbuiltinQ, vlen, vbin, vun, veq, vite, vextract, vslice, vlow, vhigh, vdrop, vtake, vless, vindex, vindexAddr, vread, vload, vfield, vfieldAddr, vconvert, vstore, vflat, vsplice, vfill, Option.map_some, Option.map_none, Option.bind_some, Option.bind_none, Option.isSome_some, Option.isSome_none, Option.isNone_none, Option.isNone_some, isConst, over_next, over_nil, over_cons, Heap.put_get, Heap.put_next, Heap.alloc_get, Heap.alloc_next, Heap.del_get, Heap.del_next, vpost_ret, vpost_normal, vpostK_some, vresL, vres1, vone, keeps_nil, keeps_cons, tells_nil, tells_cons, Bool.false_eq_true, Bool.true_eq_false, Bool.not_true, Bool.not_false, if_true, if_false, Bool.true_or, Bool.or_true, Bool.false_or, Bool.or_false, Bool.and_true, Bool.true_and, Bool.and_false, Bool.false_and, decide_true, decide_false, Nat.reduceAnd, List.take_succ_cons, List.take_zero, List.take_nil, List.drop_succ_cons, List.drop_zero, List.drop_nil, V.scalarL, V.scalar, V.closedL, V.closed, Array.toList, List.toList_toArray, not_true_eq_false, not_false_eq_true, List.getD_cons_zero, List.getD_cons_succ, ite_self, Nat.reduceSub, Int.reduceToNat, Int.toNat_natCast, fnWp_some Tryd.func28, Tryd.f28, T0, u9, SC, add_at, gPre]
  exact VDone.back hG (fun _ _ => rfl) rfl rfl

/-! ### Words -/
def wordsL : List UInt8 := [32, 116, 114, 117, 101, 32, 102, 97, 108, 115, 101, 32, 110, 117, 108, 108, 32, 105, 102, 32, 116, 104, 101, 110, 32, 101, 108, 115, 101, 32, 97, 110, 100, 32, 111, 114, 32, 105, 110, 32]
def wordB (s : List UInt8) : Bool := decide (s ≠ []) && (!Lib.contains s [32] && Lib.contains wordsL ([32] ++ s ++ [32]))
def g12 : List V → Option (Prop × V)
  | [.str s] => some (s.length < 4294967281, .bool (wordB s))
  | _ => none
theorem ok12 : fnOk Tryd.prog 12 T0 1 = true := by kernel_rfl
theorem word_walk (s : List UInt8) (hs : s.length < 4294967281) (G : Heap) : VPure Tryd.prog 12 [.str s] G (.bool (wordB s)) := by
  refine VCalls.of okC mixed T0 ok12 fun hG => ?_
  simp (maxSteps := 1000000) -dsimp -implicitDefEqProofs only [fnB_some, eq_self, Nat.mul_one, Int.le_refl, Int.reduceLE, Int.reduceLT, vbyte, decide_eq_true_eq, ↓vwp_skip, ↓vwp_region, ↓vwp_seq, ↓vwp_cond, ↓vwp_block, ↓vwp_loop, ↓vwp_exit, ↓vwp_ret, ↓vwp_label, vghost_false, vghost_true, vcond_bool, ↓vregion_ordered, ↓vregion_drawn, vops_nil, vops_cons, vopsD_nil, vopsD_cons, ↓rowsOf_eq, rowsL, nthL, rowsC_some, ↓vstep_free, ↓vstep_guard, vguard_some, vtest_bool, vtest_tup, ↓vop_q, vopQ_some, vopQ_none, ↓vloud_call, ↓vloud_alloc, ↓vloud_box, ↓vloud_buildSlice, ↓vloud_store, ↓vloud_make, ↓vloud_append, ↓vloud_range, ↓vloud_next, vallocK_some, vbuildE_some, vbuildZ_some, vbuildC_some, vstoreK_ptr, vstoreC_some, vmakeK_int, vmakeZ_some, vappT_some, vappR_some, vappS_nil1, vappS_nil, vappS_slc, vappS_arr, vappC_some, vrangeK_str, vnextK_ptr, vnextC_iter, vcallF_func, vcallQ_some, vcallQ_none, ↓vrun_b, vrunB_true, vrunB_false, vrunQ_some, ↓vstepD_free, ↓vstepD_guard, vguardD_some, vtestD_bool, vtestD_tup, gslotL, quietSyn, vnote_nil, vsafe_nil, vsafe_rd_nil, vsafe_same, vnote, vreads, vreads1, List.any_cons, List.any_nil, Nat.reduceBEq, vq, vev, vconst, vconst1, Env.putO_some, Env.putO_none, Env.put_at, Env.of_cons, Env.of_nil, envAt_cons, envAt_nil, vthen_normal, vthen_exit, vthen_ret, vblock_normal, vblock_exit, vblock_ret, vexit_normal, vexit_exit, vexit_ret, heldE, heldQ, held2, ↓reduceIte, reduceCtorEq, Nat.reduceEqDiff, Nat.reduceAdd, Nat.reduceMul, Nat.reduceLT, Nat.reduceLeDiff, Nat.zero_add, Nat.add_zero, List.map_cons, List.map_nil, List.nil_append, List.append_nil, List.cons_append, List.length_cons, List.length_nil, List.getElem?_cons_zero, List.getElem?_cons_succ, List.getElem?_nil, true_and, and_true, and_self, vbuiltinQ, vlen, vbin, vun, veq, vite, vextract, vslice, vlow, vhigh, vdrop, vtake, vless, vindex, vindexAddr, vread, vload, vfield, vfieldAddr, vconvert, vstore, vflat, vsplice, vfill, Option.map_some, Option.map_none, Option.bind_some, Option.bind_none, Option.isSome_some, Option.isSome_none, Option.isNone_none, Option.isNone_some, isConst, over_next, over_nil, over_cons, Heap.put_get, Heap.put_next, Heap.alloc_get, Heap.alloc_next, Heap.del_get, Heap.del_next, vpost_ret, vpost_normal, vpostK_some, vresL, vres1, vone, keeps_nil, keeps_cons, tells_nil, tells_cons, Bool.false_eq_true, Bool.true_eq_false, Bool.not_true, Bool.not_false, if_true, if_false, Bool.true_or, Bool.or_true, Bool.false_or, Bool.or_false, Bool.and_true, Bool.true_and, Bool.and_false, Bool.false_and, decide_true, decide_false, Nat.reduceAnd, List.take_succ_cons, List.take_zero, List.take_nil, List.drop_succ_cons, List.drop_zero, List.drop_nil, V.scalarL, V.scalar, V.closedL, V.closed, Array.toList, List.toList_toArray, not_true_eq_false, not_false_eq_true, List.getD_cons_zero, List.getD_cons_succ, ite_self, Nat.reduceSub, Int.reduceToNat, Int.toNat_natCast, fnWp_some Tryd.func12, Tryd.f12, T0, u9, SC, SB, SA, add_at, g19, hs]
  have e : ∀ b, wordB s = b → ∀ v, v = b → VDone G.next (.bool v) G fun u G' => u = .bool (wordB s) ∧ G' = G := fun b hb v hv => VDone.back hG (fun _ _ => rfl) rfl (by rw [hv, hb])
  split
  · rename_i h1
    split
    · rename_i h2
      refine ⟨by omega, by omega, e _ rfl _ ?_⟩
      simp only [wordB, decide_eq_true h1, h2, Bool.true_and]
      rfl
    · rename_i h2
      exact e _ (by simp only [wordB, decide_eq_true h1, Bool.true_and]; simp only [Bool.not_eq_true] at h2; rw [h2]; rfl) _ rfl
  · rename_i h1
    exact e _ (by simp only [wordB, decide_eq_false h1, Bool.false_and]) _ rfl

/-! ### Numbers -/
def digitsL : List UInt8 := [48, 49, 50, 51, 52, 53, 54, 55, 56, 57]
def numN (s : List UInt8) : Nat :=
  if List.isPrefixOf [46] (s.drop (runN s digitsL)) = true ∧ 0 < runN (s.drop (runN s digitsL + 1)) digitsL then runN s digitsL + (1 + runN (s.drop (runN s digitsL + 1)) digitsL) else runN s digitsL
theorem digits_fold : ([48, 49, 50, 51, 52, 53, 54, 55, 56, 57] : List UInt8) = digitsL := rfl
def g22 : List V → Option (Prop × V)
  | [.str s] => some (s.length < 4294967281, .int .i64 (numN s : Nat))
  | _ => none
theorem ok22 : fnOk Tryd.prog 22 T0 1 = true := by kernel_rfl
def SD : Specs := (SC.add 28 gPre).add 12 g12
theorem okD : SOk Tryd.prog SD := by
  refine (okC.add ?_).add ?_
  · intro xs G p v e hp
    unfold gPre at e
    split at e
    · cases e; exact hasPrefix_walk _ _ G
    · cases e
  · intro xs G p v e hp
    unfold g12 at e
    split at e
    · cases e; exact word_walk _ hp G
    · cases e
theorem num_walk (s : List UInt8) (hs : s.length < 4294967281) (G : Heap) : VPure Tryd.prog 22 [.str s] G (.int .i64 (numN s : Nat)) := by
  refine VCalls.of okD mixed T0 ok22 fun hG => ?_
  have hn := runN_le s digitsL
  have hm := runN_le (s.drop (runN s digitsL + 1)) digitsL
  have hl : (s.drop (runN s digitsL + 1)).length ≤ s.length := by simp
  have w1 : IntKind.wrap .i64 ((runN s digitsL : Int) + 1) = ((runN s digitsL + 1 : Nat) : Int) := by rw [w64 (by omega) (by omega)]; rfl
  have w2 : IntKind.wrap .i64 (1 + ((runN (s.drop (runN s digitsL + 1)) digitsL : Nat) : Int)) = ((1 + runN (s.drop (runN s digitsL + 1)) digitsL : Nat) : Int) := by rw [w64 (by omega) (by omega)]; omega
  have w3 : IntKind.wrap .i64 ((runN s digitsL : Int) + ((1 + runN (s.drop (runN s digitsL + 1)) digitsL : Nat) : Int)) = ((runN s digitsL + (1 + runN (s.drop (runN s digitsL + 1)) digitsL) : Nat) : Int) := by rw [w64 (by omega) (by omega)]; omega
  have hd : ascii digitsL = true := by decide
  simp (maxSteps := 1000000) -dsimp -implicitDefEqProofs only [fnB_some, eq_self, Nat.mul_one, Int.le_refl, Int.reduceLE, Int.reduceLT, vbyte, decide_eq_true_eq, ↓vwp_skip, ↓vwp_region, ↓vwp_seq, ↓vwp_cond, ↓vwp_block, ↓vwp_loop, ↓vwp_exit, ↓vwp_ret, ↓vwp_label, vghost_false, vghost_true, vcond_bool, ↓vregion_ordered, ↓vregion_drawn, vops_nil, vops_cons, vopsD_nil, vopsD_cons, ↓rowsOf_eq, rowsL, nthL, rowsC_some, ↓vstep_free, ↓vstep_guard, vguard_some, vtest_bool, vtest_tup, ↓vop_q, vopQ_some, vopQ_none, ↓vloud_call, ↓vloud_alloc, ↓vloud_box, ↓vloud_buildSlice, ↓vloud_store, ↓vloud_make, ↓vloud_append, ↓vloud_range, ↓vloud_next, vallocK_some, vbuildE_some, vbuildZ_some, vbuildC_some, vstoreK_ptr, vstoreC_some, vmakeK_int, vmakeZ_some, vappT_some, vappR_some, vappS_nil1, vappS_nil, vappS_slc, vappS_arr, vappC_some, vrangeK_str, vnextK_ptr, vnextC_iter, vcallF_func, vcallQ_some, vcallQ_none, ↓vrun_b, vrunB_true, vrunB_false, vrunQ_some, ↓vstepD_free, ↓vstepD_guard, vguardD_some, vtestD_bool, vtestD_tup, gslotL, quietSyn, vnote_nil, vsafe_nil, vsafe_rd_nil, vsafe_same, vnote, vreads, vreads1, List.any_cons, List.any_nil, Nat.reduceBEq, vq, vev, vconst, vconst1, Env.putO_some, Env.putO_none, Env.put_at, Env.of_cons, Env.of_nil, envAt_cons, envAt_nil, vthen_normal, vthen_exit, vthen_ret, vblock_normal, vblock_exit, vblock_ret, vexit_normal, vexit_exit, vexit_ret, heldE, heldQ, held2, ↓reduceIte, reduceCtorEq, Nat.reduceEqDiff, Nat.reduceAdd, Nat.reduceMul, Nat.reduceLT, Nat.reduceLeDiff, Nat.zero_add, Nat.add_zero, List.map_cons, List.map_nil, List.nil_append, List.append_nil, List.cons_append, List.length_cons, List.length_nil, List.getElem?_cons_zero, List.getElem?_cons_succ, List.getElem?_nil, true_and, and_true, and_self, vbuiltinQ, vlen, vbin, vun, veq, vite, vextract, vslice, vlow, vhigh, vdrop, vtake, vless, vindex, vindexAddr, vread, vload, vfield, vfieldAddr, vconvert, vstore, vflat, vsplice, vfill, Option.map_some, Option.map_none, Option.bind_some, Option.bind_none, Option.isSome_some, Option.isSome_none, Option.isNone_none, Option.isNone_some, isConst, over_next, over_nil, over_cons, Heap.put_get, Heap.put_next, Heap.alloc_get, Heap.alloc_next, Heap.del_get, Heap.del_next, vpost_ret, vpost_normal, vpostK_some, vresL, vres1, vone, keeps_nil, keeps_cons, tells_nil, tells_cons, Bool.false_eq_true, Bool.true_eq_false, Bool.not_true, Bool.not_false, if_true, if_false, Bool.true_or, Bool.or_true, Bool.false_or, Bool.or_false, Bool.and_true, Bool.true_and, Bool.and_false, Bool.false_and, decide_true, decide_false, Nat.reduceAnd, List.take_succ_cons, List.take_zero, List.take_nil, List.drop_succ_cons, List.drop_zero, List.drop_nil, V.scalarL, V.scalar, V.closedL, V.closed, Array.toList, List.toList_toArray, not_true_eq_false, not_false_eq_true, List.getD_cons_zero, List.getD_cons_succ, ite_self, Nat.reduceSub, Int.reduceToNat, Int.toNat_natCast, fnWp_some Tryd.func22, Tryd.f22, T0, u9, SD, SC, SB, SA, add_at, g16, g21, gPre, hs, digits_fold, w1, w2, w3, hd, Nat.mul_one]
  have e : ∀ n, numN s = n → VDone G.next (.int .i64 (n : Nat)) G fun u G' => u = .int .i64 (numN s : Nat) ∧ G' = G := fun n hn => VDone.back hG (fun _ _ => rfl) rfl (by rw [hn])
  have hlt : [46].isPrefixOf (s.drop (runN s digitsL)) = true → runN s digitsL + 1 ≤ s.length := fun h => by
    obtain ⟨t, ht⟩ := List.isPrefixOf_iff_prefix.1 h
    have := congrArg List.length ht
    simp at this; omega
  refine ⟨by omega, by omega, ?_⟩
  split
  · rename_i h1
    have := hlt h1
    refine ⟨by omega, by omega, ?_⟩
    split
    · rename_i h2
      refine ⟨by omega, by omega, e _ ?_⟩
      unfold numN; rw [if_pos ⟨h1, by simpa using h2⟩]
    · rename_i h2
      exact e _ (by unfold numN; rw [if_neg (fun h => h2 (by simpa using h.2))])
  · rename_i h1
    exact e _ (by unfold numN; rw [if_neg (fun h => h1 h.1)])

theorem drop_at {s : List UInt8} {i : Nat} (h : i < s.length) : s.drop i = s.getD i 0 :: s.drop (i + 1) := by
  rw [List.drop_eq_getElem_cons h]
  simp [List.getD, h]
/-! ### Texts -/
/-- How long the text is, with its quotes; 0: it does not end. 'i' bytes are behind us. -/
def textGo : List UInt8 → Nat → Nat
  | [], _ => 0
  | b :: r, i => if 32 ≤ b.toNat ∧ b.toNat ≤ 126 then (if b.toNat = 34 then i + 1 else textGo r (i + 1)) else 0
def textN (s : List UInt8) : Nat := textGo (s.drop 1) 1
def g23 : List V → Option (Prop × V)
  | [.str s] => some (s.length < 4294967281, .int .i64 (textN s : Nat))
  | _ => none
theorem ok23 : fnOk Tryd.prog 23 T0 1 = true := by kernel_rfl
theorem text_walk (s : List UInt8) (hs : s.length < 4294967281) (G : Heap) : VPure Tryd.prog 23 [.str s] G (.int .i64 (textN s : Nat)) := by
  refine VCalls.of (SOk.none _) mixed T0 ok23 fun hG => ?_
  simp (maxSteps := 1000000) -dsimp -implicitDefEqProofs only [fnB_some, eq_self, Nat.mul_one, Int.le_refl, Int.reduceLE, Int.reduceLT, vbyte, decide_eq_true_eq, ↓vwp_skip, ↓vwp_region, ↓vwp_seq, ↓vwp_cond, ↓vwp_block, ↓vwp_loop, ↓vwp_exit, ↓vwp_ret, ↓vwp_label, vghost_false, vghost_true, vcond_bool, ↓vregion_ordered, ↓vregion_drawn, vops_nil, vops_cons, vopsD_nil, vopsD_cons, ↓rowsOf_eq, rowsL, nthL, rowsC_some, ↓vstep_free, ↓vstep_guard, vguard_some, vtest_bool, vtest_tup, ↓vop_q, vopQ_some, vopQ_none, ↓vloud_call, ↓vloud_alloc, ↓vloud_box, ↓vloud_buildSlice, ↓vloud_store, ↓vloud_make, ↓vloud_append, ↓vloud_range, ↓vloud_next, vallocK_some, vbuildE_some, vbuildZ_some, vbuildC_some, vstoreK_ptr, vstoreC_some, vmakeK_int, vmakeZ_some, vappT_some, vappR_some, vappS_nil1, vappS_nil, vappS_slc, vappS_arr, vappC_some, vrangeK_str, vnextK_ptr, vnextC_iter, vcallF_func, vcallQ_some, vcallQ_none, ↓vrun_b, vrunB_true, vrunB_false, vrunQ_some, ↓vstepD_free, ↓vstepD_guard, vguardD_some, vtestD_bool, vtestD_tup, gslotL, quietSyn, vnote_nil, vsafe_nil, vsafe_rd_nil, vsafe_same, vnote, vreads, vreads1, List.any_cons, List.any_nil, Nat.reduceBEq, vq, vev, vconst, vconst1, Env.putO_some, Env.putO_none, Env.put_at, Env.of_cons, Env.of_nil, envAt_cons, envAt_nil, vthen_normal, vthen_exit, vthen_ret, vblock_normal, vblock_exit, vblock_ret, vexit_normal, vexit_exit, vexit_ret, heldE, heldQ, held2, ↓reduceIte, reduceCtorEq, Nat.reduceEqDiff, Nat.reduceAdd, Nat.reduceMul, Nat.reduceLT, Nat.reduceLeDiff, Nat.zero_add, Nat.add_zero, List.map_cons, List.map_nil, List.nil_append, List.append_nil, List.cons_append, List.length_cons, List.length_nil, List.getElem?_cons_zero, List.getElem?_cons_succ, List.getElem?_nil, true_and, and_true, and_self, vbuiltinQ, vlen, vbin, vun, veq, vite, vextract, vslice, vlow, vhigh, vdrop, vtake, vless, vindex, vindexAddr, vread, vload, vfield, vfieldAddr, vconvert, vstore, vflat, vsplice, vfill, Option.map_some, Option.map_none, Option.bind_some, Option.bind_none, Option.isSome_some, Option.isSome_none, Option.isNone_none, Option.isNone_some, isConst, over_next, over_nil, over_cons, Heap.put_get, Heap.put_next, Heap.alloc_get, Heap.alloc_next, Heap.del_get, Heap.del_next, vpost_ret, vpost_normal, vpostK_some, vresL, vres1, vone, keeps_nil, keeps_cons, tells_nil, tells_cons, Bool.false_eq_true, Bool.true_eq_false, Bool.not_true, Bool.not_false, if_true, if_false, Bool.true_or, Bool.or_true, Bool.false_or, Bool.or_false, Bool.and_true, Bool.true_and, Bool.and_false, Bool.false_and, decide_true, decide_false, Nat.reduceAnd, List.take_succ_cons, List.take_zero, List.take_nil, List.drop_succ_cons, List.drop_zero, List.drop_nil, V.scalarL, V.scalar, V.closedL, V.closed, Array.toList, List.toList_toArray, not_true_eq_false, not_false_eq_true, List.getD_cons_zero, List.getD_cons_succ, ite_self, Nat.reduceSub, Int.reduceToNat, Int.toNat_natCast, fnWp_some Tryd.func23, Tryd.f23, T0, u9]
  refine vloop_by (fun i : Nat => 1 ≤ i ∧ textGo (s.drop i) i = textN s) (fun i => Env.of [(0, .str s), (3, .int .i64 (i : Nat))]) (fun i => G.over G.next []) (fun i => s.length - i) 1 ?_ ?_ ?_
  · refine .of ?_ (.over hG rfl trivial (fun _ _ => rfl))
    simp (maxSteps := 1000000) -dsimp -implicitDefEqProofs only [fnB_some, eq_self, Nat.mul_one, Int.le_refl, Int.reduceLE, Int.reduceLT, vbyte, decide_eq_true_eq, ↓vwp_skip, ↓vwp_region, ↓vwp_seq, ↓vwp_cond, ↓vwp_block, ↓vwp_loop, ↓vwp_exit, ↓vwp_ret, ↓vwp_label, vghost_false, vghost_true, vcond_bool, ↓vregion_ordered, ↓vregion_drawn, vops_nil, vops_cons, vopsD_nil, vopsD_cons, ↓rowsOf_eq, rowsL, nthL, rowsC_some, ↓vstep_free, ↓vstep_guard, vguard_some, vtest_bool, vtest_tup, ↓vop_q, vopQ_some, vopQ_none, ↓vloud_call, ↓vloud_alloc, ↓vloud_box, ↓vloud_buildSlice, ↓vloud_store, ↓vloud_make, ↓vloud_append, ↓vloud_range, ↓vloud_next, vallocK_some, vbuildE_some, vbuildZ_some, vbuildC_some, vstoreK_ptr, vstoreC_some, vmakeK_int, vmakeZ_some, vappT_some, vappR_some, vappS_nil1, vappS_nil, vappS_slc, vappS_arr, vappC_some, vrangeK_str, vnextK_ptr, vnextC_iter, vcallF_func, vcallQ_some, vcallQ_none, ↓vrun_b, vrunB_true, vrunB_false, vrunQ_some, ↓vstepD_free, ↓vstepD_guard, vguardD_some, vtestD_bool, vtestD_tup, gslotL, quietSyn, vnote_nil, vsafe_nil, vsafe_rd_nil, vsafe_same, vnote, vreads, vreads1, List.any_cons, List.any_nil, Nat.reduceBEq, vq, vev, vconst, vconst1, Env.putO_some, Env.putO_none, Env.put_at, Env.of_cons, Env.of_nil, envAt_cons, envAt_nil, vthen_normal, vthen_exit, vthen_ret, vblock_normal, vblock_exit, vblock_ret, vexit_normal, vexit_exit, vexit_ret, heldE, heldQ, held2, ↓reduceIte, reduceCtorEq, Nat.reduceEqDiff, Nat.reduceAdd, Nat.reduceMul, Nat.reduceLT, Nat.reduceLeDiff, Nat.zero_add, Nat.add_zero, List.map_cons, List.map_nil, List.nil_append, List.append_nil, List.cons_append, List.length_cons, List.length_nil, List.getElem?_cons_zero, List.getElem?_cons_succ, List.getElem?_nil, true_and, and_true, and_self, vbuiltinQ, vlen, vbin, vun, veq, vite, vextract, vslice, vlow, vhigh, vdrop, vtake, vless, vindex, vindexAddr, vread, vload, vfield, vfieldAddr, vconvert, vstore, vflat, vsplice, vfill, Option.map_some, Option.map_none, Option.bind_some, Option.bind_none, Option.isSome_some, Option.isSome_none, Option.isNone_none, Option.isNone_some, isConst, over_next, over_nil, over_cons, Heap.put_get, Heap.put_next, Heap.alloc_get, Heap.alloc_next, Heap.del_get, Heap.del_next, vpost_ret, vpost_normal, vpostK_some, vresL, vres1, vone, keeps_nil, keeps_cons, tells_nil, tells_cons, Bool.false_eq_true, Bool.true_eq_false, Bool.not_true, Bool.not_false, if_true, if_false, Bool.true_or, Bool.or_true, Bool.false_or, Bool.or_false, Bool.and_true, Bool.true_and, Bool.and_false, Bool.false_and, decide_true, decide_false, Nat.reduceAnd, List.take_succ_cons, List.take_zero, List.take_nil, List.drop_succ_cons, List.drop_zero, List.drop_nil, V.scalarL, V.scalar, V.closedL, V.closed, Array.toList, List.toList_toArray, not_true_eq_false, not_false_eq_true, List.getD_cons_zero, List.getD_cons_succ, ite_self, Nat.reduceSub, Int.reduceToNat, Int.toNat_natCast]
    exact ⟨.refl _, .refl _⟩
  · exact ⟨Nat.le_refl _, rfl⟩
  · rintro i ⟨h1, hi⟩
    have w1 : i < s.length → IntKind.wrap .i64 ((i : Int) + 1) = ((i + 1 : Nat) : Int) := fun h => by rw [w64 (by omega) (by omega)]; rfl
    have dn : ∀ n, textN s = n → ∀ (G1 : Heap), (∀ id, id < G.next → G1.get id = G.get id) → VDone G.next (.int .i64 (n : Nat)) G1 fun u G' => u = .int .i64 (textN s : Nat) ∧ G' = G := fun n hn G1 hg => VDone.back hG hg rfl (by rw [hn])
    simp (maxSteps := 1000000) -dsimp -implicitDefEqProofs only [fnB_some, eq_self, Nat.mul_one, Int.le_refl, Int.reduceLE, Int.reduceLT, vbyte, decide_eq_true_eq, ↓vwp_skip, ↓vwp_region, ↓vwp_seq, ↓vwp_cond, ↓vwp_block, ↓vwp_loop, ↓vwp_exit, ↓vwp_ret, ↓vwp_label, vghost_false, vghost_true, vcond_bool, ↓vregion_ordered, ↓vregion_drawn, vops_nil, vops_cons, vopsD_nil, vopsD_cons, ↓rowsOf_eq, rowsL, nthL, rowsC_some, ↓vstep_free, ↓vstep_guard, vguard_some, vtest_bool, vtest_tup, ↓vop_q, vopQ_some, vopQ_none, ↓vloud_call, ↓vloud_alloc, ↓vloud_box, ↓vloud_buildSlice, ↓vloud_store, ↓vloud_make, ↓vloud_append, ↓vloud_range, ↓vloud_next, vallocK_some, vbuildE_some, vbuildZ_some, vbuildC_some, vstoreK_ptr, vstoreC_some, vmakeK_int, vmakeZ_some, vappT_some, vappR_some, vappS_nil1, vappS_nil, vappS_slc, vappS_arr, vappC_some, vrangeK_str, vnextK_ptr, vnextC_iter, vcallF_func, vcallQ_some, vcallQ_none, ↓vrun_b, vrunB_true, vrunB_false, vrunQ_some, ↓vstepD_free, ↓vstepD_guard, vguardD_some, vtestD_bool, vtestD_tup, gslotL, quietSyn, vnote_nil, vsafe_nil, vsafe_rd_nil, vsafe_same, vnote, vreads, vreads1, List.any_cons, List.any_nil, Nat.reduceBEq, vq, vev, vconst, vconst1, Env.putO_some, Env.putO_none, Env.put_at, Env.of_cons, Env.of_nil, envAt_cons, envAt_nil, vthen_normal, vthen_exit, vthen_ret, vblock_normal, vblock_exit, vblock_ret, vexit_normal, vexit_exit, vexit_ret, heldE, heldQ, held2, ↓reduceIte, reduceCtorEq, Nat.reduceEqDiff, Nat.reduceAdd, Nat.reduceMul, Nat.reduceLT, Nat.reduceLeDiff, Nat.zero_add, Nat.add_zero, List.map_cons, List.map_nil, List.nil_append, List.append_nil, List.cons_append, List.length_cons, List.length_nil, List.getElem?_cons_zero, List.getElem?_cons_succ, List.getElem?_nil, true_and, and_true, and_self, vbuiltinQ, vlen, vbin, vun, veq, vite, vextract, vslice, vlow, vhigh, vdrop, vtake, vless, vindex, vindexAddr, vread, vload, vfield, vfieldAddr, vconvert, vstore, vflat, vsplice, vfill, Option.map_some, Option.map_none, Option.bind_some, Option.bind_none, Option.isSome_some, Option.isSome_none, Option.isNone_none, Option.isNone_some, isConst, over_next, over_nil, over_cons, Heap.put_get, Heap.put_next, Heap.alloc_get, Heap.alloc_next, Heap.del_get, Heap.del_next, vpost_ret, vpost_normal, vpostK_some, vresL, vres1, vone, keeps_nil, keeps_cons, tells_nil, tells_cons, Bool.false_eq_true, Bool.true_eq_false, Bool.not_true, Bool.not_false, if_true, if_false, Bool.true_or, Bool.or_true, Bool.false_or, Bool.or_false, Bool.and_true, Bool.true_and, Bool.and_false, Bool.false_and, decide_true, decide_false, Nat.reduceAnd, List.take_succ_cons, List.take_zero, List.take_nil, List.drop_succ_cons, List.drop_zero, List.drop_nil, V.scalarL, V.scalar, V.closedL, V.closed, Array.toList, List.toList_toArray, not_true_eq_false, not_false_eq_true, List.getD_cons_zero, List.getD_cons_succ, ite_self, Nat.reduceSub, Int.reduceToNat, Int.toNat_natCast, u9, T0]
    split
    · rename_i hlt
      have hlt : i < s.length := by omega
      rw [drop_at hlt] at hi
      simp only [textGo] at hi
      rw [w1 hlt]
      refine ⟨by omega, ?_⟩
      split
      · rename_i ha
        refine ⟨by omega, ?_⟩
        split
        · rename_i hb
          rw [if_pos ⟨by omega, by omega⟩] at hi
          refine ⟨by omega, ?_⟩
          split
          · rename_i hc
            rw [if_pos (by omega)] at hi
            exact dn _ hi.symm _ fun _ _ => rfl
          · rename_i hc
            rw [if_neg (by omega)] at hi
            refine ⟨i + 1, ⟨by omega, hi⟩, by omega, .of ?_ (.over hG rfl trivial (fun _ _ => rfl))⟩
            simp (maxSteps := 1000000) -dsimp -implicitDefEqProofs only [fnB_some, eq_self, Nat.mul_one, Int.le_refl, Int.reduceLE, Int.reduceLT, vbyte, decide_eq_true_eq, ↓vwp_skip, ↓vwp_region, ↓vwp_seq, ↓vwp_cond, ↓vwp_block, ↓vwp_loop, ↓vwp_exit, ↓vwp_ret, ↓vwp_label, vghost_false, vghost_true, vcond_bool, ↓vregion_ordered, ↓vregion_drawn, vops_nil, vops_cons, vopsD_nil, vopsD_cons, ↓rowsOf_eq, rowsL, nthL, rowsC_some, ↓vstep_free, ↓vstep_guard, vguard_some, vtest_bool, vtest_tup, ↓vop_q, vopQ_some, vopQ_none, ↓vloud_call, ↓vloud_alloc, ↓vloud_box, ↓vloud_buildSlice, ↓vloud_store, ↓vloud_make, ↓vloud_append, ↓vloud_range, ↓vloud_next, vallocK_some, vbuildE_some, vbuildZ_some, vbuildC_some, vstoreK_ptr, vstoreC_some, vmakeK_int, vmakeZ_some, vappT_some, vappR_some, vappS_nil1, vappS_nil, vappS_slc, vappS_arr, vappC_some, vrangeK_str, vnextK_ptr, vnextC_iter, vcallF_func, vcallQ_some, vcallQ_none, ↓vrun_b, vrunB_true, vrunB_false, vrunQ_some, ↓vstepD_free, ↓vstepD_guard, vguardD_some, vtestD_bool, vtestD_tup, gslotL, quietSyn, vnote_nil, vsafe_nil, vsafe_rd_nil, vsafe_same, vnote, vreads, vreads1, List.any_cons, List.any_nil, Nat.reduceBEq, vq, vev, vconst, vconst1, Env.putO_some, Env.putO_none, Env.put_at, Env.of_cons, Env.of_nil, envAt_cons, envAt_nil, vthen_normal, vthen_exit, vthen_ret, vblock_normal, vblock_exit, vblock_ret, vexit_normal, vexit_exit, vexit_ret, heldE, heldQ, held2, ↓reduceIte, reduceCtorEq, Nat.reduceEqDiff, Nat.reduceAdd, Nat.reduceMul, Nat.reduceLT, Nat.reduceLeDiff, Nat.zero_add, Nat.add_zero, List.map_cons, List.map_nil, List.nil_append, List.append_nil, List.cons_append, List.length_cons, List.length_nil, List.getElem?_cons_zero, List.getElem?_cons_succ, List.getElem?_nil, true_and, and_true, and_self, vbuiltinQ, vlen, vbin, vun, veq, vite, vextract, vslice, vlow, vhigh, vdrop, vtake, vless, vindex, vindexAddr, vread, vload, vfield, vfieldAddr, vconvert, vstore, vflat, vsplice, vfill, Option.map_some, Option.map_none, Option.bind_some, Option.bind_none, Option.isSome_some, Option.isSome_none, Option.isNone_none, Option.isNone_some, isConst, over_next, over_nil, over_cons, Heap.put_get, Heap.put_next, Heap.alloc_get, Heap.alloc_next, Heap.del_get, Heap.del_next, vpost_ret, vpost_normal, vpostK_some, vresL, vres1, vone, keeps_nil, keeps_cons, tells_nil, tells_cons, Bool.false_eq_true, Bool.true_eq_false, Bool.not_true, Bool.not_false, if_true, if_false, Bool.true_or, Bool.or_true, Bool.false_or, Bool.or_false, Bool.and_true, Bool.true_and, Bool.and_false, Bool.false_and, decide_true, decide_false, Nat.reduceAnd, List.take_succ_cons, List.take_zero, List.take_nil, List.drop_succ_cons, List.drop_zero, List.drop_nil, V.scalarL, V.scalar, V.closedL, V.closed, Array.toList, List.toList_toArray, not_true_eq_false, not_false_eq_true, List.getD_cons_zero, List.getD_cons_succ, ite_self, Nat.reduceSub, Int.reduceToNat, Int.toNat_natCast]
            exact ⟨.refl _, .refl _⟩
        · rename_i hb
          rw [if_neg (fun h => hb (by omega))] at hi
          exact dn 0 hi.symm _ fun _ _ => rfl
      · rename_i ha
        rw [if_neg (fun h => ha (by omega))] at hi
        exact dn 0 hi.symm _ fun _ _ => rfl
    · rename_i hlt
      have : s.drop i = [] := List.drop_eq_nil_of_le (by omega)
      rw [this] at hi
      exact dn 0 hi.symm _ fun _ _ => rfl

theorem velem_map {α : Type} {f : α → V} {l : List α} {i : Nat} (h : i < l.length) : velem 1 (l.map f) i = [f l[i]] := by
  unfold velem
  rw [Nat.mul_one, ← List.map_drop, List.drop_eq_getElem_cons h]
  rfl
/-! ### Signs -/
def signsL : List UInt8 := [60, 61, 32, 62, 61, 32, 33, 61, 32, 46, 46, 32, 60, 32, 62, 32, 61, 32, 43, 32, 45, 32, 42, 32, 47, 32, 40, 32, 41, 32, 91, 32, 93, 32, 44]
def signsF : List (List UInt8) := [[60, 61], [62, 61], [33, 61], [46, 46], [60], [62], [61], [43], [45], [42], [47], [40], [41], [91], [93], [44]]
theorem signsF_eq : Lib.fields signsL = signsF := by decide +kernel
def signGo (s : List UInt8) : List (List UInt8) → List UInt8
  | [] => []
  | x :: r => if x.isPrefixOf s then x else signGo s r
def signL (s : List UInt8) : List UInt8 := signGo s signsF
def g24 : List V → Option (Prop × V)
  | [.str s] => some (True, .str (signL s))
  | _ => none
theorem signs_fold : ([60, 61, 32, 62, 61, 32, 33, 61, 32, 46, 46, 32, 60, 32, 62, 32, 61, 32, 43, 32, 45, 32, 42, 32, 47, 32, 40, 32, 41, 32, 91, 32, 93, 32, 44] : List UInt8) = signsL := rfl
theorem ok24 : fnOk Tryd.prog 24 T0 1 = true := by kernel_rfl
theorem sign_walk (s : List UInt8) (G : Heap) : VPure Tryd.prog 24 [.str s] G (.str (signL s)) := by
  refine VCalls.of okD mixed T0 ok24 fun hG => ?_
  have h1 : signsL.length < 4294967281 := by decide
  have h2 : ascii signsL = true := by decide
  simp (maxSteps := 1000000) -dsimp -implicitDefEqProofs only [fnB_some, eq_self, Nat.mul_one, Int.le_refl, Int.reduceLE, Int.reduceLT, vbyte, decide_eq_true_eq, ↓vwp_skip, ↓vwp_region, ↓vwp_seq, ↓vwp_cond, ↓vwp_block, ↓vwp_loop, ↓vwp_exit, ↓vwp_ret, ↓vwp_label, vghost_false, vghost_true, vcond_bool, ↓vregion_ordered, ↓vregion_drawn, vops_nil, vops_cons, vopsD_nil, vopsD_cons, ↓rowsOf_eq, rowsL, nthL, rowsC_some, ↓vstep_free, ↓vstep_guard, vguard_some, vtest_bool, vtest_tup, ↓vop_q, vopQ_some, vopQ_none, ↓vloud_call, ↓vloud_alloc, ↓vloud_box, ↓vloud_buildSlice, ↓vloud_store, ↓vloud_make, ↓vloud_append, ↓vloud_range, ↓vloud_next, vallocK_some, vbuildE_some, vbuildZ_some, vbuildC_some, vstoreK_ptr, vstoreC_some, vmakeK_int, vmakeZ_some, vappT_some, vappR_some, vappS_nil1, vappS_nil, vappS_slc, vappS_arr, vappC_some, vrangeK_str, vnextK_ptr, vnextC_iter, vcallF_func, vcallQ_some, vcallQ_none, ↓vrun_b, vrunB_true, vrunB_false, vrunQ_some, ↓vstepD_free, ↓vstepD_guard, vguardD_some, vtestD_bool, vtestD_tup, gslotL, quietSyn, vnote_nil, vsafe_nil, vsafe_rd_nil, vsafe_same, vnote, vreads, vreads1, List.any_cons, List.any_nil, Nat.reduceBEq, vq, vev, vconst, vconst1, Env.putO_some, Env.putO_none, Env.put_at, Env.of_cons, Env.of_nil, envAt_cons, envAt_nil, vthen_normal, vthen_exit, vthen_ret, vblock_normal, vblock_exit, vblock_ret, vexit_normal, vexit_exit, vexit_ret, heldE, heldQ, held2, ↓reduceIte, reduceCtorEq, Nat.reduceEqDiff, Nat.reduceAdd, Nat.reduceMul, Nat.reduceLT, Nat.reduceLeDiff, Nat.zero_add, Nat.add_zero, List.map_cons, List.map_nil, List.nil_append, List.append_nil, List.cons_append, List.length_cons, List.length_nil, List.getElem?_cons_zero, List.getElem?_cons_succ, List.getElem?_nil, true_and, and_true, and_self, vbuiltinQ, vlen, vbin, vun, veq, vite, vextract, vslice, vlow, vhigh, vdrop, vtake, vless, vindex, vindexAddr, vread, vload, vfield, vfieldAddr, vconvert, vstore, vflat, vsplice, vfill, Option.map_some, Option.map_none, Option.bind_some, Option.bind_none, Option.isSome_some, Option.isSome_none, Option.isNone_none, Option.isNone_some, isConst, over_next, over_nil, over_cons, Heap.put_get, Heap.put_next, Heap.alloc_get, Heap.alloc_next, Heap.del_get, Heap.del_next, vpost_ret, vpost_normal, vpostK_some, vresL, vres1, vone, keeps_nil, keeps_cons, tells_nil, tells_cons, Bool.false_eq_true, Bool.true_eq_false, Bool.not_true, Bool.not_false, if_true, if_false, Bool.true_or, Bool.or_true, Bool.false_or, Bool.or_false, Bool.and_true, Bool.true_and, Bool.and_false, Bool.false_and, decide_true, decide_false, Nat.reduceAnd, List.take_succ_cons, List.take_zero, List.take_nil, List.drop_succ_cons, List.drop_zero, List.drop_nil, V.scalarL, V.scalar, V.closedL, V.closed, Array.toList, List.toList_toArray, not_true_eq_false, not_false_eq_true, List.getD_cons_zero, List.getD_cons_succ, ite_self, Nat.reduceSub, Int.reduceToNat, Int.toNat_natCast, fnWp_some Tryd.func24, Tryd.f24, T0, u35, SD, SC, SB, SA, add_at, g29, signs_fold, h1, h2, signsF_eq]
  refine vloop_by (fun i : Nat => i ≤ 16 ∧ signGo s (signsF.drop i) = signL s) (fun i => Env.of [(0, .str s), (5, .slc 1 signsF.length (signsF.map .str)), (6, .int .i64 16), (7, .int .i64 (i : Nat))]) (fun i => G.over G.next []) (fun i => 16 - i) 0 ?_ ?_ ?_
  · refine .of ?_ (.over hG rfl trivial (fun _ _ => rfl))
    simp (maxSteps := 1000000) -dsimp -implicitDefEqProofs only [fnB_some, eq_self, Nat.mul_one, Int.le_refl, Int.reduceLE, Int.reduceLT, vbyte, decide_eq_true_eq, ↓vwp_skip, ↓vwp_region, ↓vwp_seq, ↓vwp_cond, ↓vwp_block, ↓vwp_loop, ↓vwp_exit, ↓vwp_ret, ↓vwp_label, vghost_false, vghost_true, vcond_bool, ↓vregion_ordered, ↓vregion_drawn, vops_nil, vops_cons, vopsD_nil, vopsD_cons, ↓rowsOf_eq, rowsL, nthL, rowsC_some, ↓vstep_free, ↓vstep_guard, vguard_some, vtest_bool, vtest_tup, ↓vop_q, vopQ_some, vopQ_none, ↓vloud_call, ↓vloud_alloc, ↓vloud_box, ↓vloud_buildSlice, ↓vloud_store, ↓vloud_make, ↓vloud_append, ↓vloud_range, ↓vloud_next, vallocK_some, vbuildE_some, vbuildZ_some, vbuildC_some, vstoreK_ptr, vstoreC_some, vmakeK_int, vmakeZ_some, vappT_some, vappR_some, vappS_nil1, vappS_nil, vappS_slc, vappS_arr, vappC_some, vrangeK_str, vnextK_ptr, vnextC_iter, vcallF_func, vcallQ_some, vcallQ_none, ↓vrun_b, vrunB_true, vrunB_false, vrunQ_some, ↓vstepD_free, ↓vstepD_guard, vguardD_some, vtestD_bool, vtestD_tup, gslotL, quietSyn, vnote_nil, vsafe_nil, vsafe_rd_nil, vsafe_same, vnote, vreads, vreads1, List.any_cons, List.any_nil, Nat.reduceBEq, vq, vev, vconst, vconst1, Env.putO_some, Env.putO_none, Env.put_at, Env.of_cons, Env.of_nil, envAt_cons, envAt_nil, vthen_normal, vthen_exit, vthen_ret, vblock_normal, vblock_exit, vblock_ret, vexit_normal, vexit_exit, vexit_ret, heldE, heldQ, held2, ↓reduceIte, reduceCtorEq, Nat.reduceEqDiff, Nat.reduceAdd, Nat.reduceMul, Nat.reduceLT, Nat.reduceLeDiff, Nat.zero_add, Nat.add_zero, List.map_cons, List.map_nil, List.nil_append, List.append_nil, List.cons_append, List.length_cons, List.length_nil, List.getElem?_cons_zero, List.getElem?_cons_succ, List.getElem?_nil, true_and, and_true, and_self, vbuiltinQ, vlen, vbin, vun, veq, vite, vextract, vslice, vlow, vhigh, vdrop, vtake, vless, vindex, vindexAddr, vread, vload, vfield, vfieldAddr, vconvert, vstore, vflat, vsplice, vfill, Option.map_some, Option.map_none, Option.bind_some, Option.bind_none, Option.isSome_some, Option.isSome_none, Option.isNone_none, Option.isNone_some, isConst, over_next, over_nil, over_cons, Heap.put_get, Heap.put_next, Heap.alloc_get, Heap.alloc_next, Heap.del_get, Heap.del_next, vpost_ret, vpost_normal, vpostK_some, vresL, vres1, vone, keeps_nil, keeps_cons, tells_nil, tells_cons, Bool.false_eq_true, Bool.true_eq_false, Bool.not_true, Bool.not_false, if_true, if_false, Bool.true_or, Bool.or_true, Bool.false_or, Bool.or_false, Bool.and_true, Bool.true_and, Bool.and_false, Bool.false_and, decide_true, decide_false, Nat.reduceAnd, List.take_succ_cons, List.take_zero, List.take_nil, List.drop_succ_cons, List.drop_zero, List.drop_nil, V.scalarL, V.scalar, V.closedL, V.closed, Array.toList, List.toList_toArray, not_true_eq_false, not_false_eq_true, List.getD_cons_zero, List.getD_cons_succ, ite_self, Nat.reduceSub, Int.reduceToNat, Int.toNat_natCast]
    exact ⟨.refl _, .refl _, .refl _, .refl _⟩
  · exact ⟨by omega, rfl⟩
  · rintro i ⟨h1, hi⟩
    have dn : ∀ x, signL s = x → VDone G.next (.str x) (G.over G.next []) fun u G' => u = .str (signL s) ∧ G' = G := fun x hx => VDone.back hG (fun _ _ => rfl) rfl (by rw [hx])
    by_cases hlt : i < 16
    · have hlt' : i < signsF.length := hlt
      have hx := velem_map (f := V.str) hlt'
      rw [List.drop_eq_getElem_cons hlt'] at hi
      have w1 : IntKind.wrap .i64 ((i : Int) + 1) = ((i + 1 : Nat) : Int) := by rw [w64 (by omega) (by omega)]; rfl
      generalize signsF[i] = x at hx hi
      simp (maxSteps := 1000000) -dsimp -implicitDefEqProofs only [fnB_some, eq_self, Nat.mul_one, Int.le_refl, Int.reduceLE, Int.reduceLT, vbyte, decide_eq_true_eq, ↓vwp_skip, ↓vwp_region, ↓vwp_seq, ↓vwp_cond, ↓vwp_block, ↓vwp_loop, ↓vwp_exit, ↓vwp_ret, ↓vwp_label, vghost_false, vghost_true, vcond_bool, ↓vregion_ordered, ↓vregion_drawn, vops_nil, vops_cons, vopsD_nil, vopsD_cons, ↓rowsOf_eq, rowsL, nthL, rowsC_some, ↓vstep_free, ↓vstep_guard, vguard_some, vtest_bool, vtest_tup, ↓vop_q, vopQ_some, vopQ_none, ↓vloud_call, ↓vloud_alloc, ↓vloud_box, ↓vloud_buildSlice, ↓vloud_store, ↓vloud_make, ↓vloud_append, ↓vloud_range, ↓vloud_next, vallocK_some, vbuildE_some, vbuildZ_some, vbuildC_some, vstoreK_ptr, vstoreC_some, vmakeK_int, vmakeZ_some, vappT_some, vappR_some, vappS_nil1, vappS_nil, vappS_slc, vappS_arr, vappC_some, vrangeK_str, vnextK_ptr, vnextC_iter, vcallF_func, vcallQ_some, vcallQ_none, ↓vrun_b, vrunB_true, vrunB_false, vrunQ_some, ↓vstepD_free, ↓vstepD_guard, vguardD_some, vtestD_bool, vtestD_tup, gslotL, quietSyn, vnote_nil, vsafe_nil, vsafe_rd_nil, vsafe_same, vnote, vreads, vreads1, List.any_cons, List.any_nil, Nat.reduceBEq, vq, vev, vconst, vconst1, Env.putO_some, Env.putO_none, Env.put_at, Env.of_cons, Env.of_nil, envAt_cons, envAt_nil, vthen_normal, vthen_exit, vthen_ret, vblock_normal, vblock_exit, vblock_ret, vexit_normal, vexit_exit, vexit_ret, heldE, heldQ, held2, ↓reduceIte, reduceCtorEq, Nat.reduceEqDiff, Nat.reduceAdd, Nat.reduceMul, Nat.reduceLT, Nat.reduceLeDiff, Nat.zero_add, Nat.add_zero, List.map_cons, List.map_nil, List.nil_append, List.append_nil, List.cons_append, List.length_cons, List.length_nil, List.getElem?_cons_zero, List.getElem?_cons_succ, List.getElem?_nil, true_and, and_true, and_self, vbuiltinQ, vlen, vbin, vun, veq, vite, vextract, vslice, vlow, vhigh, vdrop, vtake, vless, vindex, vindexAddr, vread, vload, vfield, vfieldAddr, vconvert, vstore, vflat, vsplice, vfill, Option.map_some, Option.map_none, Option.bind_some, Option.bind_none, Option.isSome_some, Option.isSome_none, Option.isNone_none, Option.isNone_some, isConst, over_next, over_nil, over_cons, Heap.put_get, Heap.put_next, Heap.alloc_get, Heap.alloc_next, Heap.del_get, Heap.del_next, vpost_ret, vpost_normal, vpostK_some, vresL, vres1, vone, keeps_nil, keeps_cons, tells_nil, tells_cons, Bool.false_eq_true, Bool.true_eq_false, Bool.not_true, Bool.not_false, if_true, if_false, Bool.true_or, Bool.or_true, Bool.false_or, Bool.or_false, Bool.and_true, Bool.true_and, Bool.and_false, Bool.false_and, decide_true, decide_false, Nat.reduceAnd, List.take_succ_cons, List.take_zero, List.take_nil, List.drop_succ_cons, List.drop_zero, List.drop_nil, V.scalarL, V.scalar, V.closedL, V.closed, Array.toList, List.toList_toArray, not_true_eq_false, not_false_eq_true, List.getD_cons_zero, List.getD_cons_succ, ite_self, Nat.reduceSub, Int.reduceToNat, Int.toNat_natCast, u9, u35, T0, te35, c9, i9, ag9, SD, SC, SB, SA, add_at, gPre, hx, w1]
      rw [if_pos (by omega)]
      refine ⟨by simp [signsF]; omega, ?_⟩
      simp only [signGo] at hi
      split
      · rename_i hp
        rw [if_pos hp] at hi
        exact dn _ hi.symm
      · rename_i hp
        rw [if_neg hp] at hi
        refine ⟨i + 1, ⟨by omega, hi⟩, by omega, .of ?_ (.over hG rfl trivial (fun _ _ => rfl))⟩
        simp (maxSteps := 1000000) -dsimp -implicitDefEqProofs only [fnB_some, eq_self, Nat.mul_one, Int.le_refl, Int.reduceLE, Int.reduceLT, vbyte, decide_eq_true_eq, ↓vwp_skip, ↓vwp_region, ↓vwp_seq, ↓vwp_cond, ↓vwp_block, ↓vwp_loop, ↓vwp_exit, ↓vwp_ret, ↓vwp_label, vghost_false, vghost_true, vcond_bool, ↓vregion_ordered, ↓vregion_drawn, vops_nil, vops_cons, vopsD_nil, vopsD_cons, ↓rowsOf_eq, rowsL, nthL, rowsC_some, ↓vstep_free, ↓vstep_guard, vguard_some, vtest_bool, vtest_tup, ↓vop_q, vopQ_some, vopQ_none, ↓vloud_call, ↓vloud_alloc, ↓vloud_box, ↓vloud_buildSlice, ↓vloud_store, ↓vloud_make, ↓vloud_append, ↓vloud_range, ↓vloud_next, vallocK_some, vbuildE_some, vbuildZ_some, vbuildC_some, vstoreK_ptr, vstoreC_some, vmakeK_int, vmakeZ_some, vappT_some, vappR_some, vappS_nil1, vappS_nil, vappS_slc, vappS_arr, vappC_some, vrangeK_str, vnextK_ptr, vnextC_iter, vcallF_func, vcallQ_some, vcallQ_none, ↓vrun_b, vrunB_true, vrunB_false, vrunQ_some, ↓vstepD_free, ↓vstepD_guard, vguardD_some, vtestD_bool, vtestD_tup, gslotL, quietSyn, vnote_nil, vsafe_nil, vsafe_rd_nil, vsafe_same, vnote, vreads, vreads1, List.any_cons, List.any_nil, Nat.reduceBEq, vq, vev, vconst, vconst1, Env.putO_some, Env.putO_none, Env.put_at, Env.of_cons, Env.of_nil, envAt_cons, envAt_nil, vthen_normal, vthen_exit, vthen_ret, vblock_normal, vblock_exit, vblock_ret, vexit_normal, vexit_exit, vexit_ret, heldE, heldQ, held2, ↓reduceIte, reduceCtorEq, Nat.reduceEqDiff, Nat.reduceAdd, Nat.reduceMul, Nat.reduceLT, Nat.reduceLeDiff, Nat.zero_add, Nat.add_zero, List.map_cons, List.map_nil, List.nil_append, List.append_nil, List.cons_append, List.length_cons, List.length_nil, List.getElem?_cons_zero, List.getElem?_cons_succ, List.getElem?_nil, true_and, and_true, and_self, vbuiltinQ, vlen, vbin, vun, veq, vite, vextract, vslice, vlow, vhigh, vdrop, vtake, vless, vindex, vindexAddr, vread, vload, vfield, vfieldAddr, vconvert, vstore, vflat, vsplice, vfill, Option.map_some, Option.map_none, Option.bind_some, Option.bind_none, Option.isSome_some, Option.isSome_none, Option.isNone_none, Option.isNone_some, isConst, over_next, over_nil, over_cons, Heap.put_get, Heap.put_next, Heap.alloc_get, Heap.alloc_next, Heap.del_get, Heap.del_next, vpost_ret, vpost_normal, vpostK_some, vresL, vres1, vone, keeps_nil, keeps_cons, tells_nil, tells_cons, Bool.false_eq_true, Bool.true_eq_false, Bool.not_true, Bool.not_false, if_true, if_false, Bool.true_or, Bool.or_true, Bool.false_or, Bool.or_false, Bool.and_true, Bool.true_and, Bool.and_false, Bool.false_and, decide_true, decide_false, Nat.reduceAnd, List.take_succ_cons, List.take_zero, List.take_nil, List.drop_succ_cons, List.drop_zero, List.drop_nil, V.scalarL, V.scalar, V.closedL, V.closed, Array.toList, List.toList_toArray, not_true_eq_false, not_false_eq_true, List.getD_cons_zero, List.getD_cons_succ, ite_self, Nat.reduceSub, Int.reduceToNat, Int.toNat_natCast]
        exact ⟨.refl _, .refl _, .refl _, .refl _⟩
    · have : i = 16 := by omega
      subst this
      simp (maxSteps := 1000000) -dsimp -implicitDefEqProofs only [fnB_some, eq_self, Nat.mul_one, Int.le_refl, Int.reduceLE, Int.reduceLT, vbyte, decide_eq_true_eq, ↓vwp_skip, ↓vwp_region, ↓vwp_seq, ↓vwp_cond, ↓vwp_block, ↓vwp_loop, ↓vwp_exit, ↓vwp_ret, ↓vwp_label, vghost_false, vghost_true, vcond_bool, ↓vregion_ordered, ↓vregion_drawn, vops_nil, vops_cons, vopsD_nil, vopsD_cons, ↓rowsOf_eq, rowsL, nthL, rowsC_some, ↓vstep_free, ↓vstep_guard, vguard_some, vtest_bool, vtest_tup, ↓vop_q, vopQ_some, vopQ_none, ↓vloud_call, ↓vloud_alloc, ↓vloud_box, ↓vloud_buildSlice, ↓vloud_store, ↓vloud_make, ↓vloud_append, ↓vloud_range, ↓vloud_next, vallocK_some, vbuildE_some, vbuildZ_some, vbuildC_some, vstoreK_ptr, vstoreC_some, vmakeK_int, vmakeZ_some, vappT_some, vappR_some, vappS_nil1, vappS_nil, vappS_slc, vappS_arr, vappC_some, vrangeK_str, vnextK_ptr, vnextC_iter, vcallF_func, vcallQ_some, vcallQ_none, ↓vrun_b, vrunB_true, vrunB_false, vrunQ_some, ↓vstepD_free, ↓vstepD_guard, vguardD_some, vtestD_bool, vtestD_tup, gslotL, quietSyn, vnote_nil, vsafe_nil, vsafe_rd_nil, vsafe_same, vnote, vreads, vreads1, List.any_cons, List.any_nil, Nat.reduceBEq, vq, vev, vconst, vconst1, Env.putO_some, Env.putO_none, Env.put_at, Env.of_cons, Env.of_nil, envAt_cons, envAt_nil, vthen_normal, vthen_exit, vthen_ret, vblock_normal, vblock_exit, vblock_ret, vexit_normal, vexit_exit, vexit_ret, heldE, heldQ, held2, ↓reduceIte, reduceCtorEq, Nat.reduceEqDiff, Nat.reduceAdd, Nat.reduceMul, Nat.reduceLT, Nat.reduceLeDiff, Nat.zero_add, Nat.add_zero, List.map_cons, List.map_nil, List.nil_append, List.append_nil, List.cons_append, List.length_cons, List.length_nil, List.getElem?_cons_zero, List.getElem?_cons_succ, List.getElem?_nil, true_and, and_true, and_self, vbuiltinQ, vlen, vbin, vun, veq, vite, vextract, vslice, vlow, vhigh, vdrop, vtake, vless, vindex, vindexAddr, vread, vload, vfield, vfieldAddr, vconvert, vstore, vflat, vsplice, vfill, Option.map_some, Option.map_none, Option.bind_some, Option.bind_none, Option.isSome_some, Option.isSome_none, Option.isNone_none, Option.isNone_some, isConst, over_next, over_nil, over_cons, Heap.put_get, Heap.put_next, Heap.alloc_get, Heap.alloc_next, Heap.del_get, Heap.del_next, vpost_ret, vpost_normal, vpostK_some, vresL, vres1, vone, keeps_nil, keeps_cons, tells_nil, tells_cons, Bool.false_eq_true, Bool.true_eq_false, Bool.not_true, Bool.not_false, if_true, if_false, Bool.true_or, Bool.or_true, Bool.false_or, Bool.or_false, Bool.and_true, Bool.true_and, Bool.and_false, Bool.false_and, decide_true, decide_false, Nat.reduceAnd, List.take_succ_cons, List.take_zero, List.take_nil, List.drop_succ_cons, List.drop_zero, List.drop_nil, V.scalarL, V.scalar, V.closedL, V.closed, Array.toList, List.toList_toArray, not_true_eq_false, not_false_eq_true, List.getD_cons_zero, List.getD_cons_succ, ite_self, Nat.reduceSub, Int.reduceToNat, Int.toNat_natCast, u9, u35, T0, te35, c9, i9, ag9, SD, SC, SB, SA, add_at, gPre]
      rw [if_neg (by omega)]
      exact dn _ hi.symm
end Go.Vf
