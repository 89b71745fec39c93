/- What the laws of Lex share: are two rows of tokens one; three tokens. -/
import Derived.Test.YtdplbmooogglaaaDoorLl
set_option linter.unusedVariables false
set_option linter.unusedSimpArgs false
namespace Go.Vf
open Go.Proofs Go.RowKit

/-- The tokens that cells are. -/
def toksD : List V → List Tok
  | .int _ k :: .str t :: .int _ p :: r => ⟨k, t, p⟩ :: toksD r
  | _ => []
theorem toksD_C (l : List Tok) : toksD (toksC l) = l := by
  induction l with
  | nil => rfl
  | cons t r ih => simp only [toksC, List.flatMap_cons, Tok.cells, List.cons_append, List.nil_append, toksD] at *; rw [ih]
def g11 : List V → Option (Prop × V)
  | [.sl 3 n x, .sl 3 m y] => some ((x = toksC (toksD x) ∧ n = (toksD x).length ∧ n ≤ 1000) ∧ y = toksC (toksD y) ∧ m = (toksD y).length ∧ m ≤ 1000, .bool (decide (toksD x = toksD y)))
  | _ => none
def T11 : Tab := ⟨fun id => if id = 6 then ([0, 1, 2, 3, 4, 5, 6, 7, 8], []) else ([], []), fun _ => false⟩
theorem T11_ord (id : Nat) : T11.ord id = if id = 6 then ([0, 1, 2, 3, 4, 5, 6, 7, 8], []) else ([], []) := rfl
theorem T11_ghost (id : Nat) : T11.ghost id = false := rfl
theorem ok11 : fnOk Tryd.prog 11 T11 2 = true := by kernel_rfl
theorem velem3_0 (a b c : V) (r : List V) : velem 3 (a :: b :: c :: r) 0 = [a, b, c] := rfl
theorem velem3_1 (a b c d e f : V) (r : List V) : velem 3 (a :: b :: c :: d :: e :: f :: r) 1 = [d, e, f] := rfl
theorem velem3_2 (a b c d e f g h i : V) (r : List V) : velem 3 (a :: b :: c :: d :: e :: f :: g :: h :: i :: r) 2 = [g, h, i] := rfl
theorem toks_at {l : List Tok} {i : Nat} (h : i < l.length) : velem 3 (toksC l) i = l[i].cells := by
  unfold velem
  induction l generalizing i with
  | nil => simp at h
  | cons t r ih =>
    cases i with
    | zero => simp [toksC, Tok.cells]
    | succ i =>
      have := ih (i := i) (by simpa using h)
      simp only [List.getElem_cons_succ]
      rw [← this]
      have : (i + 1) * 3 = i * 3 + 3 := by omega
      rw [this]
      simp only [toksC, List.flatMap_cons, Tok.cells, List.cons_append, List.nil_append, List.drop_succ_cons]
set_option maxRecDepth 100000 in
theorem same_walk (a b : List Tok) (ha : a.length ≤ 1000) (hb : b.length ≤ 1000) (G : Heap) : VPure Tryd.prog 11 [.sl 3 a.length (toksC a), .sl 3 b.length (toksC b)] G (.bool (decide (a = b))) := by
  refine VCalls.of (SOk.none _) mixed T11 ok11 fun hG => ?_
  simp (maxSteps := 1000000) -dsimp -implicitDefEqProofs only [fnB_some, eq_self, Nat.mul_one, Int.le_refl, Int.reduceLE, Int.reduceLT, vbyte, decide_eq_true_eq, ↓vwp_skip, ↓vwp_region, ↓vwp_seq, ↓vwp_cond, ↓vwp_block, ↓vwp_loop, ↓vwp_exit, ↓vwp_ret, ↓vwp_label, vghost_false, vghost_true, vcond_bool, ↓vregion_ordered, ↓vregion_drawn, vops_nil, vops_cons, vopsD_nil, vopsD_cons, ↓rowsOf_eq, rowsL, nthL, rowsC_some, ↓vstep_free, ↓vstep_guard, vguard_some, vtest_bool, vtest_tup, ↓vop_q, vopQ_some, vopQ_none, ↓vloud_call, ↓vloud_alloc, ↓vloud_box, ↓vloud_buildSlice, ↓vloud_store, ↓vloud_make, ↓vloud_append, ↓vloud_range, ↓vloud_next, vallocK_some, vbuildE_some, vbuildZ_some, vbuildC_some, vstoreK_ptr, vstoreC_some, vmakeK_int, vmakeZ_some, vappT_some, vappR_some, vappS_nil1, vappS_nil, vappS_slc, vappS_arr, vappC_some, vrangeK_str, vnextK_ptr, vnextC_iter, vcallF_func, vcallQ_some, vcallQ_none, ↓vrun_b, vrunB_true, vrunB_false, vrunQ_some, ↓vstepD_free, ↓vstepD_guard, vguardD_some, vtestD_bool, vtestD_tup, gslotL, quietSyn, vnote_nil, vsafe_nil, vsafe_rd_nil, vsafe_same, vnote, vreads, vreads1, List.any_cons, List.any_nil, Nat.reduceBEq, vq, vev, vconst, vconst1, Env.putO_some, Env.putO_none, Env.put_at, Env.of_cons, Env.of_nil, envAt_cons, envAt_nil, vthen_normal, vthen_exit, vthen_ret, vblock_normal, vblock_exit, vblock_ret, vexit_normal, vexit_exit, vexit_ret, heldE, heldQ, held2, ↓reduceIte, reduceCtorEq, Nat.reduceEqDiff, Nat.reduceAdd, Nat.reduceMul, Nat.reduceLT, Nat.reduceLeDiff, Nat.zero_add, Nat.add_zero, List.map_cons, List.map_nil, List.nil_append, List.append_nil, List.cons_append, List.length_cons, List.length_nil, List.getElem?_cons_zero, List.getElem?_cons_succ, List.getElem?_nil, true_and, and_true, and_self, vbuiltinQ, vlen, vbin, vun, veq, vite, vextract, vslice, vlow, vhigh, vdrop, vtake, vless, vindex, vindexAddr, vread, vload, vfield, vfieldAddr, vconvert, vstore, vflat, vsplice, vfill, Option.map_some, Option.map_none, Option.bind_some, Option.bind_none, Option.isSome_some, Option.isSome_none, Option.isNone_none, Option.isNone_some, isConst, over_next, over_nil, over_cons, Heap.put_get, Heap.put_next, Heap.alloc_get, Heap.alloc_next, Heap.del_get, Heap.del_next, vpost_ret, vpost_normal, vpostK_some, vresL, vres1, vone, keeps_nil, keeps_cons, tells_nil, tells_cons, Bool.false_eq_true, Bool.true_eq_false, Bool.not_true, Bool.not_false, if_true, if_false, Bool.true_or, Bool.or_true, Bool.false_or, Bool.or_false, Bool.and_true, Bool.true_and, Bool.and_false, Bool.false_and, decide_true, decide_false, Nat.reduceAnd, List.take_succ_cons, List.take_zero, List.take_nil, List.drop_succ_cons, List.drop_zero, List.drop_nil, V.scalarL, V.scalar, V.closedL, V.closed, Array.toList, List.toList_toArray, not_true_eq_false, not_false_eq_true, List.getD_cons_zero, List.getD_cons_succ, ite_self, Nat.reduceSub, Int.reduceToNat, Int.toNat_natCast, fnWp_some Tryd.func11, Tryd.f11, T11_ord, T11_ghost, u3, u4, u5, u9, u21, u22, u23, u35, te22, te35, ag3, ag5, ag9, ag33, z33, z9, st33, c33, c9, c3, i33, i9, i3, b33, b9, f33_0, f33_1, f33_2, p33_0, p33_1, p33_2, k33, g33, g9, s22]
  have dn : ∀ x, decide (a = b) = x → ∀ G', (∀ id, id < G.next → G'.get id = G.get id) → VDone G.next (.bool x) G' fun u G' => u = .bool (decide (a = b)) ∧ G' = G := fun x hx G' hg => VDone.back hG hg rfl (by rw [hx])
  split
  · rename_i h
    exact dn false (by simp; intro e; exact h (by rw [e])) _ fun _ _ => rfl
  · rename_i h
    have hl : a.length = b.length := by omega
    refine vloop_by (fun i : Nat => i ≤ a.length ∧ a.take i = b.take i) (fun i => Env.of [(0, .sl 3 a.length (toksC a)), (1, .sl 3 b.length (toksC b)), (5, .int .i64 (i : Nat))]) (fun i => G.over G.next []) (fun i => a.length - i) 0 ?_ ?_ ?_
    · refine .of ?_ (.over hG rfl trivial (fun _ _ => rfl))
      simp (maxSteps := 1000000) -dsimp -implicitDefEqProofs only [fnB_some, eq_self, Nat.mul_one, Int.le_refl, Int.reduceLE, Int.reduceLT, vbyte, decide_eq_true_eq, ↓vwp_skip, ↓vwp_region, ↓vwp_seq, ↓vwp_cond, ↓vwp_block, ↓vwp_loop, ↓vwp_exit, ↓vwp_ret, ↓vwp_label, vghost_false, vghost_true, vcond_bool, ↓vregion_ordered, ↓vregion_drawn, vops_nil, vops_cons, vopsD_nil, vopsD_cons, ↓rowsOf_eq, rowsL, nthL, rowsC_some, ↓vstep_free, ↓vstep_guard, vguard_some, vtest_bool, vtest_tup, ↓vop_q, vopQ_some, vopQ_none, ↓vloud_call, ↓vloud_alloc, ↓vloud_box, ↓vloud_buildSlice, ↓vloud_store, ↓vloud_make, ↓vloud_append, ↓vloud_range, ↓vloud_next, vallocK_some, vbuildE_some, vbuildZ_some, vbuildC_some, vstoreK_ptr, vstoreC_some, vmakeK_int, vmakeZ_some, vappT_some, vappR_some, vappS_nil1, vappS_nil, vappS_slc, vappS_arr, vappC_some, vrangeK_str, vnextK_ptr, vnextC_iter, vcallF_func, vcallQ_some, vcallQ_none, ↓vrun_b, vrunB_true, vrunB_false, vrunQ_some, ↓vstepD_free, ↓vstepD_guard, vguardD_some, vtestD_bool, vtestD_tup, gslotL, quietSyn, vnote_nil, vsafe_nil, vsafe_rd_nil, vsafe_same, vnote, vreads, vreads1, List.any_cons, List.any_nil, Nat.reduceBEq, vq, vev, vconst, vconst1, Env.putO_some, Env.putO_none, Env.put_at, Env.of_cons, Env.of_nil, envAt_cons, envAt_nil, vthen_normal, vthen_exit, vthen_ret, vblock_normal, vblock_exit, vblock_ret, vexit_normal, vexit_exit, vexit_ret, heldE, heldQ, held2, ↓reduceIte, reduceCtorEq, Nat.reduceEqDiff, Nat.reduceAdd, Nat.reduceMul, Nat.reduceLT, Nat.reduceLeDiff, Nat.zero_add, Nat.add_zero, List.map_cons, List.map_nil, List.nil_append, List.append_nil, List.cons_append, List.length_cons, List.length_nil, List.getElem?_cons_zero, List.getElem?_cons_succ, List.getElem?_nil, true_and, and_true, and_self, vbuiltinQ, vlen, vbin, vun, veq, vite, vextract, vslice, vlow, vhigh, vdrop, vtake, vless, vindex, vindexAddr, vread, vload, vfield, vfieldAddr, vconvert, vstore, vflat, vsplice, vfill, Option.map_some, Option.map_none, Option.bind_some, Option.bind_none, Option.isSome_some, Option.isSome_none, Option.isNone_none, Option.isNone_some, isConst, over_next, over_nil, over_cons, Heap.put_get, Heap.put_next, Heap.alloc_get, Heap.alloc_next, Heap.del_get, Heap.del_next, vpost_ret, vpost_normal, vpostK_some, vresL, vres1, vone, keeps_nil, keeps_cons, tells_nil, tells_cons, Bool.false_eq_true, Bool.true_eq_false, Bool.not_true, Bool.not_false, if_true, if_false, Bool.true_or, Bool.or_true, Bool.false_or, Bool.or_false, Bool.and_true, Bool.true_and, Bool.and_false, Bool.false_and, decide_true, decide_false, Nat.reduceAnd, List.take_succ_cons, List.take_zero, List.take_nil, List.drop_succ_cons, List.drop_zero, List.drop_nil, V.scalarL, V.scalar, V.closedL, V.closed, Array.toList, List.toList_toArray, not_true_eq_false, not_false_eq_true, List.getD_cons_zero, List.getD_cons_succ, ite_self, Nat.reduceSub, Int.reduceToNat, Int.toNat_natCast]
      exact ⟨.refl _, .refl _, .refl _⟩
    · exact ⟨Nat.zero_le _, by simp⟩
    · rintro i ⟨h1, h2⟩
      by_cases hlt : i < a.length
      · have hlb : i < b.length := by omega
        have hx := toks_at hlt
        have hy := toks_at hlb
        have w1 : IntKind.wrap .i64 ((i : Int) + 1) = ((i + 1 : Nat) : Int) := by rw [w64 (by omega) (by omega)]; rfl
        have ta : a.take (i + 1) = a.take i ++ [a[i]] := List.take_succ_eq_append_getElem hlt
        have tb : b.take (i + 1) = b.take i ++ [b[i]] := List.take_succ_eq_append_getElem hlb
        have ea : a = b → a[i] = b[i] := fun e => by subst e; rfl
        generalize a[i] = x at hx ta ea
        generalize b[i] = y at hy tb ea
        simp (maxSteps := 1000000) -dsimp -implicitDefEqProofs only [fnB_some, eq_self, Nat.mul_one, Int.le_refl, Int.reduceLE, Int.reduceLT, vbyte, decide_eq_true_eq, ↓vwp_skip, ↓vwp_region, ↓vwp_seq, ↓vwp_cond, ↓vwp_block, ↓vwp_loop, ↓vwp_exit, ↓vwp_ret, ↓vwp_label, vghost_false, vghost_true, vcond_bool, ↓vregion_ordered, ↓vregion_drawn, vops_nil, vops_cons, vopsD_nil, vopsD_cons, ↓rowsOf_eq, rowsL, nthL, rowsC_some, ↓vstep_free, ↓vstep_guard, vguard_some, vtest_bool, vtest_tup, ↓vop_q, vopQ_some, vopQ_none, ↓vloud_call, ↓vloud_alloc, ↓vloud_box, ↓vloud_buildSlice, ↓vloud_store, ↓vloud_make, ↓vloud_append, ↓vloud_range, ↓vloud_next, vallocK_some, vbuildE_some, vbuildZ_some, vbuildC_some, vstoreK_ptr, vstoreC_some, vmakeK_int, vmakeZ_some, vappT_some, vappR_some, vappS_nil1, vappS_nil, vappS_slc, vappS_arr, vappC_some, vrangeK_str, vnextK_ptr, vnextC_iter, vcallF_func, vcallQ_some, vcallQ_none, ↓vrun_b, vrunB_true, vrunB_false, vrunQ_some, ↓vstepD_free, ↓vstepD_guard, vguardD_some, vtestD_bool, vtestD_tup, gslotL, quietSyn, vnote_nil, vsafe_nil, vsafe_rd_nil, vsafe_same, vnote, vreads, vreads1, List.any_cons, List.any_nil, Nat.reduceBEq, vq, vev, vconst, vconst1, Env.putO_some, Env.putO_none, Env.put_at, Env.of_cons, Env.of_nil, envAt_cons, envAt_nil, vthen_normal, vthen_exit, vthen_ret, vblock_normal, vblock_exit, vblock_ret, vexit_normal, vexit_exit, vexit_ret, heldE, heldQ, held2, ↓reduceIte, reduceCtorEq, Nat.reduceEqDiff, Nat.reduceAdd, Nat.reduceMul, Nat.reduceLT, Nat.reduceLeDiff, Nat.zero_add, Nat.add_zero, List.map_cons, List.map_nil, List.nil_append, List.append_nil, List.cons_append, List.length_cons, List.length_nil, List.getElem?_cons_zero, List.getElem?_cons_succ, List.getElem?_nil, true_and, and_true, and_self, vbuiltinQ, vlen, vbin, vun, veq, vite, vextract, vslice, vlow, vhigh, vdrop, vtake, vless, vindex, vindexAddr, vread, vload, vfield, vfieldAddr, vconvert, vstore, vflat, vsplice, vfill, Option.map_some, Option.map_none, Option.bind_some, Option.bind_none, Option.isSome_some, Option.isSome_none, Option.isNone_none, Option.isNone_some, isConst, over_next, over_nil, over_cons, Heap.put_get, Heap.put_next, Heap.alloc_get, Heap.alloc_next, Heap.del_get, Heap.del_next, vpost_ret, vpost_normal, vpostK_some, vresL, vres1, vone, keeps_nil, keeps_cons, tells_nil, tells_cons, Bool.false_eq_true, Bool.true_eq_false, Bool.not_true, Bool.not_false, if_true, if_false, Bool.true_or, Bool.or_true, Bool.false_or, Bool.or_false, Bool.and_true, Bool.true_and, Bool.and_false, Bool.false_and, decide_true, decide_false, Nat.reduceAnd, List.take_succ_cons, List.take_zero, List.take_nil, List.drop_succ_cons, List.drop_zero, List.drop_nil, V.scalarL, V.scalar, V.closedL, V.closed, Array.toList, List.toList_toArray, not_true_eq_false, not_false_eq_true, List.getD_cons_zero, List.getD_cons_succ, ite_self, Nat.reduceSub, Int.reduceToNat, Int.toNat_natCast, T11_ord, T11_ghost, u3, u4, u5, u9, u21, u22, u23, u35, te22, te35, ag3, ag5, ag9, ag33, z33, z9, st33, c33, c9, c3, i33, i9, i3, b33, b9, f33_0, f33_1, f33_2, p33_0, p33_1, p33_2, k33, g33, g9, s22, hx, hy, w1, Tok.cells, veqK, vtag, veq1]
        rw [if_pos (by omega)]
        refine ⟨by omega, by omega, ?_⟩
        have hxy : (!(decide (x.kind = y.kind) && (decide (x.text = y.text) && decide (x.pos = y.pos)))) = true ↔ x ≠ y := by
          cases x; cases y; simp [Decidable.or_iff_not_imp_left, Decidable.not_not]
        split
        · rename_i k
          exact dn false (by simp; intro e; exact hxy.1 k (ea e)) _ fun _ _ => rfl
        · rename_i k
          have k : x = y := Classical.not_not.1 fun h => k (hxy.2 h)
          refine ⟨i + 1, ⟨by omega, by rw [ta, tb, h2, k]⟩, by omega, .of ?_ (.over hG rfl trivial (fun _ _ => rfl))⟩
          simp (maxSteps := 1000000) -dsimp -implicitDefEqProofs only [fnB_some, eq_self, Nat.mul_one, Int.le_refl, Int.reduceLE, Int.reduceLT, vbyte, decide_eq_true_eq, ↓vwp_skip, ↓vwp_region, ↓vwp_seq, ↓vwp_cond, ↓vwp_block, ↓vwp_loop, ↓vwp_exit, ↓vwp_ret, ↓vwp_label, vghost_false, vghost_true, vcond_bool, ↓vregion_ordered, ↓vregion_drawn, vops_nil, vops_cons, vopsD_nil, vopsD_cons, ↓rowsOf_eq, rowsL, nthL, rowsC_some, ↓vstep_free, ↓vstep_guard, vguard_some, vtest_bool, vtest_tup, ↓vop_q, vopQ_some, vopQ_none, ↓vloud_call, ↓vloud_alloc, ↓vloud_box, ↓vloud_buildSlice, ↓vloud_store, ↓vloud_make, ↓vloud_append, ↓vloud_range, ↓vloud_next, vallocK_some, vbuildE_some, vbuildZ_some, vbuildC_some, vstoreK_ptr, vstoreC_some, vmakeK_int, vmakeZ_some, vappT_some, vappR_some, vappS_nil1, vappS_nil, vappS_slc, vappS_arr, vappC_some, vrangeK_str, vnextK_ptr, vnextC_iter, vcallF_func, vcallQ_some, vcallQ_none, ↓vrun_b, vrunB_true, vrunB_false, vrunQ_some, ↓vstepD_free, ↓vstepD_guard, vguardD_some, vtestD_bool, vtestD_tup, gslotL, quietSyn, vnote_nil, vsafe_nil, vsafe_rd_nil, vsafe_same, vnote, vreads, vreads1, List.any_cons, List.any_nil, Nat.reduceBEq, vq, vev, vconst, vconst1, Env.putO_some, Env.putO_none, Env.put_at, Env.of_cons, Env.of_nil, envAt_cons, envAt_nil, vthen_normal, vthen_exit, vthen_ret, vblock_normal, vblock_exit, vblock_ret, vexit_normal, vexit_exit, vexit_ret, heldE, heldQ, held2, ↓reduceIte, reduceCtorEq, Nat.reduceEqDiff, Nat.reduceAdd, Nat.reduceMul, Nat.reduceLT, Nat.reduceLeDiff, Nat.zero_add, Nat.add_zero, List.map_cons, List.map_nil, List.nil_append, List.append_nil, List.cons_append, List.length_cons, List.length_nil, List.getElem?_cons_zero, List.getElem?_cons_succ, List.getElem?_nil, true_and, and_true, and_self, vbuiltinQ, vlen, vbin, vun, veq, vite, vextract, vslice, vlow, vhigh, vdrop, vtake, vless, vindex, vindexAddr, vread, vload, vfield, vfieldAddr, vconvert, vstore, vflat, vsplice, vfill, Option.map_some, Option.map_none, Option.bind_some, Option.bind_none, Option.isSome_some, Option.isSome_none, Option.isNone_none, Option.isNone_some, isConst, over_next, over_nil, over_cons, Heap.put_get, Heap.put_next, Heap.alloc_get, Heap.alloc_next, Heap.del_get, Heap.del_next, vpost_ret, vpost_normal, vpostK_some, vresL, vres1, vone, keeps_nil, keeps_cons, tells_nil, tells_cons, Bool.false_eq_true, Bool.true_eq_false, Bool.not_true, Bool.not_false, if_true, if_false, Bool.true_or, Bool.or_true, Bool.false_or, Bool.or_false, Bool.and_true, Bool.true_and, Bool.and_false, Bool.false_and, decide_true, decide_false, Nat.reduceAnd, List.take_succ_cons, List.take_zero, List.take_nil, List.drop_succ_cons, List.drop_zero, List.drop_nil, V.scalarL, V.scalar, V.closedL, V.closed, Array.toList, List.toList_toArray, not_true_eq_false, not_false_eq_true, List.getD_cons_zero, List.getD_cons_succ, ite_self, Nat.reduceSub, Int.reduceToNat, Int.toNat_natCast]
          exact ⟨.refl _, .refl _, .refl _⟩
      · have : i = a.length := by omega
        subst this
        simp (maxSteps := 1000000) -dsimp -implicitDefEqProofs only [fnB_some, eq_self, Nat.mul_one, Int.le_refl, Int.reduceLE, Int.reduceLT, vbyte, decide_eq_true_eq, ↓vwp_skip, ↓vwp_region, ↓vwp_seq, ↓vwp_cond, ↓vwp_block, ↓vwp_loop, ↓vwp_exit, ↓vwp_ret, ↓vwp_label, vghost_false, vghost_true, vcond_bool, ↓vregion_ordered, ↓vregion_drawn, vops_nil, vops_cons, vopsD_nil, vopsD_cons, ↓rowsOf_eq, rowsL, nthL, rowsC_some, ↓vstep_free, ↓vstep_guard, vguard_some, vtest_bool, vtest_tup, ↓vop_q, vopQ_some, vopQ_none, ↓vloud_call, ↓vloud_alloc, ↓vloud_box, ↓vloud_buildSlice, ↓vloud_store, ↓vloud_make, ↓vloud_append, ↓vloud_range, ↓vloud_next, vallocK_some, vbuildE_some, vbuildZ_some, vbuildC_some, vstoreK_ptr, vstoreC_some, vmakeK_int, vmakeZ_some, vappT_some, vappR_some, vappS_nil1, vappS_nil, vappS_slc, vappS_arr, vappC_some, vrangeK_str, vnextK_ptr, vnextC_iter, vcallF_func, vcallQ_some, vcallQ_none, ↓vrun_b, vrunB_true, vrunB_false, vrunQ_some, ↓vstepD_free, ↓vstepD_guard, vguardD_some, vtestD_bool, vtestD_tup, gslotL, quietSyn, vnote_nil, vsafe_nil, vsafe_rd_nil, vsafe_same, vnote, vreads, vreads1, List.any_cons, List.any_nil, Nat.reduceBEq, vq, vev, vconst, vconst1, Env.putO_some, Env.putO_none, Env.put_at, Env.of_cons, Env.of_nil, envAt_cons, envAt_nil, vthen_normal, vthen_exit, vthen_ret, vblock_normal, vblock_exit, vblock_ret, vexit_normal, vexit_exit, vexit_ret, heldE, heldQ, held2, ↓reduceIte, reduceCtorEq, Nat.reduceEqDiff, Nat.reduceAdd, Nat.reduceMul, Nat.reduceLT, Nat.reduceLeDiff, Nat.zero_add, Nat.add_zero, List.map_cons, List.map_nil, List.nil_append, List.append_nil, List.cons_append, List.length_cons, List.length_nil, List.getElem?_cons_zero, List.getElem?_cons_succ, List.getElem?_nil, true_and, and_true, and_self, vbuiltinQ, vlen, vbin, vun, veq, vite, vextract, vslice, vlow, vhigh, vdrop, vtake, vless, vindex, vindexAddr, vread, vload, vfield, vfieldAddr, vconvert, vstore, vflat, vsplice, vfill, Option.map_some, Option.map_none, Option.bind_some, Option.bind_none, Option.isSome_some, Option.isSome_none, Option.isNone_none, Option.isNone_some, isConst, over_next, over_nil, over_cons, Heap.put_get, Heap.put_next, Heap.alloc_get, Heap.alloc_next, Heap.del_get, Heap.del_next, vpost_ret, vpost_normal, vpostK_some, vresL, vres1, vone, keeps_nil, keeps_cons, tells_nil, tells_cons, Bool.false_eq_true, Bool.true_eq_false, Bool.not_true, Bool.not_false, if_true, if_false, Bool.true_or, Bool.or_true, Bool.false_or, Bool.or_false, Bool.and_true, Bool.true_and, Bool.and_false, Bool.false_and, decide_true, decide_false, Nat.reduceAnd, List.take_succ_cons, List.take_zero, List.take_nil, List.drop_succ_cons, List.drop_zero, List.drop_nil, V.scalarL, V.scalar, V.closedL, V.closed, Array.toList, List.toList_toArray, not_true_eq_false, not_false_eq_true, List.getD_cons_zero, List.getD_cons_succ, ite_self, Nat.reduceSub, Int.reduceToNat, Int.toNat_natCast, T11_ord, T11_ghost, u3, u4, u5, u9, u21, u22, u23, u35, te22, te35, ag3, ag5, ag9, ag33, z33, z9, st33, c33, c9, c3, i33, i9, i3, b33, b9, f33_0, f33_1, f33_2, p33_0, p33_1, p33_2, k33, g33, g9, s22]
        rw [if_neg (by omega)]
        refine dn true ?_ _ fun _ _ => rfl
        have e : a = b := by
          have := h2
          rwa [List.take_length, hl, List.take_length] at this
        simp [e]
theorem hk : lexL [49, 46, 46, 50, 46, 53] = ⟨[⟨2, [49], 0⟩, ⟨4, [46, 46], 1⟩, ⟨2, [50, 46, 53], 3⟩], 6, 0⟩ := by decide +kernel
theorem hthen : wordB [116, 104, 101, 110] = true := by decide +kernel
def SK : Specs := (Specs.none.add 9 g9L).add 12 g12
theorem SK_at (f : FuncId) (xs : List V) (G : Heap) : SK f xs G = ((Specs.none.add 9 g9L).add 12 g12) f xs G := rfl
theorem okK : SOk Tryd.prog SK := by
  refine ((SOk.none _).add ?_).add ?_
  · intro xs G p v e hp
    unfold g9L at e
    split at e
    · cases e; exact lex_walk _ G
    · cases e
  · intro xs G p v e hp
    unfold g12 at e
    split at e
    · cases e; exact word_walk _ hp G
    · cases e
theorem ok14 : fnOk Tryd.prog 14 T0 0 = true := by kernel_rfl
theorem known_walk (G : Heap) : VPure Tryd.prog 14 [] G (.bool true) := by
  refine VCalls.of okK mixed T0 ok14 fun hG => ?_
  simp (maxSteps := 1000000) -dsimp -implicitDefEqProofs only [fnB_some, eq_self, Nat.mul_one, Int.le_refl, Int.reduceLE, Int.reduceLT, vbyte, decide_eq_true_eq, ↓vwp_skip, ↓vwp_region, ↓vwp_seq, ↓vwp_cond, ↓vwp_block, ↓vwp_loop, ↓vwp_exit, ↓vwp_ret, ↓vwp_label, vghost_false, vghost_true, vcond_bool, ↓vregion_ordered, ↓vregion_drawn, vops_nil, vops_cons, vopsD_nil, vopsD_cons, ↓rowsOf_eq, rowsL, nthL, rowsC_some, ↓vstep_free, ↓vstep_guard, vguard_some, vtest_bool, vtest_tup, ↓vop_q, vopQ_some, vopQ_none, ↓vloud_call, ↓vloud_alloc, ↓vloud_box, ↓vloud_buildSlice, ↓vloud_store, ↓vloud_make, ↓vloud_append, ↓vloud_range, ↓vloud_next, vallocK_some, vbuildE_some, vbuildZ_some, vbuildC_some, vstoreK_ptr, vstoreC_some, vmakeK_int, vmakeZ_some, vappT_some, vappR_some, vappS_nil1, vappS_nil, vappS_slc, vappS_arr, vappC_some, vrangeK_str, vnextK_ptr, vnextC_iter, vcallF_func, vcallQ_some, vcallQ_none, ↓vrun_b, vrunB_true, vrunB_false, vrunQ_some, ↓vstepD_free, ↓vstepD_guard, vguardD_some, vtestD_bool, vtestD_tup, gslotL, quietSyn, vnote_nil, vsafe_nil, vsafe_rd_nil, vsafe_same, vnote, vreads, vreads1, List.any_cons, List.any_nil, Nat.reduceBEq, vq, vev, vconst, vconst1, Env.putO_some, Env.putO_none, Env.put_at, Env.of_cons, Env.of_nil, envAt_cons, envAt_nil, vthen_normal, vthen_exit, vthen_ret, vblock_normal, vblock_exit, vblock_ret, vexit_normal, vexit_exit, vexit_ret, heldE, heldQ, held2, ↓reduceIte, reduceCtorEq, Nat.reduceEqDiff, Nat.reduceAdd, Nat.reduceMul, Nat.reduceLT, Nat.reduceLeDiff, Nat.zero_add, Nat.add_zero, List.map_cons, List.map_nil, List.nil_append, List.append_nil, List.cons_append, List.length_cons, List.length_nil, List.getElem?_cons_zero, List.getElem?_cons_succ, List.getElem?_nil, true_and, and_true, and_self, vbuiltinQ, vlen, vbin, vun, veq, vite, vextract, vslice, vlow, vhigh, vdrop, vtake, vless, vindex, vindexAddr, vread, vload, vfield, vfieldAddr, vconvert, vstore, vflat, vsplice, vfill, Option.map_some, Option.map_none, Option.bind_some, Option.bind_none, Option.isSome_some, Option.isSome_none, Option.isNone_none, Option.isNone_some, isConst, over_next, over_nil, over_cons, Heap.put_get, Heap.put_next, Heap.alloc_get, Heap.alloc_next, Heap.del_get, Heap.del_next, vpost_ret, vpost_normal, vpostK_some, vresL, vres1, vone, keeps_nil, keeps_cons, tells_nil, tells_cons, Bool.false_eq_true, Bool.true_eq_false, Bool.not_true, Bool.not_false, if_true, if_false, Bool.true_or, Bool.or_true, Bool.false_or, Bool.or_false, Bool.and_true, Bool.true_and, Bool.and_false, Bool.false_and, decide_true, decide_false, Nat.reduceAnd, List.take_succ_cons, List.take_zero, List.take_nil, List.drop_succ_cons, List.drop_zero, List.drop_nil, V.scalarL, V.scalar, V.closedL, V.closed, Array.toList, List.toList_toArray, not_true_eq_false, not_false_eq_true, List.getD_cons_zero, List.getD_cons_succ, ite_self, Nat.reduceSub, Int.reduceToNat, Int.toNat_natCast, fnWp_some Tryd.func14, Tryd.f14, T0, u3, u4, u5, u9, u21, u22, u23, u35, te22, te35, ag3, ag5, ag9, ag33, z33, z9, st33, c33, c9, c3, i33, i9, i3, b33, b9, f33_0, f33_1, f33_2, p33_0, p33_1, p33_2, k33, g33, g9, s22, SK_at, add_at, g9L, g12, hk, hthen, Lexed.v, toksC, List.flatMap_cons, List.flatMap_nil, Tok.cells, velem]
  rw [if_pos (by decide)]
  exact ⟨by decide, by decide, VDone.back hG (fun _ _ => rfl) rfl rfl⟩

def g14 : List V → Option (Prop × V)
  | [] => some (True, .bool true)
  | _ => none
def gR10 : List V → Option (Prop × V)
  | [.str s] => some (True, (lexL s).v)
  | _ => none
/-- What a law may call. -/
def SL : Specs := ((SK.add 10 gR10).add 11 g11).add 13 g13
def SM : Specs := SL.add 14 g14
theorem SM_at (f : FuncId) (xs : List V) (G : Heap) : SM f xs G = (((((Specs.none.add 9 g9L).add 12 g12).add 10 gR10).add 11 g11).add 13 g13 |>.add 14 g14) f xs G := rfl
theorem okM : SOk Tryd.prog SM := by
  refine (((okK.add ?_).add ?_).add ?_).add ?_
  · intro xs G p v e hp
    unfold gR10 at e
    split at e
    · cases e; exact refLex_walk _ G
    · cases e
  · intro xs G p v e hp
    unfold g11 at e
    split at e
    · rename_i n x m y
      cases e
      obtain ⟨⟨h1, h2, h3⟩, h4, h5, h6⟩ := hp
      have := same_walk (toksD x) (toksD y) (by omega) (by omega) G
      rw [← h1, ← h4, ← h2, ← h5] at this
      exact this
    · cases e
  · intro xs G p v e hp
    unfold g13 at e
    split at e
    · cases e; exact wordR_walk _ G
    · cases e
  · intro xs G p v e hp
    unfold g14 at e
    split at e
    · cases e; exact known_walk G
    · cases e

theorem lexGo_len {s : List UInt8} : ∀ {f p : Nat} {acc : List Tok}, acc.length ≤ 60 → (lexGo s f p acc).toks.length ≤ 60
  | 0, _, _, _ => by simp [lexGo]
  | f + 1, p, acc, h => by
    unfold lexGo
    split
    · split
      · simp
      · rename_i h1
        split
        · simp
        · rename_i h2
          exact lexGo_len (by rw [List.length_append]; simp; rcases Nat.lt_or_ge acc.length 60 with h' | h'; · omega
                              · exact (h1 ⟨Classical.not_not.1 h2, h'⟩).elim)
    · exact h
theorem lexL_len (s : List UInt8) : (lexL s).toks.length ≤ 60 := by
  unfold lexL
  split
  · simp
  · exact lexGo_len (by simp)

theorem ok3 : fnOk Tryd.prog 3 T0 2 = true := by kernel_rfl
theorem lexTells_walk (s w : List UInt8) (G : Heap) : VPure Tryd.prog 3 [.str s, .str w] G (.bool true) := by
  refine VCalls.of okM mixed T0 ok3 fun hG => ?_
  have l1 := lexL_len s
  have c1 : (lexL s).toks.length ≤ 1000 := by omega
  simp (maxSteps := 1000000) -dsimp -implicitDefEqProofs only [fnB_some, eq_self, Nat.mul_one, Int.le_refl, Int.reduceLE, Int.reduceLT, vbyte, decide_eq_true_eq, ↓vwp_skip, ↓vwp_region, ↓vwp_seq, ↓vwp_cond, ↓vwp_block, ↓vwp_loop, ↓vwp_exit, ↓vwp_ret, ↓vwp_label, vghost_false, vghost_true, vcond_bool, ↓vregion_ordered, ↓vregion_drawn, vops_nil, vops_cons, vopsD_nil, vopsD_cons, ↓rowsOf_eq, rowsL, nthL, rowsC_some, ↓vstep_free, ↓vstep_guard, vguard_some, vtest_bool, vtest_tup, ↓vop_q, vopQ_some, vopQ_none, ↓vloud_call, ↓vloud_alloc, ↓vloud_box, ↓vloud_buildSlice, ↓vloud_store, ↓vloud_make, ↓vloud_append, ↓vloud_range, ↓vloud_next, vallocK_some, vbuildE_some, vbuildZ_some, vbuildC_some, vstoreK_ptr, vstoreC_some, vmakeK_int, vmakeZ_some, vappT_some, vappR_some, vappS_nil1, vappS_nil, vappS_slc, vappS_arr, vappC_some, vrangeK_str, vnextK_ptr, vnextC_iter, vcallF_func, vcallQ_some, vcallQ_none, ↓vrun_b, vrunB_true, vrunB_false, vrunQ_some, ↓vstepD_free, ↓vstepD_guard, vguardD_some, vtestD_bool, vtestD_tup, gslotL, quietSyn, vnote_nil, vsafe_nil, vsafe_rd_nil, vsafe_same, vnote, vreads, vreads1, List.any_cons, List.any_nil, Nat.reduceBEq, vq, vev, vconst, vconst1, Env.putO_some, Env.putO_none, Env.put_at, Env.of_cons, Env.of_nil, envAt_cons, envAt_nil, vthen_normal, vthen_exit, vthen_ret, vblock_normal, vblock_exit, vblock_ret, vexit_normal, vexit_exit, vexit_ret, heldE, heldQ, held2, ↓reduceIte, reduceCtorEq, Nat.reduceEqDiff, Nat.reduceAdd, Nat.reduceMul, Nat.reduceLT, Nat.reduceLeDiff, Nat.zero_add, Nat.add_zero, List.map_cons, List.map_nil, List.nil_append, List.append_nil, List.cons_append, List.length_cons, List.length_nil, List.getElem?_cons_zero, List.getElem?_cons_succ, List.getElem?_nil, true_and, and_true, and_self, vbuiltinQ, vlen, vbin, vun, veq, vite, vextract, vslice, vlow, vhigh, vdrop, vtake, vless, vindex, vindexAddr, vread, vload, vfield, vfieldAddr, vconvert, vstore, vflat, vsplice, vfill, Option.map_some, Option.map_none, Option.bind_some, Option.bind_none, Option.isSome_some, Option.isSome_none, Option.isNone_none, Option.isNone_some, isConst, over_next, over_nil, over_cons, Heap.put_get, Heap.put_next, Heap.alloc_get, Heap.alloc_next, Heap.del_get, Heap.del_next, vpost_ret, vpost_normal, vpostK_some, vresL, vres1, vone, keeps_nil, keeps_cons, tells_nil, tells_cons, Bool.false_eq_true, Bool.true_eq_false, Bool.not_true, Bool.not_false, if_true, if_false, Bool.true_or, Bool.or_true, Bool.false_or, Bool.or_false, Bool.and_true, Bool.true_and, Bool.and_false, Bool.false_and, decide_true, decide_false, Nat.reduceAnd, List.take_succ_cons, List.take_zero, List.take_nil, List.drop_succ_cons, List.drop_zero, List.drop_nil, V.scalarL, V.scalar, V.closedL, V.closed, Array.toList, List.toList_toArray, not_true_eq_false, not_false_eq_true, List.getD_cons_zero, List.getD_cons_succ, ite_self, Nat.reduceSub, Int.reduceToNat, Int.toNat_natCast, fnWp_some Tryd.func3, Tryd.f3, T0, u3, u4, u5, u9, u21, u22, u23, u35, te22, te35, ag3, ag5, ag9, ag33, z33, z9, st33, c33, c9, c3, i33, i9, i3, b33, b9, f33_0, f33_1, f33_2, p33_0, p33_1, p33_2, k33, g33, g9, s22, SM_at, add_at, g9L, g12, gR10, g11, g13, g14, Lexed.v, toksD_C, c1]
  have dn : VDone G.next (.bool true) G fun u G' => u = .bool true ∧ G' = G := VDone.back hG (fun _ _ => rfl) rfl rfl
  split
  · split
    · exact dn
    · rename_i h
      rw [if_pos (wordB_R w (by omega))]
      exact ⟨by omega, dn⟩
  · exact dn
end Go.Vf
