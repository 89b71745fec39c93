/- CellRows: a row of tests holds where one of them does, and not of it where none does; for every one to six numbers and every number from 0 to 31; other rows are let by -/
import Derived.Test.YtkcdhmplinjldaaGreatDoorBATz
import Derived.Test.YtkcdhmplinjldaaGreatDoorBATj
import Derived.Carry
set_option linter.unusedVariables false
set_option linter.unusedSimpArgs false
namespace Go.Proofs.YtkcdhmplinjldaaGreatDoor
open Go.ChangeShapes Go.ChangeMaps Go.WideShapes Go.ChangeAt Go.RowKit Go.Vf
theorem wrel1 {W : World} (h : Go.Vf.Met W) : WRel (rho1 W) heap0 W where
  met := h
  below := Below.refl _ _
  imm _ _ _ e := e
  lt _ _ e := by cases e
  wf _ _ e := by cases e
  late _ _ _ e := by cases e
  live _ _ e := by cases e
  apart _ _ _ _ e := by cases e
  inj _ _ _ _ _ _ _ e := by cases e
theorem calls_of1 {f : FuncId} {vs : List V} {xs : List Value} {b : Bool} {W : World} (h : ∀ G, VPure Tryz.prog f vs G (.bool b)) (hm : Go.Vf.Met W) (hx : VRs (rho1 W) 0 vs xs) :
    Calls Tryz.prog f xs.toArray W fun e W' => e = .returned (.bool b) ∧ Below W.heap.size W W' := by
  refine ((h heap0).2 (rho1 W) W xs (wrel1 hm) hx).mono ?_
  rintro e W' ⟨x, ρ', v, G', rfl, hW, hle, _, hv, rfl, _⟩
  refine ⟨?_, ?_⟩
  · cases hv; rfl
  · have := hW.below
    rw [hle.base] at this
    exact this
theorem cellRows_witness (os : Os) (H : Type) (enc : TypeId × Value → H) :
    (OpenSpec.ofChange Rows.cellRowsSpec).preRow enc Tryz.prog Tryz.f6 Rows.cellRowsRow.domain false Rows.cellRowsRow.laid ((laidWorld os).forCall (fun _ _ => 0) ⟨#[], #[.slice none 0 0, .int .i64 0], []⟩).memory #[.slice none 0 0, .int .i64 0] := by
  have hw : (DataW.whole enc Tryz.prog ((laidWorld os).forCall (fun _ _ => 0) ⟨#[], #[.slice none 0 0, .int .i64 0], []⟩).memory Tryz.f6.params.toList (OpenSpec.ofChange Rows.cellRowsSpec).vars false (#[.slice none 0 0, .int .i64 0] : Array Value).toList 8).map (fun x => (x.1, x.2.1)) =
      some ([.nil, .lit (.int .i64 0)], []) := by kernel_rfl
  obtain ⟨⟨x1, x2, x3⟩, hx, hx1⟩ := Option.map_eq_some_iff.1 hw
  simp only [Prod.mk.injEq] at hx1
  obtain ⟨rfl, rfl⟩ := hx1
  exact OpenSpec.preRow_of_cond 8 hx (by kernel_rfl) (fun k hk => by cases hk) (by kernel_rfl) (laid_met os _)
set_option maxRecDepth 100000 in
theorem cellRows_lifted (os : Os) (started : os.Started) (H : Type) (enc : TypeId × Value → H) (F : Stop.Interp) :
    ReturnsInHanded {} Tryz.checked os 6 .any ((OpenSpec.ofChange Rows.cellRowsSpec).preRow enc Tryz.prog Tryz.f6 Rows.cellRowsRow.domain false Rows.cellRowsRow.laid) (((OpenSpec.ofChange Rows.cellRowsSpec).at F).post enc Tryz.prog Tryz.f6 false true false false) := by
  refine returnsInHanded_of_row (C := Tryz.checked) (s := OpenSpec.ofChange Rows.cellRowsSpec) ownKnobs started (by kernel_rfl) Tryz.func6
    (witness_row_atRef (enc := enc) (C := Tryz.checked) false (laidWorld os) #[.slice none 0 0, .int .i64 0] rfl (by kernel_rfl) (by kernel_rfl) (by kernel_rfl) (cellRows_witness os H enc)) ?_
  intro W base args ds gs before hval0 hW _ _ _ hL hsh _
  have hval : ∀ (j : Nat) t v, Tryz.f6.params[j]? = some t → args[j]? = some v → Value.okWide Tryz.prog W .any base t v := hval0
  have hW' := hW
  obtain ⟨p, q, hA0, hV0, rfl, _, _⟩ := hW
  have hA : DataW.TrodAll enc Tryz.prog W 0 (fun _ => true) true Tryz.f6.params.toList args.toList ds p := hA0
  rw [Tryz.params6] at hA hval
  obtain ⟨v0, v1, d0, d1, p0, p1, rfl, rfl, rfl, h0, h1⟩ := trodAll_two hA
  obtain ⟨rfl, rfl⟩ := trodVars_none hV0
  obtain ⟨a0, n0, c0', rfl⟩ := okWide_slice Tryz.underlying46 (hval 0 46 v0 rfl rfl)
  obtain ⟨s1, rfl, rfl, rfl, w1⟩ := open_int Tryz.underlying3 (hval 1 3 v1 rfl rfl) h1
  obtain ⟨fu0, ht0⟩ := h0
  obtain ⟨l, hl, vr0⟩ := ints_of (n := 0) fu0 _ _ ht0
  clear hA0 hV0 hval0
  have hm : Go.Vf.Met W := met_of hL hsh
  refine (calls_of1 (f := 6) (fun G => cellRows_walk l s1 hl G) hm (.cons vr0 (.cons (.int _ _) .nil))).mono ?_
  rintro e W' ⟨rfl, bel⟩
  refine ⟨_, rfl, _, _, _, [], p0 ++ [], [], hW', trodAll_mk1 (shut_bool Tryz.underlying4 true), trodAll_mk2 (Below.trod laidOut (by kernel_rfl) (of_decide_eq_true (by kernel_rfl)) ⟨fu0, ht0⟩ bel fun x hx => DataW.trod_lt _ _ _ _ ht0 x hx) (shut_int Tryz.underlying3 w1), rfl, bel.frame _, fun h => by cases h⟩
theorem cellRows_said : Rows.CellRowsSaid :=
  OpenClaim.holds_of_cond 6 Tryz.f6 rfl rfl rfl rfl rfl rfl rfl ⟨rfl, rfl, rfl, rfl, rfl⟩ rfl rfl rfl rfl rfl (by kernel_rfl) Tryz.func6 (by kernel_rfl)
    (of_decide_eq_true (by kernel_rfl)) (by unfold Func.isWrapper; rw [if_neg (of_decide_eq_false (by kernel_rfl))]; exact ⟨rfl, rfl⟩)
    (fun os started H enc _ F0 => by rw [OpenClaim.pre_eq_preRow]; exact cellRows_lifted os started H enc F0)
theorem cellRows_card : Rows.CellRowsCardSaid :=
  Claim7.holds_tied_plain_at .later [] [.data, .data, .data, .data, .sentinel, .sentinel, .listed, .data, .pinned] true (true, "00c62cd7766f19fa2abae23fb42cb6ca6f3e0f4871f842132c6e44a30c0f2f9f") true
    cellRows_said (fun _ h => by cases h) (by kernel_rfl) (fun _ h => by cases h) cellRows_row_tie rfl ⟨rfl, rfl⟩ (by kernel_rfl) rfl
    (fun f fn hf hfn => by
      obtain rfl : f = 6 := Option.some.inj ((show Tryz.prog.funcNamed Rows.cellRowsRow.func = some 6 by kernel_rfl).symm.trans hf) |>.symm
      obtain rfl : fn = Tryz.f6 := (Option.some.inj (Tryz.func6.symm.trans hfn)).symm
      exact ⟨by kernel_rfl, fun j t ht => by
        rw [Tryz.params6] at ht
        rcases j with _ | j
        · have h0 : 46 = t := by simpa using ht
          subst h0
          exact (show Tryz.prog.wantsStandIn 46 = false by kernel_rfl)
        rcases j with _ | j
        · have h1 : 3 = t := by simpa using ht
          subst h1
          exact (show Tryz.prog.wantsStandIn 3 = false by kernel_rfl)
        simp at ht⟩)
    (by kernel_rfl)
#print axioms cellRows_card
end Go.Proofs.YtkcdhmplinjldaaGreatDoor
