/- FeelSame: of any two expressions it is told whether they are one, as the document says, and each is one with itself; for every two expressions of a size below 500; greater ones are let by -/
import Derived.Test.YtfkojpljgafieaaGreatDoorQZ
import Derived.Test.YtfkojpljgafieaaGreatDoorRd
import Derived.Carry
set_option linter.unusedVariables false
set_option linter.unusedSimpArgs false
namespace Go.Proofs.YtfkojpljgafieaaGreatDoor
open Go.ChangeShapes Go.ChangeMaps Go.WideShapes Go.ChangeAt Go.RowKit Go.Vf

theorem wrel1 {W : World} (h : Go.Vf.Met W) : WRel (rho1 W) heap0 W where
  met := h
  below := Below.refl _ _
  imm _ _ _ e := e
  lt _ _ e := by cases e
  wf _ _ e := by cases e
  late _ _ _ e := by cases e
  live _ _ e := by cases e
  apart _ _ _ _ e := by cases e
  inj _ _ _ _ _ _ _ e := by cases e
theorem calls_of1 {f : FuncId} {vs : List V} {xs : List Value} {b : Bool} {W : World} (h : ∀ G, VPure Tryz.prog f vs G (.bool b)) (hm : Go.Vf.Met W) (hx : VRs (rho1 W) 0 vs xs) :
    Calls Tryz.prog f xs.toArray W fun e W' => e = .returned (.bool b) ∧ Below W.heap.size W W' := by
  refine ((h heap0).2 (rho1 W) W xs (wrel1 hm) hx).mono ?_
  rintro e W' ⟨x, ρ', v, G', rfl, hW, hle, _, hv, rfl, _⟩
  refine ⟨?_, ?_⟩
  · cases hv; rfl
  · have := hW.below
    rw [hle.base] at this
    exact this
theorem feelSame_witness (os : Os) (H : Type) (enc : TypeId × Value → H) :
    (OpenSpec.ofChange Rows.feelSameSpec).preRow enc Tryz.prog Tryz.f10 Rows.feelSameRow.domain false Rows.feelSameRow.laid ((laidWorld os).forCall (fun _ _ => 0) ⟨#[], #[.agg #[.int .i64 0, .bool false, .int .i64 0, .int .i64 0, .string ⟨#[]⟩, .bool false, .bool false, .slice none 0 0], .agg #[.int .i64 0, .bool false, .int .i64 0, .int .i64 0, .string ⟨#[]⟩, .bool false, .bool false, .slice none 0 0]], []⟩).memory #[.agg #[.int .i64 0, .bool false, .int .i64 0, .int .i64 0, .string ⟨#[]⟩, .bool false, .bool false, .slice none 0 0], .agg #[.int .i64 0, .bool false, .int .i64 0, .int .i64 0, .string ⟨#[]⟩, .bool false, .bool false, .slice none 0 0]] := by
  have hw : (DataW.whole enc Tryz.prog ((laidWorld os).forCall (fun _ _ => 0) ⟨#[], #[.agg #[.int .i64 0, .bool false, .int .i64 0, .int .i64 0, .string ⟨#[]⟩, .bool false, .bool false, .slice none 0 0], .agg #[.int .i64 0, .bool false, .int .i64 0, .int .i64 0, .string ⟨#[]⟩, .bool false, .bool false, .slice none 0 0]], []⟩).memory Tryz.f10.params.toList (OpenSpec.ofChange Rows.feelSameSpec).vars false (#[.agg #[.int .i64 0, .bool false, .int .i64 0, .int .i64 0, .string ⟨#[]⟩, .bool false, .bool false, .slice none 0 0], .agg #[.int .i64 0, .bool false, .int .i64 0, .int .i64 0, .string ⟨#[]⟩, .bool false, .bool false, .slice none 0 0]] : Array Value).toList 8).map (fun x => (x.1, x.2.1)) =
      some ([.agg [.lit (.int .i64 0), .lit (.bool false), .agg [.lit (.int .i64 0), .lit (.int .i64 0)], .lit (.string []), .lit (.bool false), .lit (.bool false), .nil], .agg [.lit (.int .i64 0), .lit (.bool false), .agg [.lit (.int .i64 0), .lit (.int .i64 0)], .lit (.string []), .lit (.bool false), .lit (.bool false), .nil]], []) := by kernel_rfl
  obtain ⟨⟨x1, x2, x3⟩, hx, hx1⟩ := Option.map_eq_some_iff.1 hw
  simp only [Prod.mk.injEq] at hx1
  obtain ⟨rfl, rfl⟩ := hx1
  exact OpenSpec.preRow_of_cond 8 hx (by kernel_rfl) (fun k hk => by cases hk) (by kernel_rfl) (laid_met os _)

set_option maxRecDepth 100000 in
theorem feelSame_lifted (os : Os) (started : os.Started) (H : Type) (enc : TypeId × Value → H) (F : Stop.Interp) :
    ReturnsInHanded {} Tryz.checked os 10 .any ((OpenSpec.ofChange Rows.feelSameSpec).preRow enc Tryz.prog Tryz.f10 Rows.feelSameRow.domain false Rows.feelSameRow.laid) (((OpenSpec.ofChange Rows.feelSameSpec).at F).post enc Tryz.prog Tryz.f10 false true false false) := by
  refine returnsInHanded_of_row (C := Tryz.checked) (s := OpenSpec.ofChange Rows.feelSameSpec) ownKnobs started (by kernel_rfl) Tryz.func10
    (witness_row_atRef (enc := enc) (C := Tryz.checked) false (laidWorld os) #[.agg #[.int .i64 0, .bool false, .int .i64 0, .int .i64 0, .string ⟨#[]⟩, .bool false, .bool false, .slice none 0 0], .agg #[.int .i64 0, .bool false, .int .i64 0, .int .i64 0, .string ⟨#[]⟩, .bool false, .bool false, .slice none 0 0]] rfl (by kernel_rfl) (by kernel_rfl) (by kernel_rfl) (feelSame_witness os H enc)) ?_
  intro W base args ds gs before hval0 hW _ _ _ hL hsh _
  have hval : ∀ (j : Nat) t v, Tryz.f10.params[j]? = some t → args[j]? = some v → Value.okWide Tryz.prog W .any base t v := hval0
  have hW' := hW
  obtain ⟨p, q, hA0, hV0, rfl, _, _⟩ := hW
  have hA : DataW.TrodAll enc Tryz.prog W 0 (fun _ => true) true Tryz.f10.params.toList args.toList ds p := hA0
  rw [Tryz.params10] at hA hval
  obtain ⟨v0, v1, d0, d1, p0, p1, rfl, rfl, rfl, h0, h1⟩ := trodAll_two hA
  obtain ⟨rfl, rfl⟩ := trodVars_none hV0
  have ok0 := hval 0 26 v0 rfl rfl
  have ok1 := hval 1 26 v1 rfl rfl
  unfold Value.okWide at ok0 ok1
  rw [Tryz.underlying26] at ok0 ok1
  obtain ⟨cs0, rfl, -, -⟩ := ok0
  obtain ⟨cs1, rfl, -, -⟩ := ok1
  obtain ⟨fu0, ht0⟩ := h0
  obtain ⟨fu1, ht1⟩ := h1
  obtain ⟨e0, fe0, vr0⟩ := ex_of (n := 0) fu0 cs0.toList _ ht0
  obtain ⟨e1, fe1, vr1⟩ := ex_of (n := 0) fu1 cs1.toList _ ht1
  clear hA0 hV0 hval0
  have hm : Go.Vf.Met W := met_of hL hsh
  have a0 : VR (rho1 W) 0 (.agg e0.cells) (.agg cs0) := vr0.agg
  have a1 : VR (rho1 W) 0 (.agg e1.cells) (.agg cs1) := vr1.agg
  refine (calls_of1 (f := 10) (fun G => feelSame_walk e0 e1 fe0 fe1 G) hm (.cons a0 (.cons a1 .nil))).mono ?_
  rintro e W' ⟨rfl, bel⟩
  refine ⟨_, rfl, _, _, _, [], p0 ++ p1, [], hW', trodAll_mk1 (shut_bool Tryz.underlying4 true), trodAll_mk2 (Below.trod laidOut (by kernel_rfl) (of_decide_eq_true (by kernel_rfl)) ⟨fu0, ht0⟩ bel fun x hx => DataW.trod_lt _ _ _ _ ht0 x hx) (Below.trod laidOut (by kernel_rfl) (of_decide_eq_true (by kernel_rfl)) ⟨fu1, ht1⟩ bel fun x hx => DataW.trod_lt _ _ _ _ ht1 x hx), rfl, bel.frame _, fun h => by cases h⟩

theorem feelSame_said : Rows.FeelSameSaid :=
  OpenClaim.holds_of_cond 10 Tryz.f10 rfl rfl rfl rfl rfl rfl rfl ⟨rfl, rfl, rfl, rfl, rfl⟩ rfl rfl rfl rfl rfl (by kernel_rfl) Tryz.func10 (by kernel_rfl)
    (of_decide_eq_true (by kernel_rfl)) (by unfold Func.isWrapper; rw [if_neg (of_decide_eq_false (by kernel_rfl))]; exact ⟨rfl, rfl⟩)
    (fun os started H enc _ F0 => by rw [OpenClaim.pre_eq_preRow]; exact feelSame_lifted os started H enc F0)

theorem feelSame_card : Rows.FeelSameCardSaid :=
  Claim7.holds_tied_plain_at .later [] [.data, .data, .data, .data, .sentinel, .sentinel, .listed, .data, .pinned] true (true, "ec6b1e8d7c90f0a0b5089990b7f8131cfd958bef40adde1a6d00dc681f05bbc9") true
    feelSame_said (fun _ h => by cases h) (by kernel_rfl) (fun _ h => by cases h) feelSame_row_tie rfl ⟨rfl, rfl⟩ (by kernel_rfl) rfl
    (fun f fn hf hfn => by
      obtain rfl : f = 10 := Option.some.inj ((show Tryz.prog.funcNamed Rows.feelSameRow.func = some 10 by kernel_rfl).symm.trans hf) |>.symm
      obtain rfl : fn = Tryz.f10 := (Option.some.inj (Tryz.func10.symm.trans hfn)).symm
      exact ⟨by kernel_rfl, fun j t ht => by
        rw [Tryz.params10] at ht
        rcases j with _ | j
        · have h0 : 26 = t := by simpa using ht
          subst h0
          exact (show Tryz.prog.wantsStandIn 26 = false by kernel_rfl)
        rcases j with _ | j
        · have h1 : 26 = t := by simpa using ht
          subst h1
          exact (show Tryz.prog.wantsStandIn 26 = false by kernel_rfl)
        simp at ht⟩)
    (by kernel_rfl)
#print axioms feelSame_card
end Go.Proofs.YtfkojpljgafieaaGreatDoor
