/- A part of the proof: Ta, Tb. -/
import Derived.Test.YtkcdhmplinjldaaGreatDoorBASw
import Derived.Test.YtkcdhmplinjldaaGreatDoorBASg
set_option linter.unusedVariables false
set_option linter.unusedSimpArgs false
namespace Go.Vf
open Go.Proofs Go.RowKit
theorem ok_dis : fnOk Tryz.prog 101 T0 1 = true := by kernel_rfl
set_option maxRecDepth 100000 in
theorem dis_walk (m s : Int) (G : Heap) : VPure Tryz.prog 101 [.agg [.int .i64 m, .int .i64 s]] G (.bool (decIs m s)) := by
  refine VCalls.of (SOk.none _) mixed T0 ok_dis fun hG => ?_
  unfold decIs
  by_cases h1 : -1000000000 ≤ m
  case neg =>
    simp (maxSteps:=999999) -dsimp -implicitDefEqProofs only [↓eqD,eqU,eqV,eqW,vbuiltinQ,vlen,vslice,vindex,vstore,Array.toList,simprocAttr,fnWp_some Tryz.func101,Tryz.f101,T0,FB,FC,none_at,f23_0,f23_1,p23_0,p23_1,st23,ag23,z23,c23,i23,h1]; (repeat ((with_reducible (refine And.intro ?_ ?_)); (focus (first | omega | exact ⟨by omega, by omega⟩))))
    (repeat ((with_reducible (refine And.intro ?_ ?_)); (focus (first | omega | exact ⟨by omega, by omega⟩)))); (refine VDone.back hG ?_ rfl ?_); (intro j hj; first | rfl | simp (maxSteps:=999999) -dsimp -implicitDefEqProofs only [↓eqD,eqU,eqV,eqW,vbuiltinQ,vlen,vslice,vindex,vstore,Array.toList,simprocAttr,lt6 hj]); (first | rfl | simp [h1])
  by_cases h2 : m ≤ 1000000000
  case neg =>
    simp (maxSteps:=999999) -dsimp -implicitDefEqProofs only [↓eqD,eqU,eqV,eqW,vbuiltinQ,vlen,vslice,vindex,vstore,Array.toList,simprocAttr,fnWp_some Tryz.func101,Tryz.f101,T0,FB,FC,none_at,f23_0,f23_1,p23_0,p23_1,st23,ag23,z23,c23,i23,h1,h2]; (repeat ((with_reducible (refine And.intro ?_ ?_)); (focus (first | omega | exact ⟨by omega, by omega⟩))))
    (repeat ((with_reducible (refine And.intro ?_ ?_)); (focus (first | omega | exact ⟨by omega, by omega⟩)))); (refine VDone.back hG ?_ rfl ?_); (intro j hj; first | rfl | simp (maxSteps:=999999) -dsimp -implicitDefEqProofs only [↓eqD,eqU,eqV,eqW,vbuiltinQ,vlen,vslice,vindex,vstore,Array.toList,simprocAttr,lt6 hj]); (first | rfl | simp [h1, h2])
  by_cases h3 : 0 ≤ s
  case neg =>
    simp (maxSteps:=999999) -dsimp -implicitDefEqProofs only [↓eqD,eqU,eqV,eqW,vbuiltinQ,vlen,vslice,vindex,vstore,Array.toList,simprocAttr,fnWp_some Tryz.func101,Tryz.f101,T0,FB,FC,none_at,f23_0,f23_1,p23_0,p23_1,st23,ag23,z23,c23,i23,h1,h2,h3]; (repeat ((with_reducible (refine And.intro ?_ ?_)); (focus (first | omega | exact ⟨by omega, by omega⟩))))
    (repeat ((with_reducible (refine And.intro ?_ ?_)); (focus (first | omega | exact ⟨by omega, by omega⟩)))); (refine VDone.back hG ?_ rfl ?_); (intro j hj; first | rfl | simp (maxSteps:=999999) -dsimp -implicitDefEqProofs only [↓eqD,eqU,eqV,eqW,vbuiltinQ,vlen,vslice,vindex,vstore,Array.toList,simprocAttr,lt6 hj]); (first | rfl | simp [h1, h2, h3])
  by_cases h4 : s ≤ 4
  case neg =>
    simp (maxSteps:=999999) -dsimp -implicitDefEqProofs only [↓eqD,eqU,eqV,eqW,vbuiltinQ,vlen,vslice,vindex,vstore,Array.toList,simprocAttr,fnWp_some Tryz.func101,Tryz.f101,T0,FB,FC,none_at,f23_0,f23_1,p23_0,p23_1,st23,ag23,z23,c23,i23,h1,h2,h3,h4]; (repeat ((with_reducible (refine And.intro ?_ ?_)); (focus (first | omega | exact ⟨by omega, by omega⟩))))
    (repeat ((with_reducible (refine And.intro ?_ ?_)); (focus (first | omega | exact ⟨by omega, by omega⟩)))); (refine VDone.back hG ?_ rfl ?_); (intro j hj; first | rfl | simp (maxSteps:=999999) -dsimp -implicitDefEqProofs only [↓eqD,eqU,eqV,eqW,vbuiltinQ,vlen,vslice,vindex,vstore,Array.toList,simprocAttr,lt6 hj]); (first | rfl | simp [h1, h2, h3, h4])
  by_cases h5 : s = 0
  · simp (maxSteps:=999999) -dsimp -implicitDefEqProofs only [↓eqD,eqU,eqV,eqW,vbuiltinQ,vlen,vslice,vindex,vstore,Array.toList,simprocAttr,fnWp_some Tryz.func101,Tryz.f101,T0,FB,FC,none_at,f23_0,f23_1,p23_0,p23_1,st23,ag23,z23,c23,i23,h1,h2,h3,h4,h5]; (repeat ((with_reducible (refine And.intro ?_ ?_)); (focus (first | omega | exact ⟨by omega, by omega⟩))))
    (repeat ((with_reducible (refine And.intro ?_ ?_)); (focus (first | omega | exact ⟨by omega, by omega⟩)))); (refine VDone.back hG ?_ rfl ?_); (intro j hj; first | rfl | simp (maxSteps:=999999) -dsimp -implicitDefEqProofs only [↓eqD,eqU,eqV,eqW,vbuiltinQ,vlen,vslice,vindex,vstore,Array.toList,simprocAttr,lt6 hj]); (first | rfl | simp [h1, h2, h3, h4, h5])
  have hb : -10 < m.tmod 10 ∧ m.tmod 10 < 10 := by
    rcases quo_cases (a := m) (b := 10) (by decide) with ⟨_, _, h, _⟩ | ⟨_, _, h⟩ <;> rw [h] <;> omega
  have w1 : IntKind.wrap .i64 (m.tmod 10) = m.tmod 10 := w64 (by omega) (by omega)
  have n10 : ¬(10 : Int) = 0 := by decide
  by_cases h6 : m.tmod 10 = 0
  · simp (maxSteps:=999999) -dsimp -implicitDefEqProofs only [↓eqD,eqU,eqV,eqW,vbuiltinQ,vlen,vslice,vindex,vstore,Array.toList,simprocAttr,fnWp_some Tryz.func101,Tryz.f101,T0,FB,FC,none_at,f23_0,f23_1,p23_0,p23_1,st23,ag23,z23,c23,i23,h1,h2,h3,h4,h5,w1,n10,h6,ne_eq]; (repeat ((with_reducible (refine And.intro ?_ ?_)); (focus (first | omega | exact ⟨by omega, by omega⟩))))
    (repeat ((with_reducible (refine And.intro ?_ ?_)); (focus (first | omega | exact ⟨by omega, by omega⟩)))); (refine VDone.back hG ?_ rfl ?_); (intro j hj; first | rfl | simp (maxSteps:=999999) -dsimp -implicitDefEqProofs only [↓eqD,eqU,eqV,eqW,vbuiltinQ,vlen,vslice,vindex,vstore,Array.toList,simprocAttr,lt6 hj]); (first | rfl | simp [h1, h2, h3, h4, h5, h6])
  · simp (maxSteps:=999999) -dsimp -implicitDefEqProofs only [↓eqD,eqU,eqV,eqW,vbuiltinQ,vlen,vslice,vindex,vstore,Array.toList,simprocAttr,fnWp_some Tryz.func101,Tryz.f101,T0,FB,FC,none_at,f23_0,f23_1,p23_0,p23_1,st23,ag23,z23,c23,i23,h1,h2,h3,h4,h5,w1,n10,h6,ne_eq]; (repeat ((with_reducible (refine And.intro ?_ ?_)); (focus (first | omega | exact ⟨by omega, by omega⟩))))
    (repeat ((with_reducible (refine And.intro ?_ ?_)); (focus (first | omega | exact ⟨by omega, by omega⟩)))); (refine VDone.back hG ?_ rfl ?_); (intro j hj; first | rfl | simp (maxSteps:=999999) -dsimp -implicitDefEqProofs only [↓eqD,eqU,eqV,eqW,vbuiltinQ,vlen,vslice,vindex,vstore,Array.toList,simprocAttr,lt6 hj]); (first | rfl | simp [h1, h2, h3, h4, h5, h6])
def gIs : List V → Option (Prop × V)
  | [.agg [.int .i64 m, .int .i64 s]] => some (True, .bool (decIs m s))
  | _ => none
def WS1 : Specs := Specs.none.add 101 gIs
theorem WS1_at (f : FuncId) (xs : List V) (G : Heap) : WS1 f xs G = (Specs.none.add 101 gIs) f xs G := rfl
theorem ok_disS {P : Specs} (hP : SOk Tryz.prog P) : SOk Tryz.prog (P.add 101 gIs) := hP.add fun xs G p v e hp => by
  unfold gIs at e
  split at e
  · cases e; exact dis_walk _ _ G
  · cases e
theorem okWS1 : SOk Tryz.prog WS1 := ok_disS (SOk.none _)
theorem ok_emay : fnOk Tryz.prog 75 T0 1 = true := by kernel_rfl
set_option maxRecDepth 100000 in
theorem emay_num (b : Bool) (m s : Int) (t : List UInt8) (lo hi : Bool) (ks : List Ex) (G : Heap) : VPure Tryz.prog 75 [.agg (Ex.mk 3 b m s t lo hi ks).cells] G (.bool (decIs m s)) := by
  refine VCalls.of (okWS1) mixed T0 ok_emay fun hG => ?_
  simp (maxSteps:=999999) -dsimp -implicitDefEqProofs only [↓eqD,eqU,eqV,eqW,vbuiltinQ,vlen,vslice,vindex,vstore,Array.toList,simprocAttr,fnWp_some Tryz.func75,Tryz.f75,T0,FB,FC,none_at,WS1_at,add_at,gIs,Ex.cells,exsC_closed]; (repeat ((with_reducible (refine And.intro ?_ ?_)); (focus (first | omega | exact ⟨by omega, by omega⟩))))
  (repeat ((with_reducible (refine And.intro ?_ ?_)); (focus (first | omega | exact ⟨by omega, by omega⟩)))); (refine VDone.back hG ?_ rfl ?_); (intro j hj; first | rfl | simp (maxSteps:=999999) -dsimp -implicitDefEqProofs only [↓eqD,eqU,eqV,eqW,vbuiltinQ,vlen,vslice,vindex,vstore,Array.toList,simprocAttr,lt6 hj]); (first | rfl | simp [])
theorem ok_eleaf : fnOk Tryz.prog 77 T0 1 = true := by kernel_rfl
set_option maxRecDepth 100000 in
theorem eleaf_walk (k : Int) (G : Heap) : VPure Tryz.prog 77 [.int .i64 k] G (.bool (decide (1 ≤ k) && decide (k ≤ 5))) := by
  refine VCalls.of (SOk.none _) mixed T0 ok_eleaf fun hG => ?_
  by_cases h : 1 ≤ k
  · simp (maxSteps:=999999) -dsimp -implicitDefEqProofs only [↓eqD,eqU,eqV,eqW,vbuiltinQ,vlen,vslice,vindex,vstore,Array.toList,simprocAttr,fnWp_some Tryz.func77,Tryz.f77,T0,FB,FC,none_at,h]; (repeat ((with_reducible (refine And.intro ?_ ?_)); (focus (first | omega | exact ⟨by omega, by omega⟩))))
    (repeat ((with_reducible (refine And.intro ?_ ?_)); (focus (first | omega | exact ⟨by omega, by omega⟩)))); (refine VDone.back hG ?_ rfl ?_); (intro j hj; first | rfl | simp (maxSteps:=999999) -dsimp -implicitDefEqProofs only [↓eqD,eqU,eqV,eqW,vbuiltinQ,vlen,vslice,vindex,vstore,Array.toList,simprocAttr,lt6 hj]); (first | rfl | simp [h])
  · simp (maxSteps:=999999) -dsimp -implicitDefEqProofs only [↓eqD,eqU,eqV,eqW,vbuiltinQ,vlen,vslice,vindex,vstore,Array.toList,simprocAttr,fnWp_some Tryz.func77,Tryz.f77,T0,FB,FC,none_at,h]; (repeat ((with_reducible (refine And.intro ?_ ?_)); (focus (first | omega | exact ⟨by omega, by omega⟩))))
    (repeat ((with_reducible (refine And.intro ?_ ?_)); (focus (first | omega | exact ⟨by omega, by omega⟩)))); (refine VDone.back hG ?_ rfl ?_); (intro j hj; first | rfl | simp (maxSteps:=999999) -dsimp -implicitDefEqProofs only [↓eqD,eqU,eqV,eqW,vbuiltinQ,vlen,vslice,vindex,vstore,Array.toList,simprocAttr,lt6 hj]); (first | rfl | simp [h])
theorem ok_enum : fnOk Tryz.prog 103 T0 1 = true := by kernel_rfl
set_option maxRecDepth 100000 in
theorem enum_walk (m s : Int) (G : Heap) : VPure Tryz.prog 103 [.agg [.int .i64 m, .int .i64 s]] G (Vl.num m s).v := by
  refine VCalls.of (SOk.none _) mixed T0 ok_enum fun hG => ?_
  simp (maxSteps:=999999) -dsimp -implicitDefEqProofs only [↓eqD,eqU,eqV,eqW,vbuiltinQ,vlen,vslice,vindex,vstore,Array.toList,simprocAttr,fnWp_some Tryz.func103,Tryz.f103,T0,FB,FC,none_at,f23_0,f23_1,p23_0,p23_1,st23,ag23,z23,c23,i23]; (repeat ((with_reducible (refine And.intro ?_ ?_)); (focus (first | omega | exact ⟨by omega, by omega⟩))))
  refine .weak (vle_v0 2 false m s []) (VDone.back hG ?_ rfl rfl)
  intro j hj; simp (maxSteps:=999999) -dsimp -implicitDefEqProofs only [↓eqD,eqU,eqV,eqW,vbuiltinQ,vlen,vslice,vindex,vstore,Array.toList,simprocAttr,lt6 hj]
def gNumV : List V → Option (Prop × V)
  | [.agg [.int .i64 m, .int .i64 s]] => some (True, .agg [.int .i64 2, .bool false, .int .i64 m, .int .i64 s, .str [], .sl 6 0 []])
  | _ => none
theorem ok_numS {P : Specs} (hP : SOk Tryz.prog P) : SOk Tryz.prog (P.add 103 gNumV) := hP.add fun xs G p v e hp => by
  unfold gNumV at e
  split at e
  · cases e; exact enum_walk _ _ G
  · cases e
def WS2 : Specs := Specs.none.add 103 gNumV
theorem WS2_at (f : FuncId) (xs : List V) (G : Heap) : WS2 f xs G = (Specs.none.add 103 gNumV) f xs G := rfl
theorem okWS2 : SOk Tryz.prog WS2 := ok_numS (SOk.none _)
def T_eof : Tab := ⟨fun id => if id = 11 then ([0, 1, 2, 3, 4, 5, 6, 7, 8, 9, 10, 11, 12], []) else if id = 13 then ([1, 2, 3, 0, 4, 5, 6, 7, 8], [(3, 0)]) else ([], []), fun _ => false⟩
theorem T_eof_ord (id : Nat) : T_eof.ord id = if id = 11 then ([0, 1, 2, 3, 4, 5, 6, 7, 8, 9, 10, 11, 12], []) else if id = 13 then ([1, 2, 3, 0, 4, 5, 6, 7, 8], [(3, 0)]) else ([], []) := rfl
theorem T_eof_ghost (id : Nat) : T_eof.ghost id = false := rfl
theorem ok_eof : fnOk Tryz.prog 78 T_eof 3 = true := by kernel_rfl
set_option maxRecDepth 100000 in
theorem eof_num (b : Bool) (m s : Int) (t : List UInt8) (lo hi : Bool) (ks : List Ex) (env : V) (G : Heap) : VPure Tryz.prog 78 [.agg (Ex.mk 3 b m s t lo hi ks).cells, .nilsl, env] G (.tup [(Vl.num m s).v, .int .i64 0]) := by
  refine VCalls.of (okWS2) mixed T_eof ok_eof fun hG => ?_
  simp (maxSteps:=999999) -dsimp -implicitDefEqProofs only [↓eqD,eqU,eqV,eqW,vbuiltinQ,vlen,vslice,vindex,vstore,Array.toList,simprocAttr,fnWp_some Tryz.func78,Tryz.f78,T_eof_ord,T_eof_ghost,FB,FC,none_at,WS2_at,add_at,gNumV,Ex.cells,exsC_closed]; (repeat ((with_reducible (refine And.intro ?_ ?_)); (focus (first | omega | exact ⟨by omega, by omega⟩))))
  (repeat ((with_reducible (refine And.intro ?_ ?_)); (focus (first | omega | exact ⟨by omega, by omega⟩)))); (refine VDone.back hG ?_ rfl ?_); (intro j hj; first | rfl | simp (maxSteps:=999999) -dsimp -implicitDefEqProofs only [↓eqD,eqU,eqV,eqW,vbuiltinQ,vlen,vslice,vindex,vstore,Array.toList,simprocAttr,lt6 hj]); (first | rfl | simp [])
def gLeaf : List V → Option (Prop × V)
  | [.int .i64 k] => some (True, .bool (decide (1 ≤ k) && decide (k ≤ 5)))
  | _ => none
def gMayN : List V → Option (Prop × V)
  | [.agg [.int .i64 3, .bool b, .int .i64 m, .int .i64 s, .str t, .bool lo, .bool hi, .sl 8 n cs]] => some ((∃ ks : List Ex, n = ks.length ∧ cs = exsC ks), .bool (decIs m s))
  | _ => none
def gOfN : List V → Option (Prop × V)
  | [.agg [.int .i64 3, .bool b, .int .i64 m, .int .i64 s, .str t, .bool lo, .bool hi, .sl 8 n cs], .nilsl, env] => some ((∃ ks : List Ex, n = ks.length ∧ cs = exsC ks), .tup [.agg [.int .i64 2, .bool false, .int .i64 m, .int .i64 s, .str [], .sl 6 0 []], .int .i64 0])
  | _ => none
def WS3 : Specs := ((Specs.none.add 77 gLeaf).add 75 gMayN).add 78 gOfN
theorem WS3_at (f : FuncId) (xs : List V) (G : Heap) : WS3 f xs G = (((Specs.none.add 77 gLeaf).add 75 gMayN).add 78 gOfN) f xs G := rfl
theorem okWS3 : SOk Tryz.prog WS3 := by
  refine SOk.add (SOk.add (SOk.add (SOk.none _) ?_) ?_) ?_
  · intro xs G p v e hp
    unfold gLeaf at e
    split at e
    · cases e; exact eleaf_walk _ G
    · cases e
  · intro xs G p v e hp
    unfold gMayN at e
    split at e
    · cases e
      obtain ⟨ks, rfl, rfl⟩ := hp
      exact emay_num _ _ _ _ _ _ ks G
    · cases e
  · intro xs G p v e hp
    unfold gOfN at e
    split at e
    · cases e
      obtain ⟨ks, rfl, rfl⟩ := hp
      exact eof_num _ _ _ _ _ _ ks _ G
    · cases e
theorem ok_eeval : fnOk Tryz.prog 49 T0 2 = true := by kernel_rfl
set_option maxRecDepth 100000 in
theorem eeval_num {m s : Int} (hd : decIs m s = true) (b : Bool) (t : List UInt8) (lo hi : Bool) (ks : List Ex) (env : V) (G : Heap) : VPure Tryz.prog 49 [.agg (Ex.mk 3 b m s t lo hi ks).cells, env] G (.tup [(Vl.num m s).v, .int .i64 0]) := by
  refine VCalls.of (okWS3) mixed T0 ok_eeval fun hG => ?_
  have hx : ∃ q : List Ex, ks.length = q.length ∧ exsC ks = exsC q := ⟨ks, rfl, rfl⟩
  simp (maxSteps:=999999) -dsimp -implicitDefEqProofs only [↓eqD,eqU,eqV,eqW,vbuiltinQ,vlen,vslice,vindex,vstore,Array.toList,simprocAttr,fnWp_some Tryz.func49,Tryz.f49,T0,FB,FC,none_at,WS3_at,add_at,gLeaf,gMayN,gOfN,Ex.cells,exsC_closed,hd,hx]; (repeat ((with_reducible (refine And.intro ?_ ?_)); (focus (first | omega | exact ⟨by omega, by omega⟩))))
  (repeat ((with_reducible (refine And.intro ?_ ?_)); (focus (first | omega | exact ⟨by omega, by omega⟩)))); (refine VDone.back hG ?_ rfl ?_); (intro j hj; first | rfl | simp (maxSteps:=999999) -dsimp -implicitDefEqProofs only [↓eqD,eqU,eqV,eqW,vbuiltinQ,vlen,vslice,vindex,vstore,Array.toList,simprocAttr,lt6 hj]); (first | rfl | simp [])
end Go.Vf
set_option linter.unusedVariables false
set_option linter.unusedSimpArgs false
namespace Go.Vf
open Go.Proofs Go.RowKit
theorem Vl.cs_def (v : Vl) : v.cs = [.int .i64 v.kind, .bool v.b, .int .i64 v.m, .int .i64 v.s, .str v.t, .sl 6 v.l.length (vlsC v.l)] := rfl
structure EvAt (env : V) (ev : Ex → Vl × Int) (x : Ex) : Prop where
  run : ∀ G, VPure Tryz.prog 49 [.agg x.cells, env] G (.tup [(ev x).1.v, .int .i64 (ev x).2])
  decs : (ev x).1.decs
noncomputable def gRel : List V → Option (Prop × V)
  | [.str op, u, w] => match vlOf u, vlOf w with
    | some a, some b => some (a.decs ∧ b.decs, (relV op a b).v)
    | _, _ => none
  | _ => none
theorem ok_relS {P : Specs} (hP : SOk Tryz.prog P) : SOk Tryz.prog (P.add 51 gRel) := hP.add fun xs G p v e hp => by
  unfold gRel at e
  split at e
  · split at e
    · rename_i a b ha hb
      cases e
      rw [vlOf_some ha, vlOf_some hb]
      exact erel_walk _ a b hp.1 hp.2 G
    · cases e
  · cases e
noncomputable def gTruth : List V → Option (Prop × V) := gV1 fun v => (True, .bool (truthV v))
theorem gTruth_eq : gTruth = gV1 fun v => (True, .bool (truthV v)) := rfl
theorem ok_truthS {P : Specs} (hP : SOk Tryz.prog P) : SOk Tryz.prog (P.add 50 gTruth) := okV1 hP fun v G _ => vtruth_walk v G
noncomputable def WS4 : Specs := (Specs.none.add 51 gRel).add 50 gTruth
theorem WS4_at (f : FuncId) (xs : List V) (G : Heap) : WS4 f xs G = ((Specs.none.add 51 gRel).add 50 gTruth) f xs G := rfl
theorem okWS4 : SOk Tryz.prog WS4 := ok_truthS (ok_relS (SOk.none _))
theorem opt_map_some {α β : Type} (f : α → β) (a : α) : (some a).map f = some (f a) := rfl
def withinT (ev : Ex → Vl × Int) (v : Vl) (a b : Ex) (lo hi : Bool) : Bool × Int :=
  if (ev a).2 ≠ 0 then (false, (ev a).2) else if (ev b).2 ≠ 0 then (false, (ev b).2) else (truthV (relV (loB lo) v (ev a).1) && truthV (relV (hiB hi) v (ev b).1), 0)
theorem ok_cwithin : fnOk Tryz.prog 52 T0 3 = true := by kernel_rfl
set_option maxRecDepth 100000 in
set_option maxHeartbeats 2000000 in
theorem cwithin_walk {env : V} {ev : Ex → Vl × Int} {v : Vl} (hv : v.decs) (k : Int) (r : List UInt8) (A B : Ex) (lo hi : Bool) (ks : List Te) (hA : EvAt env ev A) (hB : EvAt env ev B) (G : Heap) :
    VPure Tryz.prog 52 [.agg (Te.mk k r A B lo hi ks).cells, v.v, env] G (.tup [.bool (withinT ev v A B lo hi).1, .int .i64 (withinT ev v A B lo hi).2]) := by
  refine VCalls.of (okWS4) mixed T0 ok_cwithin fun hG => ?_
  obtain ⟨wA, dA⟩ := hA
  obtain ⟨wB, dB⟩ := hB
  unfold withinT
  generalize ev A = ra at *
  generalize ev B = rb at *
  obtain ⟨va, ea⟩ := ra
  obtain ⟨vb, eb⟩ := rb
  obtain ⟨k1, b1, m1, c1, t1, lo1, hi1, kids1⟩ := A
  obtain ⟨k2, b2, m2, c2, t2, lo2, hi2, kids2⟩ := B
  simp only at dA dB
  simp only [Ex.cells] at wA wB
  have da := exsC_closed kids1
  have db := exsC_closed kids2
  have dk := tesC_closed ks
  simp only [Vl.v, Vl.cs_def] at wA wB ⊢
  simp (maxSteps:=999999) -dsimp -implicitDefEqProofs only [↓eqD,eqU,eqV,eqW,vbuiltinQ,vlen,vslice,vindex,vstore,Array.toList,simprocAttr,fnWp_some Tryz.func52,Tryz.f52,T0,FB,FC,none_at,WS4_at,add_at,Te.cells_eq,Ex.cells,List.cons_append,List.nil_append,da,db,dk,vlsC_closed]; (repeat ((with_reducible (refine And.intro ?_ ?_)); (focus (first | omega | exact ⟨by omega, by omega⟩))))
  refine VPure.calls (wA _) ?_
  by_cases h1 : ea = 0
  case neg =>
    simp (maxSteps:=999999) -dsimp -implicitDefEqProofs only [↓eqD,eqU,eqV,eqW,vbuiltinQ,vlen,vslice,vindex,vstore,Array.toList,simprocAttr,T0,FB,FC,none_at,WS4_at,add_at,h1,ne_eq]; (repeat ((with_reducible (refine And.intro ?_ ?_)); (focus (first | omega | exact ⟨by omega, by omega⟩))))
    refine VDone.back hG ?_ rfl (by simp [h1])
    intro j hj; simp (maxSteps:=999999) -dsimp -implicitDefEqProofs only [↓eqD,eqU,eqV,eqW,vbuiltinQ,vlen,vslice,vindex,vstore,Array.toList,simprocAttr,lt6 hj]
  subst h1
  simp (maxSteps:=999999) -dsimp -implicitDefEqProofs only [↓eqD,eqU,eqV,eqW,vbuiltinQ,vlen,vslice,vindex,vstore,Array.toList,simprocAttr,T0,FB,FC,none_at,WS4_at,add_at,ne_eq]; (repeat ((with_reducible (refine And.intro ?_ ?_)); (focus (first | omega | exact ⟨by omega, by omega⟩))))
  refine VPure.calls (wB _) ?_
  by_cases h2 : eb = 0
  case neg =>
    simp (maxSteps:=999999) -dsimp -implicitDefEqProofs only [↓eqD,eqU,eqV,eqW,vbuiltinQ,vlen,vslice,vindex,vstore,Array.toList,simprocAttr,T0,FB,FC,none_at,WS4_at,add_at,h2,ne_eq]; (repeat ((with_reducible (refine And.intro ?_ ?_)); (focus (first | omega | exact ⟨by omega, by omega⟩))))
    refine VDone.back hG ?_ rfl (by simp [h2])
    intro j hj; simp (maxSteps:=999999) -dsimp -implicitDefEqProofs only [↓eqD,eqU,eqV,eqW,vbuiltinQ,vlen,vslice,vindex,vstore,Array.toList,simprocAttr,lt6 hj]
  subst h2
  cases lo <;> cases hi
  · cases ht : truthV (relV [62] v va) with
    | false =>
      simp (maxSteps:=999999) -dsimp -implicitDefEqProofs only [↓eqD,eqU,eqV,eqW,vbuiltinQ,vlen,vslice,vindex,vstore,Array.toList,simprocAttr,T0,FB,FC,none_at,WS4_at,add_at,gRel,gTruth_eq,gV1,opt_map_some,vlOf_cs,Vl.v,Vl.cs_def,hv,dA,dB,ht,ne_eq]; (repeat ((with_reducible (refine And.intro ?_ ?_)); (focus (first | omega | exact ⟨by omega, by omega⟩))))
      refine VDone.back hG ?_ rfl (by simp [loB, hiB, ht])
      intro j hj; simp (maxSteps:=999999) -dsimp -implicitDefEqProofs only [↓eqD,eqU,eqV,eqW,vbuiltinQ,vlen,vslice,vindex,vstore,Array.toList,simprocAttr,lt6 hj]
    | true =>
      simp (maxSteps:=999999) -dsimp -implicitDefEqProofs only [↓eqD,eqU,eqV,eqW,vbuiltinQ,vlen,vslice,vindex,vstore,Array.toList,simprocAttr,T0,FB,FC,none_at,WS4_at,add_at,gRel,gTruth_eq,gV1,opt_map_some,vlOf_cs,Vl.v,Vl.cs_def,hv,dA,dB,ht,ne_eq]; (repeat ((with_reducible (refine And.intro ?_ ?_)); (focus (first | omega | exact ⟨by omega, by omega⟩))))
      refine VDone.back hG ?_ rfl (by simp [loB, hiB, ht])
      intro j hj; simp (maxSteps:=999999) -dsimp -implicitDefEqProofs only [↓eqD,eqU,eqV,eqW,vbuiltinQ,vlen,vslice,vindex,vstore,Array.toList,simprocAttr,lt6 hj]
  · cases ht : truthV (relV [62] v va) with
    | false =>
      simp (maxSteps:=999999) -dsimp -implicitDefEqProofs only [↓eqD,eqU,eqV,eqW,vbuiltinQ,vlen,vslice,vindex,vstore,Array.toList,simprocAttr,T0,FB,FC,none_at,WS4_at,add_at,gRel,gTruth_eq,gV1,opt_map_some,vlOf_cs,Vl.v,Vl.cs_def,hv,dA,dB,ht,ne_eq]; (repeat ((with_reducible (refine And.intro ?_ ?_)); (focus (first | omega | exact ⟨by omega, by omega⟩))))
      refine VDone.back hG ?_ rfl (by simp [loB, hiB, ht])
      intro j hj; simp (maxSteps:=999999) -dsimp -implicitDefEqProofs only [↓eqD,eqU,eqV,eqW,vbuiltinQ,vlen,vslice,vindex,vstore,Array.toList,simprocAttr,lt6 hj]
    | true =>
      simp (maxSteps:=999999) -dsimp -implicitDefEqProofs only [↓eqD,eqU,eqV,eqW,vbuiltinQ,vlen,vslice,vindex,vstore,Array.toList,simprocAttr,T0,FB,FC,none_at,WS4_at,add_at,gRel,gTruth_eq,gV1,opt_map_some,vlOf_cs,Vl.v,Vl.cs_def,hv,dA,dB,ht,ne_eq]; (repeat ((with_reducible (refine And.intro ?_ ?_)); (focus (first | omega | exact ⟨by omega, by omega⟩))))
      refine VDone.back hG ?_ rfl (by simp [loB, hiB, ht])
      intro j hj; simp (maxSteps:=999999) -dsimp -implicitDefEqProofs only [↓eqD,eqU,eqV,eqW,vbuiltinQ,vlen,vslice,vindex,vstore,Array.toList,simprocAttr,lt6 hj]
  · cases ht : truthV (relV [62, 61] v va) with
    | false =>
      simp (maxSteps:=999999) -dsimp -implicitDefEqProofs only [↓eqD,eqU,eqV,eqW,vbuiltinQ,vlen,vslice,vindex,vstore,Array.toList,simprocAttr,T0,FB,FC,none_at,WS4_at,add_at,gRel,gTruth_eq,gV1,opt_map_some,vlOf_cs,Vl.v,Vl.cs_def,hv,dA,dB,ht,ne_eq]; (repeat ((with_reducible (refine And.intro ?_ ?_)); (focus (first | omega | exact ⟨by omega, by omega⟩))))
      refine VDone.back hG ?_ rfl (by simp [loB, hiB, ht])
      intro j hj; simp (maxSteps:=999999) -dsimp -implicitDefEqProofs only [↓eqD,eqU,eqV,eqW,vbuiltinQ,vlen,vslice,vindex,vstore,Array.toList,simprocAttr,lt6 hj]
    | true =>
      simp (maxSteps:=999999) -dsimp -implicitDefEqProofs only [↓eqD,eqU,eqV,eqW,vbuiltinQ,vlen,vslice,vindex,vstore,Array.toList,simprocAttr,T0,FB,FC,none_at,WS4_at,add_at,gRel,gTruth_eq,gV1,opt_map_some,vlOf_cs,Vl.v,Vl.cs_def,hv,dA,dB,ht,ne_eq]; (repeat ((with_reducible (refine And.intro ?_ ?_)); (focus (first | omega | exact ⟨by omega, by omega⟩))))
      refine VDone.back hG ?_ rfl (by simp [loB, hiB, ht])
      intro j hj; simp (maxSteps:=999999) -dsimp -implicitDefEqProofs only [↓eqD,eqU,eqV,eqW,vbuiltinQ,vlen,vslice,vindex,vstore,Array.toList,simprocAttr,lt6 hj]
  · cases ht : truthV (relV [62, 61] v va) with
    | false =>
      simp (maxSteps:=999999) -dsimp -implicitDefEqProofs only [↓eqD,eqU,eqV,eqW,vbuiltinQ,vlen,vslice,vindex,vstore,Array.toList,simprocAttr,T0,FB,FC,none_at,WS4_at,add_at,gRel,gTruth_eq,gV1,opt_map_some,vlOf_cs,Vl.v,Vl.cs_def,hv,dA,dB,ht,ne_eq]; (repeat ((with_reducible (refine And.intro ?_ ?_)); (focus (first | omega | exact ⟨by omega, by omega⟩))))
      refine VDone.back hG ?_ rfl (by simp [loB, hiB, ht])
      intro j hj; simp (maxSteps:=999999) -dsimp -implicitDefEqProofs only [↓eqD,eqU,eqV,eqW,vbuiltinQ,vlen,vslice,vindex,vstore,Array.toList,simprocAttr,lt6 hj]
    | true =>
      simp (maxSteps:=999999) -dsimp -implicitDefEqProofs only [↓eqD,eqU,eqV,eqW,vbuiltinQ,vlen,vslice,vindex,vstore,Array.toList,simprocAttr,T0,FB,FC,none_at,WS4_at,add_at,gRel,gTruth_eq,gV1,opt_map_some,vlOf_cs,Vl.v,Vl.cs_def,hv,dA,dB,ht,ne_eq]; (repeat ((with_reducible (refine And.intro ?_ ?_)); (focus (first | omega | exact ⟨by omega, by omega⟩))))
      refine VDone.back hG ?_ rfl (by simp [loB, hiB, ht])
      intro j hj; simp (maxSteps:=999999) -dsimp -implicitDefEqProofs only [↓eqD,eqU,eqV,eqW,vbuiltinQ,vlen,vslice,vindex,vstore,Array.toList,simprocAttr,lt6 hj]
end Go.Vf
