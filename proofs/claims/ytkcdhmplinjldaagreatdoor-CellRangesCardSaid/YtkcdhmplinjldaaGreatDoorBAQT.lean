/- A part of the proof: QT. -/
import Derived.Test.YtkcdhmplinjldaaGreatDoorBAQb
set_option linter.unusedVariables false
set_option linter.unusedSimpArgs false
namespace Go.Vf
open Go.Proofs Go.RowKit
theorem p55_1 : tplaces Tryz.prog 172 1 = some (1, 1) := by kernel_rfl
def T18f : Tab := ⟨fun id => if id = 4 then ([0, 1, 2, 3, 4, 5, 6, 7, 8, 9, 10, 11, 12, 13], [(5, 10), (9, 10)]) else if id = 5 then ([0, 1, 2, 3, 4, 5, 6, 7, 8], [(4, 5)]) else ([], []), fun _ => false⟩
theorem T18f_ord (id : Nat) : T18f.ord id = if id = 4 then ([0, 1, 2, 3, 4, 5, 6, 7, 8, 9, 10, 11, 12, 13], [(5, 10), (9, 10)]) else if id = 5 then ([0, 1, 2, 3, 4, 5, 6, 7, 8], [(4, 5)]) else ([], []) := rfl
theorem T18f_ghost (id : Nat) : T18f.ghost id = false := rfl
theorem okm18 : fnOk Tryz.prog 131 T18f 3 = true := by kernel_rfl
set_option maxRecDepth 100000 in
theorem ftake_walk {decF : List UInt8 → DecR} (hdec : DecAt decF) (T : List Tok) (hsh : Short T) (hlen : T.length ≤ 1000) (a : Nat) (ha : a ≤ T.length) (en : Int) (G : Heap) : VPure Tryz.prog 131 [.sl 3 T.length (toksC T), .int .i64 a, .int .i64 en] G (takeF a (exK T en decF 9 ⟨a, 0, 0⟩)).v := by
  refine VCalls.of (SOk.none _) mixed T18f okm18 fun hG => ?_
  have nilw : ∀ (n e f : Int), VLe (.tup [.agg [.int .i64 0, .bool false, .int .i64 0, .int .i64 0, .str [], .bool false, .bool false, .nilsl], .int .i64 n, .int .i64 e, .int .i64 f]) (Taken.v ⟨Ex.zero, n, e, f⟩) := fun n e f => .tup ⟨vle_nil 0 false 0 0 [] false false, .refl _, .refl _, .refl _, trivial⟩
  have hw := (kids_walk (T := T) (en := en) (id := G.next + 1) hsh hdec 9 (by decide)).1
  have hgo := (kids_go (T := T) (en := en) (decF := decF) 9).1 ⟨a, 0, 0⟩ ha
  simp (maxSteps:=999999) -dsimp -implicitDefEqProofs only [↓eqD,eqU,eqV,eqW,vbuiltinQ,vlen,vslice,vindex,vstore,Array.toList,simprocAttr,fnWp_some Tryz.func131,Tryz.f131,T18f_ord,T18f_ghost,FB,none_at,u55,p55_0,p55_1,p55_2]
  refine (hw ⟨a, 0, 0⟩ _ ⟨by simp (maxSteps:=999999) -dsimp -implicitDefEqProofs only [↓eqD,eqU,eqV,eqW,vbuiltinQ,vlen,vslice,vindex,vstore,Array.toList,simprocAttr,FB,pcells], hlen, ha⟩).mono ?_
  rintro _ _ ⟨rfl, rfl⟩
  generalize exK T en decF 9 ⟨a, 0, 0⟩ = ks at *
  obtain ⟨⟨k2, b2, m2, n2, t2, lo2, hi2, kids2⟩, s2⟩ := ks
  have hre : pcells T en s2 = [.sl 3 T.length (toksC T), .int .i64 s2.at_, .int .i64 en, .int .i64 s2.pos, .int .i64 s2.err] := rfl
  unfold takeF
  simp only
  by_cases he : s2.err = 0
  · rw [if_pos he]
    simp (maxSteps:=999999) -dsimp -implicitDefEqProofs only [↓eqD,eqU,eqV,eqW,vbuiltinQ,vlen,vslice,vindex,vstore,Array.toList,simprocAttr,T18f_ord,T18f_ghost,FB,none_at,Ex.cells,hre,he,ne_eq]
    refine VDone.back hG ?_ rfl rfl
    intro j hj; simp (maxSteps:=999999) -dsimp -implicitDefEqProofs only [↓eqD,eqU,eqV,eqW,vbuiltinQ,vlen,vslice,vindex,vstore,Array.toList,simprocAttr,lt6 hj]
  · try rw [if_neg he]
    simp (maxSteps:=999999) -dsimp -implicitDefEqProofs only [↓eqD,eqU,eqV,eqW,vbuiltinQ,vlen,vslice,vindex,vstore,Array.toList,simprocAttr,T18f_ord,T18f_ghost,FB,none_at,Ex.cells,hre,he,ne_eq]
    refine .weak (nilw _ _ _) (VDone.back hG ?_ rfl rfl)
    intro j hj; simp (maxSteps:=999999) -dsimp -implicitDefEqProofs only [↓eqD,eqU,eqV,eqW,vbuiltinQ,vlen,vslice,vindex,vstore,Array.toList,simprocAttr,lt6 hj]
theorem takeF_eq {a b : Ex × St} (h : XSim a b) (k : Nat) : takeF k a = takeF k b := by
  obtain ⟨x, s⟩ := a
  obtain ⟨y, s'⟩ := b
  obtain ⟨⟨h1, h2, h3⟩, h4⟩ := h
  simp only at h1 h2 h3 h4
  unfold takeF
  simp only
  by_cases e : s.err = 0
  · have := h3 e
    subst this
    have := h4 e
    subst this
    rfl
  · rw [if_neg e, if_neg (h1 ▸ e), h1, h2]
end Go.Vf
