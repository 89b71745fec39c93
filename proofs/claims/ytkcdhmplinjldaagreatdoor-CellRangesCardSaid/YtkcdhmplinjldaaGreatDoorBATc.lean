/- A part of the proof: Tc, Td. -/
import Derived.Test.YtkcdhmplinjldaaGreatDoorBATa
set_option linter.unusedVariables false
set_option linter.unusedSimpArgs false
namespace Go.Vf
open Go.Proofs Go.RowKit
mutual
def evT (p : Ex → Prop) : Te → Prop
  | .mk k _ a b _ _ ks => ((k = 2 → p a) ∧ (k = 3 → p a ∧ p b)) ∧ ks.length ≤ 9223372036854775807 ∧ evTs p ks
def evTs (p : Ex → Prop) : List Te → Prop
  | [] => True
  | a :: r => evT p a ∧ evTs p r
end
theorem ok_cholds : fnOk Tryz.prog 31 T0 3 = true := by kernel_rfl
set_option maxRecDepth 100000 in
set_option maxHeartbeats 2000000 in
theorem cholds_walk0 {env : V} {ev : Ex → Vl × Int} {v : Vl} (hv : v.decs) (k : Int) (r : List UInt8) (A B : Ex) (lo hi : Bool) (ks : List Te) (h2 : k = 2 → EvAt env ev A) (h3 : k = 3 → EvAt env ev A ∧ EvAt env ev B)
    (hk : ∀ G, VPure Tryz.prog 15 [.sl 21 ks.length (tesC ks), v.v, env] G (.tup [.bool (matchT ev v ks).1, .int .i64 (matchT ev v ks).2])) (G : Heap) :
    VPure Tryz.prog 31 [.agg (Te.mk k r A B lo hi ks).cells, v.v, env] G (.tup [.bool (holdsT ev v (.mk k r A B lo hi ks)).1, .int .i64 (holdsT ev v (.mk k r A B lo hi ks)).2]) := by
  refine VCalls.of (okWS4) mixed T0 ok_cholds fun hG => ?_
  have ww := fun h : k = 3 => cwithin_walk (env := env) (ev := ev) hv k r A B lo hi ks (h3 h).1 (h3 h).2
  have wA := fun h : k = 2 => (h2 h).run
  have dA := fun h : k = 2 => (h2 h).decs
  rw [holdsT]
  unfold withinT at ww
  generalize hra : ev A = ra at *
  generalize hrb : ev B = rb at *
  generalize matchT ev v ks = rm at *
  obtain ⟨va, ea⟩ := ra
  obtain ⟨vb, eb⟩ := rb
  obtain ⟨bm, em⟩ := rm
  clear hra hrb h2 h3
  obtain ⟨k1, b1, m1, c1, t1, lo1, hi1, kids1⟩ := A
  obtain ⟨k2, b2, m2, c2, t2, lo2, hi2, kids2⟩ := B
  have da := exsC_closed kids1
  have db := exsC_closed kids2
  have dk := tesC_closed ks
  simp only [Te.cells_eq, Ex.cells, List.cons_append, List.nil_append, Vl.v, Vl.cs_def] at wA ww hk ⊢
  by_cases q1 : k = 1
  · subst q1
    simp (maxSteps:=999999) -dsimp -implicitDefEqProofs only [↓eqD,eqU,eqV,eqW,vbuiltinQ,vlen,vslice,vindex,vstore,Array.toList,simprocAttr,fnWp_some Tryz.func31,Tryz.f31,T0,FB,FC,none_at,WS4_at,add_at,da,db,dk,vlsC_closed]; (repeat ((with_reducible (refine And.intro ?_ ?_)); (focus (first | omega | exact ⟨by omega, by omega⟩))))
    refine VDone.back hG ?_ rfl (by simp)
    intro j hj; simp (maxSteps:=999999) -dsimp -implicitDefEqProofs only [↓eqD,eqU,eqV,eqW,vbuiltinQ,vlen,vslice,vindex,vstore,Array.toList,simprocAttr,lt6 hj]
  by_cases q2 : k = 2
  · subst q2
    have wA := wA rfl
    have dA := dA rfl
    simp (maxSteps:=999999) -dsimp -implicitDefEqProofs only [↓eqD,eqU,eqV,eqW,vbuiltinQ,vlen,vslice,vindex,vstore,Array.toList,simprocAttr,fnWp_some Tryz.func31,Tryz.f31,T0,FB,FC,none_at,WS4_at,add_at,da,db,dk,vlsC_closed]; (repeat ((with_reducible (refine And.intro ?_ ?_)); (focus (first | omega | exact ⟨by omega, by omega⟩))))
    refine VPure.calls (wA _) ?_
    by_cases h1 : ea = 0
    · subst h1
      simp (maxSteps:=999999) -dsimp -implicitDefEqProofs only [↓eqD,eqU,eqV,eqW,vbuiltinQ,vlen,vslice,vindex,vstore,Array.toList,simprocAttr,T0,FB,FC,none_at,WS4_at,add_at,gRel,gTruth_eq,gV1,opt_map_some,vlOf_cs,Vl.v,Vl.cs_def,hv,dA]; (repeat ((with_reducible (refine And.intro ?_ ?_)); (focus (first | omega | exact ⟨by omega, by omega⟩))))
      refine VDone.back hG ?_ rfl (by simp)
      intro j hj; simp (maxSteps:=999999) -dsimp -implicitDefEqProofs only [↓eqD,eqU,eqV,eqW,vbuiltinQ,vlen,vslice,vindex,vstore,Array.toList,simprocAttr,lt6 hj]
    · simp (maxSteps:=999999) -dsimp -implicitDefEqProofs only [↓eqD,eqU,eqV,eqW,vbuiltinQ,vlen,vslice,vindex,vstore,Array.toList,simprocAttr,T0,FB,FC,none_at,WS4_at,add_at,h1]; (repeat ((with_reducible (refine And.intro ?_ ?_)); (focus (first | omega | exact ⟨by omega, by omega⟩))))
      refine VDone.back hG ?_ rfl (by simp [h1])
      intro j hj; simp (maxSteps:=999999) -dsimp -implicitDefEqProofs only [↓eqD,eqU,eqV,eqW,vbuiltinQ,vlen,vslice,vindex,vstore,Array.toList,simprocAttr,lt6 hj]
  by_cases q3 : k = 3
  · subst q3
    have ww := ww rfl
    simp (maxSteps:=999999) -dsimp -implicitDefEqProofs only [↓eqD,eqU,eqV,eqW,vbuiltinQ,vlen,vslice,vindex,vstore,Array.toList,simprocAttr,fnWp_some Tryz.func31,Tryz.f31,T0,FB,FC,none_at,WS4_at,add_at,da,db,dk,vlsC_closed]; (repeat ((with_reducible (refine And.intro ?_ ?_)); (focus (first | omega | exact ⟨by omega, by omega⟩))))
    refine VPure.calls (ww _) ?_
    simp (maxSteps:=999999) -dsimp -implicitDefEqProofs only [↓eqD,eqU,eqV,eqW,vbuiltinQ,vlen,vslice,vindex,vstore,Array.toList,simprocAttr,T0,FB,FC,none_at,WS4_at,add_at]; (repeat ((with_reducible (refine And.intro ?_ ?_)); (focus (first | omega | exact ⟨by omega, by omega⟩))))
    refine VDone.back hG ?_ rfl (by simp)
    intro j hj; simp (maxSteps:=999999) -dsimp -implicitDefEqProofs only [↓eqD,eqU,eqV,eqW,vbuiltinQ,vlen,vslice,vindex,vstore,Array.toList,simprocAttr,lt6 hj]
  by_cases q4 : k = 4
  · subst q4
    simp (maxSteps:=999999) -dsimp -implicitDefEqProofs only [↓eqD,eqU,eqV,eqW,vbuiltinQ,vlen,vslice,vindex,vstore,Array.toList,simprocAttr,fnWp_some Tryz.func31,Tryz.f31,T0,FB,FC,none_at,WS4_at,add_at,da,db,dk,vlsC_closed]; (repeat ((with_reducible (refine And.intro ?_ ?_)); (focus (first | omega | exact ⟨by omega, by omega⟩))))
    refine VPure.calls (hk _) ?_
    by_cases h1 : em = 0
    · subst h1
      simp (maxSteps:=999999) -dsimp -implicitDefEqProofs only [↓eqD,eqU,eqV,eqW,vbuiltinQ,vlen,vslice,vindex,vstore,Array.toList,simprocAttr,T0,FB,FC,none_at,WS4_at,add_at]; (repeat ((with_reducible (refine And.intro ?_ ?_)); (focus (first | omega | exact ⟨by omega, by omega⟩))))
      refine VDone.back hG ?_ rfl (by simp)
      intro j hj; simp (maxSteps:=999999) -dsimp -implicitDefEqProofs only [↓eqD,eqU,eqV,eqW,vbuiltinQ,vlen,vslice,vindex,vstore,Array.toList,simprocAttr,lt6 hj]
    · simp (maxSteps:=999999) -dsimp -implicitDefEqProofs only [↓eqD,eqU,eqV,eqW,vbuiltinQ,vlen,vslice,vindex,vstore,Array.toList,simprocAttr,T0,FB,FC,none_at,WS4_at,add_at,h1]; (repeat ((with_reducible (refine And.intro ?_ ?_)); (focus (first | omega | exact ⟨by omega, by omega⟩))))
      refine VDone.back hG ?_ rfl (by simp [h1])
      intro j hj; simp (maxSteps:=999999) -dsimp -implicitDefEqProofs only [↓eqD,eqU,eqV,eqW,vbuiltinQ,vlen,vslice,vindex,vstore,Array.toList,simprocAttr,lt6 hj]
  simp (maxSteps:=999999) -dsimp -implicitDefEqProofs only [↓eqD,eqU,eqV,eqW,vbuiltinQ,vlen,vslice,vindex,vstore,Array.toList,simprocAttr,fnWp_some Tryz.func31,Tryz.f31,T0,FB,FC,none_at,WS4_at,add_at,da,db,dk,vlsC_closed,q1,q2,q3,q4]; (repeat ((with_reducible (refine And.intro ?_ ?_)); (focus (first | omega | exact ⟨by omega, by omega⟩))))
  refine VDone.back hG ?_ rfl (by simp [q1, q2, q3, q4])
  intro j hj; simp (maxSteps:=999999) -dsimp -implicitDefEqProofs only [↓eqD,eqU,eqV,eqW,vbuiltinQ,vlen,vslice,vindex,vstore,Array.toList,simprocAttr,lt6 hj]
theorem matchT_at {ev : Ex → Vl × Int} {v : Vl} {l : List Te} {i : Nat} (h : i < l.length) : matchT ev v (l.drop i) = if (holdsT ev v l[i]).1 = true ∨ (holdsT ev v l[i]).2 ≠ 0 then holdsT ev v l[i] else matchT ev v (l.drop (i + 1)) := by
  rw [List.drop_eq_getElem_cons h, matchT]
theorem ok_cmatch : fnOk Tryz.prog 15 T0 3 = true := by kernel_rfl
set_option maxRecDepth 100000 in
set_option maxHeartbeats 2000000 in
theorem cmatch_walk0 {env : V} {ev : Ex → Vl × Int} {v : Vl} (l : List Te) (hl : l.length ≤ 9223372036854775807)
    (hh : ∀ (i : Nat) (h : i < l.length) (G : Heap), VPure Tryz.prog 31 [.agg l[i].cells, v.v, env] G (.tup [.bool (holdsT ev v l[i]).1, .int .i64 (holdsT ev v l[i]).2])) (G : Heap) :
    VPure Tryz.prog 15 [.sl 21 l.length (tesC l), v.v, env] G (.tup [.bool (matchT ev v l).1, .int .i64 (matchT ev v l).2]) := by
  refine VCalls.of (SOk.none _) mixed T0 ok_cmatch fun hG => ?_
  simp only [Vl.v, Vl.cs_def] at hh ⊢
  simp (maxSteps:=999999) -dsimp -implicitDefEqProofs only [↓eqD,eqU,eqV,eqW,vbuiltinQ,vlen,vslice,vindex,vstore,Array.toList,simprocAttr,fnWp_some Tryz.func15,Tryz.f15,T0,FB,FC,none_at,vlsC_closed]; (repeat ((with_reducible (refine And.intro ?_ ?_)); (focus (first | omega | exact ⟨by omega, by omega⟩))))
  refine vloop_by (fun x : Nat × Nat => x.1 ≤ l.length ∧ G.next < x.2 ∧ matchT ev v l = matchT ev v (l.drop x.1)) (fun x => Env.of [(2, env), (4, .ptr G.next 0 0), (12, .sl 21 l.length (tesC l)), (13, .int .i64 l.length), (14, .int .i64 x.1)]) (fun x => G.over x.2 [(G.next, .cells 0 [.int .i64 v.kind, .bool v.b, .int .i64 v.m, .int .i64 v.s, .str v.t, .sl 6 v.l.length (vlsC v.l)])]) (fun x => l.length - x.1) (0, G.next + 1) ?_ ?_ ?_
  · refine .of ?_ (.over hG ?_ ?_ ?_)
    · simp (maxSteps:=999999) -dsimp -implicitDefEqProofs only [↓eqD,eqU,eqV,eqW,vbuiltinQ,vlen,vslice,vindex,vstore,Array.toList,simprocAttr]
      (repeat' apply And.intro) <;> exact .refl _
    · simp (maxSteps:=999999) -dsimp -implicitDefEqProofs only [↓eqD,eqU,eqV,eqW,vbuiltinQ,vlen,vslice,vindex,vstore,Array.toList,simprocAttr]
    · simp (maxSteps:=999999) -dsimp -implicitDefEqProofs only [↓eqD,eqU,eqV,eqW,vbuiltinQ,vlen,vslice,vindex,vstore,Array.toList,simprocAttr,FB,FC]
    · intro j hj
      have hj : j < G.next := hj
      simp (maxSteps:=999999) -dsimp -implicitDefEqProofs only [↓eqD,eqU,eqV,eqW,vbuiltinQ,vlen,vslice,vindex,vstore,Array.toList,simprocAttr,lt6 hj]
  · exact ⟨Nat.zero_le _, Nat.lt_succ_self _, rfl⟩
  · rintro ⟨i, n⟩ ⟨hle, hn, hI⟩
    simp only at hle hn hI ⊢
    have hn1 := Nat.ne_of_lt hn
    have hn2 := Nat.ne_of_gt hn
    by_cases hlt : i < l.length
    case neg =>
      have k1 : ¬(i : Int) < (l.length : Int) := by omega
      rw [hI, List.drop_of_length_le (by omega), matchT]
      simp (maxSteps:=999999) -dsimp -implicitDefEqProofs only [↓eqD,eqU,eqV,eqW,vbuiltinQ,vlen,vslice,vindex,vstore,Array.toList,simprocAttr,T0,FB,FC,none_at,k1]; (repeat ((with_reducible (refine And.intro ?_ ?_)); (focus (first | omega | exact ⟨by omega, by omega⟩))))
      refine VDone.back hG ?_ rfl rfl
      intro j hj
      have hj2 : j < n := by omega
      simp (maxSteps:=999999) -dsimp -implicitDefEqProofs only [↓eqD,eqU,eqV,eqW,vbuiltinQ,vlen,vslice,vindex,vstore,Array.toList,simprocAttr,lt6 hj,lt6 hj2]
    have hx := tes_at hlt
    have hs := matchT_at (ev := ev) (v := v) hlt
    have k1 : (i : Int) < (l.length : Int) := by omega
    have k2 : 0 ≤ (i : Int) := by omega
    have kw : IntKind.wrap .i64 ((i : Int) + 1) = ((i + 1 : Nat) : Int) := by rw [w64 (by omega) (by omega)]; rfl
    have w := hh i hlt
    rw [hI, hs]
    generalize l[i] = e at *
    generalize holdsT ev v e = rh at *
    obtain ⟨bh, eh⟩ := rh
    obtain ⟨k, r, ⟨ka, ba, ma, na, ta, loa, hia, kidsa⟩, ⟨kb, bb, mb, nb, tb, lob, hib, kidsb⟩, lo, hi, ks⟩ := e
    have da := exsC_closed kidsa
    have db := exsC_closed kidsb
    have dk := tesC_closed ks
    simp only [Te.cells_eq, Ex.cells, List.cons_append, List.nil_append] at hx w
    simp (maxSteps:=999999) -dsimp -implicitDefEqProofs only [↓eqD,eqU,eqV,eqW,vbuiltinQ,vlen,vslice,vindex,vstore,Array.toList,simprocAttr,T0,FB,FC,none_at,k1,k2,hx,da,db,dk,hn1,hn2]; (repeat ((with_reducible (refine And.intro ?_ ?_)); (focus (first | omega | exact ⟨by omega, by omega⟩))))
    refine VPure.calls (w _) ?_
    by_cases hb : bh = true
    · subst hb
      rw [if_pos (.inl rfl)]
      simp (maxSteps:=999999) -dsimp -implicitDefEqProofs only [↓eqD,eqU,eqV,eqW,vbuiltinQ,vlen,vslice,vindex,vstore,Array.toList,simprocAttr,T0,FB,FC,none_at,kw,hn1,hn2,ne_eq]; (repeat ((with_reducible (refine And.intro ?_ ?_)); (focus (first | omega | exact ⟨by omega, by omega⟩))))
      refine VDone.back hG ?_ rfl rfl
      intro j hj
      have hj2 : j < n := by omega
      simp (maxSteps:=999999) -dsimp -implicitDefEqProofs only [↓eqD,eqU,eqV,eqW,vbuiltinQ,vlen,vslice,vindex,vstore,Array.toList,simprocAttr,lt6 hj,lt6 hj2]
    have hb : bh = false := by simpa using hb
    subst hb
    by_cases he : eh = 0
    · subst he
      rw [if_neg (by simp)]
      simp (maxSteps:=999999) -dsimp -implicitDefEqProofs only [↓eqD,eqU,eqV,eqW,vbuiltinQ,vlen,vslice,vindex,vstore,Array.toList,simprocAttr,T0,FB,FC,none_at,kw,hn1,hn2,ne_eq]; (repeat ((with_reducible (refine And.intro ?_ ?_)); (focus (first | omega | exact ⟨by omega, by omega⟩))))
      refine ⟨(i + 1, n + 1), ⟨by simp only; omega, by simp only; omega, rfl⟩, by simp only; omega, .of ?_ (.over hG ?_ ?_ ?_)⟩
      · simp (maxSteps:=999999) -dsimp -implicitDefEqProofs only [↓eqD,eqU,eqV,eqW,vbuiltinQ,vlen,vslice,vindex,vstore,Array.toList,simprocAttr]
        (repeat' apply And.intro) <;> exact .refl _
      · simp (maxSteps:=999999) -dsimp -implicitDefEqProofs only [↓eqD,eqU,eqV,eqW,vbuiltinQ,vlen,vslice,vindex,vstore,Array.toList,simprocAttr]
      · simp (maxSteps:=999999) -dsimp -implicitDefEqProofs only [↓eqD,eqU,eqV,eqW,vbuiltinQ,vlen,vslice,vindex,vstore,Array.toList,simprocAttr,FB,FC,hn1,hn2]
      · intro j hj
        have hj : j < G.next := hj
        have hj2 : j < n := by omega
        simp (maxSteps:=999999) -dsimp -implicitDefEqProofs only [↓eqD,eqU,eqV,eqW,vbuiltinQ,vlen,vslice,vindex,vstore,Array.toList,simprocAttr,lt6 hj,lt6 hj2]
    · rw [if_pos (.inr he)]
      simp (maxSteps:=999999) -dsimp -implicitDefEqProofs only [↓eqD,eqU,eqV,eqW,vbuiltinQ,vlen,vslice,vindex,vstore,Array.toList,simprocAttr,T0,FB,FC,none_at,kw,hn1,hn2,he,ne_eq]; (repeat ((with_reducible (refine And.intro ?_ ?_)); (focus (first | omega | exact ⟨by omega, by omega⟩))))
      refine VDone.back hG ?_ rfl rfl
      intro j hj
      have hj2 : j < n := by omega
      simp (maxSteps:=999999) -dsimp -implicitDefEqProofs only [↓eqD,eqU,eqV,eqW,vbuiltinQ,vlen,vslice,vindex,vstore,Array.toList,simprocAttr,lt6 hj,lt6 hj2]
mutual
theorem cmatch_walk {env : V} {ev : Ex → Vl × Int} {v : Vl} (hv : v.decs) : ∀ (l : List Te), l.length ≤ 9223372036854775807 → evTs (EvAt env ev) l → ∀ G, VPure Tryz.prog 15 [.sl 21 l.length (tesC l), v.v, env] G (.tup [.bool (matchT ev v l).1, .int .i64 (matchT ev v l).2])
  | l, hl, h, G => cmatch_walk0 l hl (fun i hi G => cholds_at hv l h i hi G) G
theorem cholds_at {env : V} {ev : Ex → Vl × Int} {v : Vl} (hv : v.decs) : ∀ (l : List Te), evTs (EvAt env ev) l → ∀ (i : Nat) (h : i < l.length) (G : Heap), VPure Tryz.prog 31 [.agg l[i].cells, v.v, env] G (.tup [.bool (holdsT ev v l[i]).1, .int .i64 (holdsT ev v l[i]).2])
  | .mk k r a b lo hi ks :: q, hs, 0, _, G => by
    rw [evTs, evT] at hs
    exact cholds_walk0 hv k r a b lo hi ks hs.1.1.1 hs.1.1.2 (fun G => cmatch_walk hv ks hs.1.2.1 hs.1.2.2 G) G
  | a :: r, hs, i + 1, h, G => by rw [evTs] at hs; exact cholds_at hv r hs.2 i (by simpa using h) G
end
end Go.Vf
set_option linter.unusedVariables false
set_option linter.unusedSimpArgs false
namespace Go.Vf
open Go.Proofs Go.RowKit
def evN : Ex → Vl × Int
  | .mk k _ m s _ _ _ _ => if k = 3 then (.num m s, 0) else (.null, 0)
def numOkB : Ex → Bool
  | .mk k _ m s _ _ _ _ => decide (k = 3) && decIs m s
theorem evN_at {x : Ex} (h : numOkB x = true) (env : V) : EvAt env evN x := by
  obtain ⟨k, b, m, s, t, lo, hi, ks⟩ := x
  unfold numOkB at h
  simp only [Bool.and_eq_true, decide_eq_true_eq] at h
  obtain ⟨rfl, h⟩ := h
  have he : evN (.mk 3 b m s t lo hi ks) = (.num m s, 0) := rfl
  refine ⟨fun G => ?_, ?_⟩
  · rw [he]; exact eeval_num h b t lo hi ks env G
  · rw [he]
    unfold Vl.num Vl.decs
    exact ⟨fun _ => decIs_in h, by simp, trivial⟩
mutual
def evB : Te → Bool
  | .mk k _ a b _ _ ks => ((decide (k ≠ 2) || numOkB a) && (decide (k ≠ 3) || (numOkB a && numOkB b))) && (decide (ks.length ≤ 1000) && evBs ks)
def evBs : List Te → Bool
  | [] => true
  | a :: r => evB a && evBs r
end
mutual
theorem evB_ok (env : V) : ∀ t : Te, evB t = true → evT (EvAt env evN) t
  | .mk k r a b lo hi ks, h => by
    rw [evB] at h
    simp only [Bool.and_eq_true, Bool.or_eq_true, decide_eq_true_eq] at h
    obtain ⟨⟨h1, h2⟩, h3, h4⟩ := h
    rw [evT]
    refine ⟨⟨fun e => evN_at (h1.resolve_left (fun n => n e)) env, fun e => ?_⟩, by omega, evBs_ok env ks h4⟩
    have := h2.resolve_left (fun n => n e)
    exact ⟨evN_at this.1 env, evN_at this.2 env⟩
theorem evBs_ok (env : V) : ∀ l : List Te, evBs l = true → evTs (EvAt env evN) l
  | [], _ => trivial
  | a :: r, h => by
    rw [evBs] at h
    simp only [Bool.and_eq_true] at h
    rw [evTs]
    exact ⟨evB_ok env a h.1, evBs_ok env r h.2⟩
end
def gParse : List V → Option (Prop × V)
  | [.str s] => some (True, (parseC z1 s).v)
  | _ => none
theorem cparse_same (s : List UInt8) (G : Heap) : VPure Tryz.prog 10 [.str s] G (parseC z1 s).v := by
  rw [parseC_same z1 z0]; exact cparse_walk s G
theorem ok_parseS {P : Specs} (hP : SOk Tryz.prog P) : SOk Tryz.prog (P.add 10 gParse) := hP.add fun xs G p v e hp => by
  unfold gParse at e
  split at e
  · cases e; exact cparse_same _ G
  · cases e
theorem ok_lnum : fnOk Tryz.prog 33 T0 1 = true := by kernel_rfl
set_option maxRecDepth 100000 in
theorem lnum_walk (n : Int) (G : Heap) : VPure Tryz.prog 33 [.int .i64 n] G (Vl.num n 0).v := by
  refine VCalls.of (SOk.none _) mixed T0 ok_lnum fun hG => ?_
  simp (maxSteps:=999999) -dsimp -implicitDefEqProofs only [↓eqD,eqU,eqV,eqW,vbuiltinQ,vlen,vslice,vindex,vstore,Array.toList,simprocAttr,fnWp_some Tryz.func33,Tryz.f33,T0,FB,FC,none_at,f23_0,f23_1,p23_0,p23_1,st23,ag23,z23,c23,i23]; (repeat ((with_reducible (refine And.intro ?_ ?_)); (focus (first | omega | exact ⟨by omega, by omega⟩))))
  refine .weak (vle_v0 2 false n 0 []) (VDone.back hG ?_ rfl rfl)
  intro j hj; simp (maxSteps:=999999) -dsimp -implicitDefEqProofs only [↓eqD,eqU,eqV,eqW,vbuiltinQ,vlen,vslice,vindex,vstore,Array.toList,simprocAttr,lt6 hj]
def gLnum : List V → Option (Prop × V)
  | [.int .i64 n] => some (True, .agg [.int .i64 2, .bool false, .int .i64 n, .int .i64 0, .str [], .sl 6 0 []])
  | _ => none
theorem ok_lnumS {P : Specs} (hP : SOk Tryz.prog P) : SOk Tryz.prog (P.add 33 gLnum) := hP.add fun xs G p v e hp => by
  unfold gLnum at e
  split at e
  · cases e; exact lnum_walk _ G
  · cases e
def LS1 : Specs := (Specs.none.add 10 gParse).add 33 gLnum
theorem LS1_at (f : FuncId) (xs : List V) (G : Heap) : LS1 f xs G = ((Specs.none.add 10 gParse).add 33 gLnum) f xs G := rfl
theorem okLS1 : SOk Tryz.prog LS1 := ok_lnumS (ok_parseS (SOk.none _))
def holdsL (s : List UInt8) (n : Int) : Bool := decide ((parseC z1 s).e = 0) && ((matchT evN (.num n 0) (parseC z1 s).l).1 && decide ((matchT evN (.num n 0) (parseC z1 s).l).2 = 0))
def numsOk (s : List UInt8) : Bool := decide ((parseC z1 s).e ≠ 0) || (decide ((parseC z1 s).l.length ≤ 1000) && evBs (parseC z1 s).l)
theorem ok_lholds : fnOk Tryz.prog 18 T0 2 = true := by kernel_rfl
set_option maxRecDepth 100000 in
set_option maxHeartbeats 1000000 in
theorem lholds_walk (s : List UInt8) (n : Int) (hn : In9 n) (hs : numsOk s = true) (G : Heap) : VPure Tryz.prog 18 [.str s, .int .i64 n] G (.bool (holdsL s n)) := by
  refine VCalls.of (okLS1) mixed T0 ok_lholds fun hG => ?_
  unfold holdsL
  unfold numsOk at hs
  generalize hr : parseC z1 s = r at *
  obtain ⟨l, pn, pe⟩ := r
  simp only at hs ⊢
  by_cases he : pe = 0
  case neg =>
    simp (maxSteps:=999999) -dsimp -implicitDefEqProofs only [↓eqD,eqU,eqV,eqW,vbuiltinQ,vlen,vslice,vindex,vstore,Array.toList,simprocAttr,fnWp_some Tryz.func18,Tryz.f18,T0,FB,FC,none_at,LS1_at,add_at,gParse,gLnum,hr,Tests.v,he,ne_eq]; (repeat ((with_reducible (refine And.intro ?_ ?_)); (focus (first | omega | exact ⟨by omega, by omega⟩))))
    (repeat ((with_reducible (refine And.intro ?_ ?_)); (focus (first | omega | exact ⟨by omega, by omega⟩)))); (refine VDone.back hG ?_ rfl ?_); (intro j hj; first | rfl | simp (maxSteps:=999999) -dsimp -implicitDefEqProofs only [↓eqD,eqU,eqV,eqW,vbuiltinQ,vlen,vslice,vindex,vstore,Array.toList,simprocAttr,lt6 hj]); (first | rfl | simp [he])
  subst he
  have hs : decide (l.length ≤ 1000) = true ∧ evBs l = true := by simpa using hs
  have hl : l.length ≤ 1000 := by simpa using hs.1
  have hdec : (Vl.num n 0).decs := by unfold Vl.num Vl.decs; exact ⟨fun _ => ⟨hn, by decide, by decide⟩, by simp, trivial⟩
  have w := cmatch_walk (env := .nilsl) hdec l (by omega) (evBs_ok .nilsl l hs.2)
  generalize matchT evN (.num n 0) l = rm at *
  obtain ⟨bm, em⟩ := rm
  have hv : (Vl.num n 0).v = .agg [.int .i64 2, .bool false, .int .i64 n, .int .i64 0, .str [], .sl 6 0 []] := rfl
  rw [hv] at w
  have dl := tesC_closed l
  simp (maxSteps:=999999) -dsimp -implicitDefEqProofs only [↓eqD,eqU,eqV,eqW,vbuiltinQ,vlen,vslice,vindex,vstore,Array.toList,simprocAttr,fnWp_some Tryz.func18,Tryz.f18,T0,FB,FC,none_at,LS1_at,add_at,gParse,gLnum,hr,Tests.v,ne_eq,dl]; (repeat ((with_reducible (refine And.intro ?_ ?_)); (focus (first | omega | exact ⟨by omega, by omega⟩))))
  refine VPure.calls (w _) ?_
  cases bm with
  | true =>
    simp (maxSteps:=999999) -dsimp -implicitDefEqProofs only [↓eqD,eqU,eqV,eqW,vbuiltinQ,vlen,vslice,vindex,vstore,Array.toList,simprocAttr,T0,FB,FC,none_at,LS1_at,add_at]; (repeat ((with_reducible (refine And.intro ?_ ?_)); (focus (first | omega | exact ⟨by omega, by omega⟩))))
    (repeat ((with_reducible (refine And.intro ?_ ?_)); (focus (first | omega | exact ⟨by omega, by omega⟩)))); (refine VDone.back hG ?_ rfl ?_); (intro j hj; first | rfl | simp (maxSteps:=999999) -dsimp -implicitDefEqProofs only [↓eqD,eqU,eqV,eqW,vbuiltinQ,vlen,vslice,vindex,vstore,Array.toList,simprocAttr,lt6 hj]); (first | rfl | simp [])
  | false =>
    simp (maxSteps:=999999) -dsimp -implicitDefEqProofs only [↓eqD,eqU,eqV,eqW,vbuiltinQ,vlen,vslice,vindex,vstore,Array.toList,simprocAttr,T0,FB,FC,none_at,LS1_at,add_at]; (repeat ((with_reducible (refine And.intro ?_ ?_)); (focus (first | omega | exact ⟨by omega, by omega⟩))))
    (repeat ((with_reducible (refine And.intro ?_ ?_)); (focus (first | omega | exact ⟨by omega, by omega⟩)))); (refine VDone.back hG ?_ rfl ?_); (intro j hj; first | rfl | simp (maxSteps:=999999) -dsimp -implicitDefEqProofs only [↓eqD,eqU,eqV,eqW,vbuiltinQ,vlen,vslice,vindex,vstore,Array.toList,simprocAttr,lt6 hj]); (first | rfl | simp [])
def gHolds : List V → Option (Prop × V)
  | [.str s, .int .i64 n] => some (In9 n ∧ numsOk s = true, .bool (holdsL s n))
  | _ => none
theorem ok_holdsS {P : Specs} (hP : SOk Tryz.prog P) : SOk Tryz.prog (P.add 18 gHolds) := hP.add fun xs G p v e hp => by
  unfold gHolds at e
  split at e
  · cases e; exact lholds_walk _ _ hp.1 hp.2 G
  · cases e
def LS2 : Specs := Specs.none.add 18 gHolds
theorem LS2_at (f : FuncId) (xs : List V) (G : Heap) : LS2 f xs G = (Specs.none.add 18 gHolds) f xs G := rfl
theorem okLS2 : SOk Tryz.prog LS2 := ok_holdsS (SOk.none _)
def knB : List UInt8 := [91, 49, 46, 46, 53, 41, 44, 32, 62, 32, 57]
theorem kn_fold : ([91, 49, 46, 46, 53, 41, 44, 32, 62, 32, 57] : List UInt8) = knB := rfl
theorem kn_ok : numsOk knB = true ∧ numsOk [45] = true ∧ holdsL knB 1 = true ∧ holdsL knB 5 = false ∧ holdsL knB 10 = true ∧ holdsL [45] 3 = true := by
  refine ⟨?_, ?_, ?_, ?_, ?_, ?_⟩ <;> kernel_rfl
theorem in9s : In9 1 ∧ In9 5 ∧ In9 10 ∧ In9 3 := by unfold In9; omega
theorem ok_lknown : fnOk Tryz.prog 13 T0 0 = true := by kernel_rfl
set_option maxRecDepth 100000 in
theorem lknown_walk (G : Heap) : VPure Tryz.prog 13 [] G (.bool true) := by
  refine VCalls.of (okLS2) mixed T0 ok_lknown fun hG => ?_
  obtain ⟨k1, k2, k3, k4, k5, k6⟩ := kn_ok
  obtain ⟨n1, n2, n3, n4⟩ := in9s
  simp (maxSteps:=999999) -dsimp -implicitDefEqProofs only [↓eqD,eqU,eqV,eqW,vbuiltinQ,vlen,vslice,vindex,vstore,Array.toList,simprocAttr,fnWp_some Tryz.func13,Tryz.f13,T0,FB,FC,none_at,LS2_at,add_at,gHolds,kn_fold,k1,k2,k3,k4,k5,k6,n1,n2,n3,n4]; (repeat ((with_reducible (refine And.intro ?_ ?_)); (focus (first | omega | exact ⟨by omega, by omega⟩))))
  (repeat ((with_reducible (refine And.intro ?_ ?_)); (focus (first | omega | exact ⟨by omega, by omega⟩)))); (refine VDone.back hG ?_ rfl ?_); (intro j hj; first | rfl | simp (maxSteps:=999999) -dsimp -implicitDefEqProofs only [↓eqD,eqU,eqV,eqW,vbuiltinQ,vlen,vslice,vindex,vstore,Array.toList,simprocAttr,lt6 hj]); (first | rfl | simp [])
end Go.Vf
