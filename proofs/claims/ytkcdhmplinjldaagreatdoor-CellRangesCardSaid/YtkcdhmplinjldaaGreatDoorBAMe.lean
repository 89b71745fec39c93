/- A part of the proof: Me, Mf, Mg. -/
import Derived.Test.YtkcdhmplinjldaaGreatDoorBAMa
set_option linter.unusedVariables false
set_option linter.unusedSimpArgs false
namespace Go.Vf
open Go.Proofs Go.RowKit
def sumsB : List UInt8 := [32, 43, 32, 45, 32]
def productsB : List UInt8 := [32, 42, 32, 47, 32]
def opOf (T : List Tok) (b : List UInt8) : St → List UInt8 × St := fun s => (ofV T s b, ofT T s b)
def opWord (T : List Tok) (w : List UInt8) : St → List UInt8 × St := fun s => (wordV T s w, takeT T s 1 w)
theorem steps_of (T : List Tok) (b : List UInt8) : Steps T (opOf T b) := fun s h => by
  unfold opOf ofV ofT
  simp only
  by_cases c : ofOk T s b = true
  · have := c
    unfold ofOk at this
    simp only [Bool.and_eq_true, decide_eq_true_eq] at this
    have hl := (isT_lt (T := T) (s := s) (kind := 4) (text := (nowT T s).text) (by decide) (by unfold isT; simp [this.1])).2
    rw [if_pos c, if_pos c]
    exact ⟨by omega, by omega, fun _ => by omega⟩
  · rw [if_neg c, if_neg c]
    exact ⟨Nat.le_refl _, h, fun e => (e rfl).elim⟩
theorem steps_word (T : List Tok) (w : List UInt8) : Steps T (opWord T w) := fun s h => by
  unfold opWord wordV takeT
  simp only
  by_cases c : isT T s 1 w = true
  · have hl := (isT_lt (by decide) c).2
    rw [if_pos c, if_pos c]
    exact ⟨by omega, by omega, fun _ => by omega⟩
  · rw [if_neg c, if_neg c]
    exact ⟨Nat.le_refl _, h, fun e => (e rfl).elim⟩
theorem okm68 : fnOk Tryz.prog 216 T0 2 = true := by kernel_rfl
set_option maxRecDepth 100000 in
theorem mul_walk {T : List Tok} {en : Int} {id : Nat} {d : Int} {kid : Kid} (hT : Short T) (hk : KidAt T en id 224 d kid) (mk : Goes T kid) : KidAt T en id 216 d (rowP T kid (opOf T productsB)) := fun s G h => by
  refine VCalls.of (SOk.none _) mixed T0 okm68 fun hG => ?_
  have hid := hG.lt h.1
  have hu := fun s' => pcells_under T en s' G.next
  have m1 := rowP_goes mk (steps_of T productsB) s h.2.2
  simp (maxSteps:=999999) -dsimp -implicitDefEqProofs only [↓eqD,eqU,eqV,eqW,vbuiltinQ,vlen,vslice,vindex,vstore,Array.toList,simprocAttr,fnWp_some Tryz.func216,Tryz.f216,T0,FB,none_at,lt6 hid]
  refine (row_walk (B := fun H => H.get G.next = some (.cells 0 [.ptr id 0 0])) hk (op := opOf T productsB) (fun s H hp hb => products_walk hp hT hb) ?_ mk (steps_of T productsB) (by decide) (by decide) (s := s) ⟨?_, h.2.1, h.2.2⟩ ?_).mono ?_
  · intro H H' hj hb
    rw [hj _ (by simp (maxSteps:=999999) -dsimp -implicitDefEqProofs only [↓eqD,eqU,eqV,eqW,vbuiltinQ,vlen,vslice,vindex,vstore,Array.toList,simprocAttr]; omega) (by omega)]; exact hb
  · simp (maxSteps:=999999) -dsimp -implicitDefEqProofs only [↓eqD,eqU,eqV,eqW,vbuiltinQ,vlen,vslice,vindex,vstore,Array.toList,simprocAttr,lt6 hid]; exact h.1
  · simp (maxSteps:=999999) -dsimp -implicitDefEqProofs only [↓eqD,eqU,eqV,eqW,vbuiltinQ,vlen,vslice,vindex,vstore,Array.toList,simprocAttr,FB]
  rintro _ _ ⟨rfl, rfl⟩
  generalize rowP T kid (opOf T productsB) s = ks at *
  obtain ⟨⟨k0, b0, m0, s0, t0, lo0, hi0, kids0⟩, s1⟩ := ks
  simp (maxSteps:=999999) -dsimp -implicitDefEqProofs only [↓eqD,eqU,eqV,eqW,vbuiltinQ,vlen,vslice,vindex,vstore,Array.toList,simprocAttr,Ex.cells,FB,none_at,lt6 hid]
  refine VDone.turned hG hid (hu _) ?_ ?_ rfl rfl
  · simp (maxSteps:=999999) -dsimp -implicitDefEqProofs only [↓eqD,eqU,eqV,eqW,vbuiltinQ,vlen,vslice,vindex,vstore,Array.toList,simprocAttr,lt6 hid]
  · intro j hj hji; simp (maxSteps:=999999) -dsimp -implicitDefEqProofs only [↓eqD,eqU,eqV,eqW,vbuiltinQ,vlen,vslice,vindex,vstore,Array.toList,simprocAttr,lt6 hj,hji]
theorem okm57 : fnOk Tryz.prog 211 T0 2 = true := by kernel_rfl
set_option maxRecDepth 100000 in
theorem add_walk {T : List Tok} {en : Int} {id : Nat} {d : Int} {kid : Kid} (hT : Short T) (hk : KidAt T en id 216 d kid) (mk : Goes T kid) : KidAt T en id 211 d (rowP T kid (opOf T sumsB)) := fun s G h => by
  refine VCalls.of (SOk.none _) mixed T0 okm57 fun hG => ?_
  have hid := hG.lt h.1
  have hu := fun s' => pcells_under T en s' G.next
  have m1 := rowP_goes mk (steps_of T sumsB) s h.2.2
  simp (maxSteps:=999999) -dsimp -implicitDefEqProofs only [↓eqD,eqU,eqV,eqW,vbuiltinQ,vlen,vslice,vindex,vstore,Array.toList,simprocAttr,fnWp_some Tryz.func211,Tryz.f211,T0,FB,none_at,lt6 hid]
  refine (row_walk (B := fun H => H.get G.next = some (.cells 0 [.ptr id 0 0])) hk (op := opOf T sumsB) (fun s H hp hb => sums_walk hp hT hb) ?_ mk (steps_of T sumsB) (by decide) (by decide) (s := s) ⟨?_, h.2.1, h.2.2⟩ ?_).mono ?_
  · intro H H' hj hb
    rw [hj _ (by simp (maxSteps:=999999) -dsimp -implicitDefEqProofs only [↓eqD,eqU,eqV,eqW,vbuiltinQ,vlen,vslice,vindex,vstore,Array.toList,simprocAttr]; omega) (by omega)]; exact hb
  · simp (maxSteps:=999999) -dsimp -implicitDefEqProofs only [↓eqD,eqU,eqV,eqW,vbuiltinQ,vlen,vslice,vindex,vstore,Array.toList,simprocAttr,lt6 hid]; exact h.1
  · simp (maxSteps:=999999) -dsimp -implicitDefEqProofs only [↓eqD,eqU,eqV,eqW,vbuiltinQ,vlen,vslice,vindex,vstore,Array.toList,simprocAttr,FB]
  rintro _ _ ⟨rfl, rfl⟩
  generalize rowP T kid (opOf T sumsB) s = ks at *
  obtain ⟨⟨k0, b0, m0, s0, t0, lo0, hi0, kids0⟩, s1⟩ := ks
  simp (maxSteps:=999999) -dsimp -implicitDefEqProofs only [↓eqD,eqU,eqV,eqW,vbuiltinQ,vlen,vslice,vindex,vstore,Array.toList,simprocAttr,Ex.cells,FB,none_at,lt6 hid]
  refine VDone.turned hG hid (hu _) ?_ ?_ rfl rfl
  · simp (maxSteps:=999999) -dsimp -implicitDefEqProofs only [↓eqD,eqU,eqV,eqW,vbuiltinQ,vlen,vslice,vindex,vstore,Array.toList,simprocAttr,lt6 hid]
  · intro j hj hji; simp (maxSteps:=999999) -dsimp -implicitDefEqProofs only [↓eqD,eqU,eqV,eqW,vbuiltinQ,vlen,vslice,vindex,vstore,Array.toList,simprocAttr,lt6 hj,hji]
def gj33 : List V → Heap → Option (Prop × V × Heap)
  | [.ptr id 0 0, .str w], G => some (True, .func (.func 205) [] [.ptr G.next 0 0, .ptr (G.next + 1) 0 0], (G.alloc (.cells 0 [.ptr id 0 0])).alloc (.cells 0 [.str w]))
  | _, _ => none
theorem okm33 : fnOk Tryz.prog 191 T0 2 = true := by kernel_rfl
theorem joins_walk (id : Nat) (w : List UInt8) (G : Heap) : VCalls Tryz.prog 191 [.ptr id 0 0, .str w] G fun u H => u = .func (.func 205) [] [.ptr G.next 0 0, .ptr (G.next + 1) 0 0] ∧ H = (G.alloc (.cells 0 [.ptr id 0 0])).alloc (.cells 0 [.str w]) := by
  refine VCalls.of (SOk.none _) mixed T0 okm33 fun hG => ?_
  simp (maxSteps:=999999) -dsimp -implicitDefEqProofs only [↓eqD,eqU,eqV,eqW,vbuiltinQ,vlen,vslice,vindex,vstore,Array.toList,simprocAttr,fnWp_some Tryz.func191,Tryz.f191,T0,FB,none_at]
  exact .ok ⟨rfl, rfl⟩
def SJ : Specs := (Specs.none.addH 191 gj33).addH 188 (gP p30)
theorem SJ_at (f : FuncId) (xs : List V) (G : Heap) : SJ f xs G = ((Specs.none.addH 191 gj33).addH 188 (gP p30)) f xs G := rfl
theorem okSJ : SOk Tryz.prog SJ := by
  refine okP ((SOk.none _).addH ?_) ?_
  · intro xs G p v G' e hp
    unfold gj33 at e
    split at e
    · cases e; exact joins_walk _ _ _
    · cases e
  · intro T en s id G xs v s' h e
    unfold p30 at e
    split at e
    · cases e; exact errs_walk h _
    · cases e
theorem okm32 : fnOk Tryz.prog 190 T0 2 = true := by kernel_rfl
set_option maxRecDepth 100000 in
theorem and_walk {T : List Tok} {en : Int} {id : Nat} {d : Int} {kid : Kid} (hk : KidAt T en id 204 d kid) (mk : Goes T kid) : KidAt T en id 190 d (rowP T kid (opWord T [97, 110, 100])) := fun s G h => by
  refine VCalls.of okSJ mixed T0 okm32 fun hG => ?_
  have hid := hG.lt h.1
  have hu := fun s' => pcells_under T en s' G.next
  simp (maxSteps:=999999) -dsimp -implicitDefEqProofs only [↓eqD,eqU,eqV,eqW,vbuiltinQ,vlen,vslice,vindex,vstore,Array.toList,simprocAttr,fnWp_some Tryz.func190,Tryz.f190,T0,FB,SJ_at,addH_at,none_at,gj33,lt6 hid]
  refine (row_walk (B := fun H => H.get (G.next + 1) = some (.cells 0 [.ptr id 0 0]) ∧ H.get (G.next + 1 + 1) = some (.cells 0 [.str [97, 110, 100]])) hk (op := opWord T [97, 110, 100]) (fun s H hp hb => joined_walk hp hb.1 hb.2 (by omega)) ?_ mk (steps_word T [97, 110, 100]) (by decide) (by decide) (s := s) ⟨?_, h.2.1, h.2.2⟩ ?_).mono ?_
  · intro H H' hj hb
    rw [hj _ (by simp (maxSteps:=999999) -dsimp -implicitDefEqProofs only [↓eqD,eqU,eqV,eqW,vbuiltinQ,vlen,vslice,vindex,vstore,Array.toList,simprocAttr]; omega) (by omega), hj _ (by simp (maxSteps:=999999) -dsimp -implicitDefEqProofs only [↓eqD,eqU,eqV,eqW,vbuiltinQ,vlen,vslice,vindex,vstore,Array.toList,simprocAttr]; omega) (by omega)]; exact hb
  · simp (maxSteps:=999999) -dsimp -implicitDefEqProofs only [↓eqD,eqU,eqV,eqW,vbuiltinQ,vlen,vslice,vindex,vstore,Array.toList,simprocAttr,lt6 hid]; exact h.1
  · simp (maxSteps:=999999) -dsimp -implicitDefEqProofs only [↓eqD,eqU,eqV,eqW,vbuiltinQ,vlen,vslice,vindex,vstore,Array.toList,simprocAttr,FB]
  rintro _ _ ⟨rfl, rfl⟩
  generalize rowP T kid (opWord T [97, 110, 100]) s = ks at *
  obtain ⟨⟨k0, b0, m0, s0, t0, lo0, hi0, kids0⟩, s1⟩ := ks
  simp (maxSteps:=999999) -dsimp -implicitDefEqProofs only [↓eqD,eqU,eqV,eqW,vbuiltinQ,vlen,vslice,vindex,vstore,Array.toList,simprocAttr,Ex.cells,FB,SJ_at,addH_at,none_at,lt6 hid]
  refine VDone.turned hG hid (hu _) ?_ ?_ rfl rfl
  · simp (maxSteps:=999999) -dsimp -implicitDefEqProofs only [↓eqD,eqU,eqV,eqW,vbuiltinQ,vlen,vslice,vindex,vstore,Array.toList,simprocAttr,lt6 hid]
  · intro j hj hji; simp (maxSteps:=999999) -dsimp -implicitDefEqProofs only [↓eqD,eqU,eqV,eqW,vbuiltinQ,vlen,vslice,vindex,vstore,Array.toList,simprocAttr,lt6 hj,hji]
def exprP (T : List Tok) (en : Int) (d : Nat) (kid : Kid) : Kid := fun s => if 8 < d then (Ex.zero, errsT T en s 12) else rowP T kid (opWord T [111, 114]) s
theorem okm23 : fnOk Tryz.prog 158 T0 2 = true := by kernel_rfl
set_option maxRecDepth 100000 in
theorem expr_walk {T : List Tok} {en : Int} {id : Nat} {d : Nat} {kid : Kid} (hk : d ≤ 8 → KidAt T en id 190 d kid) (mk : Goes T kid) : KidAt T en id 158 d (exprP T en d kid) := fun s G h => by
  refine VCalls.of okSJ mixed T0 okm23 fun hG => ?_
  have hid := hG.lt h.1
  have hu := fun s' => pcells_under T en s' G.next
  unfold exprP
  by_cases hd : 8 < d
  · have c1 : 8 < (d : Int) := by omega
    have hp : parserOf (G.alloc (.cells 0 [.int .i64 0, .bool false, .int .i64 0, .int .i64 0, .str [], .bool false, .bool false, .nilsl])) id = some (T, en, s) := parserOf_of (by simp (maxSteps:=999999) -dsimp -implicitDefEqProofs only [↓eqD,eqU,eqV,eqW,vbuiltinQ,vlen,vslice,vindex,vstore,Array.toList,simprocAttr,lt6 hid]; exact h.1)
    have hp2 : ParserAt (G.alloc (.cells 0 [.int .i64 0, .bool false, .int .i64 0, .int .i64 0, .str [], .bool false, .bool false, .nilsl])) id T en s := ⟨by simp (maxSteps:=999999) -dsimp -implicitDefEqProofs only [↓eqD,eqU,eqV,eqW,vbuiltinQ,vlen,vslice,vindex,vstore,Array.toList,simprocAttr,lt6 hid]; exact h.1, h.2.1, h.2.2⟩
    simp (maxSteps:=999999) -dsimp -implicitDefEqProofs only [↓eqD,eqU,eqV,eqW,vbuiltinQ,vlen,vslice,vindex,vstore,Array.toList,simprocAttr,fnWp_some Tryz.func158,Tryz.f158,T0,FB,SJ_at,addH_at,none_at,gP,p30,lt6 hid,c1,hp,hp2]
    try rw [if_pos hd]
    refine .weak (vle_nil _ _ _ _ _ _ _) (VDone.turned hG hid (hu _) ?_ ?_ ?_ rfl)
    · simp (maxSteps:=999999) -dsimp -implicitDefEqProofs only [↓eqD,eqU,eqV,eqW,vbuiltinQ,vlen,vslice,vindex,vstore,Array.toList,simprocAttr,lt6 hid]
    · intro j hj hji; simp (maxSteps:=999999) -dsimp -implicitDefEqProofs only [↓eqD,eqU,eqV,eqW,vbuiltinQ,vlen,vslice,vindex,vstore,Array.toList,simprocAttr,lt6 hj,hji]
    · rfl
  · have c1 : ¬8 < (d : Int) := by omega
    rw [if_neg hd]
    simp (maxSteps:=999999) -dsimp -implicitDefEqProofs only [↓eqD,eqU,eqV,eqW,vbuiltinQ,vlen,vslice,vindex,vstore,Array.toList,simprocAttr,fnWp_some Tryz.func158,Tryz.f158,T0,FB,SJ_at,addH_at,none_at,gj33,lt6 hid,c1]
    refine (row_walk (B := fun H => H.get (G.next + 1) = some (.cells 0 [.ptr id 0 0]) ∧ H.get (G.next + 1 + 1) = some (.cells 0 [.str [111, 114]])) (hk (by omega)) (op := opWord T [111, 114]) (fun s H hp hb => joined_walk hp hb.1 hb.2 (by omega)) ?_ mk (steps_word T [111, 114]) (by decide) (by decide) (s := s) ⟨?_, h.2.1, h.2.2⟩ ?_).mono ?_
    · intro H H' hj hb
      rw [hj _ (by simp (maxSteps:=999999) -dsimp -implicitDefEqProofs only [↓eqD,eqU,eqV,eqW,vbuiltinQ,vlen,vslice,vindex,vstore,Array.toList,simprocAttr]; omega) (by omega), hj _ (by simp (maxSteps:=999999) -dsimp -implicitDefEqProofs only [↓eqD,eqU,eqV,eqW,vbuiltinQ,vlen,vslice,vindex,vstore,Array.toList,simprocAttr]; omega) (by omega)]; exact hb
    · simp (maxSteps:=999999) -dsimp -implicitDefEqProofs only [↓eqD,eqU,eqV,eqW,vbuiltinQ,vlen,vslice,vindex,vstore,Array.toList,simprocAttr,lt6 hid]; exact h.1
    · simp (maxSteps:=999999) -dsimp -implicitDefEqProofs only [↓eqD,eqU,eqV,eqW,vbuiltinQ,vlen,vslice,vindex,vstore,Array.toList,simprocAttr,FB]
    rintro _ _ ⟨rfl, rfl⟩
    generalize rowP T kid (opWord T [111, 114]) s = ks at *
    obtain ⟨⟨k0, b0, m0, s0, t0, lo0, hi0, kids0⟩, s1⟩ := ks
    simp (maxSteps:=999999) -dsimp -implicitDefEqProofs only [↓eqD,eqU,eqV,eqW,vbuiltinQ,vlen,vslice,vindex,vstore,Array.toList,simprocAttr,Ex.cells,FB,SJ_at,addH_at,none_at,lt6 hid]
    refine VDone.turned hG hid (hu _) ?_ ?_ rfl rfl
    · simp (maxSteps:=999999) -dsimp -implicitDefEqProofs only [↓eqD,eqU,eqV,eqW,vbuiltinQ,vlen,vslice,vindex,vstore,Array.toList,simprocAttr,lt6 hid]
    · intro j hj hji; simp (maxSteps:=999999) -dsimp -implicitDefEqProofs only [↓eqD,eqU,eqV,eqW,vbuiltinQ,vlen,vslice,vindex,vstore,Array.toList,simprocAttr,lt6 hj,hji]
end Go.Vf
set_option linter.unusedVariables false
set_option linter.unusedSimpArgs false
namespace Go.Vf
open Go.Proofs Go.RowKit
def pOf : Option Blk → Option (List Tok × Int × St)
  | some (.cells 0 [.sl 3 _ x, .int _ a, .int _ en, .int _ pos, .int _ err]) => some (toksD x, en, ⟨a.toNat, pos, err⟩)
  | _ => none
theorem parserOf_def (G : Heap) (id : Nat) : parserOf G id = pOf (G.get id) := rfl
theorem pOf_pcells (T : List Tok) (en : Int) (s : St) : pOf (some (.cells 0 (pcells T en s))) = some (T, en, s) := by
  unfold pOf pcells; simp [toksD_C]
theorem opT_goes {T : List Tok} {en : Int} {s : St} {a b : List UInt8} (h : s.at_ ≤ T.length) : s.at_ ≤ (opT T en s a b).at_ ∧ (opT T en s a b).at_ ≤ T.length := by
  have h1 : ∀ (s : St) (w : List UInt8), s.at_ ≤ T.length → s.at_ ≤ (takeT T s 4 w).at_ ∧ (takeT T s 4 w).at_ ≤ T.length := fun s w h => by
    refine ⟨?_, takeT_le (by decide) h⟩
    unfold takeT; simp only; split <;> omega
  have h2 : ∀ (s : St) (ok : Bool), (mustT T en s ok).at_ = s.at_ := fun s ok => by unfold mustT errsT; split <;> rfl
  unfold opT
  split
  · exact h1 s a h
  · rw [h2]
    have k1 := h1 s a h
    have k2 := h1 _ b k1.2
    omega
theorem mustT_at (T : List Tok) (en : Int) (s : St) (ok : Bool) : (mustT T en s ok).at_ = s.at_ := by unfold mustT errsT; split <;> rfl
theorem takeT_goes {T : List Tok} {s : St} {k : Int} {w : List UInt8} (hk : k ≠ 0) (h : s.at_ ≤ T.length) : s.at_ ≤ (takeT T s k w).at_ ∧ (takeT T s k w).at_ ≤ T.length := by
  refine ⟨?_, takeT_le hk h⟩
  unfold takeT; simp only; split <;> omega
def p70 (a b : List UInt8) (T : List Tok) (en : Int) (s : St) : List V → Option (V × St)
  | [] => some (.bool (isT T s 4 a), opT T en s a b)
  | _ => none
def S6 : Specs := (((S5.addH 218 (gP (p70 [91] [40]))).addH 221 (gP (p70 [93] [41]))).add 203 g47)
theorem S6_at (f : FuncId) (xs : List V) (G : Heap) : S6 f xs G = ((((((((((Specs.none.addH 222 (gQ q73)).addH 220 (gP (q71 4))).addH 206 (gP (q71 1))).addH 188 (gP p30)).addH 219 (gP p24)).addH 213 g59)).addH 218 (gP (p70 [91] [40]))).addH 221 (gP (p70 [93] [41]))).add 203 g47) f xs G := rfl
theorem okS6 : SOk Tryz.prog S6 := by
  refine (okP (okP okS5 ?_) ?_).add ?_
  · intro T en s id G xs v s' h e
    unfold p70 at e
    split at e
    · cases e; exact opens_walk h
    · cases e
  · intro T en s id G xs v s' h e
    unfold p70 at e
    split at e
    · cases e; exact closes_walk h
    · cases e
  · intro xs G p v e hp
    unfold g47 at e
    split at e
    · cases e; exact bin_walk _ _ _ _ _ _ _ _ _ _ _ _ _ _ _ _ _ _ _ hp.1 hp.2 G
    · cases e
def withinP (T : List Tok) (en : Int) (ex : Kid) (x : Ex) : Kid := fun s =>
  (Ex.mk 11 false 0 0 [] (isT T s 4 [91]) (isT T (ex (mustT T en (takeT T (ex (opT T en s [91] [40])).2 4 [46, 46]) (isT T (ex (opT T en s [91] [40])).2 4 [46, 46]))).2 4 [93])
    [x, (ex (opT T en s [91] [40])).1, (ex (mustT T en (takeT T (ex (opT T en s [91] [40])).2 4 [46, 46]) (isT T (ex (opT T en s [91] [40])).2 4 [46, 46]))).1],
   opT T en (ex (mustT T en (takeT T (ex (opT T en s [91] [40])).2 4 [46, 46]) (isT T (ex (opT T en s [91] [40])).2 4 [46, 46]))).2 [93] [41])
theorem withinP_goes {T : List Tok} {en : Int} {ex : Kid} (me : Goes T ex) (x : Ex) : Goes T (withinP T en ex x) := fun s h => by
  unfold withinP
  simp only
  have h1 := opT_goes (T := T) (en := en) (a := [91]) (b := [40]) h
  have h2 := me _ h1.2
  have h3 := takeT_goes (T := T) (k := 4) (w := [46, 46]) (by decide) h2.2
  have h4 := me (mustT T en (takeT T (ex (opT T en s [91] [40])).2 4 [46, 46]) (isT T (ex (opT T en s [91] [40])).2 4 [46, 46])) (by rw [mustT_at]; exact h3.2)
  rw [mustT_at] at h4
  have h5 := opT_goes (T := T) (en := en) (a := [93]) (b := [41]) h4.2
  omega
theorem okm58 : fnOk Tryz.prog 212 T0 3 = true := by kernel_rfl
set_option maxRecDepth 100000 in
theorem within_walk {T : List Tok} {en : Int} {id : Nat} {d : Nat} {ex : Kid} (hd : d ≤ 100) (hk : KidAt T en id 158 ((d + 1 : Nat) : Int) ex) (me : Goes T ex) (x : Ex) (s : St) (G : Heap) (h : ParserAt G id T en s) :
    VCalls Tryz.prog 212 [.ptr id 0 0, .agg x.cells, .int .i64 d] G fun u H => u = .agg (withinP T en ex x s).1.cells ∧ H = G.put id (.cells 0 (pcells T en (withinP T en ex x s).2)) := by
  obtain ⟨xk, xb, xm, xs', xt, xlo, xhi, xkids⟩ := x
  refine VCalls.of okS6 mixed T0 okm58 fun hG => ?_
  have hid := hG.lt h.1
  have hu := fun s' => pcells_under T en s' G.next
  have w1 : IntKind.wrap .i64 ((d : Int) + 1) = ((d + 1 : Nat) : Int) := by rw [w64 (by omega) (by omega)]; rfl
  have h11 := h.1
  have h12 := h.2.1
  have h13 := h.2.2
  have h1 := opT_goes (T := T) (en := en) (a := [91]) (b := [40]) h.2.2
  have h2 := me _ h1.2
  have h12' := h1.2
  simp (maxSteps:=999999) -dsimp -implicitDefEqProofs only [↓eqD,eqU,eqV,eqW,vbuiltinQ,vlen,vslice,vindex,vstore,Array.toList,simprocAttr,fnWp_some Tryz.func212,Tryz.f212,T0,FB,S6_at,addH_at,add_at,none_at,gP,gQ,q71,p24,p70,parserOf_def,pOf_pcells,ParserAt,Ex.cells,h11,h12,h13,h12',lt6 hid,w1]
  unfold withinP
  refine (hk (opT T en s [91] [40]) _ ⟨by simp (maxSteps:=999999) -dsimp -implicitDefEqProofs only [↓eqD,eqU,eqV,eqW,vbuiltinQ,vlen,vslice,vindex,vstore,Array.toList,simprocAttr,lt6 hid], h.2.1, h1.2⟩).mono ?_
  rintro _ _ ⟨rfl, rfl⟩
  generalize ex (opT T en s [91] [40]) = ks at *
  obtain ⟨⟨k1, b1, m1, c1, t1, lo1, hi1, kids1⟩, s1⟩ := ks
  simp only at h2 ⊢
  have h22 := h2.2
  have h3 := takeT_goes (T := T) (s := s1) (k := 4) (w := [46, 46]) (by decide) h2.2
  have h32 := h3.2
  have h34 : (mustT T en (takeT T s1 4 [46, 46]) (isT T s1 4 [46, 46])).at_ ≤ T.length := by rw [mustT_at]; exact h3.2
  simp (maxSteps:=999999) -dsimp -implicitDefEqProofs only [↓eqD,eqU,eqV,eqW,vbuiltinQ,vlen,vslice,vindex,vstore,Array.toList,simprocAttr,T0,FB,S6_at,addH_at,add_at,none_at,gP,gQ,q71,p24,p70,g47,g59,parserOf_def,pOf_pcells,ParserAt,Ex.cells,h12,lt6 hid,w1,h22,h32]
  refine (hk (mustT T en (takeT T s1 4 [46, 46]) (isT T s1 4 [46, 46])) _ ⟨by simp (maxSteps:=999999) -dsimp -implicitDefEqProofs only [↓eqD,eqU,eqV,eqW,vbuiltinQ,vlen,vslice,vindex,vstore,Array.toList,simprocAttr,lt6 hid], h.2.1, h34⟩).mono ?_
  rintro _ _ ⟨rfl, rfl⟩
  have h4 := me _ h34
  generalize ex (mustT T en (takeT T s1 4 [46, 46]) (isT T s1 4 [46, 46])) = ks at *
  obtain ⟨⟨k2, b2, m2, c2, t2, lo2, hi2, kids2⟩, s2⟩ := ks
  simp only at h4 ⊢
  have h42 := h4.2
  have d0 := exsC_closed xkids
  have d1 := exsC_closed kids1
  have d2 := exsC_closed kids2
  simp (maxSteps:=999999) -dsimp -implicitDefEqProofs only [↓eqD,eqU,eqV,eqW,vbuiltinQ,vlen,vslice,vindex,vstore,Array.toList,simprocAttr,T0,FB,S6_at,addH_at,add_at,none_at,gP,gQ,q71,p24,p70,g47,g59,parserOf_def,pOf_pcells,ParserAt,Ex.cells,h12,lt6 hid,w1,h42,vreps,vfill,d0,d1,d2]
  have e3 : exsC [Ex.mk xk xb xm xs' xt xlo xhi xkids, Ex.mk k1 b1 m1 c1 t1 lo1 hi1 kids1, Ex.mk k2 b2 m2 c2 t2 lo2 hi2 kids2] = [.int .i64 xk, .bool xb, .int .i64 xm, .int .i64 xs', .str xt, .bool xlo, .bool xhi, .sl 8 xkids.length (exsC xkids), .int .i64 k1, .bool b1, .int .i64 m1, .int .i64 c1, .str t1, .bool lo1, .bool hi1, .sl 8 kids1.length (exsC kids1), .int .i64 k2, .bool b2, .int .i64 m2, .int .i64 c2, .str t2, .bool lo2, .bool hi2, .sl 8 kids2.length (exsC kids2)] := by simp [exsC, Ex.cells]
  have hle := vle_kids 11 false 0 0 [] (isT T s 4 [91]) (isT T s2 4 [93]) [Ex.mk xk xb xm xs' xt xlo xhi xkids, Ex.mk k1 b1 m1 c1 t1 lo1 hi1 kids1, Ex.mk k2 b2 m2 c2 t2 lo2 hi2 kids2]
  rw [e3] at hle
  refine .weak hle (VDone.turned hG hid (hu _) ?_ ?_ ?_ ?_)
  · simp (maxSteps:=999999) -dsimp -implicitDefEqProofs only [↓eqD,eqU,eqV,eqW,vbuiltinQ,vlen,vslice,vindex,vstore,Array.toList,simprocAttr,lt6 hid]
  · intro j hj hji; simp (maxSteps:=999999) -dsimp -implicitDefEqProofs only [↓eqD,eqU,eqV,eqW,vbuiltinQ,vlen,vslice,vindex,vstore,Array.toList,simprocAttr,lt6 hj,hji]
  · rfl
  · simp (maxSteps:=999999) -dsimp -implicitDefEqProofs only [↓eqD,eqU,eqV,eqW,vbuiltinQ,vlen,vslice,vindex,vstore,Array.toList,simprocAttr,Ex.cells,e3]
def relB : List UInt8 := [32, 60, 32, 60, 61, 32, 62, 32, 62, 61, 32, 61, 32, 33, 61, 32]
def cmpP (T : List Tok) (en : Int) (add ex : Kid) : Kid := fun s =>
  if isT T (add s).2 1 [105, 110] = true then withinP T en ex (add s).1 (takeT T (add s).2 1 [105, 110])
  else if ofV T (add s).2 relB = [] then ((add s).1, ofT T (add s).2 relB)
  else (Ex.bin (ofV T (add s).2 relB) (add s).1 (add (ofT T (add s).2 relB)).1, (add (ofT T (add s).2 relB)).2)
theorem ofT_goes {T : List Tok} {s : St} {b : List UInt8} (h : s.at_ ≤ T.length) : s.at_ ≤ (ofT T s b).at_ ∧ (ofT T s b).at_ ≤ T.length := by
  have := steps_of T b s h
  exact ⟨this.1, this.2.1⟩
theorem cmpP_goes {T : List Tok} {en : Int} {add ex : Kid} (ma : Goes T add) (me : Goes T ex) : Goes T (cmpP T en add ex) := fun s h => by
  have h1 := ma s h
  have h2 := takeT_goes (T := T) (k := 1) (w := [105, 110]) (by decide) h1.2
  have h3 := ofT_goes (T := T) (b := relB) h1.2
  have h4 := ma _ h3.2
  unfold cmpP
  split
  · have := withinP_goes (en := en) me (add s).1 _ h2.2
    omega
  · split
    · simp only; omega
    · simp only; omega
def WithinAt (T : List Tok) (en : Int) (id : Nat) (d : Int) (w : Ex → Kid) : Prop :=
  ∀ x s G, ParserAt G id T en s → VCalls Tryz.prog 212 [.ptr id 0 0, .agg x.cells, .int .i64 d] G fun u H => u = .agg (w x s).1.cells ∧ H = G.put id (.cells 0 (pcells T en (w x s).2))
end Go.Vf
set_option linter.unusedVariables false
set_option linter.unusedSimpArgs false
namespace Go.Vf
open Go.Proofs Go.RowKit
def T48 : Tab := ⟨fun id => if id = 6 then ([0, 1, 2, 3, 4, 5, 6], [(1, 4)]) else ([], []), fun _ => false⟩
theorem T48_ord (id : Nat) : T48.ord id = if id = 6 then ([0, 1, 2, 3, 4, 5, 6], [(1, 4)]) else ([], []) := rfl
theorem T48_ghost (id : Nat) : T48.ghost id = false := rfl
theorem okm48 : fnOk Tryz.prog 204 T48 2 = true := by kernel_rfl
theorem rel_fold : ([32, 60, 32, 60, 61, 32, 62, 32, 62, 61, 32, 61, 32, 33, 61, 32] : List UInt8) = relB := rfl
set_option maxRecDepth 100000 in
theorem cmp_walk {T : List Tok} {en : Int} {id : Nat} {d : Nat} {add ex : Kid} (hT : Short T) (hk : KidAt T en id 211 d add) (ma : Goes T add) (hw : WithinAt T en id d (withinP T en ex)) : KidAt T en id 204 d (cmpP T en add ex) := fun s G h => by
  refine VCalls.of okS6 mixed T48 okm48 fun hG => ?_
  have hid := hG.lt h.1
  have hu := fun s' => pcells_under T en s' G.next
  have h12 := h.2.1
  have hlr : relB.length < 1000 := by decide
  simp (maxSteps:=999999) -dsimp -implicitDefEqProofs only [↓eqD,eqU,eqV,eqW,vbuiltinQ,vlen,vslice,vindex,vstore,Array.toList,simprocAttr,fnWp_some Tryz.func204,Tryz.f204,T48_ord,T48_ghost,FB,S6_at,addH_at,add_at,none_at,gP,gQ,q71,p24,p70,g47,g59,parserOf_def,pOf_pcells,ParserAt,Ex.cells,h12,lt6 hid]
  refine (hk s _ ⟨by simp (maxSteps:=999999) -dsimp -implicitDefEqProofs only [↓eqD,eqU,eqV,eqW,vbuiltinQ,vlen,vslice,vindex,vstore,Array.toList,simprocAttr,lt6 hid]; exact h.1, h.2.1, h.2.2⟩).mono ?_
  rintro _ _ ⟨rfl, rfl⟩
  have h1 := ma s h.2.2
  unfold cmpP
  generalize add s = ks at *
  obtain ⟨⟨k1, b1, m1, c1, t1, lo1, hi1, kids1⟩, s1⟩ := ks
  simp only at h1 ⊢
  have h13 := h1.2
  have h2 := takeT_goes (T := T) (s := s1) (k := 1) (w := [105, 110]) (by decide) h1.2
  have h22 := h2.2
  have h3 := ofT_goes (T := T) (s := s1) (b := relB) h1.2
  by_cases hi : isT T s1 1 [105, 110] = true
  · rw [if_pos hi]
    simp (maxSteps:=999999) -dsimp -implicitDefEqProofs only [↓eqD,eqU,eqV,eqW,vbuiltinQ,vlen,vslice,vindex,vstore,Array.toList,simprocAttr,T48_ord,T48_ghost,FB,S6_at,addH_at,add_at,none_at,gP,gQ,q71,p24,p70,g47,g59,parserOf_def,pOf_pcells,ParserAt,Ex.cells,h12,lt6 hid,h13,h22,hi]
    refine (hw (.mk k1 b1 m1 c1 t1 lo1 hi1 kids1) (takeT T s1 1 [105, 110]) _ ⟨by simp (maxSteps:=999999) -dsimp -implicitDefEqProofs only [↓eqD,eqU,eqV,eqW,vbuiltinQ,vlen,vslice,vindex,vstore,Array.toList,simprocAttr,lt6 hid], h.2.1, h22⟩).mono ?_
    rintro _ _ ⟨rfl, rfl⟩
    generalize withinP T en ex (.mk k1 b1 m1 c1 t1 lo1 hi1 kids1) (takeT T s1 1 [105, 110]) = ks at *
    obtain ⟨⟨k2, b2, m2, c2, t2, lo2, hi2, kids2⟩, s2⟩ := ks
    simp (maxSteps:=999999) -dsimp -implicitDefEqProofs only [↓eqD,eqU,eqV,eqW,vbuiltinQ,vlen,vslice,vindex,vstore,Array.toList,simprocAttr,T48_ord,T48_ghost,FB,S6_at,addH_at,add_at,none_at,gP,gQ,q71,p24,p70,g47,g59,parserOf_def,pOf_pcells,ParserAt,Ex.cells,h12,lt6 hid]
    refine VDone.turned hG hid (hu _) ?_ ?_ rfl rfl
    · simp (maxSteps:=999999) -dsimp -implicitDefEqProofs only [↓eqD,eqU,eqV,eqW,vbuiltinQ,vlen,vslice,vindex,vstore,Array.toList,simprocAttr,lt6 hid]
    · intro j hj hji; simp (maxSteps:=999999) -dsimp -implicitDefEqProofs only [↓eqD,eqU,eqV,eqW,vbuiltinQ,vlen,vslice,vindex,vstore,Array.toList,simprocAttr,lt6 hj,hji]
  · try rw [if_neg hi]
    have hi : isT T s1 1 [105, 110] = false := by simpa using hi
    have hs : takeT T s1 1 [105, 110] = s1 := by unfold takeT; rw [hi]; rfl
    by_cases ho : ofV T s1 relB = []
    · rw [if_pos ho]
      simp (maxSteps:=999999) -dsimp -implicitDefEqProofs only [↓eqD,eqU,eqV,eqW,vbuiltinQ,vlen,vslice,vindex,vstore,Array.toList,simprocAttr,T48_ord,T48_ghost,FB,S6_at,addH_at,add_at,none_at,gP,gQ,q71,p24,p70,g47,g59,parserOf_def,pOf_pcells,ParserAt,Ex.cells,h12,lt6 hid,h13,h22,hi,hs,rel_fold,hlr,hT,ho,ne_eq]
      refine VDone.turned hG hid (hu _) ?_ ?_ rfl rfl
      · simp (maxSteps:=999999) -dsimp -implicitDefEqProofs only [↓eqD,eqU,eqV,eqW,vbuiltinQ,vlen,vslice,vindex,vstore,Array.toList,simprocAttr,lt6 hid]
      · intro j hj hji; simp (maxSteps:=999999) -dsimp -implicitDefEqProofs only [↓eqD,eqU,eqV,eqW,vbuiltinQ,vlen,vslice,vindex,vstore,Array.toList,simprocAttr,lt6 hj,hji]
    · try rw [if_neg ho]
      simp (maxSteps:=999999) -dsimp -implicitDefEqProofs only [↓eqD,eqU,eqV,eqW,vbuiltinQ,vlen,vslice,vindex,vstore,Array.toList,simprocAttr,T48_ord,T48_ghost,FB,S6_at,addH_at,add_at,none_at,gP,gQ,q71,p24,p70,g47,g59,parserOf_def,pOf_pcells,ParserAt,Ex.cells,h12,lt6 hid,h13,h22,hi,hs,rel_fold,hlr,hT,ho,ne_eq]
      refine (hk (ofT T s1 relB) _ ⟨by simp (maxSteps:=999999) -dsimp -implicitDefEqProofs only [↓eqD,eqU,eqV,eqW,vbuiltinQ,vlen,vslice,vindex,vstore,Array.toList,simprocAttr,lt6 hid], h.2.1, h3.2⟩).mono ?_
      rintro _ _ ⟨rfl, rfl⟩
      generalize add (ofT T s1 relB) = ks at *
      obtain ⟨⟨k2, b2, m2, c2, t2, lo2, hi2, kids2⟩, s2⟩ := ks
      have d1 := exsC_closed kids1
      have d2 := exsC_closed kids2
      simp (maxSteps:=999999) -dsimp -implicitDefEqProofs only [↓eqD,eqU,eqV,eqW,vbuiltinQ,vlen,vslice,vindex,vstore,Array.toList,simprocAttr,T48_ord,T48_ghost,FB,S6_at,addH_at,add_at,none_at,gP,gQ,q71,p24,p70,g47,g59,parserOf_def,pOf_pcells,ParserAt,Ex.cells,h12,lt6 hid,d1,d2]
      refine VDone.turned hG hid (hu _) ?_ ?_ rfl (by simp [Ex.bin, Ex.cells, exsC])
      · simp (maxSteps:=999999) -dsimp -implicitDefEqProofs only [↓eqD,eqU,eqV,eqW,vbuiltinQ,vlen,vslice,vindex,vstore,Array.toList,simprocAttr,lt6 hid]
      · intro j hj hji; simp (maxSteps:=999999) -dsimp -implicitDefEqProofs only [↓eqD,eqU,eqV,eqW,vbuiltinQ,vlen,vslice,vindex,vstore,Array.toList,simprocAttr,lt6 hj,hji]
def Ex.neg (x : Ex) : Ex := .mk 7 false 0 0 [] false false [x]
def unaryP (T : List Tok) (en : Int) (d : Nat) (un atom : Kid) : Kid := fun s =>
  if 8 < d then (Ex.zero, errsT T en s 12)
  else if isT T s 4 [45] = true then (Ex.neg (un (takeT T s 4 [45])).1, (un (takeT T s 4 [45])).2)
  else atom s
theorem unaryP_goes {T : List Tok} {en : Int} {d : Nat} {un atom : Kid} (mu : Goes T un) (ma : Goes T atom) : Goes T (unaryP T en d un atom) := fun s h => by
  unfold unaryP
  split
  · exact ⟨Nat.le_refl _, h⟩
  · split
    · have h1 := takeT_goes (T := T) (s := s) (k := 4) (w := [45]) (by decide) h
      have h2 := mu _ h1.2
      simp only; omega
    · exact ma s h
theorem okm77 : fnOk Tryz.prog 224 T0 2 = true := by kernel_rfl
set_option maxRecDepth 100000 in
theorem unary_walk {T : List Tok} {en : Int} {id : Nat} {d : Nat} {un atom : Kid} (hn : d ≤ 8 → KidAt T en id 224 ((d + 1 : Nat) : Int) un) (ha : d ≤ 8 → KidAt T en id 227 d atom) : KidAt T en id 224 d (unaryP T en d un atom) := fun s G h => by
  refine VCalls.of okS6 mixed T0 okm77 fun hG => ?_
  have hid := hG.lt h.1
  have hu := fun s' => pcells_under T en s' G.next
  have h12 := h.2.1
  have h11 := h.1
  have h13 := h.2.2
  unfold unaryP
  by_cases hd : 8 < d
  · have c1 : 8 < (d : Int) := by omega
    rw [if_pos hd]
    simp (maxSteps:=999999) -dsimp -implicitDefEqProofs only [↓eqD,eqU,eqV,eqW,vbuiltinQ,vlen,vslice,vindex,vstore,Array.toList,simprocAttr,fnWp_some Tryz.func224,Tryz.f224,T0,T48_ord,T48_ghost,FB,S6_at,addH_at,add_at,none_at,gP,gQ,q71,p24,p70,g47,g59,parserOf_def,pOf_pcells,ParserAt,Ex.cells,h12,lt6 hid,c1,p30,h11,h13]
    refine .weak (vle_nil _ _ _ _ _ _ _) (VDone.turned hG hid (hu _) ?_ ?_ rfl rfl)
    · simp (maxSteps:=999999) -dsimp -implicitDefEqProofs only [↓eqD,eqU,eqV,eqW,vbuiltinQ,vlen,vslice,vindex,vstore,Array.toList,simprocAttr,lt6 hid]
    · intro j hj hji; simp (maxSteps:=999999) -dsimp -implicitDefEqProofs only [↓eqD,eqU,eqV,eqW,vbuiltinQ,vlen,vslice,vindex,vstore,Array.toList,simprocAttr,lt6 hj,hji]
  · have c1 : ¬8 < (d : Int) := by omega
    have w1 : IntKind.wrap .i64 ((d : Int) + 1) = ((d + 1 : Nat) : Int) := by rw [w64 (by omega) (by omega)]; rfl
    rw [if_neg hd]
    by_cases hi : isT T s 4 [45] = true
    · rw [if_pos hi]
      have h2 := takeT_goes (T := T) (s := s) (k := 4) (w := [45]) (by decide) h.2.2
      simp (maxSteps:=999999) -dsimp -implicitDefEqProofs only [↓eqD,eqU,eqV,eqW,vbuiltinQ,vlen,vslice,vindex,vstore,Array.toList,simprocAttr,fnWp_some Tryz.func224,Tryz.f224,T0,T48_ord,T48_ghost,FB,S6_at,addH_at,add_at,none_at,gP,gQ,q71,p24,p70,g47,g59,parserOf_def,pOf_pcells,ParserAt,Ex.cells,h12,lt6 hid,c1,h11,h13,hi,w1]
      refine (hn (by omega) (takeT T s 4 [45]) _ ⟨by simp (maxSteps:=999999) -dsimp -implicitDefEqProofs only [↓eqD,eqU,eqV,eqW,vbuiltinQ,vlen,vslice,vindex,vstore,Array.toList,simprocAttr,lt6 hid], h.2.1, h2.2⟩).mono ?_
      rintro _ _ ⟨rfl, rfl⟩
      generalize un (takeT T s 4 [45]) = ks at *
      obtain ⟨⟨k2, b2, m2, c2, t2, lo2, hi2, kids2⟩, s2⟩ := ks
      have d2 := exsC_closed kids2
      simp (maxSteps:=999999) -dsimp -implicitDefEqProofs only [↓eqD,eqU,eqV,eqW,vbuiltinQ,vlen,vslice,vindex,vstore,Array.toList,simprocAttr,T0,T48_ord,T48_ghost,FB,S6_at,addH_at,add_at,none_at,gP,gQ,q71,p24,p70,g47,g59,parserOf_def,pOf_pcells,ParserAt,Ex.cells,h12,lt6 hid,vreps,vfill,d2]
      have hle := vle_kids 7 false 0 0 [] false false [Ex.mk k2 b2 m2 c2 t2 lo2 hi2 kids2]
      have e1 : exsC [Ex.mk k2 b2 m2 c2 t2 lo2 hi2 kids2] = [.int .i64 k2, .bool b2, .int .i64 m2, .int .i64 c2, .str t2, .bool lo2, .bool hi2, .sl 8 kids2.length (exsC kids2)] := by simp [exsC, Ex.cells]
      rw [e1] at hle
      refine .weak hle (VDone.turned hG hid (hu _) ?_ ?_ rfl ?_)
      · simp (maxSteps:=999999) -dsimp -implicitDefEqProofs only [↓eqD,eqU,eqV,eqW,vbuiltinQ,vlen,vslice,vindex,vstore,Array.toList,simprocAttr,lt6 hid]
      · intro j hj hji; simp (maxSteps:=999999) -dsimp -implicitDefEqProofs only [↓eqD,eqU,eqV,eqW,vbuiltinQ,vlen,vslice,vindex,vstore,Array.toList,simprocAttr,lt6 hj,hji]
      · simp (maxSteps:=999999) -dsimp -implicitDefEqProofs only [↓eqD,eqU,eqV,eqW,vbuiltinQ,vlen,vslice,vindex,vstore,Array.toList,simprocAttr,Ex.cells,e1,Ex.neg]
    · try rw [if_neg hi]
      have hi : isT T s 4 [45] = false := by simpa using hi
      have hs : takeT T s 4 [45] = s := by unfold takeT; rw [hi]; rfl
      simp (maxSteps:=999999) -dsimp -implicitDefEqProofs only [↓eqD,eqU,eqV,eqW,vbuiltinQ,vlen,vslice,vindex,vstore,Array.toList,simprocAttr,fnWp_some Tryz.func224,Tryz.f224,T0,T48_ord,T48_ghost,FB,S6_at,addH_at,add_at,none_at,gP,gQ,q71,p24,p70,g47,g59,parserOf_def,pOf_pcells,ParserAt,Ex.cells,h12,lt6 hid,c1,h11,h13,hi,hs]
      refine (ha (by omega) s _ ⟨by simp (maxSteps:=999999) -dsimp -implicitDefEqProofs only [↓eqD,eqU,eqV,eqW,vbuiltinQ,vlen,vslice,vindex,vstore,Array.toList,simprocAttr,lt6 hid], h.2.1, h.2.2⟩).mono ?_
      rintro _ _ ⟨rfl, rfl⟩
      generalize atom s = ks at *
      obtain ⟨⟨k2, b2, m2, c2, t2, lo2, hi2, kids2⟩, s2⟩ := ks
      simp (maxSteps:=999999) -dsimp -implicitDefEqProofs only [↓eqD,eqU,eqV,eqW,vbuiltinQ,vlen,vslice,vindex,vstore,Array.toList,simprocAttr,T0,T48_ord,T48_ghost,FB,S6_at,addH_at,add_at,none_at,gP,gQ,q71,p24,p70,g47,g59,parserOf_def,pOf_pcells,ParserAt,Ex.cells,h12,lt6 hid]
      refine VDone.turned hG hid (hu _) ?_ ?_ rfl rfl
      · simp (maxSteps:=999999) -dsimp -implicitDefEqProofs only [↓eqD,eqU,eqV,eqW,vbuiltinQ,vlen,vslice,vindex,vstore,Array.toList,simprocAttr,lt6 hid]
      · intro j hj hji; simp (maxSteps:=999999) -dsimp -implicitDefEqProofs only [↓eqD,eqU,eqV,eqW,vbuiltinQ,vlen,vslice,vindex,vstore,Array.toList,simprocAttr,lt6 hj,hji]
end Go.Vf
