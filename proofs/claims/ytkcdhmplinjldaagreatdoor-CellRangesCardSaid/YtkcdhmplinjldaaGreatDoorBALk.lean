/- A part of the proof: Lk, Ll. -/
import Derived.Test.YtkcdhmplinjldaaGreatDoorBALf
set_option linter.unusedVariables false
set_option linter.unusedSimpArgs false
namespace Go.Vf
open Go.Proofs Go.RowKit
def T18 : Tab := ⟨fun id => if id = 29 then ([0, 1, 2, 3, 4, 5, 6, 7, 8, 9, 10, 11, 12, 13, 14, 15, 16, 17, 18, 19, 20, 21, 22, 23, 24, 25, 26], []) else if id = 30 then ([0, 1, 2, 3, 4, 5, 6, 7, 8, 9, 10, 11, 12, 13, 14, 15], [(10, 13), (11, 13)]) else ([], []), fun _ => false⟩
theorem T18_ord (id : Nat) : T18.ord id = if id = 29 then ([0, 1, 2, 3, 4, 5, 6, 7, 8, 9, 10, 11, 12, 13, 14, 15, 16, 17, 18, 19, 20, 21, 22, 23, 24, 25, 26], []) else if id = 30 then ([0, 1, 2, 3, 4, 5, 6, 7, 8, 9, 10, 11, 12, 13, 14, 15], [(10, 13), (11, 13)]) else ([], []) := rfl
theorem T18_ghost (id : Nat) : T18.ghost id = false := rfl
theorem ok18 : fnOk Tryz.prog 34 T18 2 = true := by kernel_rfl
def refNext (s : List UInt8) (p : Nat) : V :=
  if (nextL (s.drop p)).err = 0 then .tup [.agg [.int .i64 (nextL (s.drop p)).kind, .str (nextL (s.drop p)).text, .int .i64 p], .int .i64 ((p + (nextL (s.drop p)).n : Nat) : Int), .int .i64 0]
  else .tup [.agg [.int .i64 0, .str [], .int .i64 0], .int .i64 p, .int .i64 (nextL (s.drop p)).err]
theorem runN_eq (s set : List UInt8) : runN s set = (s.takeWhile fun b => set.contains b).length := by
  unfold runN cutL
  have := congrArg List.length (List.takeWhile_append_dropWhile (p := fun b => set.contains b) (l := s))
  simp only [List.length_append] at this
  omega
theorem runN_nil (set : List UInt8) : runN [] set = 0 := by simp [runN_eq]
theorem runN_in {s set : List UInt8} {e : Nat} (h : e < s.length) (hc : set.contains (s.getD e 0) = true) : runN (s.drop e) set = 1 + runN (s.drop (e + 1)) set := by
  rw [drop_at h, runN_eq, runN_eq, List.takeWhile_cons, if_pos hc, List.length_cons]; omega
theorem runN_out {s set : List UInt8} {e : Nat} (h : e < s.length) (hc : set.contains (s.getD e 0) = false) : runN (s.drop e) set = 0 := by
  rw [drop_at h, runN_eq, List.takeWhile_cons, hc]; rfl
theorem runN_end {s : List UInt8} (set : List UInt8) {e : Nat} (h : s.length ≤ e) : runN (s.drop e) set = 0 := by
  rw [List.drop_eq_nil_of_le h, runN_nil]
theorem byte_names : ∀ n, n < 256 → namesL.contains (UInt8.ofNat n) = (letterB n || digitB n) := by decide +kernel
theorem byte_digits : ∀ n, n < 256 → digitsL.contains (UInt8.ofNat n) = digitB n := by decide +kernel
theorem byte_letters : ∀ n, n < 256 → lettersL.contains (UInt8.ofNat n) = letterB n := by decide +kernel
theorem in_names (b : UInt8) : namesL.contains b = (letterB b.toNat || digitB b.toNat) := by
  have := byte_names b.toNat (UInt8.toNat_lt b); rwa [UInt8.ofNat_toNat] at this
theorem in_digits (b : UInt8) : digitsL.contains b = digitB b.toNat := by
  have := byte_digits b.toNat (UInt8.toNat_lt b); rwa [UInt8.ofNat_toNat] at this
theorem in_letters (b : UInt8) : lettersL.contains b = letterB b.toNat := by
  have := byte_letters b.toNat (UInt8.toNat_lt b); rwa [UInt8.ofNat_toNat] at this
theorem runN_pos {s : List UInt8} (set : List UInt8) {e : Nat} (h : e < s.length) : 0 < runN (s.drop e) set ↔ set.contains (s.getD e 0) = true := by
  cases hc : set.contains (s.getD e 0) with
  | true => rw [runN_in h hc]; simp; omega
  | false => rw [runN_out h hc]; simp
theorem drop_getD0 {s : List UInt8} {p : Nat} (h : p < s.length) : (s.drop p).getD 0 0 = s.getD p 0 := by rw [drop_at h]; rfl
theorem numN_R {s : List UInt8} {p r : Nat} (hr : runN (s.drop p) digitsL = r) :
    numN (s.drop p) = if p + r + 1 < s.length ∧ s.getD (p + r) 0 = 46 ∧ digitB (s.getD (p + r + 1) 0).toNat = true then r + (1 + runN (s.drop (p + r + 1)) digitsL) else r := by
  unfold numN
  rw [hr, List.drop_drop, List.drop_drop, ← Nat.add_assoc]
  by_cases h1 : p + r + 1 < s.length
  · have h0 : p + r < s.length := by omega
    have hp := runN_pos digitsL h1
    rw [in_digits] at hp
    by_cases h2 : s.getD (p + r) 0 = 46
    · have : List.isPrefixOf [46] (s.drop (p + r)) = true := by rw [drop_at h0, h2]; rfl
      by_cases h3 : digitB (s.getD (p + r + 1) 0).toNat = true
      · rw [if_pos ⟨this, hp.2 h3⟩, if_pos ⟨h1, h2, h3⟩]
      · rw [if_neg (fun h => h3 (hp.1 h.2)), if_neg (fun h => h3 h.2.2)]
    · have : ¬List.isPrefixOf [46] (s.drop (p + r)) = true := by rw [drop_at h0]; simpa [List.isPrefixOf] using Ne.symm h2
      rw [if_neg (fun h => this h.1), if_neg (fun h => h2 h.2.1)]
  · rw [if_neg (fun h => by have := runN_end (s := s) digitsL (e := p + r + 1) (by omega); omega), if_neg (fun h => h1 h.1)]
theorem prefix_at {s x : List UInt8} {p : Nat} : x.isPrefixOf (s.drop p) = true ↔ x.length ≤ s.length - p ∧ (s.take (p + x.length)).drop p = x := by
  rw [List.isPrefixOf_iff_prefix, List.prefix_iff_eq_take, List.drop_take, Nat.add_sub_cancel_left]
  constructor
  · intro h
    have := congrArg List.length h
    simp only [List.length_take, List.length_drop] at this
    exact ⟨by omega, h.symm⟩
  · intro h; exact h.2.symm
def wordAt (i : Nat) : List UInt8 := ((wordsL.drop i).drop 1).takeWhile fun b => b != 32
theorem words_at : ∀ i, i < 41 → wordsL.getD i 0 = 32 → wordAt i = [] ∨ wordR (wordAt i) = true := by decide +kernel
theorem words_in : ∀ s, s ∈ refWords → wordB s = true := by decide +kernel
theorem takeWhile_upto {s t : List UInt8} (h : ∀ b, b ∈ s → b ≠ 32) : (s ++ 32 :: t).takeWhile (fun b => b != 32) = s := by
  induction s with
  | nil => simp
  | cons a r ih =>
    rw [List.cons_append, List.takeWhile_cons, if_pos (by simpa using h a (List.mem_cons_self ..)), ih fun b hb => h b (List.mem_cons_of_mem _ hb)]
theorem no_blank {s : List UInt8} (h : Lib.contains s [32] = false) : ∀ b, b ∈ s → b ≠ 32 := by
  intro b hb e
  subst e
  unfold Lib.contains at h
  have h : ¬0 ≤ Lib.index s [32] := by simpa using h
  rcases Lib.index_spec s [32] with ⟨_, h2⟩ | ⟨i, h1, _⟩
  · obtain ⟨i, hi⟩ := List.getElem?_of_mem hb
    have hl : i < s.length := by
      rcases Nat.lt_or_ge i s.length with h | h
      · exact h
      · rw [List.getElem?_eq_none h] at hi; cases hi
    have := h2 i (by omega)
    unfold Lib.occAt at this
    rw [drop_at hl] at this
    rw [List.getD, hi] at this
    simp [List.isPrefixOf] at this
  · omega
theorem wordB_R (s : List UInt8) (h : s.length ≤ 1000) : wordB s = wordR s := by
  rw [Bool.eq_iff_iff]
  constructor
  · intro hb
    unfold wordB at hb
    simp only [Bool.and_eq_true, decide_eq_true_eq, Bool.not_eq_true'] at hb
    obtain ⟨h1, h2, h3⟩ := hb
    have nb := no_blank h2
    unfold Lib.contains at h3
    have h3 : 0 ≤ Lib.index wordsL ([32] ++ s ++ [32]) := by simpa using h3
    rcases Lib.index_spec wordsL ([32] ++ s ++ [32]) with ⟨h4, _⟩ | ⟨i, h4, h5, h6, _⟩
    · omega
    · have h5 : i < 41 := Nat.lt_succ_of_le h5
      unfold Lib.occAt at h6
      rw [List.isPrefixOf_iff_prefix] at h6
      obtain ⟨t, ht⟩ := h6
      have hd : wordsL.drop i = 32 :: (s ++ 32 :: t) := by rw [← ht]; simp
      have e0 : wordsL.getD i 0 = 32 := by
        have : (wordsL.drop i)[0]? = some 32 := by rw [hd]; rfl
        rw [List.getElem?_drop, Nat.add_zero] at this
        rw [List.getD, this]; rfl
      have e1 : wordAt i = s := by unfold wordAt; rw [hd]; exact takeWhile_upto nb
      rcases words_at i h5 e0 with h | h
      · rw [e1] at h; exact (h1 h).elim
      · rwa [e1] at h
  · intro hr
    exact words_in s (by unfold wordR at hr; simpa using hr)
abbrev H0 (G : Heap) : Heap := G.over (G.next + 1) [(G.next, .cells 0 [.int .i64 0, .str [], .int .i64 0])]
theorem while_next {s : List UInt8} {p q e R : Nat} {G : Heap} (hs : s.length ≤ 1000) (set : List UInt8) (h1 : q ≤ e) (he : e < s.length) (h3 : (e - q) + runN (s.drop e) set = R) (hc : set.contains (s.getD e 0) = true) {E : Env}
    (e0 : E 0 = .str s) (e1 : E 1 = .int .i64 p) (e4 : E 4 = .ptr G.next 0 0) (e7 : E 7 = .int .i64 (IntKind.wrap .i64 ((e : Int) + 1))) :
    ∃ y : Nat, (q ≤ y ∧ y ≤ s.length ∧ (y - q) + runN (s.drop y) set = R) ∧ s.length - y < s.length - e ∧ Ghost E (H0 G) (Env.of [(0, .str s), (1, .int .i64 p), (4, .ptr G.next 0 0), (7, .int .i64 (y : Nat))]) (H0 G) := by
  have w1 : IntKind.wrap .i64 ((e : Int) + 1) = ((e + 1 : Nat) : Int) := by rw [w64 (by omega) (by omega)]; rfl
  rw [runN_in he hc] at h3
  refine ⟨e + 1, ⟨by omega, by omega, by omega⟩, by omega, .of ?_ (.refl _)⟩
  simp (maxSteps:=999999) -dsimp -implicitDefEqProofs only [↓eqD,eqU,eqV,eqW,vbuiltinQ,vlen,vslice,vindex,vstore,Array.toList,simprocAttr,e0,e1,e4,e7,w1]
  exact ⟨.refl _, .refl _, .refl _, .refl _⟩
theorem while_in {s : List UInt8} {p q : Nat} {G : Heap} (hG : G.Wf) {E : Env} {G' : Heap} (e0 : E 0 = .str s) (e1 : E 1 = .int .i64 p) (e4 : E 4 = .ptr G.next 0 0) (e7 : E 7 = .int .i64 (q : Nat)) (hn : G'.next = G.next + 1) (hg : G'.get G.next = some (.cells 0 [.int .i64 0, .str [], .int .i64 0])) (hr : ∀ id, id < G.next → G'.get id = G.get id) :
    Ghost E G' (Env.of [(0, .str s), (1, .int .i64 p), (4, .ptr G.next 0 0), (7, .int .i64 (q : Nat))]) (H0 G) := by
  refine .of ?_ (.over hG hn ⟨hg, trivial⟩ hr)
  simp (maxSteps:=999999) -dsimp -implicitDefEqProofs only [↓eqD,eqU,eqV,eqW,vbuiltinQ,vlen,vslice,vindex,vstore,Array.toList,simprocAttr,e0,e1,e4,e7]
  exact ⟨.refl _, .refl _, .refl _, .refl _⟩
set_option maxRecDepth 100000 in
set_option maxHeartbeats 4000000 in
theorem refNext_walk (s : List UInt8) (p : Nat) (hp : p < s.length) (hs : s.length ≤ 1000) (G : Heap) : VPure Tryz.prog 34 [.str s, .int .i64 p] G (refNext s p) := by
  refine VCalls.of okG mixed T18 ok18 fun hG => ?_
  simp (maxSteps:=999999) -dsimp -implicitDefEqProofs only [↓eqD,eqU,eqV,eqW,vbuiltinQ,vlen,vslice,vindex,vstore,Array.toList,simprocAttr,fnWp_some Tryz.func34,Tryz.f34,FL,T18_ord,T18_ghost,SG_at,add_at,g13,g25,g26,vreps]
  have hpi : (p : Int) < (s.length : Int) := by omega
  have l1 := runN_le (s.drop p) namesL
  have l2 := runN_le (s.drop p) digitsL
  simp only [List.length_drop] at l1 l2
  have hlet := runN_pos lettersL hp
  rw [in_letters] at hlet
  have hdig := runN_pos digitsL hp
  rw [in_digits] at hdig
  have put0 : ∀ cs id, id < G.next → ((H0 G).put G.next (.cells 0 cs)).get id = G.get id := fun cs id hid => by simp (maxSteps:=999999) -dsimp -implicitDefEqProofs only [↓eqD,eqU,eqV,eqW,vbuiltinQ,vlen,vslice,vindex,vstore,Array.toList,simprocAttr,Nat.ne_of_lt hid]
  have dn : ∀ v, refNext s p = v → v.under G.next = true → ∀ cs, VDone G.next v ((H0 G).put G.next (.cells 0 cs)) fun u G' => u = refNext s p ∧ G' = G := fun v hv hu cs => VDone.back hG (put0 cs) hu hv.symm
  have ok : ∀ kind text n, nextL (s.drop p) = ⟨kind, text, n, 0⟩ → ∀ e : Int, e = ((p + n : Nat) : Int) → ∀ text', text' = text → ∀ cs, VDone G.next (.tup [.agg [.int .i64 kind, .str text', .int .i64 p], .int .i64 e, .int .i64 0]) ((H0 G).put G.next (.cells 0 cs)) fun u G' => u = refNext s p ∧ G' = G := by
    intro kind text n h e he text' ht cs
    refine dn _ ?_ rfl cs
    unfold refNext; rw [h, if_pos rfl, he, ht]
  have bad : ∀ err, nextL (s.drop p) = ⟨0, [], 0, err⟩ → err ≠ 0 → ∀ cs, VDone G.next (.tup [.agg [.int .i64 0, .str [], .int .i64 0], .int .i64 p, .int .i64 err]) ((H0 G).put G.next (.cells 0 cs)) fun u G' => u = refNext s p ∧ G' = G := by
    intro err h he cs
    refine dn _ ?_ rfl cs
    unfold refNext; rw [h, if_neg he]
  have hgt : ∀ id, id < G.next → (H0 G).get id = G.get id := fun id hid => by simp (maxSteps:=999999) -dsimp -implicitDefEqProofs only [↓eqD,eqU,eqV,eqW,vbuiltinQ,vlen,vslice,vindex,vstore,Array.toList,simprocAttr,Nat.ne_of_lt hid]
  have tk : ∀ n, (s.take (p + n)).drop p = (s.drop p).take n := fun n => by rw [List.drop_take, Nat.add_sub_cancel_left]
  refine ⟨by omega, ?_⟩
  split
  · rename_i c1
    have hr : 0 < runN (s.drop p) lettersL := hlet.2 c1
    refine vloop_to 1 (fun e : Nat => p ≤ e ∧ e ≤ s.length ∧ (e - p) + runN (s.drop e) namesL = runN (s.drop p) namesL) (fun e => Env.of [(0, .str s), (1, .int .i64 p), (4, .ptr G.next 0 0), (7, .int .i64 (e : Nat))])
      (fun _ => H0 G) (fun e => s.length - e) p
      (fun E G' => E 0 = .str s ∧ E 1 = .int .i64 p ∧ E 4 = .ptr G.next 0 0 ∧ E 7 = .int .i64 ((p + runN (s.drop p) namesL : Nat) : Int) ∧ G' = H0 G) ?_ ?_ ?_ ?_
    · refine while_in hG ?_ ?_ ?_ ?_ ?_ ?_ ?_
      all_goals (try (simp (maxSteps:=999999) -dsimp -implicitDefEqProofs only [↓eqD,eqU,eqV,eqW,vbuiltinQ,vlen,vslice,vindex,vstore,Array.toList,simprocAttr]; done))
      intro id hid; simp (maxSteps:=999999) -dsimp -implicitDefEqProofs only [↓eqD,eqU,eqV,eqW,vbuiltinQ,vlen,vslice,vindex,vstore,Array.toList,simprocAttr,Nat.ne_of_lt hid]
    · exact ⟨Nat.le_refl _, by omega, by omega⟩
    · rintro e ⟨h1, h2, h3⟩
      simp (maxSteps:=999999) -dsimp -implicitDefEqProofs only [↓eqD,eqU,eqV,eqW,vbuiltinQ,vlen,vslice,vindex,vstore,Array.toList,simprocAttr,FL,T18_ord,T18_ghost,SG_at,add_at,g13,g25,g26]
      have stop : runN (s.drop e) namesL = 0 → V.int .i64 (e : Int) = V.int .i64 ((p + runN (s.drop p) namesL : Nat) : Int) := fun h => by rw [show e = p + runN (s.drop p) namesL by omega]
      split
      · rename_i k1
        have k1 : e < s.length := by omega
        refine ⟨by omega, ?_⟩
        split
        · rename_i k2
          refine ⟨by omega, ?_⟩
          split
          · rename_i k3
            refine while_next hs namesL h1 k1 h3 (by rw [in_names, k3, Bool.or_true]) ?_ ?_ ?_ ?_ <;> simp (maxSteps:=999999) -dsimp -implicitDefEqProofs only [↓eqD,eqU,eqV,eqW,vbuiltinQ,vlen,vslice,vindex,vstore,Array.toList,simprocAttr]
          · rename_i k3
            exact stop (runN_out k1 (by rw [in_names, k2]; simpa using k3))
        · rename_i k2
          refine while_next hs namesL h1 k1 h3 (by rw [in_names, (by simpa using k2 : letterB (s.getD e 0).toNat = true)]; rfl) ?_ ?_ ?_ ?_ <;> simp (maxSteps:=999999) -dsimp -implicitDefEqProofs only [↓eqD,eqU,eqV,eqW,vbuiltinQ,vlen,vslice,vindex,vstore,Array.toList,simprocAttr]
      · rename_i k1
        exact stop (runN_end _ (by omega))
    · rintro E G' ⟨e0, e1, e4, e7, rfl⟩
      have w1 : IntKind.wrap .i64 (((p + runN (s.drop p) namesL : Nat) : Int) - (p : Int)) = (runN (s.drop p) namesL : Nat) := by rw [w64 (by omega) (by omega)]; omega
      simp (maxSteps:=999999) -dsimp -implicitDefEqProofs only [↓eqD,eqU,eqV,eqW,vbuiltinQ,vlen,vslice,vindex,vstore,Array.toList,simprocAttr,FL,T18_ord,T18_ghost,SG_at,add_at,g13,g25,g26,e0,e1,e4,e7,w1]
      have hw := wordB_R ((s.drop p).take (runN (s.drop p) namesL)) (by simp; omega)
      have nx : ∀ t, (if 8 < runN (s.drop p) namesL ∧ wordB ((s.drop p).take (runN (s.drop p) namesL)) = false then (⟨0, [], 0, 13⟩ : Took) else ⟨1, (s.drop p).take (runN (s.drop p) namesL), runN (s.drop p) namesL, 0⟩) = t → nextL (s.drop p) = t := fun t ht => by
        unfold nextL; rw [if_pos hr, ht]
      split
      · rename_i k1
        refine ⟨by omega, ?_⟩
        rw [tk]
        split
        · rename_i k2
          exact bad 13 (nx _ (by rw [if_pos ⟨by omega, by rw [hw]; simpa using k2⟩])) (by decide) _
        · rename_i k2
          exact ⟨by omega, ok _ _ _ (nx _ (by rw [if_neg (fun h => k2 (by rw [← hw, h.2]; rfl))])) _ rfl _ rfl _⟩
      · rename_i k1
        rw [tk]
        exact ⟨by omega, ok _ _ _ (nx _ (by rw [if_neg (fun h => k1 (by omega))])) _ rfl _ rfl _⟩
  · rename_i c1
    have hr : ¬0 < runN (s.drop p) lettersL := fun h => c1 (hlet.1 h)
    refine ⟨by omega, ?_⟩
    split
    · rename_i c2
      have hd : 0 < runN (s.drop p) digitsL := hdig.2 c2
      have nx : ∀ t, (⟨2, (s.drop p).take (numN (s.drop p)), numN (s.drop p), 0⟩ : Took) = t → nextL (s.drop p) = t := fun t ht => by
        unfold nextL; rw [if_neg hr, if_pos hd, ht]
      refine vloop_to 3 (fun e : Nat => p ≤ e ∧ e ≤ s.length ∧ (e - p) + runN (s.drop e) digitsL = runN (s.drop p) digitsL) (fun e => Env.of [(0, .str s), (1, .int .i64 p), (4, .ptr G.next 0 0), (7, .int .i64 (e : Nat))])
        (fun _ => H0 G) (fun e => s.length - e) p
        (fun E G' => E 0 = .str s ∧ E 1 = .int .i64 p ∧ E 4 = .ptr G.next 0 0 ∧ E 7 = .int .i64 ((p + runN (s.drop p) digitsL : Nat) : Int) ∧ G' = H0 G) ?_ ?_ ?_ ?_
      · refine while_in hG ?_ ?_ ?_ ?_ ?_ ?_ ?_
        all_goals (try (simp (maxSteps:=999999) -dsimp -implicitDefEqProofs only [↓eqD,eqU,eqV,eqW,vbuiltinQ,vlen,vslice,vindex,vstore,Array.toList,simprocAttr]; done))
        intro id hid; simp (maxSteps:=999999) -dsimp -implicitDefEqProofs only [↓eqD,eqU,eqV,eqW,vbuiltinQ,vlen,vslice,vindex,vstore,Array.toList,simprocAttr,Nat.ne_of_lt hid]
      · exact ⟨Nat.le_refl _, by omega, by omega⟩
      · rintro e ⟨h1, h2, h3⟩
        simp (maxSteps:=999999) -dsimp -implicitDefEqProofs only [↓eqD,eqU,eqV,eqW,vbuiltinQ,vlen,vslice,vindex,vstore,Array.toList,simprocAttr,FL,T18_ord,T18_ghost,SG_at,add_at,g13,g25,g26]
        have stop : runN (s.drop e) digitsL = 0 → V.int .i64 (e : Int) = V.int .i64 ((p + runN (s.drop p) digitsL : Nat) : Int) := fun h => by rw [show e = p + runN (s.drop p) digitsL by omega]
        split
        · rename_i k1
          have k1 : e < s.length := by omega
          refine ⟨by omega, ?_⟩
          split
          · rename_i k2
            refine while_next hs digitsL h1 k1 h3 (by rw [in_digits, k2]) ?_ ?_ ?_ ?_ <;> simp (maxSteps:=999999) -dsimp -implicitDefEqProofs only [↓eqD,eqU,eqV,eqW,vbuiltinQ,vlen,vslice,vindex,vstore,Array.toList,simprocAttr]
          · rename_i k2
            exact stop (runN_out k1 (by rw [in_digits]; simpa using k2))
        · rename_i k1
          exact stop (runN_end _ (by omega))
      · rintro E G' ⟨e0, e1, e4, e7, rfl⟩
        have w1 : IntKind.wrap .i64 (((p + runN (s.drop p) digitsL : Nat) : Int) + 1) = ((p + runN (s.drop p) digitsL + 1 : Nat) : Int) := by rw [w64 (by omega) (by omega)]; omega
        simp (maxSteps:=999999) -dsimp -implicitDefEqProofs only [↓eqD,eqU,eqV,eqW,vbuiltinQ,vlen,vslice,vindex,vstore,Array.toList,simprocAttr,FL,T18_ord,T18_ghost,SG_at,add_at,g13,g25,g26,e0,e1,e4,e7,w1]
        have hb : ((s.getD (p + runN (s.drop p) digitsL) 0).toNat : Int) = 46 ↔ s.getD (p + runN (s.drop p) digitsL) 0 = 46 := by
          constructor
          · intro h; exact UInt8.toNat_inj.1 (by simpa using Int.ofNat_inj.1 h)
          · intro h; rw [h]; rfl
        have nR := numN_R (s := s) (p := p) rfl
        have one : ¬(p + runN (s.drop p) digitsL + 1 < s.length ∧ s.getD (p + runN (s.drop p) digitsL) 0 = 46 ∧ digitB (s.getD (p + runN (s.drop p) digitsL + 1) 0).toNat = true) →
            nextL (s.drop p) = ⟨2, (s.drop p).take (runN (s.drop p) digitsL), runN (s.drop p) digitsL, 0⟩ := fun h => nx _ (by rw [nR, if_neg h])
        split
        · rename_i k1
          refine ⟨by omega, ?_⟩
          split
          · rename_i k2
            refine ⟨by omega, ?_⟩
            split
            · rename_i k3
              rw [if_pos ⟨by omega, hb.1 k2, k3⟩] at nR
              have l3 := runN_le (s.drop (p + runN (s.drop p) digitsL + 1)) digitsL
              simp only [List.length_drop] at l3
              generalize hq : p + runN (s.drop p) digitsL + 1 = q at *
              have l4 := hq
              generalize runN (s.drop p) digitsL = r at *
              refine vloop_to 5 (fun e : Nat => q ≤ e ∧ e ≤ s.length ∧ (e - q) + runN (s.drop e) digitsL = runN (s.drop q) digitsL) (fun e => Env.of [(0, .str s), (1, .int .i64 p), (4, .ptr G.next 0 0), (7, .int .i64 (e : Nat))])
                (fun _ => H0 G) (fun e => s.length - e) q
                (fun E G' => E 0 = .str s ∧ E 1 = .int .i64 p ∧ E 4 = .ptr G.next 0 0 ∧ E 7 = .int .i64 ((q + runN (s.drop q) digitsL : Nat) : Int) ∧ G' = H0 G) ?_ ?_ ?_ ?_
              · refine while_in hG ?_ ?_ ?_ ?_ ?_ ?_ ?_
                all_goals (try (simp (maxSteps:=999999) -dsimp -implicitDefEqProofs only [↓eqD,eqU,eqV,eqW,vbuiltinQ,vlen,vslice,vindex,vstore,Array.toList,simprocAttr,e0,e1,e4]; done))
                · exact hgt
              · exact ⟨Nat.le_refl _, by omega, by omega⟩
              · rintro e ⟨h1, h2, h3⟩
                simp (maxSteps:=999999) -dsimp -implicitDefEqProofs only [↓eqD,eqU,eqV,eqW,vbuiltinQ,vlen,vslice,vindex,vstore,Array.toList,simprocAttr,FL,T18_ord,T18_ghost,SG_at,add_at,g13,g25,g26]
                have stop : runN (s.drop e) digitsL = 0 → V.int .i64 (e : Int) = V.int .i64 ((q + runN (s.drop q) digitsL : Nat) : Int) := fun h => by rw [show e = q + runN (s.drop q) digitsL by omega]
                split
                · rename_i k1
                  have k1 : e < s.length := by omega
                  refine ⟨by omega, ?_⟩
                  split
                  · rename_i k2
                    refine while_next hs digitsL h1 k1 h3 (by rw [in_digits, k2]) ?_ ?_ ?_ ?_ <;> simp (maxSteps:=999999) -dsimp -implicitDefEqProofs only [↓eqD,eqU,eqV,eqW,vbuiltinQ,vlen,vslice,vindex,vstore,Array.toList,simprocAttr]
                  · rename_i k2
                    exact stop (runN_out k1 (by rw [in_digits]; simpa using k2))
                · rename_i k1
                  exact stop (runN_end _ (by omega))
              · rintro E G' ⟨e0, e1, e4, e7, rfl⟩
                simp (maxSteps:=999999) -dsimp -implicitDefEqProofs only [↓eqD,eqU,eqV,eqW,vbuiltinQ,vlen,vslice,vindex,vstore,Array.toList,simprocAttr,FL,T18_ord,T18_ghost,SG_at,add_at,g13,g25,g26,e0,e1,e4,e7]
                have en : q + runN (s.drop q) digitsL = p + numN (s.drop p) := by omega
                refine ⟨by omega, ?_⟩
                rw [en, tk]
                exact ok _ _ _ (nx _ rfl) _ rfl _ rfl _
            · rename_i k3
              refine ⟨by omega, ?_⟩
              rw [tk]
              exact ok _ _ _ (one fun h => k3 h.2.2) _ rfl _ rfl _
          · rename_i k2
            refine ⟨by omega, ?_⟩
            rw [tk]
            exact ok _ _ _ (one fun h => k2 (hb.2 h.2.1)) _ rfl _ rfl _
        · rename_i k1
          refine ⟨by omega, ?_⟩
          rw [tk]
          exact ok _ _ _ (one fun h => k1 (by omega)) _ rfl _ rfl _
    · rename_i c2
      have hd : ¬0 < runN (s.drop p) digitsL := fun h => c2 (hdig.1 h)
      have hq : ((s.getD p 0).toNat : Int) = 34 ↔ (s.drop p).getD 0 0 = 34 := by
        rw [drop_getD0 hp]
        constructor
        · intro h; exact UInt8.toNat_inj.1 (by simpa using Int.ofNat_inj.1 h)
        · intro h; rw [h]; rfl
      refine ⟨by omega, ?_⟩
      split
      · rename_i c3
        have c3' := hq.1 c3
        have w1 : IntKind.wrap .i64 ((p : Int) + 1) = ((p + 1 : Nat) : Int) := by rw [w64 (by omega) (by omega)]; rfl
        refine vloop_to 7 (fun e : Nat => p + 1 ≤ e ∧ e ≤ s.length ∧ textGo (s.drop e) (e - p) = textN (s.drop p)) (fun e => Env.of [(0, .str s), (1, .int .i64 p), (4, .ptr G.next 0 0), (7, .int .i64 (e : Nat))])
          (fun _ => H0 G) (fun e => s.length - e) (p + 1)
          (fun E G' => ∃ e : Nat, E 0 = .str s ∧ E 1 = .int .i64 p ∧ E 4 = .ptr G.next 0 0 ∧ E 7 = .int .i64 (e : Nat) ∧ (p + 1 ≤ e ∧ e ≤ s.length ∧ textN (s.drop p) = (if e < s.length ∧ s.getD e 0 = 34 then e - p + 1 else 0)) ∧ G' = H0 G) ?_ ?_ ?_ ?_
        · refine while_in hG ?_ ?_ ?_ ?_ ?_ ?_ ?_
          all_goals (try (simp (maxSteps:=999999) -dsimp -implicitDefEqProofs only [↓eqD,eqU,eqV,eqW,vbuiltinQ,vlen,vslice,vindex,vstore,Array.toList,simprocAttr,w1]; done))
          intro id hid; simp (maxSteps:=999999) -dsimp -implicitDefEqProofs only [↓eqD,eqU,eqV,eqW,vbuiltinQ,vlen,vslice,vindex,vstore,Array.toList,simprocAttr,Nat.ne_of_lt hid]
        · refine ⟨Nat.le_refl _, by omega, ?_⟩
          unfold textN
          rw [List.drop_drop, show p + 1 - p = 1 by omega]
        · rintro e ⟨h1, h2, h3⟩
          simp (maxSteps:=999999) -dsimp -implicitDefEqProofs only [↓eqD,eqU,eqV,eqW,vbuiltinQ,vlen,vslice,vindex,vstore,Array.toList,simprocAttr,FL,T18_ord,T18_ghost,SG_at,add_at,g13,g25,g26]
          have hb : e < s.length → (((s.getD e 0).toNat : Int) = 34 ↔ s.getD e 0 = 34) := fun _ => by
            constructor
            · intro h; exact UInt8.toNat_inj.1 (by simpa using Int.ofNat_inj.1 h)
            · intro h; rw [h]; rfl
          have stop : textN (s.drop p) = (if e < s.length ∧ s.getD e 0 = 34 then e - p + 1 else 0) → ∃ e' : Nat, V.int .i64 (e : Int) = V.int .i64 (e' : Int) ∧ p + 1 ≤ e' ∧ e' ≤ s.length ∧ textN (s.drop p) = (if e' < s.length ∧ s.getD e' 0 = 34 then e' - p + 1 else 0) := fun h => ⟨e, rfl, h1, h2, h⟩
          split
          · rename_i k1
            have k1 : e < s.length := by omega
            have hb := hb k1
            rw [drop_at k1, textGo] at h3
            refine ⟨by omega, ?_⟩
            split
            · rename_i k2
              have k2' : ¬s.getD e 0 = 34 := fun h => k2 (hb.2 h)
              have k2n : ¬(s.getD e 0).toNat = 34 := by omega
              refine ⟨by omega, ?_⟩
              split
              · rename_i k3
                refine ⟨by omega, ?_⟩
                split
                · rename_i k4
                  rw [if_pos ⟨by omega, by omega⟩, if_neg k2n] at h3
                  have w2 : IntKind.wrap .i64 ((e : Int) + 1) = ((e + 1 : Nat) : Int) := by rw [w64 (by omega) (by omega)]; rfl
                  refine ⟨e + 1, ⟨by omega, by omega, (show e + 1 - p = e - p + 1 by omega) ▸ h3⟩, by omega, .of ?_ (.refl _)⟩
                  simp (maxSteps:=999999) -dsimp -implicitDefEqProofs only [↓eqD,eqU,eqV,eqW,vbuiltinQ,vlen,vslice,vindex,vstore,Array.toList,simprocAttr,w2]
                  exact ⟨.refl _, .refl _, .refl _, .refl _⟩
                · rename_i k4
                  rw [if_neg (by omega)] at h3
                  exact stop (by rw [if_neg (fun h => k2' h.2), h3])
              · rename_i k3
                rw [if_neg (by omega)] at h3
                exact stop (by rw [if_neg (fun h => k2' h.2), h3])
            · rename_i k2
              have k2 : ((s.getD e 0).toNat : Int) = 34 := by simpa using k2
              rw [if_pos (by omega), if_pos (by omega)] at h3
              exact stop (by rw [if_pos ⟨k1, hb.1 k2⟩, h3])
          · rename_i k1
            rw [List.drop_eq_nil_of_le (by omega)] at h3
            exact stop (by rw [if_neg (fun h => k1 (by omega)), ← h3, textGo])
        · rintro E G' ⟨e, e0, e1, e4, e7, ⟨h1, h2, h3⟩, rfl⟩
          have w2 : IntKind.wrap .i64 (IntKind.wrap .i64 ((e : Int) - (p : Int)) - 1) = ((e - p - 1 : Nat) : Int) := by rw [show IntKind.wrap .i64 ((e : Int) - (p : Int)) = (e : Int) - (p : Int) from w64 (by omega) (by omega), w64 (by omega) (by omega)]; omega
          have w3 : e < s.length → IntKind.wrap .i64 ((e : Int) + 1) = ((e + 1 : Nat) : Int) := fun h => by rw [w64 (by omega) (by omega)]; rfl
          simp (maxSteps:=999999) -dsimp -implicitDefEqProofs only [↓eqD,eqU,eqV,eqW,vbuiltinQ,vlen,vslice,vindex,vstore,Array.toList,simprocAttr,FL,T18_ord,T18_ghost,SG_at,add_at,g13,g25,g26,e0,e1,e4,e7,w1,w2]
          by_cases k1 : e < s.length
          · have hb : ((s.getD e 0).toNat : Int) = 34 ↔ s.getD e 0 = 34 := by
              constructor
              · intro h; exact UInt8.toNat_inj.1 (by simpa using Int.ofNat_inj.1 h)
              · intro h; rw [h]; rfl
            rw [if_pos (by simp; omega), w3 k1]
            refine ⟨by omega, ?_⟩
            split
            · rename_i k2
              rw [if_neg (fun h => k2 (hb.2 h.2))] at h3
              exact bad 2 (by unfold nextL; rw [if_neg hr, if_neg hd, if_pos c3', if_pos h3]) (by decide) _
            · rename_i k2
              rw [if_pos ⟨k1, hb.1 (Classical.not_not.1 k2)⟩] at h3
              split
              · rename_i k3
                exact bad 13 (by unfold nextL; rw [if_neg hr, if_neg hd, if_pos c3', if_neg (by omega), if_pos (by omega)]) (by decide) _
              · rename_i k3
                refine ⟨by omega, ok 3 _ (textN (s.drop p)) (by unfold nextL; rw [if_neg hr, if_neg hd, if_pos c3', if_neg (by omega), if_neg (by omega)]) _ (by omega) _ ?_ _⟩
                rw [h3, Nat.add_sub_cancel, List.drop_take, List.drop_take, List.drop_drop, show e - (p + 1) = e - p - 1 by omega]
          · rw [if_neg (by simp; omega)]
            rw [if_neg (fun h => k1 h.1)] at h3
            exact bad 2 (by unfold nextL; rw [if_neg hr, if_neg hd, if_pos c3', if_pos h3]) (by decide) _
      · rename_i c3
        have c3' : ¬(s.drop p).getD 0 0 = 34 := fun h => c3 (hq.2 h)
        refine vloop_by (fun i : Nat => i ≤ 16 ∧ signGo (s.drop p) (signsF.drop i) = signL (s.drop p)) (fun i => Env.of [(0, .str s), (1, .int .i64 p), (4, .ptr G.next 0 0), (8, .slc 1 16 (signsF.map .str)), (9, .int .i64 (i : Nat))]) (fun _ => H0 G) (fun i => 16 - i) 0 ?_ ?_ ?_
        · refine .of ?_ (.over hG ?_ ?_ ?_)
          · simp (maxSteps:=999999) -dsimp -implicitDefEqProofs only [↓eqD,eqU,eqV,eqW,vbuiltinQ,vlen,vslice,vindex,vstore,Array.toList,simprocAttr]
            exact ⟨.refl _, .refl _, .refl _, .refl _, .refl _⟩
          all_goals (try (simp (maxSteps:=999999) -dsimp -implicitDefEqProofs only [↓eqD,eqU,eqV,eqW,vbuiltinQ,vlen,vslice,vindex,vstore,Array.toList,simprocAttr]; done))
          intro id hid; simp (maxSteps:=999999) -dsimp -implicitDefEqProofs only [↓eqD,eqU,eqV,eqW,vbuiltinQ,vlen,vslice,vindex,vstore,Array.toList,simprocAttr,Nat.ne_of_lt hid]
        · exact ⟨by omega, rfl⟩
        · rintro i ⟨h1, hi⟩
          by_cases hlt : i < 16
          · have hlt' : i < signsF.length := hlt
            have hx := velem_map (f := V.str) hlt'
            rw [List.drop_eq_getElem_cons hlt'] at hi
            have w1 : IntKind.wrap .i64 ((i : Int) + 1) = ((i + 1 : Nat) : Int) := by rw [w64 (by omega) (by omega)]; rfl
            have xl : signsF[i].length ≤ 2 := by
              have : ∀ x ∈ signsF, x.length ≤ 2 := by decide
              exact this _ (List.getElem_mem _)
            have xn : signsF[i] ≠ [] := by
              have : ∀ x ∈ signsF, x ≠ [] := by decide
              exact this _ (List.getElem_mem _)
            generalize signsF[i] = x at hx hi xl xn
            have w2 : IntKind.wrap .i64 ((s.length : Int) - (p : Int)) = ((s.length - p : Nat) : Int) := by rw [w64 (by omega) (by omega)]; omega
            have w3 : IntKind.wrap .i64 ((p : Int) + (x.length : Int)) = ((p + x.length : Nat) : Int) := by rw [w64 (by omega) (by omega)]; omega
            simp (maxSteps:=999999) -dsimp -implicitDefEqProofs only [↓eqD,eqU,eqV,eqW,vbuiltinQ,vlen,vslice,vindex,vstore,Array.toList,simprocAttr,FL,T18_ord,T18_ghost,SG_at,add_at,g13,g25,g26,hx,w1,w2,w3]
            try rw [if_pos (by omega)]
            refine ⟨by omega, ?_⟩
            simp only [signGo] at hi
            have more : ∀ r, signGo (s.drop p) r = signL (s.drop p) → r = signsF.drop (i + 1) → (i + 1 ≤ 16 ∧ signGo (s.drop p) (signsF.drop (i + 1)) = signL (s.drop p)) := fun r h e => ⟨by omega, e ▸ h⟩
            split
            · rename_i k1
              refine ⟨by omega, by omega, by omega, ?_⟩
              split
              · rename_i k2
                rw [if_pos (prefix_at.2 ⟨by omega, k2⟩)] at hi
                refine ⟨by omega, by omega, ok 4 x x.length ?_ _ rfl _ rfl _⟩
                unfold nextL
                rw [if_neg hr, if_neg hd, if_neg c3', ← hi, if_neg xn]
              · rename_i k2
                rw [if_neg (fun h => k2 (prefix_at.1 h).2)] at hi
                refine ⟨i + 1, more _ hi rfl, by omega, .of ?_ (.refl _)⟩
                simp (maxSteps:=999999) -dsimp -implicitDefEqProofs only [↓eqD,eqU,eqV,eqW,vbuiltinQ,vlen,vslice,vindex,vstore,Array.toList,simprocAttr]
                exact ⟨.refl _, .refl _, .refl _, .refl _, .refl _⟩
            · rename_i k1
              rw [if_neg (fun h => k1 (by have := (prefix_at.1 h).1; omega))] at hi
              refine ⟨i + 1, more _ hi rfl, by omega, .of ?_ (.refl _)⟩
              simp (maxSteps:=999999) -dsimp -implicitDefEqProofs only [↓eqD,eqU,eqV,eqW,vbuiltinQ,vlen,vslice,vindex,vstore,Array.toList,simprocAttr]
              exact ⟨.refl _, .refl _, .refl _, .refl _, .refl _⟩
          · have : i = 16 := by omega
            subst this
            simp (maxSteps:=999999) -dsimp -implicitDefEqProofs only [↓eqD,eqU,eqV,eqW,vbuiltinQ,vlen,vslice,vindex,vstore,Array.toList,simprocAttr,FL,T18_ord,T18_ghost,SG_at,add_at,g13,g25,g26]
            try rw [if_neg (by omega)]
            exact bad 2 (by unfold nextL; rw [if_neg hr, if_neg hd, if_neg c3', ← hi]; rfl) (by decide) _
end Go.Vf
set_option linter.unusedVariables false
set_option linter.unusedSimpArgs false
namespace Go.Vf
open Go.Proofs Go.RowKit
theorem nextL_bad (s : List UInt8) : (nextL s).err ≠ 0 → (nextL s).kind = 0 ∧ (nextL s).text = [] ∧ (nextL s).n = 0 := by
  unfold nextL
  intro h
  split at h
  · rename_i c1
    rw [if_pos c1]
    split at h
    · rename_i c2; rw [if_pos c2]; exact ⟨rfl, rfl, rfl⟩
    · exact (h rfl).elim
  · rename_i c1
    rw [if_neg c1]
    split at h
    · exact (h rfl).elim
    · rename_i c2
      rw [if_neg c2]
      split at h
      · rename_i c3
        rw [if_pos c3]
        split at h
        · rename_i c4; rw [if_pos c4]; exact ⟨rfl, rfl, rfl⟩
        · rename_i c4
          rw [if_neg c4]
          split at h
          · rename_i c5; rw [if_pos c5]; exact ⟨rfl, rfl, rfl⟩
          · exact (h rfl).elim
      · rename_i c3
        rw [if_neg c3]
        split at h
        · rename_i c4; rw [if_pos c4]; exact ⟨rfl, rfl, rfl⟩
        · exact (h rfl).elim
def g18 : List V → Option (Prop × V)
  | [.str s, .int .i64 p] => some (0 ≤ p ∧ p < (s.length : Int) ∧ s.length ≤ 1000, .tup [.agg [.int .i64 (nextL (s.drop p.toNat)).kind, .str (nextL (s.drop p.toNat)).text, .int .i64 (if (nextL (s.drop p.toNat)).err = 0 then p else 0)], .int .i64 ((p.toNat + (nextL (s.drop p.toNat)).n : Nat) : Int), .int .i64 (nextL (s.drop p.toNat)).err])
  | _ => none
theorem refNext_eq (s : List UInt8) (p : Nat) : refNext s p = .tup [.agg [.int .i64 (nextL (s.drop p)).kind, .str (nextL (s.drop p)).text, .int .i64 (if (nextL (s.drop p)).err = 0 then (p : Int) else 0)], .int .i64 ((p + (nextL (s.drop p)).n : Nat) : Int), .int .i64 (nextL (s.drop p)).err] := by
  unfold refNext
  split
  · rename_i h; rw [h]
  · rename_i h
    obtain ⟨h1, h2, h3⟩ := nextL_bad _ h
    rw [h1, h2, h3]; rfl
def SI : Specs := SG.add 34 g18
theorem SI_at (f : FuncId) (xs : List V) (G : Heap) : SI f xs G = (SG.add 34 g18) f xs G := rfl
theorem okI : SOk Tryz.prog SI := by
  refine okG.add ?_
  intro xs G p v e hp
  unfold g18 at e
  split at e
  · rename_i s q
    cases e
    obtain ⟨h1, h2, h3⟩ := hp
    obtain ⟨n, rfl⟩ := Int.eq_ofNat_of_zero_le h1
    have := refNext_walk s n (by omega) h3 G
    rw [refNext_eq] at this
    exact this
  · cases e
theorem ok10 : fnOk Tryz.prog 19 T0 1 = true := by kernel_rfl
set_option maxRecDepth 100000 in
theorem refLex_walk (s : List UInt8) (G : Heap) : VPure Tryz.prog 19 [.str s] G (lexL s).v := by
  refine VCalls.of okI mixed T0 ok10 fun hG => ?_
  simp (maxSteps:=999999) -dsimp -implicitDefEqProofs only [↓eqD,eqU,eqV,eqW,vbuiltinQ,vlen,vslice,vindex,vstore,Array.toList,simprocAttr,fnWp_some Tryz.func19,Tryz.f19,T0,FL]
  have nilw : ∀ (n e : Int), VLe (.tup [.nilsl, .int .i64 n, .int .i64 e]) (Lexed.v ⟨[], n, e⟩) := fun n e => .tup ⟨.nil_sl 3, .refl _, .refl _, trivial⟩
  split
  · rename_i h
    refine .weak (nilw 0 13) (VDone.back hG (fun _ _ => rfl) rfl ?_)
    unfold lexL; rw [if_pos (by omega)]
  · rename_i h
    have hlen : s.length ≤ 200 := by omega
    have hL : lexL s = lexGo s (s.length + 1) (runN s [32]) [] := by unfold lexL; rw [if_neg (by omega)]
    refine vloop_by (fun x : Nat × List Tok × Nat × Nat × Nat => x.1 ≤ s.length ∧ x.2.1.length ≤ 60 ∧ G.next < x.2.2.2.1 ∧ s.length < x.1 + x.2.2.2.2 ∧ lexGo s x.2.2.2.2 (x.1 + runN (s.drop x.1) [32]) x.2.1 = lexL s)
      (fun x => Env.of [(0, .str s), (5, .arr 3 G.next x.2.2.1 0 x.2.1.length), (6, .int .i64 (x.1 : Nat))]) (fun x => G.over x.2.2.2.1 [(G.next, .cells x.2.2.1 (toksC x.2.1))]) (fun x => s.length - x.1)
      (0, [], 0, G.next + 1, s.length + 1) ?_ ?_ ?_
    · refine .trans (.own 5 3 (by simp (maxSteps:=999999) -dsimp -implicitDefEqProofs only [↓eqD,eqU,eqV,eqW,vbuiltinQ,vlen,vslice,vindex,vstore,Array.toList,simprocAttr])) (.of ?_ (.over hG ?_ ?_ ?_))
      · simp (maxSteps:=999999) -dsimp -implicitDefEqProofs only [↓eqD,eqU,eqV,eqW,vbuiltinQ,vlen,vslice,vindex,vstore,Array.toList,simprocAttr]
        exact ⟨.refl _, .refl _, .refl _⟩
      · simp (maxSteps:=999999) -dsimp -implicitDefEqProofs only [↓eqD,eqU,eqV,eqW,vbuiltinQ,vlen,vslice,vindex,vstore,Array.toList,simprocAttr]
      · simp (maxSteps:=999999) -dsimp -implicitDefEqProofs only [↓eqD,eqU,eqV,eqW,vbuiltinQ,vlen,vslice,vindex,vstore,Array.toList,simprocAttr]
        rfl
      · intro id hid; simp (maxSteps:=999999) -dsimp -implicitDefEqProofs only [↓eqD,eqU,eqV,eqW,vbuiltinQ,vlen,vslice,vindex,vstore,Array.toList,simprocAttr,Nat.ne_of_lt hid]
    · exact ⟨Nat.zero_le _, by simp, Nat.lt_succ_self _, by simp only; omega, by rw [hL, List.drop_zero, Nat.zero_add]⟩
    · rintro ⟨p, acc, g, m, f⟩ ⟨h1, h2, h3, h4, h5⟩
      simp only at h1 h2 h3 h4 h5
      have hne := Nat.ne_of_lt h3
      have hne' := Nat.ne_of_gt h3
      simp (maxSteps:=999999) -dsimp -implicitDefEqProofs only [↓eqD,eqU,eqV,eqW,vbuiltinQ,vlen,vslice,vindex,vstore,Array.toList,simprocAttr,T0,FL,SI_at,SG_at,add_at,g18,g13,g25,g26,hne,hne',Nat.ne_of_lt,vrow,vreps]
      have dn : ∀ n e, lexL s = ⟨[], n, e⟩ → ∀ G1 : Heap, (∀ id, id < G.next → G1.get id = G.get id) → VDone G.next (.tup [.nilsl, .int .i64 n, .int .i64 e]) G1 fun u G' => u = (lexL s).v ∧ G' = G :=
        fun n e he G1 hg => .weak (nilw n e) (VDone.back hG hg rfl (by rw [he]))
      have hp1 : ∀ b b' id, id < G.next → (((G.over m [(G.next, .cells g (toksC acc))]).alloc b).put m b').get id = G.get id := fun b b' id hid => by
        simp (maxSteps:=999999) -dsimp -implicitDefEqProofs only [↓eqD,eqU,eqV,eqW,vbuiltinQ,vlen,vslice,vindex,vstore,Array.toList,simprocAttr,Nat.ne_of_lt hid,Nat.ne_of_lt (Nat.lt_trans hid h3)]
      obtain ⟨f', rfl⟩ : ∃ f', f = f' + 1 := ⟨f - 1, by omega⟩
      split
      · rename_i c1
        have c1 : p < s.length := by omega
        have hb : ((s.getD p 0).toNat : Int) = 32 ↔ s.getD p 0 = 32 := by
          constructor
          · intro h; exact UInt8.toNat_inj.1 (by simpa using Int.ofNat_inj.1 h)
          · intro h; rw [h]; rfl
        refine ⟨by omega, ?_⟩
        split
        · rename_i c2
          rw [runN_in c1 (by rw [hb.1 c2]; rfl), ← Nat.add_assoc] at h5
          have w1 : IntKind.wrap .i64 ((p : Int) + 1) = ((p + 1 : Nat) : Int) := by rw [w64 (by omega) (by omega)]; rfl
          rw [w1]
          refine ⟨(p + 1, acc, g, m, f' + 1), ⟨by simp only; omega, h2, h3, by simp only; omega, h5⟩, by simp only; omega, .of ?_ (.refl _)⟩
          simp (maxSteps:=999999) -dsimp -implicitDefEqProofs only [↓eqD,eqU,eqV,eqW,vbuiltinQ,vlen,vslice,vindex,vstore,Array.toList,simprocAttr]
          exact ⟨.refl _, .refl _, .refl _⟩
        · rename_i c2
          rw [runN_out c1 (by simpa using fun h => c2 (hb.2 h)), show p + 0 = p from rfl, lexGo, if_pos c1] at h5
          have hn := nextL_n (s := s.drop p) (by rw [ne_eq, List.drop_eq_nil_iff]; omega)
          generalize nextL (s.drop p) = t at h5 hn ⊢
          simp only [List.length_drop] at hn
          refine ⟨by omega, ?_⟩
          have go : t.err = 0 → acc.length < 60 → ∀ (E : Env) (G' : Heap), E 0 = .str s → E 5 = .arr 3 G.next (g + 1) 0 (acc.length + 1) → E 6 = .int .i64 ((p + t.n : Nat) : Int) →
              G'.next = m + 1 → G'.get G.next = some (.cells (g + 1) (toksC acc ++ [.int .i64 t.kind, .str t.text, .int .i64 (if t.err = 0 then (p : Int) else 0)])) → (∀ id, id < G.next → G'.get id = G.get id) →
              (toksC acc).length = acc.length * 3 ∧ (acc.length + 1) * 32 ≤ roomB ∧
                ∃ y : Nat × List Tok × Nat × Nat × Nat, (y.1 ≤ s.length ∧ y.2.1.length ≤ 60 ∧ G.next < y.2.2.2.1 ∧ s.length < y.1 + y.2.2.2.2 ∧ lexGo s y.2.2.2.2 (y.1 + runN (s.drop y.1) [32]) y.2.1 = lexL s) ∧ s.length - y.1 < s.length - p ∧
                  Ghost E G' (Env.of [(0, .str s), (5, .arr 3 G.next y.2.2.1 0 y.2.1.length), (6, .int .i64 (y.1 : Nat))]) (G.over y.2.2.2.1 [(G.next, .cells y.2.2.1 (toksC y.2.1))]) := by
            intro he hacc E G' e0 e5 e6 en eg er
            have hn := hn he
            rw [if_neg (by omega), if_neg (by omega)] at h5
            rw [if_pos he] at eg
            refine ⟨toksC_len acc, by unfold roomB; omega, (p + t.n, acc ++ [⟨t.kind, t.text, p⟩], g + 1, m + 1, f'), ⟨by simp only; omega, by simp; omega, by simp only; omega, by simp only; omega, h5⟩, by simp only; omega, .of ?_ (.over hG ?_ ?_ ?_)⟩
            · simp (maxSteps:=999999) -dsimp -implicitDefEqProofs only [↓eqD,eqU,eqV,eqW,vbuiltinQ,vlen,vslice,vindex,vstore,Array.toList,simprocAttr,e0,e5,e6,List.length_append]
              exact ⟨.refl _, .refl _, .refl _⟩
            · exact en
            · simp (maxSteps:=999999) -dsimp -implicitDefEqProofs only [↓eqD,eqU,eqV,eqW,vbuiltinQ,vlen,vslice,vindex,vstore,Array.toList,simprocAttr,eg,toksC_append]
              rfl
            · exact er
          have rest : ∀ b1 b2 b3 id, id < G.next → ((((G.over m [(G.next, .cells g (toksC acc))]).alloc b1).put m b2).put G.next b3).get id = G.get id := fun b1 b2 b3 id hid => by
            simp (maxSteps:=999999) -dsimp -implicitDefEqProofs only [↓eqD,eqU,eqV,eqW,vbuiltinQ,vlen,vslice,vindex,vstore,Array.toList,simprocAttr,Nat.ne_of_lt hid,Nat.ne_of_lt (Nat.lt_trans hid h3)]
          have stop : t.err ≠ 0 → lexL s = ⟨[], p, t.err⟩ := fun h => by rw [if_neg (fun h' => h h'.1), if_pos h] at h5; exact h5.symm
          split
          · rename_i c3
            split
            · rename_i c4
              try rw [if_pos (by decide)]
              rw [if_pos ⟨c4, by omega⟩] at h5
              exact dn _ _ h5.symm _ (hp1 _ _)
            · rename_i c4
              exact dn _ _ (stop c4) _ (hp1 _ _)
          · rename_i c3
            split
            · rename_i c4
              exact dn _ _ (stop c4) _ (hp1 _ _)
            · rename_i c4
              refine go (Classical.not_not.1 c4) (by omega) _ _ ?_ ?_ ?_ ?_ ?_ (rest _ _ _)
              all_goals (simp (maxSteps:=999999) -dsimp -implicitDefEqProofs only [↓eqD,eqU,eqV,eqW,vbuiltinQ,vlen,vslice,vindex,vstore,Array.toList,simprocAttr])
      · rename_i c1
        have c1 : ¬p < s.length := by omega
        rw [runN_end _ (by omega), show p + 0 = p from rfl, lexGo, if_neg c1] at h5
        refine .pub (id := G.next) (g := g) (cs := toksC acc) (by simp (maxSteps:=999999) -dsimp -implicitDefEqProofs only [↓eqD,eqU,eqV,eqW,vbuiltinQ,vlen,vslice,vindex,vstore,Array.toList,simprocAttr]) (toksC_closed acc) ?_
        refine VDone.back hG ?_ ?_ ?_
        · intro id hid; simp (maxSteps:=999999) -dsimp -implicitDefEqProofs only [↓eqD,eqU,eqV,eqW,vbuiltinQ,vlen,vslice,vindex,vstore,Array.toList,simprocAttr,Nat.ne_of_lt hid]
        · simp only [pubV, List.map_cons, List.map_nil, pub1, V.under, V.underL]
          split <;> rename_i hc
          · rfl
          · exact absurd ⟨trivial, trivial, by rw [toksC_len]; omega⟩ hc
        · rw [← h5]
          simp only [pubV, List.map_cons, List.map_nil, pub1, Lexed.v]
          rw [if_pos ⟨trivial, trivial, by rw [toksC_len]; omega⟩]
          rw [← toksC_len, List.drop_zero, List.take_length]
end Go.Vf
