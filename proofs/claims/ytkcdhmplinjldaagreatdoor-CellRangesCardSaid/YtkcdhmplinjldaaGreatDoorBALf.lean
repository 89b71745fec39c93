/- A part of the proof: Lf, Lg, Lh. -/
import Derived.Test.YtkcdhmplinjldaaGreatDoorBALc
set_option linter.unusedVariables false
set_option linter.unusedSimpArgs false
namespace Go.Vf
open Go.Proofs Go.RowKit
def lettersL : List UInt8 := [97, 98, 99, 100, 101, 102, 103, 104, 105, 106, 107, 108, 109, 110, 111, 112, 113, 114, 115, 116, 117, 118, 119, 120, 121, 122]
def namesL : List UInt8 := [97, 98, 99, 100, 101, 102, 103, 104, 105, 106, 107, 108, 109, 110, 111, 112, 113, 114, 115, 116, 117, 118, 119, 120, 121, 122, 48, 49, 50, 51, 52, 53, 54, 55, 56, 57]
theorem letters_fold : ([97, 98, 99, 100, 101, 102, 103, 104, 105, 106, 107, 108, 109, 110, 111, 112, 113, 114, 115, 116, 117, 118, 119, 120, 121, 122] : List UInt8) = lettersL := rfl
theorem names_fold : (97 :: 98 :: 99 :: 100 :: 101 :: 102 :: 103 :: 104 :: 105 :: 106 :: 107 :: 108 :: 109 :: 110 :: 111 :: 112 :: 113 :: 114 :: 115 :: 116 :: 117 :: 118 :: 119 :: 120 :: 121 :: 122 :: digitsL : List UInt8) = namesL := rfl
structure Took where
  kind : Int
  text : List UInt8
  n : Nat
  err : Int
def Took.v (t : Took) : V := .tup [.agg [.int .i64 t.kind, .str t.text, .int .i64 0], .int .i64 (t.n : Nat), .int .i64 t.err]
def nextL (s : List UInt8) : Took :=
  if 0 < runN s lettersL then
    (if 8 < runN s namesL ∧ wordB (s.take (runN s namesL)) = false then ⟨0, [], 0, 13⟩ else ⟨1, s.take (runN s namesL), runN s namesL, 0⟩)
  else if 0 < runN s digitsL then ⟨2, s.take (numN s), numN s, 0⟩
  else if s.getD 0 0 = 34 then
    (if textN s = 0 then ⟨0, [], 0, 2⟩ else if 18 < textN s then ⟨0, [], 0, 13⟩ else ⟨3, (s.take (textN s - 1)).drop 1, textN s, 0⟩)
  else if signL s = [] then ⟨0, [], 0, 2⟩ else ⟨4, signL s, (signL s).length, 0⟩
def g17 : List V → Option (Prop × V)
  | [.str s] => some (s ≠ [] ∧ s.length < 4294967281, (nextL s).v)
  | _ => none
theorem numN_le (s : List UInt8) : numN s ≤ s.length := by
  unfold numN
  have h1 := runN_le s digitsL
  have h2 := runN_le (s.drop (runN s digitsL + 1)) digitsL
  simp only [List.length_drop] at h2
  split <;> omega
theorem textGo_le : ∀ (l : List UInt8) (i : Nat), textGo l i ≤ l.length + i ∧ (textGo l i = 0 ∨ i < textGo l i)
  | [], i => by simp [textGo]
  | b :: r, i => by
    have ih := textGo_le r (i + 1)
    unfold textGo
    split
    · split
      · simp; omega
      · simp only [List.length_cons]; omega
    · simp
theorem textN_le {s : List UInt8} (h : s ≠ []) : textN s ≤ s.length ∧ (textN s = 0 ∨ 1 < textN s) := by
  have h1 := textGo_le (s.drop 1) 1
  have : 1 ≤ s.length := by cases s with | nil => exact (h rfl).elim | cons => simp
  simp only [List.length_drop] at h1
  unfold textN
  omega
def SE : Specs := ((SD.add 67 g22).add 68 g23).add 69 g24
theorem okE : SOk Tryz.prog SE := by
  refine ((okD.add ?_).add ?_).add ?_
  · intro xs G p v e hp
    unfold g22 at e
    split at e
    · cases e; exact num_walk _ hp G
    · cases e
  · intro xs G p v e hp
    unfold g23 at e
    split at e
    · cases e; exact text_walk _ hp G
    · cases e
  · intro xs G p v e hp
    unfold g24 at e
    split at e
    · cases e; exact sign_walk _ G
    · cases e
theorem ok17 : fnOk Tryz.prog 40 T0 1 = true := by kernel_rfl
set_option maxRecDepth 100000 in
set_option maxHeartbeats 4000000 in
theorem next_walk (s : List UInt8) (h0 : s ≠ []) (hs : s.length < 4294967281) (G : Heap) : VPure Tryz.prog 40 [.str s] G (nextL s).v := by
  refine VCalls.of okE mixed T0 ok17 fun hG => ?_
  have hd1 : ascii digitsL = true := by decide
  have hd2 : ascii lettersL = true := by decide
  have hd3 : ascii namesL = true := by decide
  have hl1 : s.length ≤ 4611686018427387904 := by omega
  simp (maxSteps:=999999) -dsimp -implicitDefEqProofs only [↓eqD,eqU,eqV,eqW,vbuiltinQ,vlen,vslice,vindex,vstore,Array.toList,simprocAttr,fnWp_some Tryz.func40,Tryz.f40,T0,z33,st33,u3,u5,u9,i33,c33,p33_0,p33_1,p33_2,ag33,SE,SD,SC,SB,SA,add_at,g12,g16,g21,g22,g23,g24,digits_fold,letters_fold,names_fold,hd1,hd2,hd3,hl1,hs]
  have hp : ∀ b b' id, id < G.next → ((G.alloc b).put G.next b').get id = G.get id := fun b b' id hid => by simp (maxSteps:=999999) -dsimp -implicitDefEqProofs only [↓eqD,eqU,eqV,eqW,vbuiltinQ,vlen,vslice,vindex,vstore,Array.toList,simprocAttr,Nat.ne_of_lt hid]
  have dn : ∀ t : Took, nextL s = t → ∀ b b', VDone G.next t.v ((G.alloc b).put G.next b') fun u G' => u = (nextL s).v ∧ G' = G := fun t ht b b' => VDone.back hG (hp b b') rfl (by rw [ht])
  have l1 := runN_le s namesL
  have l2 := numN_le s
  have l3 := textN_le h0
  have hpos : 0 < s.length := by cases s with | nil => exact (h0 rfl).elim | cons => simp
  have hq : ((s.getD 0 0).toNat : Int) = 34 ↔ s.getD 0 0 = 34 := by
    constructor
    · intro h; exact UInt8.toNat_inj.1 (by simpa using Int.ofNat_inj.1 h)
    · intro h; rw [h]; rfl
  split
  · rename_i c1
    split
    · rename_i c2
      refine ⟨by omega, by simp; omega, ?_⟩
      split
      · rename_i c3
        exact dn ⟨0, [], 0, 13⟩ (by unfold nextL; rw [if_pos c1, if_pos ⟨by omega, by simpa using c3⟩]) _ _
      · rename_i c3
        exact ⟨by omega, dn ⟨1, s.take (runN s namesL), runN s namesL, 0⟩ (by unfold nextL; rw [if_pos c1, if_neg (fun h => c3 (by rw [h.2]; rfl))]) _ _⟩
    · rename_i c2
      exact ⟨by omega, dn ⟨1, s.take (runN s namesL), runN s namesL, 0⟩ (by unfold nextL; rw [if_pos c1, if_neg (fun h => c2 (by have := h.1; omega))]) _ _⟩
  · rename_i c1
    split
    · rename_i c2
      exact ⟨by omega, dn ⟨2, s.take (numN s), numN s, 0⟩ (by unfold nextL; rw [if_neg c1, if_pos c2]) _ _⟩
    · rename_i c2
      refine ⟨by omega, ?_⟩
      split
      · rename_i c3
        split
        · rename_i c4
          exact dn ⟨0, [], 0, 2⟩ (by unfold nextL; rw [if_neg c1, if_neg c2, if_pos (hq.1 c3), if_pos (by omega)]) _ _
        · rename_i c4
          have w2 : IntKind.wrap .i64 ((textN s : Int) - 2) = ((textN s - 2 : Nat) : Int) := by rw [w64 (by omega) (by omega)]; omega
          have w1 : IntKind.wrap .i64 ((textN s : Int) - 1) = ((textN s - 1 : Nat) : Int) := by rw [w64 (by omega) (by omega)]; omega
          rw [w2, w1]
          split
          · rename_i c5
            exact dn ⟨0, [], 0, 13⟩ (by unfold nextL; rw [if_neg c1, if_neg c2, if_pos (hq.1 c3), if_neg (by omega), if_pos (by omega)]) _ _
          · rename_i c5
            refine ⟨⟨by omega, by omega⟩, ?_⟩
            exact dn ⟨3, (s.take (textN s - 1)).drop 1, textN s, 0⟩ (by unfold nextL; rw [if_neg c1, if_neg c2, if_pos (hq.1 c3), if_neg (by omega), if_neg (by omega)]) _ _
      · rename_i c3
        split
        · rename_i c4
          exact dn ⟨0, [], 0, 2⟩ (by unfold nextL; rw [if_neg c1, if_neg c2, if_neg (fun h => c3 (hq.2 h)), if_pos c4]) _ _
        · rename_i c4
          exact dn ⟨4, signL s, (signL s).length, 0⟩ (by unfold nextL; rw [if_neg c1, if_neg c2, if_neg (fun h => c3 (hq.2 h)), if_neg c4]) _ _
end Go.Vf
set_option linter.unusedVariables false
set_option linter.unusedSimpArgs false
namespace Go.Vf
open Go.Proofs Go.RowKit
structure Tok where
  kind : Int
  text : List UInt8
  pos : Int
  deriving DecidableEq
def Tok.cells (t : Tok) : List V := [.int .i64 t.kind, .str t.text, .int .i64 t.pos]
def toksC (l : List Tok) : List V := l.flatMap Tok.cells
theorem toksC_len (l : List Tok) : (toksC l).length = l.length * 3 := by
  induction l with
  | nil => rfl
  | cons t r ih => simp only [toksC, List.flatMap_cons, List.length_append] at *; rw [ih]; simp [Tok.cells]; omega
theorem toksC_closed (l : List Tok) : V.closedL (toksC l) = true := by
  induction l with
  | nil => rfl
  | cons t r ih => simp only [toksC, List.flatMap_cons, closedL_append, Bool.and_eq_true] at *; exact ⟨rfl, ih⟩
theorem toksC_append (l : List Tok) (t : Tok) : toksC (l ++ [t]) = toksC l ++ t.cells := by simp [toksC]
structure Lexed where
  toks : List Tok
  n : Int
  err : Int
  deriving DecidableEq
def Lexed.v (r : Lexed) : V := .tup [.sl 3 r.toks.length (toksC r.toks), .int .i64 r.n, .int .i64 r.err]
def lexGo (s : List UInt8) : Nat → Nat → List Tok → Lexed
  | 0, _, _ => ⟨[], 0, 0⟩
  | f + 1, p, acc => if p < s.length then
      (if (nextL (s.drop p)).err = 0 ∧ 60 ≤ acc.length then ⟨[], p, 13⟩
      else if (nextL (s.drop p)).err ≠ 0 then ⟨[], p, (nextL (s.drop p)).err⟩
      else lexGo s f (p + (nextL (s.drop p)).n + runN (s.drop (p + (nextL (s.drop p)).n)) [32]) (acc ++ [⟨(nextL (s.drop p)).kind, (nextL (s.drop p)).text, p⟩]))
    else ⟨acc, s.length, 0⟩
def lexL (s : List UInt8) : Lexed := if 200 < s.length then ⟨[], 0, 13⟩ else lexGo s (s.length + 1) (runN s [32]) []
def g9L : List V → Option (Prop × V)
  | [.str s] => some (True, (lexL s).v)
  | _ => none
def g17' : List V → Option (Prop × V)
  | [.str s] => some (s ≠ [] ∧ s.length < 4294967281, .tup [.agg [.int .i64 (nextL s).kind, .str (nextL s).text, .int .i64 0], .int .i64 ((nextL s).n : Nat), .int .i64 (nextL s).err])
  | _ => none
theorem signGo_pre (s : List UInt8) : ∀ l, signGo s l = [] ∨ (signGo s l).isPrefixOf s = true
  | [] => .inl rfl
  | x :: r => by
    unfold signGo
    split
    · rename_i h; exact .inr h
    · exact signGo_pre s r
theorem dropWhile_mono {α : Type} {p q : α → Bool} (h : ∀ b, p b = true → q b = true) : ∀ l : List α, (l.dropWhile q).length ≤ (l.dropWhile p).length
  | [] => Nat.le_refl _
  | a :: l => by
    have ih := dropWhile_mono h l
    rw [List.dropWhile_cons, List.dropWhile_cons]
    split
    · split
      · exact ih
      · have := (List.dropWhile_sublist (l := l) q).length_le
        simp only [List.length_cons]; omega
    · rename_i hq
      rw [if_neg (fun hp => hq (h a hp))]
      exact Nat.le_refl _
theorem nextL_n {s : List UInt8} (h0 : s ≠ []) (h : (nextL s).err = 0) : 1 ≤ (nextL s).n ∧ (nextL s).n ≤ s.length := by
  have l1 := runN_le s namesL
  have l2 := numN_le s
  have l3 := textN_le h0
  have hle : runN s lettersL ≤ runN s namesL := by
    unfold runN
    have h2 : (cutL s namesL).length ≤ (cutL s lettersL).length := dropWhile_mono (fun b hb => by
      simp only [List.contains_iff_mem] at *
      exact (by decide : ∀ b, b ∈ lettersL → b ∈ namesL) b hb) s
    omega
  have l4 : (signL s).length ≤ s.length := by
    rcases signGo_pre s signsF with h | h
    · unfold signL; rw [h]; simp
    · exact (List.isPrefixOf_iff_prefix.1 h).length_le
  have l5 : runN s digitsL ≤ numN s := by unfold numN; split <;> omega
  have l6 : signL s ≠ [] → 1 ≤ (signL s).length := fun h => by
    cases hs : signL s with
    | nil => exact (h hs).elim
    | cons => simp
  unfold nextL at *
  split at h
  · rename_i c1
    rw [if_pos c1]
    split at h
    · cases h
    · rename_i c2; rw [if_neg c2]; exact ⟨by simp only; omega, by simp only; omega⟩
  · rename_i c1
    rw [if_neg c1]
    split at h
    · rename_i c2; rw [if_pos c2]; exact ⟨by simp only; omega, by simp only; omega⟩
    · rename_i c2
      rw [if_neg c2]
      split at h
      · rename_i c3
        rw [if_pos c3]
        split at h
        · cases h
        · rename_i c4
          rw [if_neg c4]
          split at h
          · cases h
          · rename_i c5; rw [if_neg c5]; exact ⟨by simp only; omega, by simp only; omega⟩
      · rename_i c3
        rw [if_neg c3]
        split at h
        · cases h
        · rename_i c4; rw [if_neg c4]; have := l6 c4; exact ⟨by simp only; omega, by simp only; omega⟩
def SF : Specs := SE.add 40 g17'
theorem okF : SOk Tryz.prog SF := by
  refine okE.add ?_
  intro xs G p v e hp
  unfold g17' at e
  split at e
  · cases e; exact next_walk _ hp.1 hp.2 G
  · cases e
theorem ok9 : fnOk Tryz.prog 23 T0 1 = true := by kernel_rfl
set_option maxRecDepth 100000 in
theorem lex_walk (s : List UInt8) (G : Heap) : VPure Tryz.prog 23 [.str s] G (lexL s).v := by
  refine VCalls.of okF mixed T0 ok9 fun hG => ?_
  simp (maxSteps:=999999) -dsimp -implicitDefEqProofs only [↓eqD,eqU,eqV,eqW,vbuiltinQ,vlen,vslice,vindex,vstore,Array.toList,simprocAttr,fnWp_some Tryz.func23,Tryz.f23,T0,z33,st33,u3,u5,u9,u22,u23,te22,i33,c33,ag33,SF,SE,SD,SC,SB,SA,add_at,g16]
  have nilw : ∀ (n e : Int), VLe (.tup [.nilsl, .int .i64 n, .int .i64 e]) (Lexed.v ⟨[], n, e⟩) := fun n e => .tup ⟨.nil_sl 3, .refl _, .refl _, trivial⟩
  split
  · rename_i h
    refine .weak (nilw 0 13) (VDone.back hG (fun _ _ => rfl) rfl ?_)
    unfold lexL; rw [if_pos (by omega)]
  · rename_i h
    have hlen : s.length ≤ 200 := by omega
    have hr := runN_le s [32]
    have hL : lexL s = lexGo s (s.length + 1) (runN s [32]) [] := by unfold lexL; rw [if_neg (by omega)]
    refine ⟨⟨by decide, by omega⟩, ?_⟩
    refine vloop_by (fun x : Nat × List Tok × Nat × Nat × Nat => x.1 ≤ s.length ∧ x.2.1.length ≤ 60 ∧ G.next < x.2.2.2.1 ∧ s.length < x.1 + x.2.2.2.2 ∧ lexGo s x.2.2.2.2 x.1 x.2.1 = lexL s)
      (fun x => Env.of [(0, .str s), (5, .arr 3 G.next x.2.2.1 0 x.2.1.length), (6, .int .i64 (x.1 : Nat))]) (fun x => G.over x.2.2.2.1 [(G.next, .cells x.2.2.1 (toksC x.2.1))]) (fun x => s.length - x.1)
      (runN s [32], [], 0, G.next + 1, s.length + 1) ?_ ?_ ?_
    · refine .trans (.own 5 3 (by simp (maxSteps:=999999) -dsimp -implicitDefEqProofs only [↓eqD,eqU,eqV,eqW,vbuiltinQ,vlen,vslice,vindex,vstore,Array.toList,simprocAttr])) (.of ?_ (.over hG ?_ ?_ ?_))
      · simp (maxSteps:=999999) -dsimp -implicitDefEqProofs only [↓eqD,eqU,eqV,eqW,vbuiltinQ,vlen,vslice,vindex,vstore,Array.toList,simprocAttr]
        exact ⟨.refl _, .refl _, .refl _⟩
      · simp (maxSteps:=999999) -dsimp -implicitDefEqProofs only [↓eqD,eqU,eqV,eqW,vbuiltinQ,vlen,vslice,vindex,vstore,Array.toList,simprocAttr]
      · simp (maxSteps:=999999) -dsimp -implicitDefEqProofs only [↓eqD,eqU,eqV,eqW,vbuiltinQ,vlen,vslice,vindex,vstore,Array.toList,simprocAttr]
        rfl
      · intro id hid; simp (maxSteps:=999999) -dsimp -implicitDefEqProofs only [↓eqD,eqU,eqV,eqW,vbuiltinQ,vlen,vslice,vindex,vstore,Array.toList,simprocAttr,Nat.ne_of_lt hid]
    · exact ⟨hr, by simp, Nat.lt_succ_self _, by simp only; omega, hL.symm⟩
    · rintro ⟨p, acc, g, m, f⟩ ⟨h1, h2, h3, h4, h5⟩
      simp only at h1 h2 h3 h4 h5
      have hne := Nat.ne_of_lt h3
      have hne' := Nat.ne_of_gt h3
      simp (maxSteps:=999999) -dsimp -implicitDefEqProofs only [↓eqD,eqU,eqV,eqW,vbuiltinQ,vlen,vslice,vindex,vstore,Array.toList,simprocAttr,T0,z33,st33,u3,u5,u9,u22,u23,te22,s22,g33,i33,i3,c33,c3,ag33,f33_2,SF,SE,SD,SC,SB,SA,add_at,g16,g17',hne,hne',Nat.ne_of_lt,vappend,vrow,vreps,vdecode,b33]
      have hdrop : s.drop p ≠ [] ↔ p < s.length := by rw [ne_eq, List.drop_eq_nil_iff]; omega
      have dn : ∀ n e, lexL s = ⟨[], n, e⟩ → ∀ G1 : Heap, (∀ id, id < G.next → G1.get id = G.get id) → VDone G.next (.tup [.nilsl, .int .i64 n, .int .i64 e]) G1 fun u G' => u = (lexL s).v ∧ G' = G :=
        fun n e he G1 hg => .weak (nilw n e) (VDone.back hG hg rfl (by rw [he]))
      have hp1 : ∀ b b' id, id < G.next → (((G.over m [(G.next, .cells g (toksC acc))]).alloc b).put m b').get id = G.get id := fun b b' id hid => by
        simp (maxSteps:=999999) -dsimp -implicitDefEqProofs only [↓eqD,eqU,eqV,eqW,vbuiltinQ,vlen,vslice,vindex,vstore,Array.toList,simprocAttr,Nat.ne_of_lt hid,Nat.ne_of_lt (Nat.lt_trans hid h3)]
      obtain ⟨f', rfl⟩ : ∃ f', f = f' + 1 := ⟨f - 1, by omega⟩
      rw [lexGo] at h5
      split
      · rename_i c1
        have c1 : p < s.length := by omega
        rw [if_pos c1] at h5
        have hn := nextL_n (hdrop.2 c1)
        generalize nextL (s.drop p) = t at h5 hn ⊢
        simp only [List.length_drop] at hn
        refine ⟨by omega, ⟨hdrop.2 c1, by simp; omega⟩, ?_⟩
        have go : t.err = 0 → acc.length < 60 → ∀ (E : Env) (G' : Heap), E 0 = .str s → E 5 = .arr 3 G.next (g + 1) 0 (acc.length + 1) → E 6 = .int .i64 (IntKind.wrap .i64 (IntKind.wrap .i64 ((p : Int) + (t.n : Int)) + (runN (s.drop (IntKind.wrap .i64 ((p : Int) + (t.n : Int))).toNat) [32] : Nat))) →
            G'.next = m + 1 → G'.get G.next = some (.cells (g + 1) (toksC acc ++ [.int .i64 t.kind, .str t.text, .int .i64 p])) → (∀ id, id < G.next → G'.get id = G.get id) →
            (toksC acc).length = acc.length * 3 ∧ (acc.length + 1) * 32 ≤ roomB ∧ (0 ≤ IntKind.wrap .i64 ((p : Int) + (t.n : Int)) ∧ IntKind.wrap .i64 ((p : Int) + (t.n : Int)) ≤ (s.length : Int)) ∧
              (ascii [32] = true ∧ (s.drop (IntKind.wrap .i64 ((p : Int) + (t.n : Int))).toNat).length ≤ 4611686018427387904) ∧
              ∃ y : Nat × List Tok × Nat × Nat × Nat, (y.1 ≤ s.length ∧ y.2.1.length ≤ 60 ∧ G.next < y.2.2.2.1 ∧ s.length < y.1 + y.2.2.2.2 ∧ lexGo s y.2.2.2.2 y.1 y.2.1 = lexL s) ∧ s.length - y.1 < s.length - p ∧
                Ghost E G' (Env.of [(0, .str s), (5, .arr 3 G.next y.2.2.1 0 y.2.1.length), (6, .int .i64 (y.1 : Nat))]) (G.over y.2.2.2.1 [(G.next, .cells y.2.2.1 (toksC y.2.1))]) := by
          intro he hacc E G' e0 e5 e6 en eg er
          have hn := hn he
          have w1 : IntKind.wrap .i64 ((p : Int) + (t.n : Int)) = ((p + t.n : Nat) : Int) := by rw [w64 (by omega) (by omega)]; omega
          have hrr := runN_le (s.drop (p + t.n)) [32]
          simp only [List.length_drop] at hrr
          have w2 : IntKind.wrap .i64 (((p + t.n : Nat) : Int) + (runN (s.drop (p + t.n)) [32] : Nat)) = ((p + t.n + runN (s.drop (p + t.n)) [32] : Nat) : Int) := by rw [w64 (by omega) (by omega)]; omega
          rw [w1, Int.toNat_natCast, w2] at e6
          rw [w1, Int.toNat_natCast]
          try rw [if_neg (by omega), if_neg (by omega)] at h5
          refine ⟨toksC_len acc, by unfold roomB; omega, ⟨by omega, by omega⟩, ⟨by decide, by simp; omega⟩, (p + t.n + runN (s.drop (p + t.n)) [32], acc ++ [⟨t.kind, t.text, p⟩], g + 1, m + 1, f'), ⟨by simp only; omega, by simp; omega, by simp only; omega, by simp only; omega, h5⟩, by simp only; omega, .of ?_ (.over hG ?_ ?_ ?_)⟩
          · simp (maxSteps:=999999) -dsimp -implicitDefEqProofs only [↓eqD,eqU,eqV,eqW,vbuiltinQ,vlen,vslice,vindex,vstore,Array.toList,simprocAttr,e0,e5,e6,List.length_append]
            exact ⟨.refl _, .refl _, .refl _⟩
          · exact en
          · simp (maxSteps:=999999) -dsimp -implicitDefEqProofs only [↓eqD,eqU,eqV,eqW,vbuiltinQ,vlen,vslice,vindex,vstore,Array.toList,simprocAttr,eg,toksC_append]
            rfl
          · exact er
        have rest : ∀ b1 b2 b3 b4 id, id < G.next → (((((G.over m [(G.next, .cells g (toksC acc))]).alloc b1).put m b2).put m b3).put G.next b4).get id = G.get id := fun b1 b2 b3 b4 id hid => by
          simp (maxSteps:=999999) -dsimp -implicitDefEqProofs only [↓eqD,eqU,eqV,eqW,vbuiltinQ,vlen,vslice,vindex,vstore,Array.toList,simprocAttr,Nat.ne_of_lt hid,Nat.ne_of_lt (Nat.lt_trans hid h3)]
        split
        · rename_i c2
          split
          · rename_i c3
            try rw [if_pos (by decide)]
            rw [if_pos ⟨c2, by omega⟩] at h5
            exact dn _ _ h5.symm _ (hp1 _ _)
          · rename_i c3
            try rw [if_neg (by rw [c2]; decide)]
            refine go c2 (by omega) _ _ ?_ ?_ ?_ ?_ ?_ (rest _ _ _ _)
            all_goals (simp (maxSteps:=999999) -dsimp -implicitDefEqProofs only [↓eqD,eqU,eqV,eqW,vbuiltinQ,vlen,vslice,vindex,vstore,Array.toList,simprocAttr])
        · rename_i c2
          rw [if_neg (fun h => c2 h.1), if_pos c2] at h5
          exact dn _ _ h5.symm _ (hp1 _ _)
      · rename_i c1
        have c1 : ¬p < s.length := by omega
        rw [if_neg c1] at h5
        refine .pub (id := G.next) (g := g) (cs := toksC acc) (by simp (maxSteps:=999999) -dsimp -implicitDefEqProofs only [↓eqD,eqU,eqV,eqW,vbuiltinQ,vlen,vslice,vindex,vstore,Array.toList,simprocAttr]) (toksC_closed acc) ?_
        refine VDone.back hG ?_ ?_ ?_
        · intro id hid; simp (maxSteps:=999999) -dsimp -implicitDefEqProofs only [↓eqD,eqU,eqV,eqW,vbuiltinQ,vlen,vslice,vindex,vstore,Array.toList,simprocAttr,Nat.ne_of_lt hid]
        · simp only [pubV, List.map_cons, List.map_nil, pub1, V.under, V.underL]
          split <;> rename_i hc
          · rfl
          · exact absurd ⟨trivial, trivial, by rw [toksC_len]; omega⟩ hc
        · rw [← h5]
          simp only [pubV, List.map_cons, List.map_nil, pub1, Lexed.v]
          rw [if_pos ⟨trivial, trivial, by rw [toksC_len]; omega⟩]
          rw [← toksC_len, List.drop_zero, List.take_length]
end Go.Vf
set_option linter.unusedVariables false
set_option linter.unusedSimpArgs false
namespace Go.Vf
open Go.Proofs Go.RowKit
def refWords : List (List UInt8) := [[116, 114, 117, 101], [102, 97, 108, 115, 101], [110, 117, 108, 108], [105, 102], [116, 104, 101, 110], [101, 108, 115, 101], [97, 110, 100], [111, 114], [105, 110]]
def wordR (s : List UInt8) : Bool := refWords.contains s
def digitB (b : Nat) : Bool := decide (48 ≤ b) && decide (b ≤ 57)
def letterB (b : Nat) : Bool := decide (97 ≤ b) && decide (b ≤ 122)
def g13 : List V → Option (Prop × V)
  | [.str s] => some (True, .bool (wordR s))
  | _ => none
def g26 : List V → Option (Prop × V)
  | [.int .u8 b] => some (True, .bool (digitB b.toNat))
  | _ => none
def g25 : List V → Option (Prop × V)
  | [.int .u8 b] => some (True, .bool (letterB b.toNat))
  | _ => none
theorem ok13 : fnOk Tryz.prog 59 T0 1 = true := by kernel_rfl
theorem ok25 : fnOk Tryz.prog 57 T0 1 = true := by kernel_rfl
theorem ok26 : fnOk Tryz.prog 58 T0 1 = true := by kernel_rfl
theorem digit_walk (b : Int) (G : Heap) : VPure Tryz.prog 58 [.int .u8 b] G (.bool (digitB b.toNat)) := by
  refine VCalls.of (SOk.none _) mixed T0 ok26 fun hG => ?_
  simp (maxSteps:=999999) -dsimp -implicitDefEqProofs only [↓eqD,eqU,eqV,eqW,vbuiltinQ,vlen,vslice,vindex,vstore,Array.toList,simprocAttr,fnWp_some Tryz.func58,Tryz.f58,T0]
  have e : ∀ v, digitB b.toNat = v → VDone G.next (.bool v) G fun u G' => u = .bool (digitB b.toNat) ∧ G' = G := fun v hv => VDone.back hG (fun _ _ => rfl) rfl (by rw [hv])
  split
  · exact e _ (by unfold digitB; rw [Bool.eq_iff_iff]; simp; omega)
  · exact e _ (by unfold digitB; simp; omega)
theorem letter_walk (b : Int) (G : Heap) : VPure Tryz.prog 57 [.int .u8 b] G (.bool (letterB b.toNat)) := by
  refine VCalls.of (SOk.none _) mixed T0 ok25 fun hG => ?_
  simp (maxSteps:=999999) -dsimp -implicitDefEqProofs only [↓eqD,eqU,eqV,eqW,vbuiltinQ,vlen,vslice,vindex,vstore,Array.toList,simprocAttr,fnWp_some Tryz.func57,Tryz.f57,T0]
  have e : ∀ v, letterB b.toNat = v → VDone G.next (.bool v) G fun u G' => u = .bool (letterB b.toNat) ∧ G' = G := fun v hv => VDone.back hG (fun _ _ => rfl) rfl (by rw [hv])
  split
  · exact e _ (by unfold letterB; rw [Bool.eq_iff_iff]; simp; omega)
  · exact e _ (by unfold letterB; simp; omega)
theorem wordR_walk (s : List UInt8) (G : Heap) : VPure Tryz.prog 59 [.str s] G (.bool (wordR s)) := by
  refine VCalls.of (SOk.none _) mixed T0 ok13 fun hG => ?_
  simp (maxSteps:=999999) -dsimp -implicitDefEqProofs only [↓eqD,eqU,eqV,eqW,vbuiltinQ,vlen,vslice,vindex,vstore,Array.toList,simprocAttr,fnWp_some Tryz.func59,Tryz.f59,T0,u35,te35,z9,c9,vreps,vfill]
  refine vloop_by (fun i : Nat => i ≤ 9 ∧ (refWords.drop i).contains s = wordR s) (fun i => Env.of [(0, .str s), (3, .slc 1 9 (refWords.map .str)), (4, .int .i64 (i : Nat))]) (fun i => G.over G.next []) (fun i => 9 - i) 0 ?_ ?_ ?_
  · refine .of ?_ (.over hG rfl trivial (fun _ _ => rfl))
    simp (maxSteps:=999999) -dsimp -implicitDefEqProofs only [↓eqD,eqU,eqV,eqW,vbuiltinQ,vlen,vslice,vindex,vstore,Array.toList,simprocAttr]
    exact ⟨.refl _, .refl _, .refl _⟩
  · exact ⟨by omega, rfl⟩
  · rintro i ⟨h1, hi⟩
    have dn : ∀ x, wordR s = x → VDone G.next (.bool x) (G.over G.next []) fun u G' => u = .bool (wordR s) ∧ G' = G := fun x hx => VDone.back hG (fun _ _ => rfl) rfl (by rw [hx])
    by_cases hlt : i < 9
    · have hlt' : i < refWords.length := hlt
      have hx := velem_map (f := V.str) hlt'
      rw [List.drop_eq_getElem_cons hlt'] at hi
      have w1 : IntKind.wrap .i64 ((i : Int) + 1) = ((i + 1 : Nat) : Int) := by rw [w64 (by omega) (by omega)]; rfl
      generalize refWords[i] = x at hx hi
      simp (maxSteps:=999999) -dsimp -implicitDefEqProofs only [↓eqD,eqU,eqV,eqW,vbuiltinQ,vlen,vslice,vindex,vstore,Array.toList,simprocAttr,u9,u35,T0,te35,c9,i9,ag9,hx,w1]
      try rw [if_pos (by omega)]
      refine ⟨by omega, ?_⟩
      split
      · rename_i hp
        refine dn true ?_
        rw [← hi]; simp [hp]
      · rename_i hp
        refine ⟨i + 1, ⟨by omega, ?_⟩, by omega, .of ?_ (.over hG rfl trivial (fun _ _ => rfl))⟩
        · rw [← hi]
          simp [Ne.symm hp]
        · simp (maxSteps:=999999) -dsimp -implicitDefEqProofs only [↓eqD,eqU,eqV,eqW,vbuiltinQ,vlen,vslice,vindex,vstore,Array.toList,simprocAttr]
          exact ⟨.refl _, .refl _, .refl _⟩
    · have : i = 9 := by omega
      subst this
      simp (maxSteps:=999999) -dsimp -implicitDefEqProofs only [↓eqD,eqU,eqV,eqW,vbuiltinQ,vlen,vslice,vindex,vstore,Array.toList,simprocAttr,u9,u35,T0,te35,c9,i9,ag9]
      try rw [if_neg (by omega)]
      exact dn false (by rw [← hi]; rfl)
def SG : Specs := ((Specs.none.add 59 g13).add 57 g25).add 58 g26
theorem SG_at (f : FuncId) (xs : List V) (G : Heap) : SG f xs G = (((Specs.none.add 59 g13).add 57 g25).add 58 g26) f xs G := rfl
theorem okG : SOk Tryz.prog SG := by
  refine (((SOk.none _).add ?_).add ?_).add ?_
  · intro xs G p v e hp
    unfold g13 at e
    split at e
    · cases e; exact wordR_walk _ G
    · cases e
  · intro xs G p v e hp
    unfold g25 at e
    split at e
    · cases e; exact letter_walk _ G
    · cases e
  · intro xs G p v e hp
    unfold g26 at e
    split at e
    · cases e; exact digit_walk _ G
    · cases e
end Go.Vf
