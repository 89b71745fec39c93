/- A part of the proof: Ma, Mb, Mc, Md. -/
import Derived.Test.YtkcdhmplinjldaaGreatDoorBALk
set_option linter.unusedVariables false
set_option linter.unusedSimpArgs false
namespace Go.Vf
open Go.Proofs Go.RowKit
theorem u26 : (Tryz.prog.underlying 70).isSome = true := by kernel_rfl
theorem u24 : Tryz.prog.underlying 68 = some (.slice 70) := by kernel_rfl
theorem te24 : telem Tryz.prog 68 = some 70 := by kernel_rfl
theorem z26 : tzero Tryz.prog 70 = some [.int .i64 0, .bool false, .int .i64 0, .int .i64 0, .str [], .bool false, .bool false, .nilsl] := by kernel_rfl
theorem st26 : tstruct Tryz.prog 70 = some [.int .i64 0, .bool false, .int .i64 0, .int .i64 0, .str [], .bool false, .bool false, .nilsl] := by kernel_rfl
theorem c26 : Tryz.prog.cellsOf 70 = 8 := by kernel_rfl
theorem i26 : (Tryz.prog.info? 70).isSome = true := by kernel_rfl
theorem ag26 : tagg Tryz.prog 70 = some true := by kernel_rfl
theorem b26 : Tryz.prog.bytesOf 70 = 80 := by kernel_rfl
theorem g26t : tgrow Tryz.prog 70 = true := by kernel_rfl
theorem s24 : tsrc Tryz.prog 68 = true := by kernel_rfl
theorem p26_0 : tplaces Tryz.prog 70 0 = some (0, 1) := by kernel_rfl
theorem p26_1 : tplaces Tryz.prog 70 1 = some (1, 1) := by kernel_rfl
theorem p26_2 : tplaces Tryz.prog 70 2 = some (2, 2) := by kernel_rfl
theorem p26_3 : tplaces Tryz.prog 70 3 = some (4, 1) := by kernel_rfl
theorem p26_4 : tplaces Tryz.prog 70 4 = some (5, 1) := by kernel_rfl
theorem p26_5 : tplaces Tryz.prog 70 5 = some (6, 1) := by kernel_rfl
theorem p26_6 : tplaces Tryz.prog 70 6 = some (7, 1) := by kernel_rfl
theorem f26_0 : tfield Tryz.prog 70 0 = some (0, 1, false) := by kernel_rfl
theorem f26_1 : tfield Tryz.prog 70 1 = some (1, 1, false) := by kernel_rfl
theorem f26_2 : tfield Tryz.prog 70 2 = some (2, 2, true) := by kernel_rfl
theorem f26_3 : tfield Tryz.prog 70 3 = some (4, 1, false) := by kernel_rfl
theorem f26_4 : tfield Tryz.prog 70 4 = some (5, 1, false) := by kernel_rfl
theorem f26_5 : tfield Tryz.prog 70 5 = some (6, 1, false) := by kernel_rfl
theorem f26_6 : tfield Tryz.prog 70 6 = some (7, 1, false) := by kernel_rfl
theorem f55_0 : tfield Tryz.prog 172 0 = some (0, 1, false) := by kernel_rfl
theorem f55_1 : tfield Tryz.prog 172 1 = some (1, 1, false) := by kernel_rfl
theorem f55_2 : tfield Tryz.prog 172 2 = some (2, 1, false) := by kernel_rfl
theorem f55_3 : tfield Tryz.prog 172 3 = some (3, 1, false) := by kernel_rfl
theorem f55_4 : tfield Tryz.prog 172 4 = some (4, 1, false) := by kernel_rfl
theorem f64_0 : tfield Tryz.prog 151 0 = some (0, 1, false) := by kernel_rfl
theorem f64_1 : tfield Tryz.prog 151 1 = some (1, 1, false) := by kernel_rfl
theorem f64_2 : tfield Tryz.prog 151 2 = some (2, 1, false) := by kernel_rfl
theorem f64_3 : tfield Tryz.prog 151 3 = some (3, 1, false) := by kernel_rfl
theorem f64_4 : tfield Tryz.prog 151 4 = some (4, 1, false) := by kernel_rfl
theorem ag27 : tagg Tryz.prog 23 = some false := by kernel_rfl
theorem ag40 : tagg Tryz.prog 49 = some false := by kernel_rfl
theorem ag4 : tagg Tryz.prog 4 = some false := by kernel_rfl
theorem ag24 : tagg Tryz.prog 68 = some false := by kernel_rfl
theorem ag53 : tagg Tryz.prog 170 = some false := by kernel_rfl
theorem c27 : Tryz.prog.cellsOf 23 = 1 := by kernel_rfl
theorem i27 : (Tryz.prog.info? 23).isSome = true := by kernel_rfl
theorem nx_0_1 (n : Nat) : (n = n + 1) = False := eq_false (by omega)
theorem nx_0_2 (n : Nat) : (n = n + 1 + 1) = False := eq_false (by omega)
theorem nx_0_3 (n : Nat) : (n = n + 1 + 1 + 1) = False := eq_false (by omega)
theorem nx_0_4 (n : Nat) : (n = n + 1 + 1 + 1 + 1) = False := eq_false (by omega)
theorem nx_0_5 (n : Nat) : (n = n + 1 + 1 + 1 + 1 + 1) = False := eq_false (by omega)
theorem nx_1_0 (n : Nat) : (n + 1 = n) = False := eq_false (by omega)
theorem nx_1_2 (n : Nat) : (n + 1 = n + 1 + 1) = False := eq_false (by omega)
theorem nx_1_3 (n : Nat) : (n + 1 = n + 1 + 1 + 1) = False := eq_false (by omega)
theorem nx_1_4 (n : Nat) : (n + 1 = n + 1 + 1 + 1 + 1) = False := eq_false (by omega)
theorem nx_1_5 (n : Nat) : (n + 1 = n + 1 + 1 + 1 + 1 + 1) = False := eq_false (by omega)
theorem nx_2_0 (n : Nat) : (n + 1 + 1 = n) = False := eq_false (by omega)
theorem nx_2_1 (n : Nat) : (n + 1 + 1 = n + 1) = False := eq_false (by omega)
theorem nx_2_3 (n : Nat) : (n + 1 + 1 = n + 1 + 1 + 1) = False := eq_false (by omega)
theorem nx_2_4 (n : Nat) : (n + 1 + 1 = n + 1 + 1 + 1 + 1) = False := eq_false (by omega)
theorem nx_2_5 (n : Nat) : (n + 1 + 1 = n + 1 + 1 + 1 + 1 + 1) = False := eq_false (by omega)
theorem nx_3_0 (n : Nat) : (n + 1 + 1 + 1 = n) = False := eq_false (by omega)
theorem nx_3_1 (n : Nat) : (n + 1 + 1 + 1 = n + 1) = False := eq_false (by omega)
theorem nx_3_2 (n : Nat) : (n + 1 + 1 + 1 = n + 1 + 1) = False := eq_false (by omega)
theorem nx_3_4 (n : Nat) : (n + 1 + 1 + 1 = n + 1 + 1 + 1 + 1) = False := eq_false (by omega)
theorem nx_3_5 (n : Nat) : (n + 1 + 1 + 1 = n + 1 + 1 + 1 + 1 + 1) = False := eq_false (by omega)
theorem nx_4_0 (n : Nat) : (n + 1 + 1 + 1 + 1 = n) = False := eq_false (by omega)
theorem nx_4_1 (n : Nat) : (n + 1 + 1 + 1 + 1 = n + 1) = False := eq_false (by omega)
theorem nx_4_2 (n : Nat) : (n + 1 + 1 + 1 + 1 = n + 1 + 1) = False := eq_false (by omega)
theorem nx_4_3 (n : Nat) : (n + 1 + 1 + 1 + 1 = n + 1 + 1 + 1) = False := eq_false (by omega)
theorem nx_4_5 (n : Nat) : (n + 1 + 1 + 1 + 1 = n + 1 + 1 + 1 + 1 + 1) = False := eq_false (by omega)
theorem nx_5_0 (n : Nat) : (n + 1 + 1 + 1 + 1 + 1 = n) = False := eq_false (by omega)
theorem nx_5_1 (n : Nat) : (n + 1 + 1 + 1 + 1 + 1 = n + 1) = False := eq_false (by omega)
theorem nx_5_2 (n : Nat) : (n + 1 + 1 + 1 + 1 + 1 = n + 1 + 1) = False := eq_false (by omega)
theorem nx_5_3 (n : Nat) : (n + 1 + 1 + 1 + 1 + 1 = n + 1 + 1 + 1) = False := eq_false (by omega)
theorem nx_5_4 (n : Nat) : (n + 1 + 1 + 1 + 1 + 1 = n + 1 + 1 + 1 + 1) = False := eq_false (by omega)
theorem lt6 {j n : Nat} (h : j < n) : ((j = n) = False ∧ (n = j) = False) ∧ ((j = n + 1) = False ∧ (n + 1 = j) = False) ∧ ((j = n + 1 + 1) = False ∧ (n + 1 + 1 = j) = False) ∧ ((j = n + 1 + 1 + 1) = False ∧ (n + 1 + 1 + 1 = j) = False) ∧ ((j = n + 1 + 1 + 1 + 1) = False ∧ (n + 1 + 1 + 1 + 1 = j) = False) ∧ ((j = n + 1 + 1 + 1 + 1 + 1) = False ∧ (n + 1 + 1 + 1 + 1 + 1 = j) = False) := by
  refine ⟨⟨?_, ?_⟩, ⟨?_, ?_⟩, ⟨?_, ?_⟩, ⟨?_, ?_⟩, ⟨?_, ?_⟩, ?_, ?_⟩ <;> exact eq_false (by omega)
def vhas : Rd → Nat → Nat → Bool
  | [], _, _ => false
  | (x, y) :: r, a, k => (x == a && y == k) || vhas r a k
theorem vhas_iff : ∀ {U : Rd} {a k : Nat}, vhas U a k = true ↔ (a, k) ∈ U
  | [], _, _ => by simp [vhas]
  | (x, y) :: r, a, k => by
    simp only [vhas, Bool.or_eq_true, Bool.and_eq_true, beq_iff_eq, vhas_iff, List.mem_cons, Prod.mk.injEq]
    constructor
    · rintro (⟨h1, h2⟩ | h)
      · exact .inl ⟨h1.symm, h2.symm⟩
      · exact .inr h
    · rintro (⟨h1, h2⟩ | h)
      · exact .inl ⟨h1.symm, h2.symm⟩
      · exact .inr h
theorem vsafe_cons (U : Rd) (k a b : Nat) (rd : Rd) (G G' : Heap) : vsafe U k ((a, b) :: rd) G G' = ((if vhas U a k = true then G'.get b = G.get b else True) ∧ vsafe U k rd G G') := by
  apply propext
  unfold vsafe
  constructor
  · intro h
    refine ⟨?_, fun p hp hu => h p (List.mem_cons_of_mem _ hp) hu⟩
    split
    · rename_i c; exact h (a, b) (List.mem_cons_self ..) (vhas_iff.1 c)
    · trivial
  · rintro ⟨h1, h2⟩ p hp hu
    rcases List.mem_cons.1 hp with e | e
    · subst e
      rw [if_pos (vhas_iff.2 hu)] at h1
      exact h1
    · exact h2 p e hu
def Specs.addH (S : Specs) (f : FuncId) (g : List V → Heap → Option (Prop × V × Heap)) : Specs := fun f' xs G => if f' = f then g xs G else S f' xs G
theorem addH_at (S : Specs) (f : FuncId) (g : List V → Heap → Option (Prop × V × Heap)) (f' : FuncId) (xs : List V) (G : Heap) : (S.addH f g) f' xs G = if f' = f then g xs G else S f' xs G := rfl
theorem SOk.addH {P : Program} {S : Specs} (hS : SOk P S) {f : FuncId} {g : List V → Heap → Option (Prop × V × Heap)} (h : ∀ xs G p v G', g xs G = some (p, v, G') → p → VCalls P f xs G fun u H => u = v ∧ H = G') : SOk P (S.addH f g) := fun f' xs G p v G' e hp => by
  rw [addH_at] at e
  split at e
  · rename_i ef; subst ef; exact h xs G p v G' e hp
  · exact hS f' xs G p v G' e hp
theorem Heap.Wf.put {G : Heap} (h : G.Wf) {id : Nat} {b : Blk} (hid : id < G.next) (hb : b.under G.next = true) : (G.put id b).Wf := by
  refine ⟨fun {i c} e => ?_, fun {i c} e => ?_⟩
  · simp only [Heap.put] at e
    split at e
    · rename_i e'; subst e'; exact hid
    · exact h.lt e
  · simp only [Heap.put] at e
    split at e
    · cases e; exact hb
    · exact h.under e
theorem put_same {G : Heap} {id : Nat} {b : Blk} (h : G.get id = some b) : G.put id b = G := by
  unfold Heap.put
  have : (fun j => if j = id then some b else G.get j) = G.get := by
    funext j
    split
    · rename_i e; rw [e, h]
    · rfl
  rw [this]
theorem VDone.turned {G : Heap} {H : Heap} {id : Nat} {b : Blk} {v u : V} (hG : G.Wf) (hid : id < G.next) (hb : b.under G.next = true) (h1 : H.get id = some b) (hrest : ∀ j, j < G.next → j ≠ id → H.get j = G.get j) (hv : v.under G.next = true) (e : v = u) :
    VDone G.next v H fun w K => w = u ∧ K = G.put id b := by
  refine VDone.back (G0 := G.put id b) (hG.put hid hb) (fun j hj => ?_) hv e
  by_cases hji : j = id
  · subst hji; rw [h1]; simp [Heap.put]
  · rw [hrest j hj hji]; simp [Heap.put, hji]
def toksD : List V → List Tok
  | .int _ k :: .str t :: .int _ p :: r => ⟨k, t, p⟩ :: toksD r
  | _ => []
theorem toksD_C (l : List Tok) : toksD (toksC l) = l := by
  induction l with
  | nil => rfl
  | cons t r ih => simp only [toksC, List.flatMap_cons, Tok.cells, List.cons_append, List.nil_append, toksD] at *; rw [ih]
theorem toks_at {l : List Tok} {i : Nat} (h : i < l.length) : velem 3 (toksC l) i = l[i].cells := by
  unfold velem
  induction l generalizing i with
  | nil => simp at h
  | cons t r ih =>
    cases i with
    | zero => simp [toksC, Tok.cells]
    | succ i =>
      have := ih (i := i) (by simpa using h)
      simp only [List.getElem_cons_succ]
      rw [← this]
      have : (i + 1) * 3 = i * 3 + 3 := by omega
      rw [this]
      simp only [toksC, List.flatMap_cons, Tok.cells, List.cons_append, List.nil_append, List.drop_succ_cons]
structure St where
  at_ : Nat
  pos : Int
  err : Int
def pcells (T : List Tok) (en : Int) (s : St) : List V := [.sl 3 T.length (toksC T), .int .i64 s.at_, .int .i64 en, .int .i64 s.pos, .int .i64 s.err]
def nowT (T : List Tok) (s : St) : Tok := if s.err ≠ 0 then ⟨0, [], 0⟩ else T.getD s.at_ ⟨0, [], 0⟩
def parserOf (G : Heap) (id : Nat) : Option (List Tok × Int × St) := match G.get id with
  | some (.cells 0 [.sl 3 _ x, .int _ a, .int _ en, .int _ pos, .int _ err]) => some (toksD x, en, ⟨a.toNat, pos, err⟩)
  | _ => none
theorem parserOf_of {G : Heap} {id : Nat} {T : List Tok} {en : Int} {s : St} (h : G.get id = some (.cells 0 (pcells T en s))) : parserOf G id = some (T, en, s) := by
  unfold parserOf pcells at *; rw [h]; simp [toksD_C]
def ParserAt (G : Heap) (id : Nat) (T : List Tok) (en : Int) (s : St) : Prop := G.get id = some (.cells 0 (pcells T en s)) ∧ T.length ≤ 1000 ∧ s.at_ ≤ T.length
def gP (f : List Tok → Int → St → List V → Option (V × St)) : List V → Heap → Option (Prop × V × Heap)
  | .ptr id 0 0 :: xs, G => match parserOf G id with
    | some (T, en, s) => match f T en s xs with
      | some (v, s') => some (ParserAt G id T en s, v, G.put id (.cells 0 (pcells T en s')))
      | none => none
    | none => none
  | _, _ => none
theorem pcells_under (T : List Tok) (en : Int) (s : St) (n : Nat) : (Blk.cells 0 (pcells T en s)).under n = true := by
  unfold pcells
  simp only [Blk.under, V.underL, V.under, V.scalarL, V.scalar, Bool.and_true, Bool.true_and, Bool.and_eq_true]
theorem FB : type_of% (And.intro (And.intro (And.intro (And.intro (And.intro (And.intro (@vsafe_cons) (And.intro (@vhas.eq_1) (@vhas.eq_2))) (And.intro (@u3) (And.intro (@u4) (@u5)))) (And.intro (And.intro (@u9) (And.intro (@u21) (@u22))) (And.intro (And.intro (@u23) (@u35)) (And.intro (@te22) (@te35))))) (And.intro (And.intro (And.intro (@ag3) (And.intro (@ag5) (@ag9))) (And.intro (And.intro (@ag33) (@z33)) (And.intro (@z9) (@st33)))) (And.intro (And.intro (@c33) (And.intro (@c9) (@c3))) (And.intro (And.intro (@i33) (@i9)) (And.intro (@i3) (@b33)))))) (And.intro (And.intro (And.intro (And.intro (@b9) (And.intro (@f33_0) (@f33_1))) (And.intro (And.intro (@f33_2) (@p33_0)) (And.intro (@p33_1) (@p33_2)))) (And.intro (And.intro (@k33) (And.intro (@g33) (@g9))) (And.intro (And.intro (@s22) (@FL)) (And.intro (@u26) (@u24))))) (And.intro (And.intro (And.intro (@te24) (And.intro (@z26) (@st26))) (And.intro (And.intro (@c26) (@i26)) (And.intro (@ag26) (@b26)))) (And.intro (And.intro (@g26t) (And.intro (@s24) (@p26_0))) (And.intro (And.intro (@p26_1) (@p26_2)) (And.intro (@p26_3) (@p26_4))))))) (And.intro (And.intro (And.intro (And.intro (And.intro (@p26_5) (And.intro (@p26_6) (@f26_0))) (And.intro (And.intro (@f26_1) (@f26_2)) (And.intro (@f26_3) (@f26_4)))) (And.intro (And.intro (@f26_5) (And.intro (@f26_6) (@f55_0))) (And.intro (And.intro (@f55_1) (@f55_2)) (And.intro (@f55_3) (@f55_4))))) (And.intro (And.intro (And.intro (@f64_0) (And.intro (@f64_1) (@f64_2))) (And.intro (And.intro (@f64_3) (@f64_4)) (And.intro (@ag27) (@ag40)))) (And.intro (And.intro (@ag4) (And.intro (@ag24) (@ag53))) (And.intro (And.intro (@c27) (@i27)) (And.intro (@nx_0_1) (@nx_0_2)))))) (And.intro (And.intro (And.intro (And.intro (@nx_0_3) (And.intro (@nx_0_4) (@nx_0_5))) (And.intro (And.intro (@nx_1_0) (@nx_1_2)) (And.intro (@nx_1_3) (@nx_1_4)))) (And.intro (And.intro (@nx_1_5) (And.intro (@nx_2_0) (@nx_2_1))) (And.intro (And.intro (@nx_2_3) (@nx_2_4)) (And.intro (@nx_2_5) (@nx_3_0))))) (And.intro (And.intro (And.intro (@nx_3_1) (And.intro (@nx_3_2) (@nx_3_4))) (And.intro (And.intro (@nx_3_5) (@nx_4_0)) (And.intro (@nx_4_1) (@nx_4_2)))) (And.intro (And.intro (@nx_4_3) (And.intro (@nx_4_5) (@nx_5_0))) (And.intro (And.intro (@nx_5_1) (@nx_5_2)) (And.intro (@nx_5_3) (@nx_5_4)))))))) := And.intro (And.intro (And.intro (And.intro (And.intro (And.intro (@vsafe_cons) (And.intro (@vhas.eq_1) (@vhas.eq_2))) (And.intro (@u3) (And.intro (@u4) (@u5)))) (And.intro (And.intro (@u9) (And.intro (@u21) (@u22))) (And.intro (And.intro (@u23) (@u35)) (And.intro (@te22) (@te35))))) (And.intro (And.intro (And.intro (@ag3) (And.intro (@ag5) (@ag9))) (And.intro (And.intro (@ag33) (@z33)) (And.intro (@z9) (@st33)))) (And.intro (And.intro (@c33) (And.intro (@c9) (@c3))) (And.intro (And.intro (@i33) (@i9)) (And.intro (@i3) (@b33)))))) (And.intro (And.intro (And.intro (And.intro (@b9) (And.intro (@f33_0) (@f33_1))) (And.intro (And.intro (@f33_2) (@p33_0)) (And.intro (@p33_1) (@p33_2)))) (And.intro (And.intro (@k33) (And.intro (@g33) (@g9))) (And.intro (And.intro (@s22) (@FL)) (And.intro (@u26) (@u24))))) (And.intro (And.intro (And.intro (@te24) (And.intro (@z26) (@st26))) (And.intro (And.intro (@c26) (@i26)) (And.intro (@ag26) (@b26)))) (And.intro (And.intro (@g26t) (And.intro (@s24) (@p26_0))) (And.intro (And.intro (@p26_1) (@p26_2)) (And.intro (@p26_3) (@p26_4))))))) (And.intro (And.intro (And.intro (And.intro (And.intro (@p26_5) (And.intro (@p26_6) (@f26_0))) (And.intro (And.intro (@f26_1) (@f26_2)) (And.intro (@f26_3) (@f26_4)))) (And.intro (And.intro (@f26_5) (And.intro (@f26_6) (@f55_0))) (And.intro (And.intro (@f55_1) (@f55_2)) (And.intro (@f55_3) (@f55_4))))) (And.intro (And.intro (And.intro (@f64_0) (And.intro (@f64_1) (@f64_2))) (And.intro (And.intro (@f64_3) (@f64_4)) (And.intro (@ag27) (@ag40)))) (And.intro (And.intro (@ag4) (And.intro (@ag24) (@ag53))) (And.intro (And.intro (@c27) (@i27)) (And.intro (@nx_0_1) (@nx_0_2)))))) (And.intro (And.intro (And.intro (And.intro (@nx_0_3) (And.intro (@nx_0_4) (@nx_0_5))) (And.intro (And.intro (@nx_1_0) (@nx_1_2)) (And.intro (@nx_1_3) (@nx_1_4)))) (And.intro (And.intro (@nx_1_5) (And.intro (@nx_2_0) (@nx_2_1))) (And.intro (And.intro (@nx_2_3) (@nx_2_4)) (And.intro (@nx_2_5) (@nx_3_0))))) (And.intro (And.intro (And.intro (@nx_3_1) (And.intro (@nx_3_2) (@nx_3_4))) (And.intro (And.intro (@nx_3_5) (@nx_4_0)) (And.intro (@nx_4_1) (@nx_4_2)))) (And.intro (And.intro (@nx_4_3) (And.intro (@nx_4_5) (@nx_5_0))) (And.intro (And.intro (@nx_5_1) (@nx_5_2)) (And.intro (@nx_5_3) (@nx_5_4)))))))
end Go.Vf
set_option linter.unusedVariables false
set_option linter.unusedSimpArgs false
namespace Go.Vf
open Go.Proofs Go.RowKit
abbrev Stays (G : Heap) (v : V) : V → Heap → Prop := fun u H => u = v ∧ H = G
def T73 : Tab := ⟨fun id => if id = 1 then ([0, 1, 2, 3, 4, 5, 6, 7, 8, 9, 10, 11, 12, 13, 14, 15, 16], []) else if id = 3 then ([0, 1, 2, 3, 4, 5, 6, 7, 8, 9, 10], []) else ([], []), fun _ => false⟩
theorem T73_ord (id : Nat) : T73.ord id = if id = 1 then ([0, 1, 2, 3, 4, 5, 6, 7, 8, 9, 10, 11, 12, 13, 14, 15, 16], []) else if id = 3 then ([0, 1, 2, 3, 4, 5, 6, 7, 8, 9, 10], []) else ([], []) := rfl
theorem T73_ghost (id : Nat) : T73.ghost id = false := rfl
theorem okm73 : fnOk Tryz.prog 222 T73 1 = true := by kernel_rfl
set_option maxRecDepth 100000 in
theorem now_walk {T : List Tok} {en : Int} {s : St} {id : Nat} {G : Heap} (h : ParserAt G id T en s) : VCalls Tryz.prog 222 [.ptr id 0 0] G (Stays G (.agg (nowT T s).cells)) := by
  refine VCalls.of (SOk.none _) mixed T73 okm73 fun hG => ?_
  obtain ⟨h1, h2, h3⟩ := h
  have hid := hG.lt h1
  have hne := Nat.ne_of_lt hid
  obtain ⟨a, pos, err⟩ := s
  simp only [pcells] at h1 h3
  have back : ∀ cs id', id' < G.next → ((G.alloc (.cells 0 [.int .i64 0, .str [], .int .i64 0])).put G.next (.cells 0 cs)).get id' = G.get id' := fun cs id' hid' => by simp (maxSteps:=999999) -dsimp -implicitDefEqProofs only [↓eqD,eqU,eqV,eqW,vbuiltinQ,vlen,vslice,vindex,vstore,Array.toList,simprocAttr,Nat.ne_of_lt hid']
  have dn : ∀ k t p cs, nowT T ⟨a, pos, err⟩ = ⟨k, t, p⟩ → VDone G.next (.agg [.int .i64 k, .str t, .int .i64 p]) ((G.alloc (.cells 0 [.int .i64 0, .str [], .int .i64 0])).put G.next (.cells 0 cs)) (Stays G (.agg (nowT T ⟨a, pos, err⟩).cells)) :=
    fun k t p cs e => VDone.back hG (back cs) rfl (by rw [e]; rfl)
  by_cases ha : a < T.length
  · have hx := toks_at ha
    have hT : T.getD a ⟨0, [], 0⟩ = T[a] := by simp [List.getD, ha]
    generalize T[a] = t at hx hT
    simp (maxSteps:=999999) -dsimp -implicitDefEqProofs only [↓eqD,eqU,eqV,eqW,vbuiltinQ,vlen,vslice,vindex,vstore,Array.toList,simprocAttr,fnWp_some Tryz.func222,Tryz.f222,T73_ord,T73_ghost,FB,h1,hne,Ne.symm hne,hx,Tok.cells]
    split
    · rename_i c1
      try rw [if_neg (by omega)]
      have c1 : ¬err ≠ 0 := by simpa using c1
      exact ⟨by omega, dn t.kind t.text t.pos _ (by unfold nowT; rw [if_neg c1]; exact hT)⟩
    · rename_i c1
      have c1 : err ≠ 0 := by simpa using c1
      exact dn 0 [] 0 _ (by unfold nowT; rw [if_pos c1])
  · have hn : nowT T ⟨a, pos, err⟩ = ⟨0, [], 0⟩ := by
      unfold nowT
      split
      · rfl
      · exact by simp only; rw [List.getD, List.getElem?_eq_none (by omega)]; rfl
    have c2 : (T.length : Int) ≤ (a : Int) := by omega
    simp (maxSteps:=999999) -dsimp -implicitDefEqProofs only [↓eqD,eqU,eqV,eqW,vbuiltinQ,vlen,vslice,vindex,vstore,Array.toList,simprocAttr,fnWp_some Tryz.func222,Tryz.f222,T73_ord,T73_ghost,FB,h1,hne,Ne.symm hne,c2]
    exact dn 0 [] 0 _ hn
def gQ (f : List Tok → St → List V → Option V) : List V → Heap → Option (Prop × V × Heap)
  | .ptr id 0 0 :: xs, G => match parserOf G id with
    | some (T, en, s) => match f T s xs with
      | some v => some (ParserAt G id T en s, v, G)
      | none => none
    | none => none
  | _, _ => none
theorem okQ {P : Program} {S : Specs} (hS : SOk P S) {f : FuncId} {g : List Tok → St → List V → Option V} (h : ∀ T en s id G xs v, ParserAt G id T en s → g T s xs = some v → VCalls P f (.ptr id 0 0 :: xs) G (Stays G v)) : SOk P (S.addH f (gQ g)) := hS.addH fun xs G p v G' e hp => by
  unfold gQ at e
  split at e
  · split at e
    · split at e
      · cases e; exact h _ _ _ _ _ _ _ hp (by assumption)
      · cases e
    · cases e
  · cases e
theorem okP {P : Program} {S : Specs} (hS : SOk P S) {f : FuncId} {g : List Tok → Int → St → List V → Option (V × St)} (h : ∀ T en s id G xs v s', ParserAt G id T en s → g T en s xs = some (v, s') → VCalls P f (.ptr id 0 0 :: xs) G fun u H => u = v ∧ H = G.put id (.cells 0 (pcells T en s'))) : SOk P (S.addH f (gP g)) := hS.addH fun xs G p v G' e hp => by
  unfold gP at e
  split at e
  · split at e
    · split at e
      · cases e; exact h _ _ _ _ _ _ _ _ hp (by assumption)
      · cases e
    · cases e
  · cases e
def q73 (T : List Tok) (s : St) : List V → Option V
  | [] => some (.agg [.int .i64 (nowT T s).kind, .str (nowT T s).text, .int .i64 (nowT T s).pos])
  | _ => none
def S1 : Specs := Specs.none.addH 222 (gQ q73)
theorem S1_at (f : FuncId) (xs : List V) (G : Heap) : S1 f xs G = (Specs.none.addH 222 (gQ q73)) f xs G := rfl
theorem okS1 : SOk Tryz.prog S1 := okQ (SOk.none _) fun T en s id G xs v h e => by
  unfold q73 at e
  split at e
  · cases e; exact now_walk h
  · cases e
def isT (T : List Tok) (s : St) (kind : Int) (text : List UInt8) : Bool := decide ((nowT T s).kind = kind) && decide ((nowT T s).text = text)
theorem okm60 : fnOk Tryz.prog 214 T0 3 = true := by kernel_rfl
set_option maxRecDepth 100000 in
theorem is_walk {T : List Tok} {en : Int} {s : St} {id : Nat} {G : Heap} (h : ParserAt G id T en s) (kind : Int) (text : List UInt8) : VCalls Tryz.prog 214 [.ptr id 0 0, .int .i64 kind, .str text] G (Stays G (.bool (isT T s kind text))) := by
  refine VCalls.of okS1 mixed T0 okm60 fun hG => ?_
  obtain ⟨h1, h2, h3⟩ := h
  have hid := hG.lt h1
  have hne := Nat.ne_of_lt hid
  have hp := parserOf_of h1
  have h4 : ParserAt G id T en s := ⟨h1, h2, h3⟩
  simp (maxSteps:=999999) -dsimp -implicitDefEqProofs only [↓eqD,eqU,eqV,eqW,vbuiltinQ,vlen,vslice,vindex,vstore,Array.toList,simprocAttr,fnWp_some Tryz.func214,Tryz.f214,T0,FB,S1_at,addH_at,none_at,gQ,q73,hp,h4,hne,Ne.symm hne]
  have back : ∀ cs id', id' < G.next → ((G.alloc (.cells 0 [.int .i64 0, .str [], .int .i64 0])).put G.next (.cells 0 cs)).get id' = G.get id' := fun cs id' hid' => by simp (maxSteps:=999999) -dsimp -implicitDefEqProofs only [↓eqD,eqU,eqV,eqW,vbuiltinQ,vlen,vslice,vindex,vstore,Array.toList,simprocAttr,Nat.ne_of_lt hid']
  split
  · rename_i c1
    exact VDone.back hG (back _) rfl (by unfold isT; simp [c1])
  · rename_i c1
    exact VDone.back hG (back _) rfl (by unfold isT; simp [c1])
def q60 (T : List Tok) (s : St) : List V → Option V
  | [.int .i64 kind, .str text] => some (.bool (isT T s kind text))
  | _ => none
def S2 : Specs := Specs.none.addH 214 (gQ q60)
theorem S2_at (f : FuncId) (xs : List V) (G : Heap) : S2 f xs G = (Specs.none.addH 214 (gQ q60)) f xs G := rfl
theorem okS2 : SOk Tryz.prog S2 := okQ (SOk.none _) fun T en s id G xs v h e => by
  unfold q60 at e
  split at e
  · cases e; exact is_walk h _ _
  · cases e
theorem isT_lt {T : List Tok} {s : St} {kind : Int} {text : List UInt8} (hk : kind ≠ 0) (h : isT T s kind text = true) : s.err = 0 ∧ s.at_ < T.length := by
  unfold isT nowT at h
  simp only [Bool.and_eq_true, decide_eq_true_eq] at h
  obtain ⟨h, _⟩ := h
  split at h
  · exact absurd h.symm hk
  · rename_i c
    refine ⟨Classical.not_not.1 c, ?_⟩
    rcases Nat.lt_or_ge s.at_ T.length with h' | h'
    · exact h'
    · rw [List.getD, List.getElem?_eq_none h'] at h
      exact absurd h.symm hk
def takeT (T : List Tok) (s : St) (kind : Int) (text : List UInt8) : St := ⟨if isT T s kind text = true then s.at_ + 1 else s.at_, s.pos, s.err⟩
theorem okm71 : fnOk Tryz.prog 220 T0 2 = true := by kernel_rfl
set_option maxRecDepth 100000 in
theorem may_walk {T : List Tok} {en : Int} {s : St} {id : Nat} {G : Heap} (h : ParserAt G id T en s) (text : List UInt8) : VCalls Tryz.prog 220 [.ptr id 0 0, .str text] G fun u H => u = .bool (isT T s 4 text) ∧ H = G.put id (.cells 0 (pcells T en (takeT T s 4 text))) := by
  refine VCalls.of okS2 mixed T0 okm71 fun hG => ?_
  have hp := parserOf_of h.1
  have h4 := h
  obtain ⟨h1, h2, h3⟩ := h
  have hid := hG.lt h1
  have hu := pcells_under T en (takeT T s 4 text) G.next
  by_cases hi : isT T s 4 text = true
  · obtain ⟨a1, a2⟩ := isT_lt (by decide) hi
    have w1 : IntKind.wrap .i64 ((s.at_ : Int) + 1) = ((s.at_ + 1 : Nat) : Int) := by rw [w64 (by omega) (by omega)]; rfl
    have h1' := h1
    unfold pcells at h1'
    simp (maxSteps:=999999) -dsimp -implicitDefEqProofs only [↓eqD,eqU,eqV,eqW,vbuiltinQ,vlen,vslice,vindex,vstore,Array.toList,simprocAttr,fnWp_some Tryz.func220,Tryz.f220,T0,FB,S2_at,addH_at,none_at,gQ,q60,hp,h4,h1',hi,w1]
    refine VDone.turned hG hid hu ?_ ?_ rfl rfl
    · unfold pcells takeT; simp (maxSteps:=999999) -dsimp -implicitDefEqProofs only [↓eqD,eqU,eqV,eqW,vbuiltinQ,vlen,vslice,vindex,vstore,Array.toList,simprocAttr,hi]
    · intro j hj hne; simp (maxSteps:=999999) -dsimp -implicitDefEqProofs only [↓eqD,eqU,eqV,eqW,vbuiltinQ,vlen,vslice,vindex,vstore,Array.toList,simprocAttr,hne]
  · have hi : isT T s 4 text = false := by simpa using hi
    have hs : takeT T s 4 text = s := by unfold takeT; rw [hi]; rfl
    simp (maxSteps:=999999) -dsimp -implicitDefEqProofs only [↓eqD,eqU,eqV,eqW,vbuiltinQ,vlen,vslice,vindex,vstore,Array.toList,simprocAttr,fnWp_some Tryz.func220,Tryz.f220,T0,FB,S2_at,addH_at,none_at,gQ,q60,hp,h4,hi]
    refine VDone.turned hG hid hu ?_ (fun _ _ _ => rfl) rfl rfl
    rw [hs]; exact h1
theorem okm50 : fnOk Tryz.prog 206 T0 2 = true := by kernel_rfl
set_option maxRecDepth 100000 in
theorem word_walk' {T : List Tok} {en : Int} {s : St} {id : Nat} {G : Heap} (h : ParserAt G id T en s) (text : List UInt8) : VCalls Tryz.prog 206 [.ptr id 0 0, .str text] G fun u H => u = .bool (isT T s 1 text) ∧ H = G.put id (.cells 0 (pcells T en (takeT T s 1 text))) := by
  refine VCalls.of okS2 mixed T0 okm50 fun hG => ?_
  have hp := parserOf_of h.1
  have h4 := h
  obtain ⟨h1, h2, h3⟩ := h
  have hid := hG.lt h1
  have hu := pcells_under T en (takeT T s 1 text) G.next
  by_cases hi : isT T s 1 text = true
  · obtain ⟨a1, a2⟩ := isT_lt (by decide) hi
    have w1 : IntKind.wrap .i64 ((s.at_ : Int) + 1) = ((s.at_ + 1 : Nat) : Int) := by rw [w64 (by omega) (by omega)]; rfl
    have h1' := h1
    unfold pcells at h1'
    simp (maxSteps:=999999) -dsimp -implicitDefEqProofs only [↓eqD,eqU,eqV,eqW,vbuiltinQ,vlen,vslice,vindex,vstore,Array.toList,simprocAttr,fnWp_some Tryz.func206,Tryz.f206,T0,FB,S2_at,addH_at,none_at,gQ,q60,hp,h4,h1',hi,w1]
    refine VDone.turned hG hid hu ?_ ?_ rfl rfl
    · unfold pcells takeT; simp (maxSteps:=999999) -dsimp -implicitDefEqProofs only [↓eqD,eqU,eqV,eqW,vbuiltinQ,vlen,vslice,vindex,vstore,Array.toList,simprocAttr,hi]
    · intro j hj hne; simp (maxSteps:=999999) -dsimp -implicitDefEqProofs only [↓eqD,eqU,eqV,eqW,vbuiltinQ,vlen,vslice,vindex,vstore,Array.toList,simprocAttr,hne]
  · have hi : isT T s 1 text = false := by simpa using hi
    have hs : takeT T s 1 text = s := by unfold takeT; rw [hi]; rfl
    simp (maxSteps:=999999) -dsimp -implicitDefEqProofs only [↓eqD,eqU,eqV,eqW,vbuiltinQ,vlen,vslice,vindex,vstore,Array.toList,simprocAttr,fnWp_some Tryz.func206,Tryz.f206,T0,FB,S2_at,addH_at,none_at,gQ,q60,hp,h4,hi]
    refine VDone.turned hG hid hu ?_ (fun _ _ _ => rfl) rfl rfl
    rw [hs]; exact h1
def zeroE : List V := [.int .i64 0, .bool false, .int .i64 0, .int .i64 0, .str [], .bool false, .bool false, .nilsl]
def errsT (T : List Tok) (en : Int) (s : St) (e : Int) : St := ⟨s.at_, if s.err = 0 then (if s.at_ < T.length then (T.getD s.at_ ⟨0, [], 0⟩).pos else en) else s.pos, if s.err = 0 then e else s.err⟩
def T30 : Tab := ⟨fun id => if id = 3 then ([0, 1, 2, 3, 4, 5, 6, 7, 8, 9], []) else if id = 4 then ([0, 1, 2, 3, 4, 5, 6, 7, 8, 9, 10, 11, 12, 13, 14], []) else ([], []), fun _ => false⟩
theorem T30_ord (id : Nat) : T30.ord id = if id = 3 then ([0, 1, 2, 3, 4, 5, 6, 7, 8, 9], []) else if id = 4 then ([0, 1, 2, 3, 4, 5, 6, 7, 8, 9, 10, 11, 12, 13, 14], []) else ([], []) := rfl
theorem T30_ghost (id : Nat) : T30.ghost id = false := rfl
theorem okm30 : fnOk Tryz.prog 188 T30 2 = true := by kernel_rfl
set_option maxRecDepth 100000 in
theorem errs_walk {T : List Tok} {en : Int} {s : St} {id : Nat} {G : Heap} (h : ParserAt G id T en s) (e : Int) : VCalls Tryz.prog 188 [.ptr id 0 0, .int .i64 e] G fun u H => u = .agg zeroE ∧ H = G.put id (.cells 0 (pcells T en (errsT T en s e))) := by
  refine VCalls.of (SOk.none _) mixed T30 okm30 fun hG => ?_
  have h4 := h
  obtain ⟨h1, h2, h3⟩ := h
  have hid := hG.lt h1
  have hne := Nat.ne_of_lt hid
  have hu := pcells_under T en (errsT T en s e) G.next
  have h1' := h1
  unfold pcells at h1'
  by_cases he : s.err = 0
  · by_cases ha : s.at_ < T.length
    · have hx := toks_at ha
      have hT : T.getD s.at_ ⟨0, [], 0⟩ = T[s.at_] := by simp [List.getD, ha]
      generalize T[s.at_] = t at hx hT
      have c1 : (s.at_ : Int) < (T.length : Int) := by omega
      simp (maxSteps:=999999) -dsimp -implicitDefEqProofs only [↓eqD,eqU,eqV,eqW,vbuiltinQ,vlen,vslice,vindex,vstore,Array.toList,simprocAttr,fnWp_some Tryz.func188,Tryz.f188,T30_ord,T30_ghost,FB,h1',hne,Ne.symm hne,he,c1,hx,Tok.cells]
      refine ⟨by omega, ?_⟩
      refine VDone.turned hG hid hu ?_ ?_ rfl rfl
      · unfold pcells errsT; simp (maxSteps:=999999) -dsimp -implicitDefEqProofs only [↓eqD,eqU,eqV,eqW,vbuiltinQ,vlen,vslice,vindex,vstore,Array.toList,simprocAttr,he,hT,ha,hne,Ne.symm hne]
      · intro j hj hji; simp (maxSteps:=999999) -dsimp -implicitDefEqProofs only [↓eqD,eqU,eqV,eqW,vbuiltinQ,vlen,vslice,vindex,vstore,Array.toList,simprocAttr,hji,Nat.ne_of_lt hj]
    · have c1 : ¬(s.at_ : Int) < (T.length : Int) := by omega
      simp (maxSteps:=999999) -dsimp -implicitDefEqProofs only [↓eqD,eqU,eqV,eqW,vbuiltinQ,vlen,vslice,vindex,vstore,Array.toList,simprocAttr,fnWp_some Tryz.func188,Tryz.f188,T30_ord,T30_ghost,FB,h1',hne,Ne.symm hne,he,c1]
      refine VDone.turned hG hid hu ?_ ?_ rfl rfl
      · unfold pcells errsT; simp (maxSteps:=999999) -dsimp -implicitDefEqProofs only [↓eqD,eqU,eqV,eqW,vbuiltinQ,vlen,vslice,vindex,vstore,Array.toList,simprocAttr,he,ha,hne,Ne.symm hne]
      · intro j hj hji; simp (maxSteps:=999999) -dsimp -implicitDefEqProofs only [↓eqD,eqU,eqV,eqW,vbuiltinQ,vlen,vslice,vindex,vstore,Array.toList,simprocAttr,hji,Nat.ne_of_lt hj]
  · simp (maxSteps:=999999) -dsimp -implicitDefEqProofs only [↓eqD,eqU,eqV,eqW,vbuiltinQ,vlen,vslice,vindex,vstore,Array.toList,simprocAttr,fnWp_some Tryz.func188,Tryz.f188,T30_ord,T30_ghost,FB,h1',hne,Ne.symm hne,he]
    refine VDone.turned hG hid hu ?_ ?_ rfl rfl
    · unfold pcells errsT; simp (maxSteps:=999999) -dsimp -implicitDefEqProofs only [↓eqD,eqU,eqV,eqW,vbuiltinQ,vlen,vslice,vindex,vstore,Array.toList,simprocAttr,he,hne,Ne.symm hne,h1',h1]
    · intro j hj hji; simp (maxSteps:=999999) -dsimp -implicitDefEqProofs only [↓eqD,eqU,eqV,eqW,vbuiltinQ,vlen,vslice,vindex,vstore,Array.toList,simprocAttr,hji,Nat.ne_of_lt hj]
def p30 (T : List Tok) (en : Int) (s : St) : List V → Option (V × St)
  | [.int .i64 e] => some (.agg [.int .i64 0, .bool false, .int .i64 0, .int .i64 0, .str [], .bool false, .bool false, .nilsl], errsT T en s e)
  | _ => none
def S3 : Specs := Specs.none.addH 188 (gP p30)
theorem S3_at (f : FuncId) (xs : List V) (G : Heap) : S3 f xs G = (Specs.none.addH 188 (gP p30)) f xs G := rfl
theorem okS3 : SOk Tryz.prog S3 := okP (SOk.none _) fun T en s id G xs v s' h e => by
  unfold p30 at e
  split at e
  · cases e; exact errs_walk h _
  · cases e
def mustT (T : List Tok) (en : Int) (s : St) (ok : Bool) : St := if ok = true then s else errsT T en s 2
theorem okm24 : fnOk Tryz.prog 219 T0 2 = true := by kernel_rfl
set_option maxRecDepth 100000 in
theorem must_walk {T : List Tok} {en : Int} {s : St} {id : Nat} {G : Heap} (h : ParserAt G id T en s) (ok : Bool) : VCalls Tryz.prog 219 [.ptr id 0 0, .bool ok] G fun u H => u = .tup [] ∧ H = G.put id (.cells 0 (pcells T en (mustT T en s ok))) := by
  refine VCalls.of okS3 mixed T0 okm24 fun hG => ?_
  have hp := parserOf_of h.1
  have h4 := h
  obtain ⟨h1, h2, h3⟩ := h
  have hid := hG.lt h1
  have hu := pcells_under T en (mustT T en s ok) G.next
  cases ok with
  | true =>
    simp (maxSteps:=999999) -dsimp -implicitDefEqProofs only [↓eqD,eqU,eqV,eqW,vbuiltinQ,vlen,vslice,vindex,vstore,Array.toList,simprocAttr,fnWp_some Tryz.func219,Tryz.f219,T0,FB,S3_at,addH_at,none_at,gP,p30,hp,h4]
    refine VDone.turned hG hid hu ?_ (fun _ _ _ => rfl) rfl rfl
    exact h1
  | false =>
    simp (maxSteps:=999999) -dsimp -implicitDefEqProofs only [↓eqD,eqU,eqV,eqW,vbuiltinQ,vlen,vslice,vindex,vstore,Array.toList,simprocAttr,fnWp_some Tryz.func219,Tryz.f219,T0,FB,S3_at,addH_at,none_at,gP,p30,hp,h4]
    refine VDone.turned hG hid hu ?_ ?_ rfl rfl
    · simp (maxSteps:=999999) -dsimp -implicitDefEqProofs only [↓eqD,eqU,eqV,eqW,vbuiltinQ,vlen,vslice,vindex,vstore,Array.toList,simprocAttr]; rfl
    · intro j hj hne; simp (maxSteps:=999999) -dsimp -implicitDefEqProofs only [↓eqD,eqU,eqV,eqW,vbuiltinQ,vlen,vslice,vindex,vstore,Array.toList,simprocAttr,hne]
def ofOk (T : List Tok) (s : St) (some_ : List UInt8) : Bool := decide ((nowT T s).kind = 4) && Lib.contains some_ (([32] ++ (nowT T s).text) ++ [32])
def ofT (T : List Tok) (s : St) (some_ : List UInt8) : St := ⟨if ofOk T s some_ = true then s.at_ + 1 else s.at_, s.pos, s.err⟩
def ofV (T : List Tok) (s : St) (some_ : List UInt8) : List UInt8 := if ofOk T s some_ = true then (nowT T s).text else []
def S4 : Specs := (Specs.none.addH 222 (gQ q73)).add 94 g19
theorem S4_at (f : FuncId) (xs : List V) (G : Heap) : S4 f xs G = ((Specs.none.addH 222 (gQ q73)).add 94 g19) f xs G := rfl
theorem okS4 : SOk Tryz.prog S4 := by
  refine okS1.add ?_
  intro xs G p v e hp
  unfold g19 at e
  split at e
  · cases e; exact contains_walk _ _ hp G
  · cases e
theorem okm59 : fnOk Tryz.prog 213 T0 2 = true := by kernel_rfl
set_option maxRecDepth 100000 in
theorem of_walk {T : List Tok} {en : Int} {s : St} {id : Nat} {G : Heap} (h : ParserAt G id T en s) (some_ : List UInt8) (hl : some_.length < 1000) (hT : ∀ t, t ∈ T → t.text.length ≤ 1000) : VCalls Tryz.prog 213 [.ptr id 0 0, .str some_] G fun u H => u = .str (ofV T s some_) ∧ H = G.put id (.cells 0 (pcells T en (ofT T s some_))) := by
  refine VCalls.of okS4 mixed T0 okm59 fun hG => ?_
  have hp := parserOf_of h.1
  have h4 := h
  obtain ⟨h1, h2, h3⟩ := h
  have hid := hG.lt h1
  have hne := Nat.ne_of_lt hid
  have hu := pcells_under T en (ofT T s some_) G.next
  have h1' := h1
  unfold pcells at h1'
  have tl : (nowT T s).text.length ≤ 1000 := by
    unfold nowT
    split
    · simp
    · rcases Nat.lt_or_ge s.at_ T.length with h' | h'
      · rw [List.getD, List.getElem?_eq_getElem h']
        exact hT _ (List.getElem_mem h')
      · rw [List.getD, List.getElem?_eq_none h']; simp
  by_cases hk : (nowT T s).kind = 4
  · have ha : s.at_ < T.length := (isT_lt (kind := 4) (text := (nowT T s).text) (by decide) (by unfold isT; simp [hk])).2
    have w1 : IntKind.wrap .i64 ((s.at_ : Int) + 1) = ((s.at_ + 1 : Nat) : Int) := by rw [w64 (by omega) (by omega)]; rfl
    have hl' : some_.length < 4294967281 := by omega
    simp (maxSteps:=999999) -dsimp -implicitDefEqProofs only [↓eqD,eqU,eqV,eqW,vbuiltinQ,vlen,vslice,vindex,vstore,Array.toList,simprocAttr,fnWp_some Tryz.func213,Tryz.f213,T0,FB,S4_at,addH_at,add_at,none_at,gQ,q73,g19,hp,h4,h1',hne,Ne.symm hne,hk,w1,hl']
    refine ⟨by omega, by omega, ?_⟩
    split
    · rename_i c1
      have hf : ofOk T s some_ = false := by unfold ofOk; simp only [hk, decide_true, Bool.true_and]; simpa using c1
      refine VDone.turned hG hid hu ?_ ?_ rfl (by unfold ofV; rw [hf]; rfl)
      · unfold ofT; rw [hf]; simp (maxSteps:=999999) -dsimp -implicitDefEqProofs only [↓eqD,eqU,eqV,eqW,vbuiltinQ,vlen,vslice,vindex,vstore,Array.toList,simprocAttr,hne,Ne.symm hne]; exact h1
      · intro j hj hji; simp (maxSteps:=999999) -dsimp -implicitDefEqProofs only [↓eqD,eqU,eqV,eqW,vbuiltinQ,vlen,vslice,vindex,vstore,Array.toList,simprocAttr,hji,Nat.ne_of_lt hj]
    · rename_i c1
      have hf : ofOk T s some_ = true := by unfold ofOk; simp only [hk, decide_true, Bool.true_and]; simpa using c1
      refine VDone.turned hG hid hu ?_ ?_ rfl (by unfold ofV; rw [if_pos hf])
      · unfold ofT; rw [hf]; simp (maxSteps:=999999) -dsimp -implicitDefEqProofs only [↓eqD,eqU,eqV,eqW,vbuiltinQ,vlen,vslice,vindex,vstore,Array.toList,simprocAttr,pcells]
      · intro j hj hji; simp (maxSteps:=999999) -dsimp -implicitDefEqProofs only [↓eqD,eqU,eqV,eqW,vbuiltinQ,vlen,vslice,vindex,vstore,Array.toList,simprocAttr,hji,Nat.ne_of_lt hj]
  · simp (maxSteps:=999999) -dsimp -implicitDefEqProofs only [↓eqD,eqU,eqV,eqW,vbuiltinQ,vlen,vslice,vindex,vstore,Array.toList,simprocAttr,fnWp_some Tryz.func213,Tryz.f213,T0,FB,S4_at,addH_at,add_at,none_at,gQ,q73,g19,hp,h4,h1',hne,Ne.symm hne,hk]
    rw [if_neg (by simp [hk])]
    have hf : ofOk T s some_ = false := by unfold ofOk; simp [hk]
    refine VDone.turned hG hid hu ?_ ?_ rfl (by unfold ofV; rw [hf]; rfl)
    · unfold ofT; rw [hf]; simp (maxSteps:=999999) -dsimp -implicitDefEqProofs only [↓eqD,eqU,eqV,eqW,vbuiltinQ,vlen,vslice,vindex,vstore,Array.toList,simprocAttr,hne,Ne.symm hne]; exact h1
    · intro j hj hji; simp (maxSteps:=999999) -dsimp -implicitDefEqProofs only [↓eqD,eqU,eqV,eqW,vbuiltinQ,vlen,vslice,vindex,vstore,Array.toList,simprocAttr,hji,Nat.ne_of_lt hj]
def q71 (kind : Int) (T : List Tok) (en : Int) (s : St) : List V → Option (V × St)
  | [.str text] => some (.bool (isT T s kind text), takeT T s kind text)
  | _ => none
def p24 (T : List Tok) (en : Int) (s : St) : List V → Option (V × St)
  | [.bool ok] => some (.tup [], mustT T en s ok)
  | _ => none
def Short (T : List Tok) : Prop := ∀ t, t ∈ T → t.text.length ≤ 1000
def g59 : List V → Heap → Option (Prop × V × Heap)
  | [.ptr id 0 0, .str some_], G => match parserOf G id with
    | some (T, en, s) => some ((ParserAt G id T en s ∧ Short T) ∧ some_.length < 1000, .str (ofV T s some_), G.put id (.cells 0 (pcells T en (ofT T s some_))))
    | none => none
  | _, _ => none
def S5 : Specs := (((((Specs.none.addH 222 (gQ q73)).addH 220 (gP (q71 4))).addH 206 (gP (q71 1))).addH 188 (gP p30)).addH 219 (gP p24)).addH 213 g59
theorem S5_at (f : FuncId) (xs : List V) (G : Heap) : S5 f xs G = ((((((Specs.none.addH 222 (gQ q73)).addH 220 (gP (q71 4))).addH 206 (gP (q71 1))).addH 188 (gP p30)).addH 219 (gP p24)).addH 213 g59) f xs G := rfl
theorem okS5 : SOk Tryz.prog S5 := by
  refine SOk.addH (okP (okP (okP (okP okS1 ?_) ?_) ?_) ?_) ?_
  · intro T en s id G xs v s' h e
    unfold q71 at e
    split at e
    · cases e; exact may_walk h _
    · cases e
  · intro T en s id G xs v s' h e
    unfold q71 at e
    split at e
    · cases e; exact word_walk' h _
    · cases e
  · intro T en s id G xs v s' h e
    unfold p30 at e
    split at e
    · cases e; exact errs_walk h _
    · cases e
  · intro T en s id G xs v s' h e
    unfold p24 at e
    split at e
    · cases e; exact must_walk h _
    · cases e
  · intro xs G p v G' e hp
    unfold g59 at e
    split at e
    · split at e
      · cases e; exact of_walk hp.1.1 _ hp.2 hp.1.2
      · cases e
    · cases e
end Go.Vf
set_option linter.unusedVariables false
set_option linter.unusedSimpArgs false
namespace Go.Vf
open Go.Proofs Go.RowKit
inductive Ex where
  | mk (kind : Int) (b : Bool) (m s : Int) (t : List UInt8) (lo hi : Bool) (kids : List Ex)
mutual
def Ex.cells : Ex → List V
  | .mk k b m s t lo hi kids => [.int .i64 k, .bool b, .int .i64 m, .int .i64 s, .str t, .bool lo, .bool hi, .sl 8 kids.length (exsC kids)]
def exsC : List Ex → List V
  | [] => []
  | e :: r => e.cells ++ exsC r
end
theorem Ex.cells_len (e : Ex) : e.cells.length = 8 := by cases e; simp [Ex.cells]
theorem exsC_len : ∀ l : List Ex, (exsC l).length = l.length * 8
  | [] => by simp [exsC]
  | e :: r => by rw [exsC, List.length_append, exsC_len r, e.cells_len, List.length_cons]; omega
mutual
theorem Ex.closed : ∀ e : Ex, V.closedL e.cells = true
  | .mk k b m s t lo hi kids => by simp [Ex.cells, V.closedL, V.closed, V.scalar, exsC_closed kids]
theorem exsC_closed : ∀ l : List Ex, V.closedL (exsC l) = true
  | [] => rfl
  | e :: r => by rw [exsC, closedL_append, e.closed, exsC_closed r]; rfl
end
def Ex.zero : Ex := .mk 0 false 0 0 [] false false []
def Ex.bin (op : List UInt8) (a b : Ex) : Ex := .mk 6 false 0 0 op false false [a, b]
theorem vle_kids (k : Int) (b : Bool) (m s : Int) (t : List UInt8) (lo hi : Bool) (kids : List Ex) :
    VLe (.agg [.int .i64 k, .bool b, .int .i64 m, .int .i64 s, .str t, .bool lo, .bool hi, .slc 8 kids.length (exsC kids)]) (.agg (Ex.mk k b m s t lo hi kids).cells) := by
  unfold Ex.cells
  exact .agg ⟨.refl _, .refl _, .refl _, .refl _, .refl _, .refl _, .refl _, .slc_sl _ _ _, trivial⟩
theorem vle_nil (k : Int) (b : Bool) (m s : Int) (t : List UInt8) (lo hi : Bool) :
    VLe (.agg [.int .i64 k, .bool b, .int .i64 m, .int .i64 s, .str t, .bool lo, .bool hi, .nilsl]) (.agg (Ex.mk k b m s t lo hi []).cells) := by
  unfold Ex.cells
  exact .agg ⟨.refl _, .refl _, .refl _, .refl _, .refl _, .refl _, .refl _, .nil_sl 8, trivial⟩
def g47 : List V → Option (Prop × V)
  | [.str op, .agg [.int .i64 k, .bool b, .int .i64 m, .int .i64 s, .str t, .bool lo, .bool hi, .sl 8 n cs], .agg [.int .i64 k', .bool b', .int .i64 m', .int .i64 s', .str t', .bool lo', .bool hi', .sl 8 n' cs']] =>
    some (V.closedL cs = true ∧ V.closedL cs' = true, .agg [.int .i64 6, .bool false, .int .i64 0, .int .i64 0, .str op, .bool false, .bool false,
      .sl 8 2 [.int .i64 k, .bool b, .int .i64 m, .int .i64 s, .str t, .bool lo, .bool hi, .sl 8 n cs, .int .i64 k', .bool b', .int .i64 m', .int .i64 s', .str t', .bool lo', .bool hi', .sl 8 n' cs']])
  | _ => none
theorem okm47 : fnOk Tryz.prog 203 T0 3 = true := by kernel_rfl
set_option maxRecDepth 100000 in
theorem bin_walk (op : List UInt8) (k : Int) (b : Bool) (m s : Int) (t : List UInt8) (lo hi : Bool) (n : Nat) (cs : List V) (k' : Int) (b' : Bool) (m' s' : Int) (t' : List UInt8) (lo' hi' : Bool) (n' : Nat) (cs' : List V) (h1 : V.closedL cs = true) (h2 : V.closedL cs' = true) (G : Heap) :
    VPure Tryz.prog 203 [.str op, .agg [.int .i64 k, .bool b, .int .i64 m, .int .i64 s, .str t, .bool lo, .bool hi, .sl 8 n cs], .agg [.int .i64 k', .bool b', .int .i64 m', .int .i64 s', .str t', .bool lo', .bool hi', .sl 8 n' cs']] G (.agg [.int .i64 6, .bool false, .int .i64 0, .int .i64 0, .str op, .bool false, .bool false,
      .sl 8 2 [.int .i64 k, .bool b, .int .i64 m, .int .i64 s, .str t, .bool lo, .bool hi, .sl 8 n cs, .int .i64 k', .bool b', .int .i64 m', .int .i64 s', .str t', .bool lo', .bool hi', .sl 8 n' cs']]) := by
  refine VCalls.of (SOk.none _) mixed T0 okm47 fun hG => ?_
  simp (maxSteps:=999999) -dsimp -implicitDefEqProofs only [↓eqD,eqU,eqV,eqW,vbuiltinQ,vlen,vslice,vindex,vstore,Array.toList,simprocAttr,fnWp_some Tryz.func203,Tryz.f203,T0,FB,vreps,vfill,h1,h2]
  have hle : ∀ (l : List V), VLe (.agg [.int .i64 6, .bool false, .int .i64 0, .int .i64 0, .str op, .bool false, .bool false, .slc 8 2 l]) (.agg [.int .i64 6, .bool false, .int .i64 0, .int .i64 0, .str op, .bool false, .bool false, .sl 8 2 l]) :=
    fun l => .agg ⟨.refl _, .refl _, .refl _, .refl _, .refl _, .refl _, .refl _, .slc_sl _ _ _, trivial⟩
  refine .weak (hle _) (VDone.back hG ?_ rfl rfl)
  intro j hj
  simp (maxSteps:=999999) -dsimp -implicitDefEqProofs only [↓eqD,eqU,eqV,eqW,vbuiltinQ,vlen,vslice,vindex,vstore,Array.toList,simprocAttr,lt6 hj]
def opT (T : List Tok) (en : Int) (s : St) (a b : List UInt8) : St := if isT T s 4 a = true then takeT T s 4 a else mustT T en (takeT T (takeT T s 4 a) 4 b) (isT T (takeT T s 4 a) 4 b)
theorem okm70 : fnOk Tryz.prog 218 T0 1 = true := by kernel_rfl
theorem takeT_le {T : List Tok} {s : St} {kind : Int} {text : List UInt8} (hk : kind ≠ 0) (h : s.at_ ≤ T.length) : (takeT T s kind text).at_ ≤ T.length := by
  unfold takeT
  simp only
  split
  · rename_i c; have := (isT_lt hk c).2; omega
  · exact h
theorem put_put (G : Heap) (id : Nat) (a b : Blk) : (G.put id a).put id b = G.put id b := by
  unfold Heap.put
  simp only
  congr 1
  funext j
  split <;> rfl
theorem ParserAt.put {G : Heap} {id : Nat} {T : List Tok} {en : Int} {s s' : St} (h : ParserAt G id T en s) (h' : s'.at_ ≤ T.length) : ParserAt (G.put id (.cells 0 (pcells T en s'))) id T en s' := ⟨by simp [Heap.put], h.2.1, h'⟩
theorem parserOf_put (G : Heap) (id : Nat) (T : List Tok) (en : Int) (s : St) : parserOf (G.put id (.cells 0 (pcells T en s))) id = some (T, en, s) := parserOf_of (by simp [Heap.put])
set_option maxRecDepth 100000 in
theorem opens_walk {T : List Tok} {en : Int} {s : St} {id : Nat} {G : Heap} (h : ParserAt G id T en s) : VCalls Tryz.prog 218 [.ptr id 0 0] G fun u H => u = .bool (isT T s 4 [91]) ∧ H = G.put id (.cells 0 (pcells T en (opT T en s [91] [40]))) := by
  refine VCalls.of okS5 mixed T0 okm70 fun hG => ?_
  have hp := parserOf_of h.1
  have hid := hG.lt h.1
  have hu := pcells_under T en (opT T en s [91] [40]) G.next
  have l1 := takeT_le (kind := 4) (text := [91]) (by decide) h.2.2
  have l2 := takeT_le (T := T) (s := takeT T s 4 [91]) (kind := 4) (text := [40]) (by decide) l1
  have h2 := h.put l1
  have h3 := h.put l2
  by_cases hi : isT T s 4 [91] = true
  · simp (maxSteps:=999999) -dsimp -implicitDefEqProofs only [↓eqD,eqU,eqV,eqW,vbuiltinQ,vlen,vslice,vindex,vstore,Array.toList,simprocAttr,fnWp_some Tryz.func218,Tryz.f218,T0,FB,S5_at,addH_at,none_at,gP,q71,p24,hp,h,h2,h3,hi,parserOf_put,put_put]
    refine VDone.turned hG hid hu ?_ ?_ rfl rfl
    · unfold opT mustT; simp (maxSteps:=999999) -dsimp -implicitDefEqProofs only [↓eqD,eqU,eqV,eqW,vbuiltinQ,vlen,vslice,vindex,vstore,Array.toList,simprocAttr,hi]
    · intro j hj hji; simp (maxSteps:=999999) -dsimp -implicitDefEqProofs only [↓eqD,eqU,eqV,eqW,vbuiltinQ,vlen,vslice,vindex,vstore,Array.toList,simprocAttr,hji]
  · have hi : isT T s 4 [91] = false := by simpa using hi
    simp (maxSteps:=999999) -dsimp -implicitDefEqProofs only [↓eqD,eqU,eqV,eqW,vbuiltinQ,vlen,vslice,vindex,vstore,Array.toList,simprocAttr,fnWp_some Tryz.func218,Tryz.f218,T0,FB,S5_at,addH_at,none_at,gP,q71,p24,hp,h,h2,h3,hi,parserOf_put,put_put]
    refine VDone.turned hG hid hu ?_ ?_ rfl rfl
    · unfold opT; simp (maxSteps:=999999) -dsimp -implicitDefEqProofs only [↓eqD,eqU,eqV,eqW,vbuiltinQ,vlen,vslice,vindex,vstore,Array.toList,simprocAttr,hi]
    · intro j hj hji; simp (maxSteps:=999999) -dsimp -implicitDefEqProofs only [↓eqD,eqU,eqV,eqW,vbuiltinQ,vlen,vslice,vindex,vstore,Array.toList,simprocAttr,hji]
theorem okm72 : fnOk Tryz.prog 221 T0 1 = true := by kernel_rfl
set_option maxRecDepth 100000 in
theorem closes_walk {T : List Tok} {en : Int} {s : St} {id : Nat} {G : Heap} (h : ParserAt G id T en s) : VCalls Tryz.prog 221 [.ptr id 0 0] G fun u H => u = .bool (isT T s 4 [93]) ∧ H = G.put id (.cells 0 (pcells T en (opT T en s [93] [41]))) := by
  refine VCalls.of okS5 mixed T0 okm72 fun hG => ?_
  have hp := parserOf_of h.1
  have hid := hG.lt h.1
  have hu := pcells_under T en (opT T en s [93] [41]) G.next
  have l1 := takeT_le (kind := 4) (text := [93]) (by decide) h.2.2
  have l2 := takeT_le (T := T) (s := takeT T s 4 [93]) (kind := 4) (text := [41]) (by decide) l1
  have h2 := h.put l1
  have h3 := h.put l2
  by_cases hi : isT T s 4 [93] = true
  · simp (maxSteps:=999999) -dsimp -implicitDefEqProofs only [↓eqD,eqU,eqV,eqW,vbuiltinQ,vlen,vslice,vindex,vstore,Array.toList,simprocAttr,fnWp_some Tryz.func221,Tryz.f221,T0,FB,S5_at,addH_at,none_at,gP,q71,p24,hp,h,h2,h3,hi,parserOf_put,put_put]
    refine VDone.turned hG hid hu ?_ ?_ rfl rfl
    · unfold opT mustT; simp (maxSteps:=999999) -dsimp -implicitDefEqProofs only [↓eqD,eqU,eqV,eqW,vbuiltinQ,vlen,vslice,vindex,vstore,Array.toList,simprocAttr,hi]
    · intro j hj hji; simp (maxSteps:=999999) -dsimp -implicitDefEqProofs only [↓eqD,eqU,eqV,eqW,vbuiltinQ,vlen,vslice,vindex,vstore,Array.toList,simprocAttr,hji]
  · have hi : isT T s 4 [93] = false := by simpa using hi
    simp (maxSteps:=999999) -dsimp -implicitDefEqProofs only [↓eqD,eqU,eqV,eqW,vbuiltinQ,vlen,vslice,vindex,vstore,Array.toList,simprocAttr,fnWp_some Tryz.func221,Tryz.f221,T0,FB,S5_at,addH_at,none_at,gP,q71,p24,hp,h,h2,h3,hi,parserOf_put,put_put]
    refine VDone.turned hG hid hu ?_ ?_ rfl rfl
    · unfold opT; simp (maxSteps:=999999) -dsimp -implicitDefEqProofs only [↓eqD,eqU,eqV,eqW,vbuiltinQ,vlen,vslice,vindex,vstore,Array.toList,simprocAttr,hi]
    · intro j hj hji; simp (maxSteps:=999999) -dsimp -implicitDefEqProofs only [↓eqD,eqU,eqV,eqW,vbuiltinQ,vlen,vslice,vindex,vstore,Array.toList,simprocAttr,hji]
theorem okm69 : fnOk Tryz.prog 217 T0 1 = true := by kernel_rfl
theorem okm78 : fnOk Tryz.prog 225 T0 1 = true := by kernel_rfl
theorem okm49 : fnOk Tryz.prog 205 T0 2 = true := by kernel_rfl
set_option maxRecDepth 100000 in
theorem sums_walk {T : List Tok} {en : Int} {s : St} {id bid : Nat} {G : Heap} (h : ParserAt G id T en s) (hT : Short T) (hb : G.get bid = some (.cells 0 [.ptr id 0 0])) :
    VCalls Tryz.prog 217 [.ptr bid 0 0] G fun u H => u = .str (ofV T s [32, 43, 32, 45, 32]) ∧ H = G.put id (.cells 0 (pcells T en (ofT T s [32, 43, 32, 45, 32]))) := by
  refine VCalls.of okS5 mixed T0 okm69 fun hG => ?_
  have hp := parserOf_of h.1
  have hid := hG.lt h.1
  have hu := pcells_under T en (ofT T s [32, 43, 32, 45, 32]) G.next
  have hl : ([32, 43, 32, 45, 32] : List UInt8).length < 1000 := by decide
  simp (maxSteps:=999999) -dsimp -implicitDefEqProofs only [↓eqD,eqU,eqV,eqW,vbuiltinQ,vlen,vslice,vindex,vstore,Array.toList,simprocAttr,fnWp_some Tryz.func217,Tryz.f217,T0,FB,S5_at,addH_at,none_at,g59,hp,h,hb,hT,hl]
  refine VDone.turned hG hid hu ?_ ?_ rfl rfl
  · simp (maxSteps:=999999) -dsimp -implicitDefEqProofs only [↓eqD,eqU,eqV,eqW,vbuiltinQ,vlen,vslice,vindex,vstore,Array.toList,simprocAttr]
  · intro j hj hji; simp (maxSteps:=999999) -dsimp -implicitDefEqProofs only [↓eqD,eqU,eqV,eqW,vbuiltinQ,vlen,vslice,vindex,vstore,Array.toList,simprocAttr,hji]
set_option maxRecDepth 100000 in
theorem products_walk {T : List Tok} {en : Int} {s : St} {id bid : Nat} {G : Heap} (h : ParserAt G id T en s) (hT : Short T) (hb : G.get bid = some (.cells 0 [.ptr id 0 0])) :
    VCalls Tryz.prog 225 [.ptr bid 0 0] G fun u H => u = .str (ofV T s [32, 42, 32, 47, 32]) ∧ H = G.put id (.cells 0 (pcells T en (ofT T s [32, 42, 32, 47, 32]))) := by
  refine VCalls.of okS5 mixed T0 okm78 fun hG => ?_
  have hp := parserOf_of h.1
  have hid := hG.lt h.1
  have hu := pcells_under T en (ofT T s [32, 42, 32, 47, 32]) G.next
  have hl : ([32, 42, 32, 47, 32] : List UInt8).length < 1000 := by decide
  simp (maxSteps:=999999) -dsimp -implicitDefEqProofs only [↓eqD,eqU,eqV,eqW,vbuiltinQ,vlen,vslice,vindex,vstore,Array.toList,simprocAttr,fnWp_some Tryz.func225,Tryz.f225,T0,FB,S5_at,addH_at,none_at,g59,hp,h,hb,hT,hl]
  refine VDone.turned hG hid hu ?_ ?_ rfl rfl
  · simp (maxSteps:=999999) -dsimp -implicitDefEqProofs only [↓eqD,eqU,eqV,eqW,vbuiltinQ,vlen,vslice,vindex,vstore,Array.toList,simprocAttr]
  · intro j hj hji; simp (maxSteps:=999999) -dsimp -implicitDefEqProofs only [↓eqD,eqU,eqV,eqW,vbuiltinQ,vlen,vslice,vindex,vstore,Array.toList,simprocAttr,hji]
def wordV (T : List Tok) (s : St) (w : List UInt8) : List UInt8 := if isT T s 1 w = true then w else []
set_option maxRecDepth 100000 in
theorem joined_walk {T : List Tok} {en : Int} {s : St} {id b1 b2 : Nat} {G : Heap} {w : List UInt8} (h : ParserAt G id T en s) (h1 : G.get b1 = some (.cells 0 [.ptr id 0 0])) (h2 : G.get b2 = some (.cells 0 [.str w])) (hne : b2 ≠ id) :
    VCalls Tryz.prog 205 [.ptr b1 0 0, .ptr b2 0 0] G fun u H => u = .str (wordV T s w) ∧ H = G.put id (.cells 0 (pcells T en (takeT T s 1 w))) := by
  refine VCalls.of okS5 mixed T0 okm49 fun hG => ?_
  have hp := parserOf_of h.1
  have hid := hG.lt h.1
  have hu := pcells_under T en (takeT T s 1 w) G.next
  by_cases hi : isT T s 1 w = true
  · simp (maxSteps:=999999) -dsimp -implicitDefEqProofs only [↓eqD,eqU,eqV,eqW,vbuiltinQ,vlen,vslice,vindex,vstore,Array.toList,simprocAttr,fnWp_some Tryz.func205,Tryz.f205,T0,FB,S5_at,addH_at,none_at,gP,q71,hp,h,h1,h2,hi,hne]
    refine VDone.turned hG hid hu ?_ ?_ rfl (by unfold wordV; rw [if_pos hi])
    · simp (maxSteps:=999999) -dsimp -implicitDefEqProofs only [↓eqD,eqU,eqV,eqW,vbuiltinQ,vlen,vslice,vindex,vstore,Array.toList,simprocAttr]
    · intro j hj hji; simp (maxSteps:=999999) -dsimp -implicitDefEqProofs only [↓eqD,eqU,eqV,eqW,vbuiltinQ,vlen,vslice,vindex,vstore,Array.toList,simprocAttr,hji]
  · have hi : isT T s 1 w = false := by simpa using hi
    simp (maxSteps:=999999) -dsimp -implicitDefEqProofs only [↓eqD,eqU,eqV,eqW,vbuiltinQ,vlen,vslice,vindex,vstore,Array.toList,simprocAttr,fnWp_some Tryz.func205,Tryz.f205,T0,FB,S5_at,addH_at,none_at,gP,q71,hp,h,h1,h2,hi,hne]
    refine VDone.turned hG hid hu ?_ ?_ rfl (by unfold wordV; rw [hi]; rfl)
    · simp (maxSteps:=999999) -dsimp -implicitDefEqProofs only [↓eqD,eqU,eqV,eqW,vbuiltinQ,vlen,vslice,vindex,vstore,Array.toList,simprocAttr]
    · intro j hj hji; simp (maxSteps:=999999) -dsimp -implicitDefEqProofs only [↓eqD,eqU,eqV,eqW,vbuiltinQ,vlen,vslice,vindex,vstore,Array.toList,simprocAttr,hji]
end Go.Vf
set_option linter.unusedVariables false
set_option linter.unusedSimpArgs false
namespace Go.Vf
open Go.Proofs Go.RowKit
abbrev Kid := St → Ex × St
def rowGo (kid : Kid) (op : St → List UInt8 × St) : Nat → Ex → St → Ex × St
  | 0, x, s => (x, s)
  | f + 1, x, s => if (op s).1 = [] then (x, (op s).2) else rowGo kid op f (Ex.bin (op s).1 x (kid (op s).2).1) (kid (op s).2).2
def rowP (T : List Tok) (kid : Kid) (op : St → List UInt8 × St) : Kid := fun s => rowGo kid op (T.length + 1) (kid s).1 (kid s).2
def Goes (T : List Tok) (kid : Kid) : Prop := ∀ s, s.at_ ≤ T.length → s.at_ ≤ (kid s).2.at_ ∧ (kid s).2.at_ ≤ T.length
def Steps (T : List Tok) (op : St → List UInt8 × St) : Prop := ∀ s, s.at_ ≤ T.length → s.at_ ≤ (op s).2.at_ ∧ (op s).2.at_ ≤ T.length ∧ ((op s).1 ≠ [] → s.at_ < (op s).2.at_)
theorem rowGo_goes {T : List Tok} {kid : Kid} {op : St → List UInt8 × St} (hk : Goes T kid) (ho : Steps T op) : ∀ (f : Nat) (x : Ex) (s : St), s.at_ ≤ T.length → s.at_ ≤ (rowGo kid op f x s).2.at_ ∧ (rowGo kid op f x s).2.at_ ≤ T.length
  | 0, x, s, h => ⟨Nat.le_refl _, h⟩
  | f + 1, x, s, h => by
    have h1 := ho s h
    have h2 := hk _ h1.2.1
    unfold rowGo
    split
    · exact ⟨h1.1, h1.2.1⟩
    · have := rowGo_goes hk ho f (Ex.bin (op s).1 x (kid (op s).2).1) (kid (op s).2).2 h2.2
      omega
theorem rowP_goes {T : List Tok} {kid : Kid} {op : St → List UInt8 × St} (hk : Goes T kid) (ho : Steps T op) : Goes T (rowP T kid op) := fun s h => by
  have h1 := hk s h
  have := rowGo_goes hk ho (T.length + 1) (kid s).1 (kid s).2 h1.2
  unfold rowP
  omega
def SR : Specs := Specs.none.add 203 g47
theorem SR_at (f : FuncId) (xs : List V) (G : Heap) : SR f xs G = (Specs.none.add 203 g47) f xs G := rfl
theorem okSR : SOk Tryz.prog SR := by
  refine (SOk.none _).add ?_
  intro xs G p v e hp
  unfold g47 at e
  split at e
  · cases e; exact bin_walk _ _ _ _ _ _ _ _ _ _ _ _ _ _ _ _ _ _ _ hp.1 hp.2 G
  · cases e
def KidAt (T : List Tok) (en : Int) (id : Nat) (f : FuncId) (d : Int) (kid : Kid) : Prop :=
  ∀ s H, ParserAt H id T en s → VCalls Tryz.prog f [.ptr id 0 0, .int .i64 d] H fun u H' => u = .agg (kid s).1.cells ∧ H' = H.put id (.cells 0 (pcells T en (kid s).2))
def OpAt (T : List Tok) (en : Int) (id : Nat) (f : FuncId) (caps : List V) (B : Heap → Prop) (op : St → List UInt8 × St) : Prop :=
  ∀ s H, ParserAt H id T en s → B H → VCalls Tryz.prog f caps H fun u H' => u = .str (op s).1 ∧ H' = H.put id (.cells 0 (pcells T en (op s).2))
def T31 : Tab := ⟨fun id => if id = 5 then ([0, 1, 2, 3, 4, 5, 6], [(1, 4)]) else ([], []), fun _ => false⟩
theorem T31_ord (id : Nat) : T31.ord id = if id = 5 then ([0, 1, 2, 3, 4, 5, 6], [(1, 4)]) else ([], []) := rfl
theorem T31_ghost (id : Nat) : T31.ghost id = false := rfl
theorem okm31 : fnOk Tryz.prog 189 T31 4 = true := by kernel_rfl
set_option maxRecDepth 100000 in
theorem row_walk {T : List Tok} {en : Int} {id : Nat} {kf of : FuncId} {caps : List V} {d : Int} {kid : Kid} {op : St → List UInt8 × St} {B : Heap → Prop} {s : St} {G : Heap} (hk : KidAt T en id kf d kid) (ho : OpAt T en id of caps B op)
    (hB : ∀ H H' : Heap, (∀ j, j < G.next → j ≠ id → H'.get j = H.get j) → B H → B H') (mk : Goes T kid) (mo : Steps T op) (k47 : kf ≠ 203) (o47 : of ≠ 203) (h : ParserAt G id T en s) (hb : B G) :
    VCalls Tryz.prog 189 [.ptr id 0 0, .func (.func kf) [.ptr id 0 0] [], .func (.func of) [] caps, .int .i64 d] G fun u H => u = .agg (rowP T kid op s).1.cells ∧ H = G.put id (.cells 0 (pcells T en (rowP T kid op s).2)) := by
  refine VCalls.of okSR mixed T31 okm31 fun hG => ?_
  have hid := hG.lt h.1
  have hu := fun s' => pcells_under T en s' G.next
  simp (maxSteps:=999999) -dsimp -implicitDefEqProofs only [↓eqD,eqU,eqV,eqW,vbuiltinQ,vlen,vslice,vindex,vstore,Array.toList,simprocAttr,fnWp_some Tryz.func189,Tryz.f189,T31_ord,T31_ghost,FB,SR_at,add_at,none_at,k47,o47]
  refine (hk s _ ⟨by simp (maxSteps:=999999) -dsimp -implicitDefEqProofs only [↓eqD,eqU,eqV,eqW,vbuiltinQ,vlen,vslice,vindex,vstore,Array.toList,simprocAttr,lt6 hid]; exact h.1, h.2.1, h.2.2⟩).mono ?_
  rintro _ _ ⟨rfl, rfl⟩
  have m1 := mk s h.2.2
  unfold rowP
  generalize kid s = ks at *
  obtain ⟨⟨k0, b0, m0, s0, t0, lo0, hi0, kids0⟩, s1⟩ := ks
  simp (maxSteps:=999999) -dsimp -implicitDefEqProofs only [↓eqD,eqU,eqV,eqW,vbuiltinQ,vlen,vslice,vindex,vstore,Array.toList,simprocAttr,Ex.cells,FB,T31_ord,T31_ghost,SR_at,add_at,none_at,k47,o47,lt6 hid]
  refine (ho s1 _ ⟨by simp (maxSteps:=999999) -dsimp -implicitDefEqProofs only [↓eqD,eqU,eqV,eqW,vbuiltinQ,vlen,vslice,vindex,vstore,Array.toList,simprocAttr,FB,lt6 hid], h.2.1, m1.2⟩ (hB G _ (fun j hj hji => by simp (maxSteps:=999999) -dsimp -implicitDefEqProofs only [↓eqD,eqU,eqV,eqW,vbuiltinQ,vlen,vslice,vindex,vstore,Array.toList,simprocAttr,lt6 hj,hji]) hb)).mono ?_
  rintro _ _ ⟨rfl, rfl⟩
  simp (maxSteps:=999999) -dsimp -implicitDefEqProofs only [↓eqD,eqU,eqV,eqW,vbuiltinQ,vlen,vslice,vindex,vstore,Array.toList,simprocAttr,FB,T31_ord,T31_ghost,SR_at,add_at,none_at,k47,o47,lt6 hid]
  have m2 := mo s1 m1.2
  refine vloop_by (fun x : Nat × Ex × St => x.2.2.at_ ≤ T.length ∧ T.length < x.2.2.at_ + x.1 ∧ rowGo kid op x.1 x.2.1 x.2.2 = rowGo kid op (T.length + 1) (Ex.mk k0 b0 m0 s0 t0 lo0 hi0 kids0) s1)
    (fun x => Env.of [(0, .ptr id 0 0), (1, .func (.func kf) [.ptr id 0 0] []), (2, .func (.func of) [] caps), (3, .int .i64 d), (8, .ptr G.next 0 0), (9, .ptr (G.next + 1) 0 0), (10, .str (op x.2.2).1)])
    (fun x => (G.put id (.cells 0 (pcells T en (op x.2.2).2))).over (G.next + 2) [(G.next, .cells 0 zeroE), (G.next + 1, .cells 0 x.2.1.cells)]) (fun x => x.1)
    (T.length + 1, Ex.mk k0 b0 m0 s0 t0 lo0 hi0 kids0, s1) ?_ ?_ ?_
  · refine .of ?_ (.over (hG.put hid (hu _)) ?_ ?_ ?_)
    · simp (maxSteps:=999999) -dsimp -implicitDefEqProofs only [↓eqD,eqU,eqV,eqW,vbuiltinQ,vlen,vslice,vindex,vstore,Array.toList,simprocAttr]
      (repeat' apply And.intro) <;> exact .refl _
    · simp (maxSteps:=999999) -dsimp -implicitDefEqProofs only [↓eqD,eqU,eqV,eqW,vbuiltinQ,vlen,vslice,vindex,vstore,Array.toList,simprocAttr]
    · simp (maxSteps:=999999) -dsimp -implicitDefEqProofs only [↓eqD,eqU,eqV,eqW,vbuiltinQ,vlen,vslice,vindex,vstore,Array.toList,simprocAttr,FB,lt6 hid,zeroE,Ex.cells]
    · intro j hj
      have hj : j < G.next := hj
      by_cases hji : j = id <;> simp (maxSteps:=999999) -dsimp -implicitDefEqProofs only [↓eqD,eqU,eqV,eqW,vbuiltinQ,vlen,vslice,vindex,vstore,Array.toList,simprocAttr,lt6 hj,hji,lt6 hid]
  · exact ⟨m1.2, by simp only; omega, rfl⟩
  · rintro ⟨f, e, s2⟩ ⟨a1, a2, a3⟩
    simp only at a1 a2 a3
    have m3 := mo s2 a1
    obtain ⟨k1, b1, m1', s1', t1, lo1, hi1, kids1⟩ := e
    have hid2 : id < G.next := hid
    obtain ⟨f', rfl⟩ : ∃ f', f = f' + 1 := ⟨f - 1, by omega⟩
    rw [rowGo] at a3
    by_cases hop : (op s2).1 = []
    · rw [if_pos hop] at a3
      rw [← a3]
      simp (maxSteps:=999999) -dsimp -implicitDefEqProofs only [↓eqD,eqU,eqV,eqW,vbuiltinQ,vlen,vslice,vindex,vstore,Array.toList,simprocAttr,FB,T31_ord,T31_ghost,SR_at,add_at,none_at,k47,o47,lt6 hid,hop,ne_eq,Ex.cells,zeroE]
      refine VDone.turned hG hid (hu _) ?_ ?_ rfl rfl
      · simp (maxSteps:=999999) -dsimp -implicitDefEqProofs only [↓eqD,eqU,eqV,eqW,vbuiltinQ,vlen,vslice,vindex,vstore,Array.toList,simprocAttr,lt6 hid]
      · intro j hj hji; simp (maxSteps:=999999) -dsimp -implicitDefEqProofs only [↓eqD,eqU,eqV,eqW,vbuiltinQ,vlen,vslice,vindex,vstore,Array.toList,simprocAttr,lt6 hj,hji]
    · try rw [if_neg hop] at a3
      have m4 := mk _ m3.2.1
      simp (maxSteps:=999999) -dsimp -implicitDefEqProofs only [↓eqD,eqU,eqV,eqW,vbuiltinQ,vlen,vslice,vindex,vstore,Array.toList,simprocAttr,FB,T31_ord,T31_ghost,SR_at,add_at,none_at,k47,o47,lt6 hid,hop,ne_eq,Ex.cells,zeroE]
      refine (hk (op s2).2 _ ⟨by simp (maxSteps:=999999) -dsimp -implicitDefEqProofs only [↓eqD,eqU,eqV,eqW,vbuiltinQ,vlen,vslice,vindex,vstore,Array.toList,simprocAttr,lt6 hid], h.2.1, m3.2.1⟩).mono ?_
      rintro _ _ ⟨rfl, rfl⟩
      generalize hks : kid (op s2).2 = ks at *
      obtain ⟨⟨k2, b2, m2', s2', t2, lo2, hi2, kids2⟩, s3⟩ := ks
      have c1 := exsC_closed kids1
      have c2 := exsC_closed kids2
      simp (maxSteps:=999999) -dsimp -implicitDefEqProofs only [↓eqD,eqU,eqV,eqW,vbuiltinQ,vlen,vslice,vindex,vstore,Array.toList,simprocAttr,FB,T31_ord,T31_ghost,SR_at,add_at,none_at,k47,o47,lt6 hid,Ex.cells,zeroE,g47,c1,c2]
      refine (ho s3 _ ⟨by simp (maxSteps:=999999) -dsimp -implicitDefEqProofs only [↓eqD,eqU,eqV,eqW,vbuiltinQ,vlen,vslice,vindex,vstore,Array.toList,simprocAttr,lt6 hid], h.2.1, m4.2⟩ (hB G _ (fun j hj hji => by simp (maxSteps:=999999) -dsimp -implicitDefEqProofs only [↓eqD,eqU,eqV,eqW,vbuiltinQ,vlen,vslice,vindex,vstore,Array.toList,simprocAttr,lt6 hj,hji]) hb)).mono ?_
      rintro _ _ ⟨rfl, rfl⟩
      simp (maxSteps:=999999) -dsimp -implicitDefEqProofs only [↓eqD,eqU,eqV,eqW,vbuiltinQ,vlen,vslice,vindex,vstore,Array.toList,simprocAttr,FB,T31_ord,T31_ghost,SR_at,add_at,none_at,k47,o47,lt6 hid]
      refine ⟨(f', Ex.bin (op s2).1 (.mk k1 b1 m1' s1' t1 lo1 hi1 kids1) (.mk k2 b2 m2' s2' t2 lo2 hi2 kids2), s3), ⟨m4.2, ?_, a3⟩, by simp only; omega, .of ?_ (.over (hG.put hid (hu _)) ?_ ?_ ?_)⟩
      · have := m3.2.2 hop
        simp only at m4 ⊢
        omega
      · simp (maxSteps:=999999) -dsimp -implicitDefEqProofs only [↓eqD,eqU,eqV,eqW,vbuiltinQ,vlen,vslice,vindex,vstore,Array.toList,simprocAttr]
        (repeat' apply And.intro) <;> exact .refl _
      · simp (maxSteps:=999999) -dsimp -implicitDefEqProofs only [↓eqD,eqU,eqV,eqW,vbuiltinQ,vlen,vslice,vindex,vstore,Array.toList,simprocAttr]
      · simp (maxSteps:=999999) -dsimp -implicitDefEqProofs only [↓eqD,eqU,eqV,eqW,vbuiltinQ,vlen,vslice,vindex,vstore,Array.toList,simprocAttr,FB,lt6 hid,zeroE,Ex.cells,Ex.bin,exsC,List.append_nil]
      · intro j hj
        have hj : j < G.next := hj
        by_cases hji : j = id <;> simp (maxSteps:=999999) -dsimp -implicitDefEqProofs only [↓eqD,eqU,eqV,eqW,vbuiltinQ,vlen,vslice,vindex,vstore,Array.toList,simprocAttr,lt6 hj,hji,lt6 hid]
end Go.Vf
