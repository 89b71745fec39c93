/- A part of the proof: Vn. -/
import Derived.Test.YtkcdhmplinjldaaGreatDoorBAVm
set_option linter.unusedVariables false
set_option linter.unusedSimpArgs false
namespace Go.Vf
open Go.RowKit
section
variable {P : Program} {S : Specs} {T : Tab}
def vtest (P : Program) (S : Specs) (x : V) (d : Nat) (dst : Option Nat) (op : Op) (want : Bool) (E : Env) (G : Heap) (K : Env → Heap → Prop) : Prop :=
  match x with
  | .bool b => if b = want then vop P S (E.put d (.bool want)) G (fun v G' => K ((E.put d (.bool want)).putO dst v) G') op else K ((E.put d (.bool (!want))).putO dst (.tup [])) G
  | .tup [] => K (E.putO dst (.tup [])) G
  | _ => False
def vguard (P : Program) (S : Specs) (s : Option Nat) (dst : Option Nat) (op : Op) (want : Bool) (E : Env) (G : Heap) (K : Env → Heap → Prop) : Prop :=
  match s with
  | some d => vtest P S (E d) d dst op want E G K
  | none => False
theorem vstep_free {ops : Array Oper} {dst : Option Nat} {op : Op} {t : TypeId} {pos : String} {after : Array Edge} {E : Env} {G : Heap} {K : Env → Heap → Prop} :
    vstep P S ops { dst, op, type := t, pos, after, guard := none } E G K = vop P S E G (fun v G' => K (E.putO dst v) G') op := rfl
theorem vstep_guard {ops : Array Oper} {dst : Option Nat} {op : Op} {t : TypeId} {pos : String} {after : Array Edge} {j : Nat} {want : Bool} {E : Env} {G : Heap} {K : Env → Heap → Prop} :
    vstep P S ops { dst, op, type := t, pos, after, guard := some (j, want) } E G K = vguard P S (gslotL ops.toList j) dst op want E G (Held K .mk) := by
  rw [← gslot_eq]; rfl
theorem vguard_some {d : Nat} {dst : Option Nat} {op : Op} {want : Bool} {E : Env} {G : Heap} {K : Env → Heap → Prop} {h : Tag K} : vguard P S (some d) dst op want E G (Held K h) = vtest P S (E d) d dst op want E G (Held K h) := rfl
theorem vtest_bool {b : Bool} {d : Nat} {dst : Option Nat} {op : Op} {want : Bool} {E : Env} {G : Heap} {K : Env → Heap → Prop} {h : Tag K} :
    vtest P S (.bool b) d dst op want E G (Held K h) = if b = want then vop P S (E.put d (.bool want)) G (fun v G' => K ((E.put d (.bool want)).putO dst v) G') op else K ((E.put d (.bool (!want))).putO dst (.tup [])) G := rfl
theorem vtest_tup {d : Nat} {dst : Option Nat} {op : Op} {want : Bool} {E : Env} {G : Heap} {K : Env → Heap → Prop} {h : Tag K} : vtest P S (.tup []) d dst op want E G (Held K h) = K (E.putO dst (.tup [])) G := rfl
def vopQ (P : Program) (S : Specs) (E : Env) (G : Heap) (K : V → Heap → Prop) (op : Op) (q : Option (Prop × V)) : Prop :=
  match q with
  | some (p, v) => p ∧ K v G
  | none => vloud P S E G K op
theorem vop_q {E : Env} {G : Heap} {K : V → Heap → Prop} {op : Op} : vop P S E G K op = vopQ P S E G (Held K .mk) op (vq P E G op) := rfl
theorem vopQ_some {E : Env} {G : Heap} {K : V → Heap → Prop} {h : Tag K} {op : Op} {p : Prop} {v : V} : vopQ P S E G (Held K h) op (some (p, v)) = (p ∧ K v G) := rfl
theorem vopQ_none {E : Env} {G : Heap} {K : V → Heap → Prop} {h : Tag K} {op : Op} : vopQ P S E G (Held K h) op none = vloud P S E G K op := rfl
def vcallQ (P : Program) (fn : FuncId) (xs : List V) (G : Heap) (K : V → Heap → Prop) (q : Option (Prop × V × Heap)) : Prop :=
  match q with
  | some (p, v, G') => p ∧ K v G'
  | none => VCalls P fn xs G K
def vcallF (P : Program) (S : Specs) (f : V) (xs : List V) (G : Heap) (K : V → Heap → Prop) : Prop :=
  match f with
  | .func (.func fn) first captured => vcallQ P fn (first ++ xs ++ captured) G K (S fn (first ++ xs ++ captured) G)
  | _ => False
theorem vloud_call {E : Env} {G : Heap} {K : V → Heap → Prop} {f : Operand} {args : Array Operand} {ts : Array TypeId} : vloud P S E G K (.call { callee := .value f, args, argTypes := ts }) = vcallF P S (vev E f) (args.toList.map (vev E)) G (Held K .mk) := by
  unfold vloud
  simp only []
  generalize vev E f = x
  cases x with
  | func fn a b => cases fn <;> rfl
  | _ => rfl
theorem vcallF_func {fn : FuncId} {first captured xs : List V} {G : Heap} {K : V → Heap → Prop} {h : Tag K} : vcallF P S (.func (.func fn) first captured) xs G (Held K h) = vcallQ P fn (first ++ xs ++ captured) G (Held K h) (S fn (first ++ xs ++ captured) G) := rfl
theorem vcallQ_some {fn : FuncId} {xs : List V} {G : Heap} {K : V → Heap → Prop} {h : Tag K} {p : Prop} {v : V} {G' : Heap} : vcallQ P fn xs G (Held K h) (some (p, v, G')) = (p ∧ K v G') := rfl
theorem vcallQ_none {fn : FuncId} {xs : List V} {G : Heap} {K : V → Heap → Prop} {h : Tag K} : vcallQ P fn xs G (Held K h) none = VCalls P fn xs G (Held K h) := rfl
def vrunQ (E : Env) (G : Heap) (dst : Option Nat) (rd : Rd) (C : Env → Heap → Rd → Prop) (q : Option (Prop × V)) : Prop :=
  match q with
  | some (p, v) => p ∧ C (E.putO dst v) G rd
  | none => False
def vrunB (P : Program) (S : Specs) (U : Rd) (k : Nat) (op : Op) (dst : Option Nat) (E : Env) (G : Heap) (rd : Rd) (C : Env → Heap → Rd → Prop) (b : Bool) : Prop :=
  match b with
  | true => vrunQ E G dst (vnote U k E op rd) C (vq P E G op)
  | false => vloud P S E G (fun v G' => vsafe U k rd G G' ∧ C (E.putO dst v) G' rd) op
theorem vrun_b {U : Rd} {k : Nat} {op : Op} {dst : Option Nat} {E : Env} {G : Heap} {rd : Rd} {C : Env → Heap → Rd → Prop} : vrun P S U k op dst E G rd C = vrunB P S U k op dst E G rd (Held C .mk) (quietSyn op) := by
  unfold vrun vrunB vrunQ Held; cases quietSyn op <;> rfl
theorem vrunB_true {U : Rd} {k : Nat} {op : Op} {dst : Option Nat} {E : Env} {G : Heap} {rd : Rd} {C : Env → Heap → Rd → Prop} {h : Tag C} : vrunB P S U k op dst E G rd (Held C h) true = vrunQ E G dst (vnote U k E op rd) (Held C h) (vq P E G op) := rfl
theorem vrunB_false {U : Rd} {k : Nat} {op : Op} {dst : Option Nat} {E : Env} {G : Heap} {rd : Rd} {C : Env → Heap → Rd → Prop} {h : Tag C} : vrunB P S U k op dst E G rd (Held C h) false = vloud P S E G (fun v G' => vsafe U k rd G G' ∧ C (E.putO dst v) G' rd) op := rfl
theorem vrunQ_some {dst : Option Nat} {E : Env} {G : Heap} {rd : Rd} {C : Env → Heap → Rd → Prop} {h : Tag C} {p : Prop} {v : V} : vrunQ E G dst rd (Held C h) (some (p, v)) = (p ∧ C (E.putO dst v) G rd) := rfl
def vtestD (P : Program) (S : Specs) (U : Rd) (k : Nat) (x : V) (d : Nat) (dst : Option Nat) (op : Op) (want : Bool) (E : Env) (G : Heap) (rd : Rd) (C : Env → Heap → Rd → Prop) : Prop :=
  match x with
  | .bool b => if b = want then vrun P S U k op dst (E.put d (.bool want)) G rd C else C ((E.put d (.bool (!want))).putO dst (.tup [])) G rd
  | .tup [] => C (E.putO dst (.tup [])) G rd
  | _ => False
def vguardD (P : Program) (S : Specs) (U : Rd) (k : Nat) (s : Option Nat) (dst : Option Nat) (op : Op) (want : Bool) (E : Env) (G : Heap) (rd : Rd) (C : Env → Heap → Rd → Prop) : Prop :=
  match s with
  | some d => vtestD P S U k (E d) d dst op want E G rd C
  | none => False
theorem vstepD_free {ops : Array Oper} {U : Rd} {k : Nat} {dst : Option Nat} {op : Op} {t : TypeId} {pos : String} {after : Array Edge} {E : Env} {G : Heap} {rd : Rd} {C : Env → Heap → Rd → Prop} :
    vstepD P S ops U k { dst, op, type := t, pos, after, guard := none } E G rd C = vrun P S U k op dst E G rd C := rfl
theorem vstepD_guard {ops : Array Oper} {U : Rd} {k : Nat} {dst : Option Nat} {op : Op} {t : TypeId} {pos : String} {after : Array Edge} {j : Nat} {want : Bool} {E : Env} {G : Heap} {rd : Rd} {C : Env → Heap → Rd → Prop} :
    vstepD P S ops U k { dst, op, type := t, pos, after, guard := some (j, want) } E G rd C = vguardD P S U k (gslotL ops.toList j) dst op want E G rd (Held C .mk) := by
  rw [← gslot_eq]; rfl
theorem vguardD_some {U : Rd} {k : Nat} {d : Nat} {dst : Option Nat} {op : Op} {want : Bool} {E : Env} {G : Heap} {rd : Rd} {C : Env → Heap → Rd → Prop} {h : Tag C} : vguardD P S U k (some d) dst op want E G rd (Held C h) = vtestD P S U k (E d) d dst op want E G rd (Held C h) := rfl
theorem vtestD_bool {U : Rd} {k : Nat} {b : Bool} {d : Nat} {dst : Option Nat} {op : Op} {want : Bool} {E : Env} {G : Heap} {rd : Rd} {C : Env → Heap → Rd → Prop} {h : Tag C} :
    vtestD P S U k (.bool b) d dst op want E G rd (Held C h) = if b = want then vrun P S U k op dst (E.put d (.bool want)) G rd C else C ((E.put d (.bool (!want))).putO dst (.tup [])) G rd := rfl
theorem vtestD_tup {U : Rd} {k : Nat} {d : Nat} {dst : Option Nat} {op : Op} {want : Bool} {E : Env} {G : Heap} {rd : Rd} {C : Env → Heap → Rd → Prop} {h : Tag C} : vtestD P S U k (.tup []) d dst op want E G rd (Held C h) = C (E.putO dst (.tup [])) G rd := rfl
def nthL : List Oper → Nat → Option Oper
  | [], _ => none
  | o :: _, 0 => some o
  | _ :: r, k + 1 => nthL r k
theorem nthL_eq (l : List Oper) (k : Nat) : nthL l k = l[k]? := by
  induction l generalizing k with
  | nil => simp [nthL]
  | cons o r ih => cases k <;> simp [nthL, ih]
def rowsC (k : Nat) (o : Option Oper) (t : List (Nat × Oper)) : List (Nat × Oper) := match o with | some o => (k, o) :: t | none => t
theorem rowsC_some (k : Nat) (o : Oper) (t : List (Nat × Oper)) : rowsC k (some o) t = (k, o) :: t := rfl
def rowsL (l : List Oper) : List Nat → List (Nat × Oper)
  | [] => []
  | k :: r => rowsC k (nthL l k) (rowsL l r)
theorem rowsOf_eq (ops : Array Oper) (ord : List Nat) : rowsOf ops ord = rowsL ops.toList ord := by
  induction ord with
  | nil => rfl
  | cons k r ih => rw [rowsOf, rowsL, ih, nthL_eq, Array.getElem?_toList]; cases ops[k]? <;> rfl
theorem vregion_ordered {id : Nat} {ops : Array Oper} {Q : VPost} {E : Env} {G : Heap} : vregion P S T id ops false Q E G = vops P S ops ops.toList E G (Q .normal) := rfl
theorem vregion_drawn {id : Nat} {ops : Array Oper} {Q : VPost} {E : Env} {G : Heap} : vregion P S T id ops true Q E G = vopsD2 P S ops (T.ord id).2 (T.ord id).1 E G (Q .normal) (altOf (T.ord id).2) := rfl
theorem vopsD2_none {ops : Array Oper} {U : Rd} {ord : List Nat} {E : Env} {G : Heap} {K : Env → Heap → Prop} : vopsD2 P S ops U ord E G K none = vopsD P S ops U (rowsOf ops ord) E G [] K := rfl
theorem vopsD2_some {ops : Array Oper} {U : Rd} {ord : List Nat} {E : Env} {G : Heap} {K : Env → Heap → Prop} {L A : Nat} : vopsD2 P S ops U ord E G K (some (L, A)) = (vopsD P S ops U (rowsOf ops ord) E G [] K ∧ vopsD P S ops U (rowsOf ops (reord L A ord)) E G [] K) := rfl
theorem altOf_nil : altOf [] = none := rfl
theorem altOf_cons {a b : Nat} {r : Rd} : altOf ((a, b) :: r) = if 1000000 ≤ a then some (a - 1000000, b) else altOf r := rfl
theorem reord_nil {L A : Nat} : reord L A [] = [] := rfl
theorem reord_cons {L A k : Nat} {r : List Nat} : reord L A (k :: r) = if k = L then A :: L :: reord L A r else if k = A then reord L A r else k :: reord L A r := rfl
def vghost (P : Program) (S : Specs) (T : Tab) (b : Bool) (id : Nat) (ops : Array Oper) (draw : Bool) (Q : VPost) (E : Env) (G : Heap) : Prop :=
  match b with
  | true => ∃ E1 G1, Ghost E G E1 G1 ∧ vregion P S T id ops draw Q E1 G1
  | false => vregion P S T id ops draw Q E G
theorem vghost_false {id : Nat} {ops : Array Oper} {draw : Bool} {Q : VPost} {E : Env} {G : Heap} : vghost P S T false id ops draw Q E G = vregion P S T id ops draw Q E G := rfl
theorem vghost_true {id : Nat} {ops : Array Oper} {draw : Bool} {Q : VPost} {E : Env} {G : Heap} : vghost P S T true id ops draw Q E G = ∃ E1 G1, Ghost E G E1 G1 ∧ Held (vregion P S T id ops draw Q) .mk E1 G1 := rfl
def vcond (P : Program) (S : Specs) (T : Tab) (x : V) (c d : Code) (Q : VPost) (E : Env) (G : Heap) : Prop :=
  match x with
  | .bool t => if t = true then vwp P S T c Q E G else vwp P S T d Q E G
  | _ => False
theorem vcond_bool {t : Bool} {c d : Code} {Q : VPost} {E : Env} {G : Heap} : vcond P S T (.bool t) c d Q E G = if t = true then vwp P S T c Q E G else vwp P S T d Q E G := rfl
variable {Q : VPost} {E : Env} {G : Heap}
theorem vwp_skip : vwp P S T .skip Q E G = Q .normal E G := by rw [vwp]
theorem vwp_region {id : Nat} {ops : Array Oper} {draw : Bool} : vwp P S T (.region id ops draw) Q E G = vghost P S T (T.ghost id) id ops draw Q E G := by rw [vwp]; cases T.ghost id <;> rfl
theorem vwp_seq {x y : Code} : vwp P S T (.seq x y) Q E G = vwp P S T x (vthen (vwp P S T y Q) Q) E G := by rw [vwp]
theorem vwp_cond {c : Operand} {x y : Code} : vwp P S T (.cond c x y) Q E G = vcond P S T (vev E c) x y Q E G := by rw [vwp]; generalize vev E c = v; cases v <;> rfl
theorem vwp_block {id : Nat} {c : Code} : vwp P S T (.block id c) Q E G = vwp P S T c (vblock id Q) E G := by rw [vwp]
theorem vwp_loop {c : Code} : vwp P S T (.loop c) Q E G = vloop (Held (vwp P S T c) .mk) (Held Q .mk) E G := by rw [vwp]
theorem vwp_exit {id : Nat} : vwp P S T (.exit id) Q E G = Q (.exit id) E G := by rw [vwp]
theorem vwp_ret : vwp P S T .ret Q E G = Q .ret E G := by rw [vwp]
theorem vwp_label {s : Nat} : vwp P S T (.label s) Q E G = Q .normal E G := by rw [vwp]
def vallocK (G : Heap) (K : V → Heap → Prop) (z : Option (List V)) : Prop :=
  match z with
  | some z => V.scalarL z = true ∧ K (.ptr G.next 0 0) (G.alloc (.cells 0 z))
  | none => False
theorem vallocK_some {G : Heap} {K : V → Heap → Prop} {h : Tag K} {z : List V} : vallocK G (Held K h) (some z) = (V.scalarL z = true ∧ K (.ptr G.next 0 0) (G.alloc (.cells 0 z))) := rfl
section
variable {E : Env} {G : Heap} {K : V → Heap → Prop} {h : Tag K}
theorem vloud_makeMap {t : TypeId} : vloud P S E G K (.makeMap t none) = K (.map G.next) (G.alloc (.map [] 0)) := rfl
theorem vloud_lookup {t : TypeId} {x k : Operand} {ok : Bool} : vloud P S E G K (.lookup t x k ok) = vmapLook P G (Held K .mk) ok (vev E k) (P.underlying t) (vev E x) := rfl
theorem vloud_mapUpdate {t : TypeId} {m k x : Operand} : vloud P S E G K (.mapUpdate t m k x) = vmapTurn P G (Held K .mk) (vev E k) (vev E x) (P.underlying t) (vev E m) := rfl
def vlookB (P : Program) (G : Heap) (K : V → Heap → Prop) (ok : Bool) (k : V) (et : TypeId) : Option Blk → Option TypeDesc → Prop
  | some (.map es _), some d => vkind d k = true ∧ vkeys d es = true ∧ vlookK G K (vlooked ok (vzeroV P et) (vfind k es 0))
  | _, _ => False
theorem vmapLook_at {h : Tag K} {ok : Bool} {k : V} {kt et : TypeId} {id : Nat} : vmapLook P G (Held K h) ok k (some (.map kt et)) (.map id) = vlookB P G (Held K h) ok k et (G.get id) (P.underlying kt) := rfl
theorem vlookB_at {h : Tag K} {ok : Bool} {k : V} {et : TypeId} {es : List (V × V × Nat)} {c : Nat} {d : TypeDesc} : vlookB P G (Held K h) ok k et (some (.map es c)) (some d) = (vkind d k = true ∧ vkeys d es = true ∧ vlookK G (Held K h) (vlooked ok (vzeroV P et) (vfind k es 0))) := rfl
theorem vlookK_some {h : Tag K} {v : V} : vlookK G (Held K h) (some v) = K v G := rfl
theorem vlooked_some {ok : Bool} {z : Option V} {j : Nat} {v : V} : vlooked ok z (some (j, v)) = some (if ok = true then .tup [v, .bool true] else v) := rfl
theorem vlooked_none {ok : Bool} {z : V} : vlooked ok (some z) none = some (if ok = true then .tup [z, .bool false] else z) := rfl
def vturnB (P : Program) (G : Heap) (K : V → Heap → Prop) (k x : V) (id : Nat) : Option Blk → Option TypeDesc → Prop
  | some (.map es clock), some d => vkind d k = true ∧ vkeys d es = true ∧ K .top (G.put id (vupd k x clock es (vfind k es 0)))
  | _, _ => False
theorem vmapTurn_at {h : Tag K} {k x : V} {kt et : TypeId} {id : Nat} : vmapTurn P G (Held K h) k x (some (.map kt et)) (.map id) = vturnB P G (Held K h) k x id (G.get id) (P.underlying kt) := rfl
theorem vturnB_at {h : Tag K} {k x : V} {id : Nat} {es : List (V × V × Nat)} {c : Nat} {d : TypeDesc} : vturnB P G (Held K h) k x id (some (.map es c)) (some d) = (vkind d k = true ∧ vkeys d es = true ∧ K .top (G.put id (vupd k x c es (vfind k es 0)))) := rfl
theorem vkind_str {s : List UInt8} : vkind .string (.str s) = true := rfl
theorem vkind_int {k : IntKind} {n : Int} : vkind (.int k) (.int k n) = true := by simp [vkind]
theorem vloud_alloc {t : TypeId} : vloud P S E G K (.alloc t) = vallocK G (Held K .mk) (tzero P t) := rfl
theorem vloud_box {t : TypeId} {x : Operand} : vloud P S E G K (.box t x) = vallocK G (Held K .mk) (vflat (vev E x)) := rfl
def vbuildC (P : Program) (e : TypeId) (len : Nat) (G : Heap) (K : V → Heap → Prop) (cs : Option (List V)) : Prop :=
  match cs with
  | some cs => V.scalarL cs = true ∧ K (.arr (P.cellsOf e) G.next 0 0 len) (G.alloc (.cells 0 cs))
  | none => False
def vbuildZ (P : Program) (e : TypeId) (len : Nat) (ps : List (Nat × V)) (G : Heap) (K : V → Heap → Prop) (z : Option (List V)) : Prop :=
  match z with
  | some z => len * P.cellsOf e ≤ 16777216 ∧ z.length = P.cellsOf e ∧ 0 < P.cellsOf e ∧ vbuildC P e len G K (vfill (fun i => some (i * P.cellsOf e, P.cellsOf e)) (vreps len z) ps)
  | none => False
def vbuildE (P : Program) (e : Option TypeId) (len : Nat) (ps : List (Nat × V)) (G : Heap) (K : V → Heap → Prop) : Prop :=
  match e with
  | some e => vbuildZ P e len ps G K (tzero P e)
  | none => False
theorem vloud_buildSlice {t : TypeId} {len : Nat} {parts : Array (Nat × Operand)} : vloud P S E G K (.buildSlice t len parts) = vbuildE P (telem P t) len (parts.toList.map fun p => (p.1, vev E p.2)) G (Held K .mk) := rfl
theorem vbuildE_some {e : TypeId} {len : Nat} {ps : List (Nat × V)} : vbuildE P (some e) len ps G (Held K h) = vbuildZ P e len ps G (Held K h) (tzero P e) := rfl
theorem vbuildZ_some {e : TypeId} {len : Nat} {ps : List (Nat × V)} {z : List V} : vbuildZ P e len ps G (Held K h) (some z) = (len * P.cellsOf e ≤ 16777216 ∧ z.length = P.cellsOf e ∧ 0 < P.cellsOf e ∧ vbuildC P e len G (Held K h) (vfill (fun i => some (i * P.cellsOf e, P.cellsOf e)) (vreps len z) ps)) := rfl
theorem vbuildC_some {e : TypeId} {len : Nat} {cs : List V} : vbuildC P e len G (Held K h) (some cs) = (V.scalarL cs = true ∧ K (.arr (P.cellsOf e) G.next 0 0 len) (G.alloc (.cells 0 cs))) := rfl
def vstoreC (P : Program) (t : TypeId) (b : Option Blk) (id g off : Nat) (vs : List V) (G : Heap) (K : V → Heap → Prop) : Prop :=
  match b with
  | some (.cells g' cs) => g = g' ∧ vs.length = P.cellsOf t ∧ (P.info? t).isSome = true ∧ V.scalarL vs = true ∧ off + vs.length ≤ cs.length ∧ K .top (G.put id (.cells g (vsplice cs off vs)))
  | _ => False
def vstoreK (P : Program) (t : TypeId) (a : V) (vs : Option (List V)) (G : Heap) (K : V → Heap → Prop) : Prop :=
  match a, vs with
  | .ptr id g off, some vs => vstoreC P t (G.get id) id g off vs G K
  | _, _ => False
theorem vloud_store {t : TypeId} {a x : Operand} : vloud P S E G K (.store t a x) = vstoreK P t (vev E a) (vflat (vev E x)) G (Held K .mk) := by
  show vstore P t G (vev E a) (vev E x) K = _
  unfold vstore vstoreK
  generalize vev E a = p
  generalize vflat (vev E x) = q
  cases p with
  | ptr id g off => cases q with
    | none => rfl
    | some vs => show (match G.get id with | some (.cells g' cs) => _ | _ => _) = vstoreC ..; unfold vstoreC; cases G.get id with
      | none => rfl
      | some b => cases b <;> rfl
  | _ => rfl
theorem vstoreK_ptr {t : TypeId} {id g off : Nat} {vs : List V} : vstoreK P t (.ptr id g off) (some vs) G (Held K h) = vstoreC P t (G.get id) id g off vs G (Held K h) := rfl
theorem vstoreC_some {t : TypeId} {id g off g' : Nat} {vs cs : List V} : vstoreC P t (some (.cells g' cs)) id g off vs G (Held K h) = (g = g' ∧ vs.length = P.cellsOf t ∧ (P.info? t).isSome = true ∧ V.scalarL vs = true ∧ off + vs.length ≤ cs.length ∧ K .top (G.put id (.cells g (vsplice cs off vs)))) := rfl
def vmakeZ (P : Program) (e : TypeId) (l c : Int) (G : Heap) (K : V → Heap → Prop) (z : Option (List V)) : Prop :=
  match z with
  | some z => 0 ≤ l ∧ l ≤ c ∧ c ≤ 4611686018427387904 ∧ (P.bytesOf e : Int) * c ≤ 140737488355328 ∧ 0 < P.cellsOf e ∧ z.length = P.cellsOf e ∧ V.scalarL z = true ∧
        K (.arr (P.cellsOf e) G.next 0 0 l.toNat) (G.alloc (.cells 0 (vreps l.toNat z)))
  | none => False
def vmakeK (P : Program) (e : Option TypeId) (l c : V) (G : Heap) (K : V → Heap → Prop) : Prop :=
  match l, c, e with
  | .int _ l, .int _ c, some e => vmakeZ P e l c G K (tzero P e)
  | _, _, _ => False
theorem vloud_make {t : TypeId} {l c : Operand} : vloud P S E G K (.makeSlice t l c) = vmakeK P (telem P t) (vev E l) (vev E c) G (Held K .mk) := by
  show vmake P t G (vev E l) (vev E c) K = _
  unfold vmake vmakeK
  generalize vev E l = a
  generalize vev E c = b
  generalize telem P t = d
  cases a <;> cases b <;> cases d <;> rfl
theorem vmakeK_int {e : TypeId} {k k' : IntKind} {l c : Int} : vmakeK P (some e) (.int k l) (.int k' c) G (Held K h) = vmakeZ P e l c G (Held K h) (tzero P e) := rfl
theorem vmakeZ_some {e : TypeId} {l c : Int} {z : List V} : vmakeZ P e l c G (Held K h) (some z) = (0 ≤ l ∧ l ≤ c ∧ c ≤ 4611686018427387904 ∧ (P.bytesOf e : Int) * c ≤ 140737488355328 ∧ 0 < P.cellsOf e ∧ z.length = P.cellsOf e ∧ V.scalarL z = true ∧
        K (.arr (P.cellsOf e) G.next 0 0 l.toNat) (G.alloc (.cells 0 (vreps l.toNat z)))) := rfl
def vappC (P : Program) (e : TypeId) (b : Option Blk) (sz id g off n m : Nat) (new : List V) (G : Heap) (K : V → Heap → Prop) : Prop :=
  match b with
  | some (.cells g' cs) => sz = P.cellsOf e ∧ off = 0 ∧ g = g' ∧ cs.length = n * sz ∧ (n + m) * P.bytesOf e ≤ roomB ∧ K (.arr (P.cellsOf e) id (g + 1) 0 (n + m)) (G.put id (.cells (g + 1) (cs ++ new)))
  | _ => False
def vappS (P : Program) (e : TypeId) (s : V) (m : Nat) (new : List V) (G : Heap) (K : V → Heap → Prop) : Prop :=
  match s with
  | .nilsl => (m = 0 → K .nilsl G) ∧ (m ≠ 0 → m * P.bytesOf e ≤ roomB ∧ K (.arr (P.cellsOf e) G.next 0 0 m) (G.alloc (.cells 0 new)))
  | .slc sz n cells => sz = P.cellsOf e ∧ (m = 0 → K (.slc sz n cells) G) ∧ (m ≠ 0 → (n + m) * P.bytesOf e ≤ roomB ∧ K (.arr (P.cellsOf e) G.next 0 0 (n + m)) (G.alloc (.cells 0 (cells ++ new))))
  | .arr sz id g off n => vappC P e (G.get id) sz id g off n m new G K
  | _ => False
def vappR (P : Program) (e : TypeId) (s : V) (r : Option (Prop × Nat × List V)) (G : Heap) (K : V → Heap → Prop) : Prop :=
  match r with
  | some (p, m, new) => p ∧ tgrow P e = true ∧ vappS P e s m new G K
  | none => False
def vappT (P : Program) (e : Option TypeId) (b : Bool) (s x : V) (G : Heap) (K : V → Heap → Prop) : Prop :=
  match e, b with
  | some e, true => vappR P e s (vrow (P.cellsOf e) G x) G K
  | _, _ => False
theorem vloud_append {t t2 : TypeId} {s x : Operand} : vloud P S E G K (.call { callee := .builtin .append, args := #[s, x], argTypes := #[t, t2] }) = vappT P (telem P t) (tsrc P t2) (vev E s) (vev E x) G (Held K .mk) := by
  show vappend P [t, t2] G (vev E s) (vev E x) K = _
  unfold vappend vappT
  simp only []
  generalize telem P t = a
  generalize tsrc P t2 = b
  cases a with
  | none => rfl
  | some e =>
    cases b with
    | false => rfl
    | true =>
      simp only []
      unfold vappR
      cases vrow (P.cellsOf e) G (vev E x) with
      | none => rfl
      | some r =>
        obtain ⟨p, m, new⟩ := r
        simp only []
        unfold vappS
        cases vev E s with
        | arr sz id g off n => unfold vappC; simp only []; cases G.get id with
          | none => rfl
          | some b => cases b <;> rfl
        | _ => rfl
theorem vappT_some {e : TypeId} {s x : V} : vappT P (some e) true s x G (Held K h) = vappR P e s (vrow (P.cellsOf e) G x) G (Held K h) := rfl
theorem vappR_some {e : TypeId} {s : V} {p : Prop} {m : Nat} {new : List V} : vappR P e s (some (p, m, new)) G (Held K h) = (p ∧ tgrow P e = true ∧ vappS P e s m new G (Held K h)) := rfl
theorem vappS_nil {e : TypeId} {m : Nat} {new : List V} : vappS P e .nilsl m new G (Held K h) = ((m = 0 → K .nilsl G) ∧ (m ≠ 0 → m * P.bytesOf e ≤ roomB ∧ K (.arr (P.cellsOf e) G.next 0 0 m) (G.alloc (.cells 0 new)))) := rfl
theorem vappS_nil1 {e : TypeId} {m : Nat} {new : List V} : vappS P e .nilsl (m + 1) new G (Held K h) = ((m + 1) * P.bytesOf e ≤ roomB ∧ K (.arr (P.cellsOf e) G.next 0 0 (m + 1)) (G.alloc (.cells 0 new))) := by rw [vappS_nil]; simp
theorem vappS_slc {e : TypeId} {sz n m : Nat} {cells new : List V} : vappS P e (.slc sz n cells) m new G (Held K h) = (sz = P.cellsOf e ∧ (m = 0 → K (.slc sz n cells) G) ∧ (m ≠ 0 → (n + m) * P.bytesOf e ≤ roomB ∧ K (.arr (P.cellsOf e) G.next 0 0 (n + m)) (G.alloc (.cells 0 (cells ++ new))))) := rfl
theorem vappS_arr {e : TypeId} {sz id g off n m : Nat} {new : List V} : vappS P e (.arr sz id g off n) m new G (Held K h) = vappC P e (G.get id) sz id g off n m new G (Held K h) := rfl
theorem vappC_some {e : TypeId} {sz id g off n m g' : Nat} {cs new : List V} : vappC P e (some (.cells g' cs)) sz id g off n m new G (Held K h) = (sz = P.cellsOf e ∧ off = 0 ∧ g = g' ∧ cs.length = n * sz ∧ (n + m) * P.bytesOf e ≤ roomB ∧ K (.arr (P.cellsOf e) id (g + 1) 0 (n + m)) (G.put id (.cells (g + 1) (cs ++ new)))) := rfl
def vrangeK (u : Option TypeDesc) (x : V) (G : Heap) (K : V → Heap → Prop) : Prop :=
  match u, x with
  | some .string, .str s => K (.ptr G.next 0 0) (G.alloc (.iter s 0))
  | _, _ => False
theorem vloud_range {t : TypeId} {x : Operand} : vloud P S E G K (.range t x) = vrangeK (P.underlying t) (vev E x) G (Held K .mk) := by
  show vl P E G K (.range t x) = _
  unfold vl vrangeK
  simp only []
  generalize P.underlying t = u
  generalize vev E x = v
  cases u with
  | none => rfl
  | some u => cases u <;> cases v <;> rfl
theorem vrangeK_str {s : List UInt8} : vrangeK (some .string) (.str s) G (Held K h) = K (.ptr G.next 0 0) (G.alloc (.iter s 0)) := rfl
def vnextC (b : Option Blk) (id : Nat) (G : Heap) (K : V → Heap → Prop) : Prop :=
  match b with
  | some (.iter s pos) => if pos < s.length then K (.tup [.bool true, .int .i64 (pos : Int), .int .i32 ((vdecode s pos).1 : Int)]) (G.put id (.iter s (pos + (vdecode s pos).2))) else K (.tup [.bool false]) G
  | _ => False
def vnextK (x : V) (G : Heap) (K : V → Heap → Prop) : Prop :=
  match x with
  | .ptr id 0 0 => vnextC (G.get id) id G K
  | _ => False
theorem vloud_next {x : Operand} : vloud P S E G K (.next x true) = vnextK (vev E x) G (Held K .mk) := by
  show vl P E G K (.next x true) = _
  unfold vl vnextK
  simp only []
  generalize vev E x = v
  cases v with
  | ptr id g off => cases g with
    | zero => cases off with
      | zero => show (match G.get id with | some (.iter s pos) => _ | _ => _) = vnextC ..; unfold vnextC; cases G.get id with
        | none => rfl
        | some b => cases b <;> rfl
      | succ n => rfl
    | succ n => rfl
  | _ => rfl
theorem vnextK_ptr {id : Nat} : vnextK (.ptr id 0 0) G (Held K h) = vnextC (G.get id) id G (Held K h) := rfl
theorem vnextC_iter {s : List UInt8} {pos id : Nat} : vnextC (some (.iter s pos)) id G (Held K h) = if pos < s.length then K (.tup [.bool true, .int .i64 (pos : Int), .int .i32 ((vdecode s pos).1 : Int)]) (G.put id (.iter s (pos + (vdecode s pos).2))) else K (.tup [.bool false]) G := rfl
end
section
variable {E : Env} {G : Heap}
theorem vops_nil {ops : Array Oper} {K : Env → Heap → Prop} : vops P S ops [] E G K = K E G := by rw [vops]
theorem vops_cons {ops : Array Oper} {o : Oper} {r : List Oper} {K : Env → Heap → Prop} : vops P S ops (o :: r) E G K = vstep P S ops o E G fun E' G' => vops P S ops r E' G' K := by rw [vops]
theorem vopsD_nil {ops : Array Oper} {U : Rd} {rd : Rd} {K : Env → Heap → Prop} : vopsD P S ops U [] E G rd K = K E G := by rw [vopsD]
theorem vopsD_cons {ops : Array Oper} {U : Rd} {rd : Rd} {k : Nat} {o : Oper} {r : List (Nat × Oper)} {K : Env → Heap → Prop} : vopsD P S ops U ((k, o) :: r) E G rd K = vstepD P S ops U k o E G rd fun E' G' rd' => vopsD P S ops U r E' G' rd' K := by rw [vopsD]
theorem vthen_normal {next : Env → Heap → Prop} {Q : VPost} : vthen next Q .normal E G = next E G := rfl
theorem vthen_exit {next : Env → Heap → Prop} {Q : VPost} {id : Nat} : vthen next Q (.exit id) E G = Q (.exit id) E G := rfl
theorem vthen_ret {next : Env → Heap → Prop} {Q : VPost} : vthen next Q .ret E G = Q .ret E G := rfl
theorem vblock_normal {id : Nat} {Q : VPost} : vblock id Q .normal E G = Q .normal E G := rfl
theorem vblock_exit {id id' : Nat} {Q : VPost} : vblock id Q (.exit id') E G = if id' = id then Q .normal E G else Q (.exit id') E G := rfl
theorem vblock_ret {id : Nat} {Q : VPost} : vblock id Q .ret E G = Q .ret E G := rfl
theorem vexit_normal {id : Nat} {M : Env → Heap → Prop} {Q : VPost} : vexit id M Q .normal E G = Q .normal E G := rfl
theorem vexit_exit {id id' : Nat} {M : Env → Heap → Prop} {Q : VPost} : vexit id M Q (.exit id') E G = if id' = id then M E G else Q (.exit id') E G := rfl
theorem vexit_ret {id : Nat} {M : Env → Heap → Prop} {Q : VPost} : vexit id M Q .ret E G = Q .ret E G := rfl
def vpostK (n0 : Nat) (R : V → Heap → Prop) (G : Heap) (q : Option (Prop × List V)) : Prop :=
  match q with
  | some (p, vs) => p ∧ VDone n0 (vone vs) G R
  | none => False
theorem vpost_ret {rs : List ResultVar} {n0 : Nat} {R : V → Heap → Prop} : vpost P rs n0 R .ret E G = vpostK n0 (Held R .mk) G (vresL P E G rs) := rfl
theorem vpost_normal {rs : List ResultVar} {n0 : Nat} {R : V → Heap → Prop} : vpost P rs n0 R .normal E G = vpostK n0 (Held R .mk) G (vresL P E G rs) := rfl
theorem vpostK_some {n0 : Nat} {R : V → Heap → Prop} {h : Tag R} {p : Prop} {vs : List V} : vpostK n0 (Held R h) G (some (p, vs)) = (p ∧ VDone n0 (vone vs) G R) := rfl
def fnB (P : Program) (S : Specs) (T : Tab) (Q : List ResultVar → VPost) (E : Env) (G : Heap) (rs : Array ResultVar) (b : Option Code) : Prop :=
  match b with
  | some c => vwp P S T c (Q rs.toList) E G
  | none => False
theorem fnWp_some {f : FuncId} {fn : Func} {Q : List ResultVar → VPost} (h : P.funcs[f]? = some fn) : fnWp P S f T Q E G = fnB P S T Q E G fn.results fn.body := by
  unfold fnWp fnB; rw [h]; rfl
theorem fnB_some {rs : Array ResultVar} {c : Code} {Q : List ResultVar → VPost} : fnB P S T Q E G rs (some c) = vwp P S T c (Q rs.toList) E G := rfl
theorem keeps_nil : keeps E [] = True := rfl
theorem keeps_cons {t : Nat} {v : V} {r : List (Nat × V)} : keeps E ((t, v) :: r) = (VLe (E t) v ∧ keeps E r) := rfl
theorem tells_nil : tells G [] = True := rfl
theorem tells_cons {i : Nat} {b : Blk} {l : List (Nat × Blk)} : tells G ((i, b) :: l) = (G.get i = some b ∧ tells G l) := rfl
end
end
end Go.Vf
