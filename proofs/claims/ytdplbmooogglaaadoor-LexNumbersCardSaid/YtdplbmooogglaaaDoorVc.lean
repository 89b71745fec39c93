/- The calculus: what each operation does to values, slots and the small heap. -/
import Derived.Test.YtdplbmooogglaaaDoorVb
set_option linter.unusedVariables false
set_option linter.unusedSimpArgs false
namespace Go.Vf
open Go.RowKit

/-! ### Slots -/
abbrev Env := Nat → V
def Env.put (E : Env) (d : Nat) (v : V) : Env := fun t => if t = d then v else E t
def Env.putO (E : Env) : Option Nat → V → Env
  | some d, v => E.put d v
  | none, _ => E
def Env.of : List (Nat × V) → Env
  | [] => fun _ => .top
  | (d, v) :: r => fun t => if t = d then v else Env.of r t
theorem Env.put_at (E : Env) (d : Nat) (v : V) (t : Nat) : E.put d v t = if t = d then v else E t := rfl
theorem Env.of_nil (t : Nat) : Env.of [] t = .top := rfl
theorem Env.of_cons (d : Nat) (v : V) (r : List (Nat × V)) (t : Nat) : Env.of ((d, v) :: r) t = if t = d then v else Env.of r t := rfl
theorem Env.putO_some (E : Env) (d : Nat) (v : V) : E.putO (some d) v = E.put d v := rfl
theorem Env.putO_none (E : Env) (v : V) : E.putO none v = E := rfl

def vconst1 : Value → V
  | .int k n => .int k n
  | .bool b => .bool b
  | .string s => .str s.data.toList
  | .pointer none => .nilptr
  | .slice none 0 0 => .nilsl
  | .map none => .nilmap
  | .nilFunc => .nilfunc
  | .nilIface => .niliface
  | _ => .top
def vconst : Value → V
  | .agg cs => .agg (cs.toList.map vconst1)
  | x => vconst1 x
def vev (E : Env) : Operand → V
  | .tmp t => E t
  | .const v => vconst v
  | .global _ => .top
  | .func f => .func (.func f) [] []

/-! ### What the program says of its types -/
def telem (P : Program) (t : TypeId) : Option TypeId := match P.underlying t with | some (.slice e) => some e | _ => none
def tagg (P : Program) (t : TypeId) : Option Bool := match P.underlying t with | some (.struct _) | some (.array _ _) => some true | some _ => some false | none => none
def tzero (P : Program) (t : TypeId) : Option (List V) := match P.info? t with | some i => i.zero.map fun z => z.cells.toList.map vconst1 | none => none
/-- A struct's field: where it begins, its cells, is it a struct or array. -/
def tfield (P : Program) (t : TypeId) (i : Nat) : Option (Nat × Nat × Bool) := match P.underlying t with
  | some (.struct fs) => match fs[i]? with
    | some f => match tagg P f.type with
      | some b => if (P.info? f.type).isSome then some (f.offset, P.cellsOf f.type, b) else none
      | none => none
    | none => none
  | _ => none

/-! ### Quiet operations: what must hold, and the value -/
def vite (t : Bool) : V → V → V
  | .bool x, .bool y => .bool (if t = true then x else y)
  | a, b => if t = true then a else b

def vflat : V → Option (List V)
  | .agg cs => some cs
  | .tup _ | .top => none
  | v => some [v]
def vsplice (cells : List V) (off : Nat) (vs : List V) : List V := cells.take off ++ vs ++ cells.drop (off + vs.length)
def vfill (place : Nat → Option (Nat × Nat)) (cells : List V) : List (Nat × V) → Option (List V)
  | [] => some cells
  | (i, v) :: rest => match place i, vflat v with
    | some (off, size), some vs => if vs.length = size ∧ off + vs.length ≤ cells.length then vfill place (vsplice cells off vs) rest else none
    | _, _ => none
/-- A struct type's zero cells. -/
def tstruct (P : Program) (t : TypeId) : Option (List V) := match P.underlying t with
  | some (.struct fs) => if fs.toList.all (fun f => (P.info? f.type).isSome) = true then tzero P t else none
  | _ => none
def tplaces (P : Program) (t : TypeId) (i : Nat) : Option (Nat × Nat) := (tfield P t i).map fun x => (x.1, x.2.1)
def vreps (n : Nat) (zero : List V) : List V := match n with | 0 => [] | n + 1 => zero ++ vreps n zero

def vbits (op : BinOp) (k : IntKind) (a b : Int) : Int :=
  let x := BitVec.ofInt k.bits a
  let y := BitVec.ofInt k.bits b
  match op with
  | .and => k.wrap (x &&& y).toNat
  | .or => k.wrap (x ||| y).toNat
  | .xor => k.wrap (x ^^^ y).toNat
  | _ => k.wrap (x &&& ~~~y).toNat
def strLess : List UInt8 → List UInt8 → Bool
  | _, [] => false
  | [], _ :: _ => true
  | a :: x, b :: y => a < b || (a == b && strLess x y)
/-- Are two plain values one? -/
def veq1 : V → V → Option Bool
  | .int k a, .int k' b => if k = k' then some (decide (a = b)) else none
  | .bool a, .bool b => some (decide (a = b))
  | .str a, .str b => some (decide (a = b))
  | _, _ => none
/-- Is a value of a tag: 0 bool, 1 int, 2 string? -/
def vtag : Nat → V → Bool
  | 0, .bool _ => true
  | 1, .int .. => true
  | 2, .str _ => true
  | _, _ => false
def veqK : List Nat → List V → List V → Option Bool
  | [], [], [] => some true
  | k :: ks, a :: x, b :: y => if vtag k a = true then match veq1 a b, veqK ks x y with
    | some p, some q => some (p && q)
    | _, _ => none else none
  | _, _, _ => none
def tkindsGo (P : Program) (g : TypeId → Option (List Nat)) : List Field → Nat → Option (List Nat)
  | [], _ => some []
  | f :: r, o => if f.name != "_" && f.offset == o then match g f.type, tkindsGo P g r (o + P.cellsOf f.type) with
    | some a, some b => if a.length = P.cellsOf f.type then some (a ++ b) else none
    | _, _ => none else none
/-- The tags of a type of ints, bools, strings, and structs of such. -/
def tkinds (P : Program) : Nat → TypeId → Option (List Nat)
  | 0, _ => none
  | d + 1, t => if (P.info? t).isSome then match P.underlying t with
    | some .bool => if P.cellsOf t = 1 then some [0] else none
    | some (.int _) => if P.cellsOf t = 1 then some [1] else none
    | some .string => if P.cellsOf t = 1 then some [2] else none
    | some (.struct fs) => if P.stoodInHeld t then none else tkindsGo P (tkinds P d) fs.toList 0
    | _ => none else none
def isConst : Operand → Bool | .const _ => true | _ => false
def veq (P : Program) (t : TypeId) (cx cy : Bool) : V → V → Option Bool
  | .agg a, .agg b => match tkinds P 8 t with | some ks => if tagg P t = some true then veqK ks a b else none | none => none
  | .nilptr, .nilptr => match P.underlying t with | some (.pointer _) => some true | _ => none
  | .nilptr, .ptr .. | .nilptr, .iptr .. | .ptr .., .nilptr | .iptr .., .nilptr => match P.underlying t with | some (.pointer _) => some false | _ => none
  | .niliface, .niliface => match P.underlying t with | some (.interface _) => if cx || cy then some true else none | _ => none
  | .niliface, .iface .. | .iface .., .niliface => match P.underlying t with | some (.interface _) => some false | _ => none
  | .nilfunc, .nilfunc => match P.underlying t with | some (.func ..) => some true | _ => none
  | .nilfunc, .func .. | .func .., .nilfunc => match P.underlying t with | some (.func ..) => some false | _ => none
  | .bool a, .bool b => match P.underlying t with | some .bool => some (decide (a = b)) | _ => none
  | _, _ => none

def vbin (P : Program) (op : BinOp) (t : TypeId) (cx cy : Bool) (a b : V) : Option (Prop × V) :=
  match op, a, b with
  | .shl, .int k x, .int _ y => some (0 ≤ y, .int k (k.wrap (x * 2 ^ (min y.toNat k.bits))))
  | .shr, .int k x, .int _ y => some (0 ≤ y, .int k (x.fdiv (2 ^ (min y.toNat k.bits))))
  | op, .int k x, .int k' y => if k = k' then match op with
    | .add => some (True, .int k (k.wrap (x + y)))
    | .sub => some (True, .int k (k.wrap (x - y)))
    | .mul => some (True, .int k (k.wrap (x * y)))
    | .quo => some (y ≠ 0, .int k (k.wrap (x.tdiv y)))
    | .rem => some (y ≠ 0, .int k (x.tmod y))
    | .and => some (True, .int k (vbits .and k x y))
    | .or => some (True, .int k (vbits .or k x y))
    | .xor => some (True, .int k (vbits .xor k x y))
    | .andNot => some (True, .int k (vbits .andNot k x y))
    | .eql => some (True, .bool (decide (x = y)))
    | .neq => some (True, .bool (decide (x ≠ y)))
    | .lss => some (True, .bool (decide (x < y)))
    | .leq => some (True, .bool (decide (x ≤ y)))
    | .gtr => some (True, .bool (decide (y < x)))
    | .geq => some (True, .bool (decide (y ≤ x)))
    | _ => none else none
  | op, .str x, .str y => match op with
    | .add => some (x.length + y.length ≤ 9223372036854775807, .str (x ++ y))
    | .eql => some (True, .bool (decide (x = y)))
    | .neq => some (True, .bool (decide (x ≠ y)))
    | .lss => some (True, .bool (strLess x y))
    | .leq => some (True, .bool (strLess x y || decide (x = y)))
    | .gtr => some (True, .bool (!(strLess x y || decide (x = y))))
    | .geq => some (True, .bool (!strLess x y))
    | _ => none
  | .eql, a, b => (veq P t cx cy a b).map fun r => (True, .bool r)
  | .neq, a, b => (veq P t cx cy a b).map fun r => (True, .bool (!r))
  | _, _, _ => none

def vun (op : UnOp) : V → Option (Prop × V)
  | .int k x => match op with
    | .neg => some (True, .int k (k.wrap (0 - x)))
    | .xor => some (True, .int k (vbits .xor k (if k.signed = true then -1 else k.max) x))
    | _ => none
  | .bool b => match op with
    | .not => some (True, .bool (!b))
    | _ => none
  | _ => none

def vbyte (b : UInt8) : V := .int .u8 (b.toNat : Int)
/-- The bytes that cells are. -/
def vbytes : List V → Option (List UInt8)
  | [] => some []
  | .int .u8 n :: r => (vbytes r).map fun l => UInt8.ofNat n.toNat :: l
  | _ :: _ => none
theorem vbytes_map (s : List UInt8) : vbytes (s.map vbyte) = some s := by
  induction s with
  | nil => rfl
  | cons c r ih =>
    simp only [List.map_cons, vbyte, vbytes, Int.toNat_natCast]
    rw [ih]
    simp

/-- Is it a type of bytes? -/
def tbyte (P : Program) (e : TypeId) : Bool := match P.underlying e with | some (.int .u8) => true | _ => false
def vconvert (P : Program) (src dst : TypeId) (G : Heap) : V → Option (Prop × V)
  | .int _ n => match P.underlying src, P.underlying dst with
    | some (.int _), some (.int k) => some (True, .int k (k.wrap n))
    | _, _ => none
  | .str s => match P.underlying src, P.underlying dst with
    | some .string, some .string => some (True, .str s)
    | some .string, some (.slice e) => if tbyte P e = true ∧ (P.info? e).isSome then some (True, .sl 1 s.length (s.map vbyte)) else none
    | _, _ => none
  | v => match P.underlying src, P.underlying dst with
    | some (.slice e), some .string => if tbyte P e = true then match v with
      | .nilsl => some (True, .str [])
      | .sl 1 n cells | .slc 1 n cells => (vbytes cells).map fun s => (True, .str s)
      | .arr 1 id g off n => match G.get id with
        | some (.cells g' cs) => if g = g' then (vbytes ((cs.drop off).take n)).map fun s => (off + n ≤ cs.length, .str s) else none
        | _ => none
      | _ => none else none
    | _, _ => none

/-- A bound that is given, or none. -/
def vlow : Option V → Option Int
  | none => some 0
  | some (.int _ i) => some i
  | _ => none
def vhigh (n : Nat) : Option V → Option Int
  | none => some n
  | some (.int _ i) => some i
  | _ => none
def vdrop {α : Type} (k : Nat) (lo : Option V) (l : List α) : List α := match lo with | some (.int _ i) => l.drop (i.toNat * k) | _ => l
def vtake {α : Type} (k : Nat) (hi : Option V) (l : List α) : List α := match hi with | some (.int _ i) => l.take (i.toNat * k) | _ => l
def vless (n : Nat) (lo hi : Option V) : Nat := match hi, lo with
  | some (.int _ h), some (.int _ l) => h.toNat - l.toNat
  | some (.int _ h), _ => h.toNat
  | _, some (.int _ l) => n - l.toNat
  | _, _ => n
def vslice (P : Program) (t : TypeId) (x : V) (lo hi mx : Option V) : Option (Prop × V) :=
  match x, mx with
  | .str s, none => match P.underlying t, vlow lo, vhigh s.length hi with
    | some .string, some l, some h => some (0 ≤ l ∧ l ≤ h ∧ h ≤ (s.length : Int), .str (vdrop 1 lo (vtake 1 hi s)))
    | _, _, _ => none
  | .nilsl, none => match telem P t, vlow lo, vhigh 0 hi with
    | some e, some l, some h => if (P.info? e).isSome then some (l = 0 ∧ h = 0, .nilsl) else none
    | _, _, _ => none
  | .sl sz n cells, mx => match telem P t, vlow lo, vhigh n hi, mx with
    | some e, some l, some h, none => if P.cellsOf e = sz ∧ (P.info? e).isSome ∧ 0 < sz then some (0 ≤ l ∧ l ≤ h ∧ h ≤ (n : Int), .sl sz (vless n lo hi) (vdrop sz lo (vtake sz hi cells))) else none
    | some e, some l, some h, some (.int _ m) => if P.cellsOf e = sz ∧ (P.info? e).isSome ∧ 0 < sz ∧ hi.isSome then some (0 ≤ l ∧ l ≤ h ∧ h ≤ (n : Int) ∧ m = h, .slc sz (vless n lo hi) (vdrop sz lo (vtake sz hi cells))) else none
    | _, _, _, _ => none
  | .slc sz n cells, mx => match telem P t, vlow lo, vhigh n hi, mx with
    | some e, some l, some h, none => if P.cellsOf e = sz ∧ (P.info? e).isSome ∧ 0 < sz then some (0 ≤ l ∧ l ≤ h ∧ h ≤ (n : Int), if hi.isNone then .slc sz (vless n lo hi) (vdrop sz lo cells) else .sl sz (vless n lo hi) (vdrop sz lo (vtake sz hi cells))) else none
    | some e, some l, some h, some (.int _ m) => if P.cellsOf e = sz ∧ (P.info? e).isSome ∧ 0 < sz ∧ hi.isSome then some (0 ≤ l ∧ l ≤ h ∧ h ≤ (n : Int) ∧ m = h, .slc sz (vless n lo hi) (vdrop sz lo (vtake sz hi cells))) else none
    | _, _, _, _ => none
  | .arr sz id g off n, none => match telem P t, vlow lo, vhigh n hi with
    | some e, some l, some h => if P.cellsOf e = sz ∧ (P.info? e).isSome ∧ 0 < sz then some (0 ≤ l ∧ l ≤ h ∧ h ≤ (n : Int) ∧ (l = 0 ∨ l < (n : Int)), .arr sz id g (off + l.toNat * sz) (vless n lo hi)) else none
    | _, _, _ => none
  | _, _ => none

/-- The cells of one element. -/
def velem (sz : Nat) (cells : List V) (i : Nat) : List V := (cells.drop (i * sz)).take sz
def vindexAddr (P : Program) (t : TypeId) (x i : V) : Option (Prop × V) :=
  match x, i with
  | .sl sz n cells, .int _ i | .slc sz n cells, .int _ i => match telem P t with
    | some e => if P.cellsOf e = sz ∧ (P.info? e).isSome ∧ 0 < sz then some (0 ≤ i ∧ i < (n : Int), .iptr (velem sz cells i.toNat) 0) else none
    | none => none
  | .arr sz id g off n, .int _ i => match telem P t with
    | some e => if P.cellsOf e = sz ∧ (P.info? e).isSome ∧ 0 < sz then some (0 ≤ i ∧ i < (n : Int), .ptr id g (off + i.toNat * sz)) else none
    | none => none
  | _, _ => none
def vindex (P : Program) (t : TypeId) (x i : V) : Option (Prop × V) :=
  match x, i, P.underlying t with
  | .str s, .int _ i, some .string => some (0 ≤ i ∧ i < (s.length : Int), vbyte (s.getD i.toNat 0))
  | _, _, _ => none

/-- Cells read as a value of a type. -/
def vread (P : Program) (t : TypeId) (cs : List V) (off : Nat) : Option (Prop × V) :=
  match tagg P t with
  | some true => if (P.info? t).isSome then some (off + P.cellsOf t ≤ cs.length, .agg ((cs.drop off).take (P.cellsOf t))) else none
  | some false => some (off < cs.length, cs.getD off .top)
  | none => none
def vload (P : Program) (t : TypeId) (G : Heap) : V → Option (Prop × V)
  | .ptr id g off => match G.get id with
    | some (.cells g' cs) => if g = g' then vread P t cs off else none
    | _ => none
  | .iptr cells off => vread P t cells off
  | _ => none
def vfield (P : Program) (t : TypeId) (f : Nat) : V → Option (Prop × V)
  | .agg cs => match tfield P t f with
    | some (off, sz, true) => some (off + sz ≤ cs.length, .agg ((cs.drop off).take sz))
    | some (off, _, false) => some (off < cs.length, cs.getD off .top)
    | none => none
  | _ => none
def vfieldAddr (P : Program) (t : TypeId) (f : Nat) : V → Option (Prop × V)
  | .ptr id g off => match tfield P t f with
    | some (o, sz, _) => if sz = 0 then none else some (True, .ptr id g (off + o))
    | none => none
  | .iptr cells off => match tfield P t f with
    | some (o, sz, _) => if sz = 0 then none else some (True, .iptr cells (off + o))
    | none => none
  | _ => none
def vlen (P : Program) (t : TypeId) (G : Heap) : V → Option (Prop × V)
  | .str s => match P.underlying t with | some .string => some (True, .int .i64 (s.length : Int)) | _ => none
  | v => match P.underlying t, v with
    | some (.slice _), .nilsl => some (True, .int .i64 0)
    | some (.slice _), .sl _ n _ | some (.slice _), .slc _ n _ | some (.slice _), .arr _ _ _ _ n => some (True, .int .i64 (n : Int))
    | some (.map _ _), .nilmap => some (True, .int .i64 0)
    | some (.map _ _), .map id => match G.get id with | some (.map es _) => some (True, .int .i64 (es.length : Int)) | _ => none
    | some (.chan _ _), .chan id => match G.get id with | some (.chan _ buf) => some (True, .int .i64 (buf.length : Int)) | _ => none
    | _, _ => none
def vmax2 : V → V → Option V
  | .int k x, .int k' y => if k = k' then some (.int k (if x < y then y else x)) else none
  | _, _ => none
def vmin2 : V → V → Option V
  | .int k x, .int k' y => if k = k' then some (.int k (if y < x then y else x)) else none
  | _, _ => none
def vfold (f : V → V → Option V) : V → List V → Option V
  | a, [] => some a
  | a, b :: r => (f a b).bind fun c => vfold f c r
def vextract (i : Nat) : V → Option (Prop × V)
  | .tup vs => match vs[i]? with | some v => some (True, v) | none => none
  | _ => none
def vbuiltinQ (P : Program) (b : Builtin) (ts : Array TypeId) (G : Heap) (args : List V) : Option (Prop × V) :=
  match b, ts.toList, args with
  | .len, t :: _, x :: _ => vlen P t G x
  | .max, _, x :: r => (vfold vmax2 x r).map fun v => (True, v)
  | .min, _, x :: r => (vfold vmin2 x r).map fun v => (True, v)
  | _, _, _ => none

/-- Quiet operations: they turn nothing. -/
def vq (P : Program) (E : Env) (G : Heap) : Op → Option (Prop × V)
  | .move x | .assign x => some (True, vev E x)
  | .pick c a b => match vev E c with
    | .bool t => some (True, vite t (vev E a) (vev E b))
    | _ => none
  | .build t parts => match tstruct P t with
    | some z => (vfill (tplaces P t) z (parts.toList.map fun p => (p.1, vev E p.2))).map fun cs => (True, .agg cs)
    | none => none
  | .buildSlice t len parts => match telem P t with
    | some e => match tzero P e with
      | some z => if len * P.cellsOf e ≤ 16777216 ∧ z.length = P.cellsOf e ∧ 0 < P.cellsOf e then
          (vfill (fun i => some (i * P.cellsOf e, P.cellsOf e)) (vreps len z) (parts.toList.map fun p => (p.1, vev E p.2))).bind fun cs =>
            if V.closedL cs = true then some (True, .slc (P.cellsOf e) len cs) else none
          else none
      | none => none
    | none => none
  | .load t a => vload P t G (vev E a)
  | .nilCheck x => match vev E x with
    | .ptr id g off => some (True, .ptr id g off)
    | .iptr cells off => some (True, .iptr cells off)
    | .func (.func f) a b => some (True, .func (.func f) a b)
    | _ => none
  | .binOp op t x y _ => vbin P op t (isConst x) (isConst y) (vev E x) (vev E y)
  | .unOp op _ x => vun op (vev E x)
  | .convert src dst x => vconvert P src dst G (vev E x)
  | .makeInterface t x => match P.underlying t with
    | some (.interface _) => none
    | some _ => some (True, .iface t (vev E x))
    | none => none
  | .makeFunc fn a b => some (True, .func fn (a.toList.map (vev E)) (b.toList.map (vev E)))
  | .slice t x lo hi mx => vslice P t (vev E x) (lo.map (vev E)) (hi.map (vev E)) (mx.map (vev E))
  | .fieldAddr t x f => vfieldAddr P t f (vev E x)
  | .field t x f => vfield P t f (vev E x)
  | .indexAddr t x i => vindexAddr P t (vev E x) (vev E i)
  | .index t x i => vindex P t (vev E x) (vev E i)
  | .extract x i => vextract i (vev E x)
  | .call { callee := .builtin b, args, argTypes } => vbuiltinQ P b argTypes G (args.toList.map (vev E))
  | _ => none
end Go.Vf
