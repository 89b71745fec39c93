/- A part of the proof: Sg. -/
import Derived.Test.YtkcdhmplinjldaaGreatDoorPASb
set_option linter.unusedVariables false
set_option linter.unusedSimpArgs false
namespace Go.Vf
open Go.Proofs Go.RowKit
def Vl.m : Vl → Int | .mk _ _ m _ _ _ => m
def Vl.s : Vl → Int | .mk _ _ _ s _ _ => s
def Vl.t : Vl → List UInt8 | .mk _ _ _ _ t _ => t
def Vl.l : Vl → List Vl | .mk _ _ _ _ _ l => l
def areK (k : Int) : List Vl → Bool
  | [] => true
  | a :: r => decide (a.kind = k) && areK k r
def loB (lo : Bool) : List UInt8 := if lo = true then [62, 61] else [62]
def hiB (hi : Bool) : List UInt8 := if hi = true then [60, 61] else [60]
mutual
def holdsT (ev : Ex → Vl × Int) (v : Vl) : Te → Bool × Int
  | .mk k r a b lo hi ks =>
    if k = 1 then (true, 0)
    else if k = 2 then (decide ((ev a).2 = 0) && truthV (relV r v (ev a).1), (ev a).2)
    else if k = 3 then (if (ev a).2 ≠ 0 then (false, (ev a).2) else if (ev b).2 ≠ 0 then (false, (ev b).2) else (truthV (relV (loB lo) v (ev a).1) && truthV (relV (hiB hi) v (ev b).1), 0))
    else if k = 4 then (decide ((matchT ev v ks).2 = 0) && !(matchT ev v ks).1, (matchT ev v ks).2)
    else (false, 1)
def matchT (ev : Ex → Vl × Int) (v : Vl) : List Te → Bool × Int
  | [] => (false, 0)
  | t :: r => if (holdsT ev v t).1 = true ∨ (holdsT ev v t).2 ≠ 0 then holdsT ev v t else matchT ev v r
end
end Go.Vf
