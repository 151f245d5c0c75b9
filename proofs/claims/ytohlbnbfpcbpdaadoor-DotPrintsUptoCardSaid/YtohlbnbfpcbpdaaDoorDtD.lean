/- dot: what its functions come to, in plain Lean. -/
import Derived.Test.YtohlbnbfpcbpdaaDoorLxA
import Derived.Lib.IndexMore
set_option linter.unusedVariables false
set_option linter.unusedSimpArgs false
namespace Go.Proofs.YtohlbnbfpcbpdaaDoor.Dt
open Go Go.Proofs.YtohlbnbfpcbpdaaDoor.Lx

/-- An edge. -/
structure Ed where
  f : Int
  t : Int
  k : Int
  y : Int
deriving DecidableEq
def hd : List UInt8 := [100, 105, 103, 114, 97, 112, 104, 32, 104, 105, 115, 116, 111, 114, 121, 32, 123, 10]
def tl : List UInt8 := [125, 10]
def p1 : List UInt8 := [32, 32, 116]
def p2 : List UInt8 := [32, 45, 62, 32, 116]
def p3 : List UInt8 := [32, 91, 108, 97, 98, 101, 108, 61]
def p4 : List UInt8 := [93, 59]
def kw (b : Nat) : List UInt8 := [[115, 111], [114, 116], [119, 114], [119, 119], [114, 119]].getD b []
def bitOf (k : Int) : Option Nat := if k = 1 then some 0 else if k = 2 then some 1 else if k = 4 then some 2 else if k = 8 then some 3 else if k = 16 then some 4 else none
/-- A label's text. -/
def labR (names : List (List UInt8)) (b : Nat) (y : Int) : List UInt8 := kw b ++ if 0 ≤ y then 32 :: names.getD y.toNat [] else []
def fairE (names : List (List UInt8)) (e : Ed) : Prop := 0 ≤ e.f ∧ e.f < 64 ∧ 0 ≤ e.t ∧ e.t < 64 ∧ -1 ≤ e.y ∧ e.y < names.length
instance (names : List (List UInt8)) (e : Ed) : Decidable (fairE names e) := by unfold fairE; infer_instance
/-- A line without its end. -/
def lineX (names : List (List UInt8)) (e : Ed) (b : Nat) : List UInt8 := p1 ++ (Lib.itoa e.f ++ (p2 ++ (Lib.itoa e.t ++ (p3 ++ (quoteR (labR names b e.y) ++ p4)))))
def lineR (names : List (List UInt8)) (e : Ed) : Option (List UInt8) := match bitOf e.k with
  | none => none
  | some b => if fairE names e then some (lineX names e b ++ [10]) else none
def linesR (names : List (List UInt8)) : List Ed → Option (List UInt8)
  | [] => some []
  | e :: r => match lineR names e with
    | none => none
    | some x => (linesR names r).map fun o => x ++ o
/-- The error of the names. -/
def wrongR (names : List (List UInt8)) : Int := if names.Nodup then (if ∃ n ∈ names, 32 < n.length then 2 else 0) else 3
def printR (names : List (List UInt8)) (l : List Ed) : List UInt8 × Int :=
  if wrongR names = 0 then (if 262144 < l.length then ([], 1) else match linesR names l with
    | none => ([], 1)
    | some o => (hd ++ o ++ tl, 0))
  else ([], wrongR names)
end Go.Proofs.YtohlbnbfpcbpdaaDoor.Dt
