/- Faults as trees: what they hold, by definition. No program is in sight. -/
import Derived.Lib.ItoaLen
namespace Go.Proofs.YthinjoldbjcifaaDoor.FltM
open Go Go.Lib

/-- a fault: a link with a code, a link that wraps a fault, two faults together -/
inductive T
  | leaf (op : List UInt8) (at_ code : Int)
  | wrap (op : List UInt8) (at_ : Int) (u : T)
  | both (a b : T)
def T.code : T → Int
  | .leaf _ _ c => c
  | .wrap _ _ u => u.code
  | .both a _ => a.code
def T.codes : T → List Int
  | .leaf _ _ c => [c]
  | .wrap _ _ u => u.codes
  | .both a b => a.codes ++ b.codes
def T.steps : T → List (List UInt8 × Int)
  | .leaf op at_ _ => [(op, at_)]
  | .wrap op at_ u => (op, at_) :: u.steps
  | .both a _ => a.steps
def headT (op : List UInt8) (at_ : Int) : List UInt8 := if 0 ≤ at_ then op ++ 32 :: itoa at_ else op
def T.text : T → List UInt8
  | .leaf op at_ c => headT op at_ ++ 61 :: itoa c
  | .wrap op at_ u => headT op at_ ++ 62 :: u.text
  | .both a b => 40 :: a.text ++ 124 :: b.text ++ [41]
/-- how many nodes: the measure of walks through it -/
def T.size : T → Nat
  | .leaf _ _ _ => 1
  | .wrap _ _ u => u.size + 1
  | .both a b => a.size + b.size + 1
/-- the class of a code -/
def classV (c : Int) : Int :=
  if c = 0 then 0 else if c = 60 ∨ c = 61 then 2 else if c = 2 ∨ c = 8 then 3 else if c = 6 ∨ c = 7 then 4 else if c = 20 ∨ c = 210 ∨ c = 211 ∨ c = 240 ∨ c = 270 ∨ c = 350 then 5 else 1
def T.has (t : T) (c : Int) : Bool := t.codes.any (· == c)
def T.of_ (t : T) (k : Int) : Bool := t.codes.any fun c => classV c == k
/-- numbers and texts of the sizes that the machine has; codes are not 0 -/
def Num (n : Int) : Prop := -9223372036854775808 ≤ n ∧ n ≤ 9223372036854775807
def T.fits : T → Prop
  | .leaf op at_ c => op.length ≤ 100 ∧ Num at_ ∧ Num c ∧ c ≠ 0
  | .wrap op at_ u => op.length ≤ 100 ∧ Num at_ ∧ u.fits
  | .both a b => a.fits ∧ b.fits
end Go.Proofs.YthinjoldbjcifaaDoor.FltM
