/- Functions that the general texts name and this law's program does not reach.  Conditions: none, these are definitions. -/
import Derived.Test.YtjdambgnmphakaaSh
set_option linter.unusedVariables false
namespace Go.Sh
open Go Go.Ev

def brindlewoodref3_In.b0 (k : Nat) (rec : List Int → Int → Int → Option ((Unit) ⊕ (Bool))) (x0 : List Int) (x1 : Int) (x5 : Int) : Option ((Unit) ⊕ (Bool)) :=
  bif decide (x5 < (x0.length : Int)) then (bif inR x5 (x0.length : Int) then (bif ((rd x0 x5) == x1) then (some (.inr true)) else (rec x0 x1 (w64 (x5 + 1)))) else none) else (some (.inl ()))
def brindlewoodref3_In.l0 (k : Nat) : Nat → List Int → Int → Int → Option ((Unit) ⊕ (Bool))
  | 0 => fun _ _ _ => none
  | n + 1 => brindlewoodref3_In.b0 k (brindlewoodref3_In.l0 k n)
def brindlewoodref3_In (k : Nat) (a0 : List Int) (a1 : Int) : Option (Bool) :=
  joinB (α := Unit) (brindlewoodref3_In.l0 k k a0 a1 0) (fun y1 => some false) some

def brindlewoodref3_Numbers.b0 (k : Nat) (rec : List Int → List Int → Int → Option ((Unit) ⊕ (Bool))) (x0 : List Int) (x1 : List Int) (x5 : Int) : Option ((Unit) ⊕ (Bool)) :=
  bif decide (x5 < (x0.length : Int)) then (bif inR x5 (x0.length : Int) then (bif inR x5 (x1.length : Int) then (bif ((rd x0 x5) != (rd x1 x5)) then (some (.inr false)) else (rec x0 x1 (w64 (x5 + 1)))) else none) else none) else (some (.inl ()))
def brindlewoodref3_Numbers.l0 (k : Nat) : Nat → List Int → List Int → Int → Option ((Unit) ⊕ (Bool))
  | 0 => fun _ _ _ => none
  | n + 1 => brindlewoodref3_Numbers.b0 k (brindlewoodref3_Numbers.l0 k n)
def brindlewoodref3_Numbers (k : Nat) (a0 : List Int) (a1 : List Int) : Option (Bool) :=
  bif ((a0.length : Int) != (a1.length : Int)) then (some false) else (joinB (α := Unit) (brindlewoodref3_Numbers.l0 k k a0 a1 0) (fun y1 => some true) some)
end Go.Sh
