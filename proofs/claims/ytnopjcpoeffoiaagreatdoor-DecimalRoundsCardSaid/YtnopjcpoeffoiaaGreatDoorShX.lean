/- Functions that the general texts name and this law's program does not reach.  Conditions: none, these are definitions. -/
import Derived.Test.YtnopjcpoeffoiaaGreatDoorSh
set_option linter.unusedVariables false
namespace Go.Sh
open Go Go.Ev

def natural_Gcd.b0 (k : Nat) (rec : List Int → List Int → (Int × Int) → Option ((List Int × Int × Int) ⊕ (List Int × Int × Int))) (x0 : List Int) (x1 : List Int) (x37 : Int × Int) : Option ((List Int × Int × Int) ⊕ (List Int × Int × Int)) :=
  bif decide (0 < (x1.length : Int)) then ((natural_divMod k x0 x1).bind fun t3 => (slices_Clone_uint32uint32 x1).bind fun t4 => rec t4 t3.2 x37) else (some (.inl (x0, x37)))
def natural_Gcd.l0 (k : Nat) : Nat → List Int → List Int → (Int × Int) → Option ((List Int × Int × Int) ⊕ (List Int × Int × Int))
  | 0 => fun _ _ _ => none
  | n + 1 => natural_Gcd.b0 k (natural_Gcd.l0 k n)
def natural_Gcd (k : Nat) (a0 : List Int) (a1 : List Int) : Option (List Int × Int × Int) :=
  (natural_check a0 a1).bind fun t1 => bif (t1.1 != 0) then (some ([], t1)) else ((slices_Clone_uint32uint32 a0).bind fun t2 => joinB (α := List Int × Int × Int) (natural_Gcd.l0 k k t2 a1 (0, 0)) (fun y5 => some (y5.1, (0, 0))) some)

def brindlewoodref3_Common.b1 (k : Nat) (rec : Int → List Int → Option ((List Int) ⊕ (List Int))) (x5 : Int) (x6 : List Int) : Option ((List Int) ⊕ (List Int)) :=
  bif decide (0 < x5) then ((brindlewoodref3_Double k x6 false).bind fun t13 => rec (w64 (x5 - 1)) t13) else (some (.inl x6))
def brindlewoodref3_Common.l1 (k : Nat) : Nat → Int → List Int → Option ((List Int) ⊕ (List Int))
  | 0 => fun _ _ => none
  | n + 1 => brindlewoodref3_Common.b1 k (brindlewoodref3_Common.l1 k n)
def brindlewoodref3_Common.b0 (k : Nat) (rec : List Int → List Int → Int → Option ((List Int × List Int × Int) ⊕ (List Int))) (x0 : List Int) (x1 : List Int) (x5 : Int) : Option ((List Int × List Int × Int) ⊕ (List Int)) :=
  bif decide (0 < (x0.length : Int)) then (bif decide (0 < (x1.length : Int)) then (joinB (α := List Int × List Int × Int × List Int × Int × Bool × Bool) (bif inR 0 (x0.length : Int) then (bif ((Int.tmod (rd x0 0) 2) == 0) then (bif inR 0 (x1.length : Int) then (some (.inl (x0, x1, x5, x1, (x1.length : Int), decide (0 < (x1.length : Int)), ((Int.tmod (rd x1 0) 2) == 0)))) else none) else (some (.inl (x0, x1, x5, x1, (x1.length : Int), decide (0 < (x1.length : Int)), false)))) else none) (fun z1 => bif z1.2.2.2.2.2.2 then ((brindlewoodref3_Halve k z1.1 2).bind fun t2 => (brindlewoodref3_Halve k z1.2.1 2).bind fun t3 => rec t2.1 t3.1 (w64 (z1.2.2.1 + 1))) else (bif inR 0 (z1.1.length : Int) then (let c4 := ((Int.tmod (rd z1.1 0) 2) == 0); bif c4 then ((brindlewoodref3_Halve k z1.1 2).bind fun t5 => rec t5.1 z1.2.1 z1.2.2.1) else (bif inR 0 (z1.2.1.length : Int) then (let c6 := ((Int.tmod (rd z1.2.1 0) 2) == 0); bif c6 then ((brindlewoodref3_Halve k z1.2.1 2).bind fun t7 => rec z1.1 t7.1 z1.2.2.1) else ((brindlewoodref3_Compare k z1.1 z1.2.1).bind fun t8 => bif decide (0 ≤ t8) then ((brindlewoodref3_Minus k z1.1 z1.2.1).bind fun t9 => rec t9 z1.2.1 z1.2.2.1) else ((brindlewoodref3_Minus k z1.2.1 z1.1).bind fun t10 => rec z1.1 t10 z1.2.2.1))) else none)) else none)) (fun r => some (.inr r))) else (some (.inl (x0, x1, x5)))) else (some (.inl (x0, x1, x5)))
def brindlewoodref3_Common.l0 (k : Nat) : Nat → List Int → List Int → Int → Option ((List Int × List Int × Int) ⊕ (List Int))
  | 0 => fun _ _ _ => none
  | n + 1 => brindlewoodref3_Common.b0 k (brindlewoodref3_Common.l0 k n)
def brindlewoodref3_Common (k : Nat) (a0 : List Int) (a1 : List Int) : Option (List Int) :=
  joinB (α := List Int × List Int × Int) (brindlewoodref3_Common.l0 k k a0 a1 0) (fun y11 => (brindlewoodref3_Plus k y11.1 y11.2.1).bind fun t12 => joinB (α := List Int) (brindlewoodref3_Common.l1 k k y11.2.2 t12) (fun y14 => some y14) some) some

def natural_Bits (a0 : List Int) : Option (Int × Int × Int) :=
  (natural_Valid a0).bind fun t1 => bif (!t1) then ((natural_at 6 (-1)).bind fun t2 => some (0, t2)) else (bif ((a0.length : Int) == 0) then (some (0, (0, 0))) else (bif inR (w64 ((a0.length : Int) - 1)) (a0.length : Int) then ((bits_Len32 (rd a0 (w64 ((a0.length : Int) - 1)))).bind fun t3 => let c4 := w64 ((w64 (32 * (w64 ((a0.length : Int) - 1)))) + t3); some (c4, (0, 0))) else none))

def natural_Sqrt.b0 (k : Nat) (rec : List Int → (Int × Int) → List Int → Option ((Unit) ⊕ (List Int × Int × Int))) (x0 : List Int) (x48 : Int × Int) (x6 : List Int) : Option ((Unit) ⊕ (List Int × Int × Int)) :=
  (natural_divMod k x0 x6).bind fun t4 => (natural_add k x6 t4.1).bind fun t5 => (natural_right k t5 1).bind fun t6 => (natural_compare k t6 x6).bind fun t7 => bif decide (0 ≤ t7) then (some (.inr (x6, (0, 0)))) else (rec x0 x48 t6)
def natural_Sqrt.l0 (k : Nat) : Nat → List Int → (Int × Int) → List Int → Option ((Unit) ⊕ (List Int × Int × Int))
  | 0 => fun _ _ _ => none
  | n + 1 => natural_Sqrt.b0 k (natural_Sqrt.l0 k n)
def natural_Sqrt (k : Nat) (a0 : List Int) : Option (List Int × Int × Int) :=
  (natural_Bits a0).bind fun t1 => joinB (α := List Int × (Int × Int) × Int) (bif (t1.2.1 != 0) then (some (.inr ([], t1.2))) else (bif (t1.1 == 0) then (some (.inr ([], t1.2))) else (some (.inl (a0, (0, 0), t1.1))))) (fun z2 => (natural_left k [1] (w64 (Int.tdiv (w64 (z2.2.2 + 1)) 2))).bind fun t3 => joinB (α := Unit) (natural_Sqrt.l0 k k z2.1 z2.2.1 t3) (fun _ => none) some) some

def brindlewoodref3_Root.b0 (k : Nat) (rec : List Int → List Bool → Int → Option ((List Bool) ⊕ (List Int))) (x0 : List Int) (x4 : List Bool) (x5 : Int) : Option ((List Bool) ⊕ (List Int)) :=
  bif decide (0 ≤ x5) then (bif inR x5 (x4.length : Int) then ((brindlewoodref3_Binary k (x4.set (Int.toNat x5) true)).bind fun t3 => (brindlewoodref3_Times k t3 t3).bind fun t4 => (brindlewoodref3_Compare k t4 x0).bind fun t5 => bif decide (0 < t5) then (bif inR x5 ((x4.set (Int.toNat x5) true).length : Int) then (rec x0 ((x4.set (Int.toNat x5) true).set (Int.toNat x5) false) (w64 (x5 - 1))) else none) else (rec x0 (x4.set (Int.toNat x5) true) (w64 (x5 - 1)))) else none) else (some (.inl x4))
def brindlewoodref3_Root.l0 (k : Nat) : Nat → List Int → List Bool → Int → Option ((List Bool) ⊕ (List Int))
  | 0 => fun _ _ _ => none
  | n + 1 => brindlewoodref3_Root.b0 k (brindlewoodref3_Root.l0 k n)
def brindlewoodref3_Root (k : Nat) (a0 : List Int) : Option (List Int) :=
  (brindlewoodref3_Ones k a0).bind fun t1 => let c2 := w64 (Int.tdiv (w64 ((t1.length : Int) + 1)) 2); bif ((decide (0 ≤ c2) && decide (c2 ≤ c2)) && fitsB (Int.toNat c2) 1) then (joinB (α := List Bool) (brindlewoodref3_Root.l0 k k a0 (List.replicate (Int.toNat c2) (false : Bool)) (w64 (c2 - 1))) (fun y6 => (brindlewoodref3_Binary k y6).bind fun t7 => some t7) some) else none

def brindlewoodref3_Number.b0 (k : Nat) (rec : Int → (Bool × List Int) → List Bool → Bool → Option (((Bool × List Int) × List Bool × Bool) ⊕ (Bool × List Int))) (x0 : Int) (x23 : Bool × List Int) (x3 : List Bool) (x4 : Bool) : Option (((Bool × List Int) × List Bool × Bool) ⊕ (Bool × List Int)) :=
  bif (x0 != 0) then (bif fitsB (x3.length + [((Int.tmod x0 2) != 0)].length) 1 then (rec (w64 (Int.tdiv x0 2)) x23 (x3 ++ [((Int.tmod x0 2) != 0)]) x4) else none) else (some (.inl (x23, x3, x4)))
def brindlewoodref3_Number.l0 (k : Nat) : Nat → Int → (Bool × List Int) → List Bool → Bool → Option (((Bool × List Int) × List Bool × Bool) ⊕ (Bool × List Int))
  | 0 => fun _ _ _ _ => none
  | n + 1 => brindlewoodref3_Number.b0 k (brindlewoodref3_Number.l0 k n)
def brindlewoodref3_Number (k : Nat) (a0 : Int) : Option (Bool × List Int) :=
  joinB (α := (Bool × List Int) × List Bool × Bool) (brindlewoodref3_Number.l0 k k a0 (false, []) [] (decide (a0 < 0))) (fun y1 => (brindlewoodref3_Binary k y1.2.1).bind fun t2 => some (y1.2.2, t2)) some

def integer_Of.b0 (k : Nat) (rec : Int → (Bool × List Int) → List Int → Option ((Int × (Bool × List Int) × List Int) ⊕ (Bool × List Int))) (x0 : Int) (x40 : Bool × List Int) (x4 : List Int) : Option ((Int × (Bool × List Int) × List Int) ⊕ (Bool × List Int)) :=
  bif decide (0 < (x4.length : Int)) then (bif inR (w64 ((x4.length : Int) - 1)) (x4.length : Int) then (bif ((rd x4 (w64 ((x4.length : Int) - 1))) == 0) then (bif ((decide (0 ≤ 0) && decide (0 ≤ w64 ((x4.length : Int) - 1))) && decide (w64 ((x4.length : Int) - 1) ≤ (x4.length : Int))) then (rec x0 x40 (sub x4 0 ((w64 ((x4.length : Int) - 1)) - 0))) else none) else (some (.inl (x0, x40, x4)))) else none) else (some (.inl (x0, x40, x4)))
def integer_Of.l0 (k : Nat) : Nat → Int → (Bool × List Int) → List Int → Option ((Int × (Bool × List Int) × List Int) ⊕ (Bool × List Int))
  | 0 => fun _ _ _ => none
  | n + 1 => integer_Of.b0 k (integer_Of.l0 k n)
def integer_Of (k : Nat) (a0 : Int) : Option (Bool × List Int) :=
  joinB (α := Int × (Bool × List Int) × Int) (bif decide (a0 < 0) then (some (.inl (a0, (false, []), wu64 (0 - (wu64 (a0)))))) else (some (.inl (a0, (false, []), wu64 (a0))))) (fun z1 => joinB (α := Int × (Bool × List Int) × List Int) (integer_Of.l0 k k z1.1 z1.2.1 [wu32 (z1.2.2), wu32 (shrI .u64 z1.2.2 32)]) (fun y2 => some (decide (y2.1 < 0), y2.2.2)) some) some

def brindlewoodref3_Faults.b0 (k : Nat) (rec : (List (Bool × List Int)) → (Int × Int) → Int → Option ((Int × Int) ⊕ (Int × Int))) (x0 : List (Bool × List Int)) (x22 : Int × Int) (x3 : Int) : Option ((Int × Int) ⊕ (Int × Int)) :=
  bif decide (x3 < (x0.length : Int)) then (bif inR x3 (x0.length : Int) then ((brindlewoodref3_IntOk (nth (.st (.pair (.bool) (.list (.int .u32)))) x0 x3)).bind fun t1 => bif (!t1) then ((brindlewoodref3_At 6 (w64 ((-1) - x3))).bind fun t2 => some (.inr t2)) else (rec x0 x22 (w64 (x3 + 1)))) else none) else (some (.inl x22))
def brindlewoodref3_Faults.l0 (k : Nat) : Nat → (List (Bool × List Int)) → (Int × Int) → Int → Option ((Int × Int) ⊕ (Int × Int))
  | 0 => fun _ _ _ => none
  | n + 1 => brindlewoodref3_Faults.b0 k (brindlewoodref3_Faults.l0 k n)
def brindlewoodref3_Faults (k : Nat) (a0 : List (Bool × List Int)) : Option (Int × Int) :=
  joinB (α := Int × Int) (brindlewoodref3_Faults.l0 k k a0 (0, 0) 0) (fun y3 => some (0, 0)) some

def brindlewoodref3_Read.b0 (k : Nat) (rec : List Int → Int → List Int → Int → Option ((List Int) ⊕ (List Int))) (x0 : List Int) (x1 : Int) (x5 : List Int) (x6 : Int) : Option ((List Int) ⊕ (List Int)) :=
  bif decide (x6 < (x0.length : Int)) then ((brindlewoodref3_Small k x1).bind fun t1 => (brindlewoodref3_Times k x5 t1).bind fun t2 => bif inR x6 (x0.length : Int) then ((brindlewoodref3_Small k (rd x0 x6)).bind fun t3 => (brindlewoodref3_Plus k t2 t3).bind fun t4 => rec x0 x1 t4 (w64 (x6 + 1))) else none) else (some (.inl x5))
def brindlewoodref3_Read.l0 (k : Nat) : Nat → List Int → Int → List Int → Int → Option ((List Int) ⊕ (List Int))
  | 0 => fun _ _ _ _ => none
  | n + 1 => brindlewoodref3_Read.b0 k (brindlewoodref3_Read.l0 k n)
def brindlewoodref3_Read (k : Nat) (a0 : List Int) (a1 : Int) : Option (List Int) :=
  joinB (α := List Int) (brindlewoodref3_Read.l0 k k a0 a1 [] 0) (fun y5 => some y5) some

end Go.Sh
