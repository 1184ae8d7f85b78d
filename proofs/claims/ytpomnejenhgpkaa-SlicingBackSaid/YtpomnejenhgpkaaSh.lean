/- The functions of the program as plain Lean functions, by wip/gen/gen.py.  Conditions: none, these are definitions. -/
import Derived.Test.YtpomnejenhgpkaaE1
set_option linter.unusedVariables false
namespace Go.Sh
open Go Go.Ev

def integer_Of.b0 (k : Nat) (rec : Int → (Bool × List Int) → List Int → Option ((Int × (Bool × List Int) × List Int) ⊕ (Bool × List Int))) (x0 : Int) (x40 : Bool × List Int) (x4 : List Int) : Option ((Int × (Bool × List Int) × List Int) ⊕ (Bool × List Int)) :=
  bif decide (0 < (x4.length : Int)) then (bif inR (w64 ((x4.length : Int) - 1)) (x4.length : Int) then (bif ((rd x4 (w64 ((x4.length : Int) - 1))) == 0) then (bif ((decide (0 ≤ 0) && decide (0 ≤ w64 ((x4.length : Int) - 1))) && decide (w64 ((x4.length : Int) - 1) ≤ (x4.length : Int))) then (rec x0 x40 (sub x4 0 ((w64 ((x4.length : Int) - 1)) - 0))) else none) else (some (.inl (x0, x40, x4)))) else none) else (some (.inl (x0, x40, x4)))
def integer_Of.l0 (k : Nat) : Nat → Int → (Bool × List Int) → List Int → Option ((Int × (Bool × List Int) × List Int) ⊕ (Bool × List Int))
  | 0 => fun _ _ _ => none
  | n + 1 => integer_Of.b0 k (integer_Of.l0 k n)
def integer_Of (k : Nat) (a0 : Int) : Option (Bool × List Int) :=
  joinB (α := Int × (Bool × List Int) × Int) (bif decide (a0 < 0) then (some (.inl (a0, (false, []), wu64 (0 - (wu64 (a0)))))) else (some (.inl (a0, (false, []), wu64 (a0))))) (fun z1 => joinB (α := Int × (Bool × List Int) × List Int) (integer_Of.l0 k k z1.1 z1.2.1 [wu32 (z1.2.2), wu32 (shrI .u64 z1.2.2 32)]) (fun y2 => some (decide (y2.1 < 0), y2.2.2)) some) some

def integer_Valid (a0 : Bool × List Int) : Option (Bool) :=
  bif decide ((a0.2.length : Int) ≤ 128) then (bif ((a0.2.length : Int) == 0) then (bif (!a0.1) then (some true) else (bif decide (0 < (a0.2.length : Int)) then (bif inR (w64 ((a0.2.length : Int) - 1)) (a0.2.length : Int) then (let c1 := ((rd a0.2 (w64 ((a0.2.length : Int) - 1))) != 0); some c1) else none) else (some false))) else (bif decide (0 < (a0.2.length : Int)) then (bif inR (w64 ((a0.2.length : Int) - 1)) (a0.2.length : Int) then (let c2 := ((rd a0.2 (w64 ((a0.2.length : Int) - 1))) != 0); some c2) else none) else (some false))) else (some false)

def slicing_part (a0 : Bool × List Int) (a1 : Bool) : Option (Bool) :=
  (integer_Valid a0).bind fun t1 => bif t1 then (bif a1 then (some true) else (some ((a0.2.length : Int) == 0))) else (some false)

def slicing_at (a0 : Int) (a1 : Int) : Option (Int × Int) :=
  some (a0, a1)

def slicing_Check (a0 : (Bool × List Int) × (Bool × List Int) × (Bool × List Int) × Bool × Bool × Bool) : Option (Int × Int) :=
  joinB (α := ((Bool × List Int) × (Bool × List Int) × (Bool × List Int) × Bool × Bool × Bool) × Int × Int) ((slicing_part a0.1 a0.2.2.2.1).bind fun t1 => bif (!t1) then ((slicing_at 6 (-1)).bind fun t2 => some (.inr t2)) else ((slicing_part a0.2.1 a0.2.2.2.2.1).bind fun t3 => bif (!t3) then ((slicing_at 6 (-1)).bind fun t4 => some (.inr t4)) else ((slicing_part a0.2.2.1 a0.2.2.2.2.2).bind fun t5 => bif (!t5) then ((slicing_at 6 (-1)).bind fun t6 => some (.inr t6)) else (some (.inl (a0, (0, 0))))))) (fun z7 => bif z7.1.2.2.2.2.2 then (bif ((z7.1.2.2.1.2.length : Int) == 0) then ((slicing_at 22 (-1)).bind fun t8 => some t8) else (some (0, 0))) else (some (0, 0))) some

def integer_at (a0 : Int) (a1 : Int) : Option (Int × Int) :=
  some (a0, a1)

def integer_check.b0 (k : Nat) (rec : (Int × Int) → (List (Bool × List Int)) → Int → Int → Option ((Int × Int) ⊕ (Int × Int))) (x22 : Int × Int) (x5 : List (Bool × List Int)) (x6 : Int) (x7 : Int) : Option ((Int × Int) ⊕ (Int × Int)) :=
  bif decide (x7 < x6) then (bif inR x7 (x5.length : Int) then ((integer_Valid (nth (.st (.pair (.bool) (.list (.int .u32)))) x5 x7)).bind fun t1 => bif (!t1) then ((integer_at 6 (w64 ((-1) - x7))).bind fun t2 => some (.inr t2)) else (rec x22 x5 x6 (w64 (x7 + 1)))) else none) else (some (.inl x22))
def integer_check.l0 (k : Nat) : Nat → (Int × Int) → (List (Bool × List Int)) → Int → Int → Option ((Int × Int) ⊕ (Int × Int))
  | 0 => fun _ _ _ _ => none
  | n + 1 => integer_check.b0 k (integer_check.l0 k n)
def integer_check (k : Nat) (a0 : List (Bool × List Int)) : Option (Int × Int) :=
  joinB (α := Int × Int) (integer_check.l0 k k (0, 0) a0 (a0.length : Int) 0) (fun y3 => some (0, 0)) some

def integer_Small.b0 (k : Nat) (rec : (Bool × List Int) → (Int × Int) → Int → List Int → Int → Int → Option (((Bool × List Int) × (Int × Int) × Int) ⊕ (Int × Int × Int))) (x50 : Bool × List Int) (x52 : Int × Int) (x5 : Int) (x17 : List Int) (x18 : Int) (x19 : Int) : Option (((Bool × List Int) × (Int × Int) × Int) ⊕ (Int × Int × Int)) :=
  bif decide (x19 < x18) then (bif inR x19 (x17.length : Int) then (bif decide (1 < x19) then ((integer_at 14 (-1)).bind fun t2 => some (.inr (0, t2))) else (bif decide (0 ≤ w64 (32 * x19)) then (let c3 := bitsOp .or .u64 x5 (shlI .u64 (wu64 (rd x17 x19)) (w64 (32 * x19))); rec x50 x52 c3 x17 x18 (w64 (x19 + 1))) else none)) else none) else (some (.inl (x50, x52, x5)))
def integer_Small.l0 (k : Nat) : Nat → (Bool × List Int) → (Int × Int) → Int → List Int → Int → Int → Option (((Bool × List Int) × (Int × Int) × Int) ⊕ (Int × Int × Int))
  | 0 => fun _ _ _ _ _ _ => none
  | n + 1 => integer_Small.b0 k (integer_Small.l0 k n)
def integer_Small (k : Nat) (a0 : Bool × List Int) : Option (Int × Int × Int) :=
  (integer_check k [a0]).bind fun t1 => bif (t1.1 != 0) then (some (0, t1)) else (joinB (α := (Bool × List Int) × (Int × Int) × Int) (integer_Small.l0 k k a0 (0, 0) 0 a0.2 (a0.2.length : Int) 0) (fun y4 => joinB (α := (Bool × List Int) × (Int × Int) × Int) (bif y4.1.1 then (some (.inl (y4.1, y4.2.1, w64 (0 - (w64 (y4.2.2)))))) else (some (.inl (y4.1, y4.2.1, w64 (y4.2.2))))) (fun z5 => bif (!((decide (z5.2.2 < 0)) == z5.1.1)) then ((integer_at 14 (-1)).bind fun t6 => some (0, t6)) else (some (z5.2.2, (0, 0)))) some) some)

def slicing_bounded (k : Nat) (a0 : Bool × List Int) (a1 : Int) (a2 : Int) : Option (Int) :=
  (integer_Small k a0).bind fun t1 => bif (t1.2.1 != 0) then (bif a0.1 then (some a1) else (bif (t1.2.1 != 0) then (some a2) else (some (mnI (mxI t1.1 a1) a2)))) else (bif (t1.2.1 != 0) then (some a2) else (some (mnI (mxI t1.1 a1) a2)))

def slicing_end (k : Nat) (a0 : Bool × List Int) (a1 : Int) (a2 : Int) (a3 : Int) : Option (Int) :=
  (slicing_bounded k a0 (w64 ((w64 (0 - a1)) - 1)) a1).bind fun t1 => bif decide (t1 < 0) then (let c2 := mnI (mxI (w64 (t1 + a1)) a2) a3; some c2) else (some (mnI (mxI t1 a2) a3))

def slicing_Resolve (k : Nat) (a0 : (Bool × List Int) × (Bool × List Int) × (Bool × List Int) × Bool × Bool × Bool) (a1 : Int) : Option (Int × Int × Int × Int × Int) :=
  (slicing_Check a0).bind fun t1 => bif (t1.1 != 0) then (some (0, 0, 0, t1)) else (joinB (α := Int × ((Bool × List Int) × (Bool × List Int) × (Bool × List Int) × Bool × Bool × Bool) × Int × Int) (bif decide (a1 < 0) then ((slicing_at 4 (-2)).bind fun t2 => some (.inr (0, 0, 0, t2))) else (bif decide (4000 < a1) then ((slicing_at 4 (-2)).bind fun t3 => some (.inr (0, 0, 0, t3))) else (some (.inl (a1, a0, (0, 0)))))) (fun z4 => joinB (α := Int × ((Bool × List Int) × (Bool × List Int) × (Bool × List Int) × Bool × Bool × Bool) × Int × Int × Int) (bif z4.2.1.2.2.2.2.2 then ((slicing_bounded k z4.2.1.2.2.1 (-10000) 10000).bind fun t5 => some (.inl (z4.1, z4.2.1, t5, z4.2.2))) else (some (.inl (z4.1, z4.2.1, 1, z4.2.2)))) (fun z6 => joinB (α := Int × ((Bool × List Int) × (Bool × List Int) × (Bool × List Int) × Bool × Bool × Bool) × Int × (Int × Int) × Int × Int) (bif decide (z6.2.2.1 < 0) then (some (.inl (z6.1, z6.2.1, z6.2.2.1, z6.2.2.2, (-1), w64 (z6.1 - 1)))) else (some (.inl (z6.1, z6.2.1, z6.2.2.1, z6.2.2.2, 0, z6.1)))) (fun z7 => joinB (α := Int × ((Bool × List Int) × (Bool × List Int) × (Bool × List Int) × Bool × Bool × Bool) × Int × Int × (Int × Int) × Int × Int × Int) (bif decide (z7.2.2.1 < 0) then (some (.inl (z7.1, z7.2.1, z7.2.2.2.2.2, z7.2.2.1, z7.2.2.2.1, z7.2.2.2.2.1, z7.2.2.2.2.2, z7.2.2.2.2.1))) else (some (.inl (z7.1, z7.2.1, z7.2.2.2.2.1, z7.2.2.1, z7.2.2.2.1, z7.2.2.2.2.1, z7.2.2.2.2.2, z7.2.2.2.2.2)))) (fun z8 => joinB (α := Int × ((Bool × List Int) × (Bool × List Int) × (Bool × List Int) × Bool × Bool × Bool) × Int × Int × (Int × Int) × Int × Int × Int) (bif z8.2.1.2.2.2.1 then ((slicing_end k z8.2.1.1 z8.1 z8.2.2.2.2.2.1 z8.2.2.2.2.2.2.1).bind fun t9 => some (.inl (z8.1, z8.2.1, t9, z8.2.2.2.1, z8.2.2.2.2.1, z8.2.2.2.2.2.1, z8.2.2.2.2.2.2.1, z8.2.2.2.2.2.2.2))) else (some (.inl (z8.1, z8.2.1, z8.2.2.1, z8.2.2.2.1, z8.2.2.2.2.1, z8.2.2.2.2.2.1, z8.2.2.2.2.2.2.1, z8.2.2.2.2.2.2.2)))) (fun z10 => joinB (α := Int × Int × (Int × Int) × Int) (bif z10.2.1.2.2.2.2.1 then ((slicing_end k z10.2.1.2.1 z10.1 z10.2.2.2.2.2.1 z10.2.2.2.2.2.2.1).bind fun t11 => some (.inl (z10.2.2.1, z10.2.2.2.1, z10.2.2.2.2.1, t11))) else (some (.inl (z10.2.2.1, z10.2.2.2.1, z10.2.2.2.2.1, z10.2.2.2.2.2.2.2)))) (fun z12 => bif decide (z12.2.1 < 0) then (bif !decide (w64 (0 - z12.2.1) = 0) then (let c13 := mxI 0 (w64 (Int.tdiv (w64 ((w64 ((w64 (z12.1 - z12.2.2.2)) - z12.2.1)) - 1)) (w64 (0 - z12.2.1)))); some (z12.1, z12.2.1, c13, (0, 0))) else none) else (bif !decide (z12.2.1 = 0) then (let c14 := mxI 0 (w64 (Int.tdiv (w64 ((w64 ((w64 (z12.2.2.2 - z12.1)) + z12.2.1)) - 1)) z12.2.1)); some (z12.1, z12.2.1, c14, (0, 0))) else none)) some) some) some) some) some) some)

def slices_Grow_intint_nd (a0 : Unit) (a1 : Int) : Option (List Int) :=
  bif decide (a1 < 0) then none else (bif decide (0 < w64 (a1 - 0)) then (bif ((decide (0 ≤ 0) && decide (0 ≤ 0)) && decide (0 ≤ 0)) then (bif (decide (0 ≤ w64 (a1 - 0)) && fitsB (List.replicate (Int.toNat (w64 (a1 - 0))) (0 : Int)).length 8) then (bif ((decide (0 ≤ 0) && decide (0 ≤ 0)) && decide (0 ≤ ((List.replicate (Int.toNat (w64 (a1 - 0))) (0 : Int)).length : Int))) then (some (sub (List.replicate (Int.toNat (w64 (a1 - 0))) (0 : Int)) 0 (0 - 0))) else none) else none) else none) else (some []))

def slices_Concat_intint.b1 (k : Nat) (rec : List Int → List (List Int) → Int → Int → Option ((List Int) ⊕ (List Int))) (x6 : List Int) (x25 : List (List Int)) (x26 : Int) (x27 : Int) : Option ((List Int) ⊕ (List Int)) :=
  bif decide (x27 < x26) then (bif inR x27 (x25.length : Int) then (bif fitsB (x6.length + (nth (.list (.int .i64)) x25 x27).length) 8 then (rec (x6 ++ (nth (.list (.int .i64)) x25 x27)) x25 x26 (w64 (x27 + 1))) else none) else none) else (some (.inl x6))
def slices_Concat_intint.l1 (k : Nat) : Nat → List Int → List (List Int) → Int → Int → Option ((List Int) ⊕ (List Int))
  | 0 => fun _ _ _ _ => none
  | n + 1 => slices_Concat_intint.b1 k (slices_Concat_intint.l1 k n)
def slices_Concat_intint.b0 (k : Nat) (rec : List (List Int) → Int → List (List Int) → Int → Int → Option ((List (List Int) × Int) ⊕ (List Int))) (x0 : List (List Int)) (x3 : Int) (x9 : List (List Int)) (x10 : Int) (x11 : Int) : Option ((List (List Int) × Int) ⊕ (List Int)) :=
  bif decide (x11 < x10) then (bif inR x11 (x9.length : Int) then (let c1 := w64 (x3 + ((nth (.list (.int .i64)) x9 x11).length : Int)); bif decide (c1 < 0) then none else (rec x0 c1 x9 x10 (w64 (x11 + 1)))) else none) else (some (.inl (x0, x3)))
def slices_Concat_intint.l0 (k : Nat) : Nat → List (List Int) → Int → List (List Int) → Int → Int → Option ((List (List Int) × Int) ⊕ (List Int))
  | 0 => fun _ _ _ _ _ => none
  | n + 1 => slices_Concat_intint.b0 k (slices_Concat_intint.l0 k n)
def slices_Concat_intint (k : Nat) (a0 : List (List Int)) : Option (List Int) :=
  joinB (α := List (List Int) × Int) (slices_Concat_intint.l0 k k a0 0 a0 (a0.length : Int) 0) (fun y2 => (slices_Grow_intint_nd () y2.2).bind fun t3 => joinB (α := List Int) (slices_Concat_intint.l1 k k t3 y2.1 (y2.1.length : Int) 0) (fun y4 => some y4) some) some

def slices_Clone_intint (a0 : List Int) : Option (List Int) := bif fitsB (0 + a0.length) 8 then some a0 else none

def slicing_Put_int.b0 (k : Nat) (rec : (Int × Int) → Int → Int → List Int → List Int → Int → Int → Option (((Int × Int) × List Int) ⊕ (List Int × Int × Int))) (x96 : Int × Int) (x10 : Int) (x11 : Int) (x14 : List Int) (x69 : List Int) (x70 : Int) (x71 : Int) : Option (((Int × Int) × List Int) ⊕ (List Int × Int × Int)) :=
  bif decide (x71 < x70) then (bif inR x71 (x69.length : Int) then (bif inR (w64 (x10 + (w64 (x71 * x11)))) (x14.length : Int) then (rec x96 x10 x11 (x14.set (Int.toNat (w64 (x10 + (w64 (x71 * x11))))) (rd x69 x71)) x69 x70 (w64 (x71 + 1))) else none) else none) else (some (.inl (x96, x14)))
def slicing_Put_int.l0 (k : Nat) : Nat → (Int × Int) → Int → Int → List Int → List Int → Int → Int → Option (((Int × Int) × List Int) ⊕ (List Int × Int × Int))
  | 0 => fun _ _ _ _ _ _ _ => none
  | n + 1 => slicing_Put_int.b0 k (slicing_Put_int.l0 k n)
def slicing_Put_int (k : Nat) (a0 : List Int) (a1 : (Bool × List Int) × (Bool × List Int) × (Bool × List Int) × Bool × Bool × Bool) (a2 : List Int) (a3 : Int) : Option (List Int × Int × Int) :=
  (slicing_Resolve k a1 (a0.length : Int)).bind fun t1 => bif (t1.2.2.2.1 != 0) then (some ([], t1.2.2.2)) else (joinB (α := List Int × List Int × Int × (Int × Int) × Int × Int × Int × Bool) (bif (t1.2.1 != 1) then (let c2 := ((a2.length : Int) != t1.2.2.1); some (.inl (a0, a2, a3, (0, 0), t1.1, t1.2.1, t1.2.2.1, c2))) else (some (.inl (a0, a2, a3, (0, 0), t1.1, t1.2.1, t1.2.2.1, false)))) (fun z3 => bif z3.2.2.2.2.2.2.2 then ((slicing_at 9 (-3)).bind fun t4 => some ([], t4)) else (let c5 := decide (z3.2.2.1 < w64 ((w64 ((z3.1.length : Int) - z3.2.2.2.2.2.2.1)) + (z3.2.1.length : Int))); bif c5 then ((slicing_at 14 (-1)).bind fun t6 => some ([], t6)) else (bif (z3.2.2.2.2.2.1 == 1) then (bif ((decide (0 ≤ 0) && decide (0 ≤ z3.2.2.2.2.1)) && decide (z3.2.2.2.2.1 ≤ (z3.1.length : Int))) then (bif ((decide (0 ≤ w64 (z3.2.2.2.2.1 + z3.2.2.2.2.2.2.1)) && decide (w64 (z3.2.2.2.2.1 + z3.2.2.2.2.2.2.1) ≤ (z3.1.length : Int))) && decide ((z3.1.length : Int) ≤ (z3.1.length : Int))) then ((slices_Concat_intint k [sub z3.1 0 (z3.2.2.2.2.1 - 0), z3.2.1, sub z3.1 (w64 (z3.2.2.2.2.1 + z3.2.2.2.2.2.2.1)) ((z3.1.length : Int) - (w64 (z3.2.2.2.2.1 + z3.2.2.2.2.2.2.1)))]).bind fun t7 => some (t7, (0, 0))) else none) else none) else ((slices_Clone_intint z3.1).bind fun t8 => joinB (α := (Int × Int) × List Int) (slicing_Put_int.l0 k k z3.2.2.2.1 z3.2.2.2.2.1 z3.2.2.2.2.2.1 t8 z3.2.1 (z3.2.1.length : Int) 0) (fun y9 => some (y9.2, (0, 0))) some)))) some)

def brindlewoodref3_Numbers.b0 (k : Nat) (rec : List Int → List Int → Int → Option ((Unit) ⊕ (Bool))) (x0 : List Int) (x1 : List Int) (x5 : Int) : Option ((Unit) ⊕ (Bool)) :=
  bif decide (x5 < (x0.length : Int)) then (bif inR x5 (x0.length : Int) then (bif inR x5 (x1.length : Int) then (bif ((rd x0 x5) != (rd x1 x5)) then (some (.inr false)) else (rec x0 x1 (w64 (x5 + 1)))) else none) else none) else (some (.inl ()))
def brindlewoodref3_Numbers.l0 (k : Nat) : Nat → List Int → List Int → Int → Option ((Unit) ⊕ (Bool))
  | 0 => fun _ _ _ => none
  | n + 1 => brindlewoodref3_Numbers.b0 k (brindlewoodref3_Numbers.l0 k n)
def brindlewoodref3_Numbers (k : Nat) (a0 : List Int) (a1 : List Int) : Option (Bool) :=
  bif ((a0.length : Int) != (a1.length : Int)) then (some false) else (joinB (α := Unit) (brindlewoodref3_Numbers.l0 k k a0 a1 0) (fun y1 => some true) some)

def brindlewoodlaw3_cuts (k : Nat)  : Option (Bool) :=
  (integer_Of k (-2)).bind fun t1 => (slicing_Resolve k ((false, []), (false, []), t1, false, false, true) 5).bind fun t2 => (integer_Of k 1).bind fun t3 => (slicing_Put_int k [1, 2, 3] (t3, (false, []), (false, []), true, true, false) [8, 9] 9).bind fun t4 => bif (t2.2.2.2.1 == 0) then (bif (t4.2.1 == 0) then (bif (t2.1 == 4) then (bif (t2.2.1 == (-2)) then (bif (t2.2.2.1 == 3) then ((brindlewoodref3_Numbers k t4.1 [1, 8, 9, 2, 3]).bind fun t5 => some t5) else (some false)) else (some false)) else (some false)) else (some false)) else (some false)

def slicing_Take_int.b0 (k : Nat) (rec : List Int → (Int × Int) → Int → Int → List Int → Int → Int → Option (((Int × Int) × List Int) ⊕ (List Int × Int × Int))) (x0 : List Int) (x48 : Int × Int) (x6 : Int) (x7 : Int) (x10 : List Int) (x25 : Int) (x26 : Int) : Option (((Int × Int) × List Int) ⊕ (List Int × Int × Int)) :=
  bif decide (x26 < x25) then (bif inR (w64 (x6 + (w64 (x26 * x7)))) (x0.length : Int) then (bif fitsB (x10.length + [rd x0 (w64 (x6 + (w64 (x26 * x7))))].length) 8 then (rec x0 x48 x6 x7 (x10 ++ [rd x0 (w64 (x6 + (w64 (x26 * x7))))]) x25 (w64 (x26 + 1))) else none) else none) else (some (.inl (x48, x10)))
def slicing_Take_int.l0 (k : Nat) : Nat → List Int → (Int × Int) → Int → Int → List Int → Int → Int → Option (((Int × Int) × List Int) ⊕ (List Int × Int × Int))
  | 0 => fun _ _ _ _ _ _ _ => none
  | n + 1 => slicing_Take_int.b0 k (slicing_Take_int.l0 k n)
def slicing_Take_int (k : Nat) (a0 : List Int) (a1 : (Bool × List Int) × (Bool × List Int) × (Bool × List Int) × Bool × Bool × Bool) : Option (List Int × Int × Int) :=
  (slicing_Resolve k a1 (a0.length : Int)).bind fun t1 => bif (t1.2.2.2.1 != 0) then (some ([], t1.2.2.2)) else (joinB (α := (Int × Int) × List Int) (slicing_Take_int.l0 k k a0 (0, 0) t1.1 t1.2.1 [] t1.2.2.1 0) (fun y2 => some (y2.2, (0, 0))) some)

def slicing_Drop_int.b1 (k : Nat) (rec : (Int × Int) → List Int → List Int → List Int → Int → Int → Option (((Int × Int) × List Int) ⊕ (List Int × Int × Int))) (x63 : Int × Int) (x10 : List Int) (x12 : List Int) (x40 : List Int) (x41 : Int) (x42 : Int) : Option (((Int × Int) × List Int) ⊕ (List Int × Int × Int)) :=
  bif decide (x42 < x41) then (bif inR x42 (x40.length : Int) then (bif (!(hasK x10 x42)) then (bif fitsB (x12.length + [rd x40 x42].length) 8 then (rec x63 x10 (x12 ++ [rd x40 x42]) x40 x41 (w64 (x42 + 1))) else none) else (rec x63 x10 x12 x40 x41 (w64 (x42 + 1)))) else none) else (some (.inl (x63, x12)))
def slicing_Drop_int.l1 (k : Nat) : Nat → (Int × Int) → List Int → List Int → List Int → Int → Int → Option (((Int × Int) × List Int) ⊕ (List Int × Int × Int))
  | 0 => fun _ _ _ _ _ _ => none
  | n + 1 => slicing_Drop_int.b1 k (slicing_Drop_int.l1 k n)
def slicing_Drop_int.b0 (k : Nat) (rec : List Int → (Int × Int) → Int → Int → List Int → Int → Int → Option ((List Int × (Int × Int) × List Int) ⊕ (List Int × Int × Int))) (x0 : List Int) (x63 : Int × Int) (x6 : Int) (x7 : Int) (x10 : List Int) (x29 : Int) (x30 : Int) : Option ((List Int × (Int × Int) × List Int) ⊕ (List Int × Int × Int)) :=
  bif decide (x30 < x29) then (rec x0 x63 x6 x7 (addK x10 (w64 (x6 + (w64 (x30 * x7))))) x29 (w64 (x30 + 1))) else (some (.inl (x0, x63, x10)))
def slicing_Drop_int.l0 (k : Nat) : Nat → List Int → (Int × Int) → Int → Int → List Int → Int → Int → Option ((List Int × (Int × Int) × List Int) ⊕ (List Int × Int × Int))
  | 0 => fun _ _ _ _ _ _ _ => none
  | n + 1 => slicing_Drop_int.b0 k (slicing_Drop_int.l0 k n)
def slicing_Drop_int (k : Nat) (a0 : List Int) (a1 : (Bool × List Int) × (Bool × List Int) × (Bool × List Int) × Bool × Bool × Bool) : Option (List Int × Int × Int) :=
  (slicing_Resolve k a1 (a0.length : Int)).bind fun t1 => bif (t1.2.2.2.1 != 0) then (some ([], t1.2.2.2)) else (joinB (α := List Int × (Int × Int) × List Int) (slicing_Drop_int.l0 k k a0 (0, 0) t1.1 t1.2.1 [] t1.2.2.1 0) (fun y2 => joinB (α := (Int × Int) × List Int) (slicing_Drop_int.l1 k k y2.2.1 y2.2.2 [] y2.1 (y2.1.length : Int) 0) (fun y3 => some (y3.2, (0, 0))) some) some)

def brindlewoodref3_At (a0 : Int) (a1 : Int) : Option (Int × Int) :=
  some (a0, a1)

def brindlewoodlaw3_SlicingBack (k : Nat) (a0 : List Int) (a1 : (Bool × List Int) × (Bool × List Int) × (Bool × List Int) × Bool × Bool × Bool) : Option (Bool) :=
  joinB (α := List Int × (Bool × List Int) × (Bool × List Int) × (Bool × List Int) × Bool × Bool × Bool) ((brindlewoodlaw3_cuts k).bind fun t1 => bif (!t1) then ((brindlewoodlaw3_cuts k).bind fun t2 => some (.inr t2)) else (bif decide (4000 < (a0.length : Int)) then ((brindlewoodlaw3_cuts k).bind fun t3 => some (.inr t3)) else (some (.inl (a0, a1))))) (fun z4 => (slicing_Take_int k z4.1 z4.2).bind fun t5 => (slicing_Put_int k z4.1 z4.2 t5.1 (z4.1.length : Int)).bind fun t6 => (slicing_Drop_int k z4.1 z4.2).bind fun t7 => bif (t5.2.1 != 0) then (bif ((t6.2.1 == t5.2.1) && ((t6.2.2 == t5.2.2) && true)) then (let c8 := ((t7.2.1 == t5.2.1) && ((t7.2.2 == t5.2.2) && true)); some c8) else (some false)) else ((slicing_Resolve k z4.2 (z4.1.length : Int)).bind fun t9 => joinB (α := List Int × ((Bool × List Int) × (Bool × List Int) × (Bool × List Int) × Bool × Bool × Bool) × List Int × Int × Int) (bif (t9.2.2.2.1 != 0) then (some (.inr false)) else (bif (t6.2.1 != 0) then (some (.inr false)) else (bif (t7.2.1 != 0) then (some (.inr false)) else ((brindlewoodref3_Numbers k t6.1 z4.1).bind fun t10 => bif (!t10) then (some (.inr false)) else (bif ((t5.1.length : Int) != t9.2.2.1) then (some (.inr false)) else (bif ((w64 ((t5.1.length : Int) + (t7.1.length : Int))) != (z4.1.length : Int)) then (some (.inr false)) else (some (.inl (z4.1, z4.2, t7.1, t9.2.1, t9.2.2.1))))))))) (fun z11 => (slicing_Put_int k z11.1 z11.2.1 [] (z11.1.length : Int)).bind fun t12 => bif (z11.2.2.2.1 == 1) then (bif (t12.2.1 == 0) then ((brindlewoodref3_Numbers k t12.1 z11.2.2.1).bind fun t13 => some t13) else (some false)) else (bif (z11.2.2.2.2 == 0) then (bif (t12.2.1 == 0) then ((brindlewoodref3_Numbers k t12.1 z11.1).bind fun t14 => bif t14 then (some true) else (bif decide (0 < z11.2.2.2.2) then ((brindlewoodref3_At 9 (-3)).bind fun t15 => let c16 := ((t12.2.1 == t15.1) && ((t12.2.2 == t15.2) && true)); some c16) else (some false))) else (bif decide (0 < z11.2.2.2.2) then ((brindlewoodref3_At 9 (-3)).bind fun t17 => let c18 := ((t12.2.1 == t17.1) && ((t12.2.2 == t17.2) && true)); some c18) else (some false))) else (bif decide (0 < z11.2.2.2.2) then ((brindlewoodref3_At 9 (-3)).bind fun t19 => let c20 := ((t12.2.1 == t19.1) && ((t12.2.2 == t19.2) && true)); some c20) else (some false)))) some)) some
end Go.Sh
