/- The functions of the program as plain Lean functions, by wip/gen/gen.py.  Conditions: none, these are definitions. -/
import Derived.Test.YtjodgimhfafecaaE1
set_option linter.unusedVariables false
namespace Go.Sh
open Go Go.Ev

def integer_Valid (a0 : Bool × List Int) : Option (Bool) :=
  bif decide ((a0.2.length : Int) ≤ 128) then (bif ((a0.2.length : Int) == 0) then (bif (!a0.1) then (some true) else (bif decide (0 < (a0.2.length : Int)) then (bif inR (w64 ((a0.2.length : Int) - 1)) (a0.2.length : Int) then (let c1 := ((rd a0.2 (w64 ((a0.2.length : Int) - 1))) != 0); some c1) else none) else (some false))) else (bif decide (0 < (a0.2.length : Int)) then (bif inR (w64 ((a0.2.length : Int) - 1)) (a0.2.length : Int) then (let c2 := ((rd a0.2 (w64 ((a0.2.length : Int) - 1))) != 0); some c2) else none) else (some false))) else (some false)

def ranges_fits (a0 : Bool × List Int) : Option (Bool) :=
  (integer_Valid a0).bind fun t1 => bif t1 then (let c2 := decide ((a0.2.length : Int) ≤ 40); some c2) else (some false)

def ranges_Valid (a0 : (Bool × List Int) × (Bool × List Int) × Bool × List Int) : Option (Bool) :=
  (ranges_fits a0.1).bind fun t1 => bif t1 then ((ranges_fits a0.2.1).bind fun t2 => bif t2 then ((ranges_fits a0.2.2).bind fun t3 => bif t3 then (let c4 := decide (0 < (a0.2.2.2.length : Int)); some c4) else (some false)) else (some false)) else (some false)

def ranges_at (a0 : Int) (a1 : Int) : Option (Int × Int) :=
  some (a0, a1)

def ranges_check.b0 (k : Nat) (rec : (Int × Int) → (List ((Bool × List Int) × (Bool × List Int) × Bool × List Int)) → Int → Int → Option ((Int × Int) ⊕ (Int × Int))) (x22 : Int × Int) (x5 : List ((Bool × List Int) × (Bool × List Int) × Bool × List Int)) (x6 : Int) (x7 : Int) : Option ((Int × Int) ⊕ (Int × Int)) :=
  bif decide (x7 < x6) then (bif inR x7 (x5.length : Int) then ((ranges_Valid (((nth (.st (.pair (.st (.pair (.bool) (.list (.int .u32)))) (.pair (.st (.pair (.bool) (.list (.int .u32)))) (.st (.pair (.bool) (.list (.int .u32))))))) x5 x7).1), (((nth (.st (.pair (.st (.pair (.bool) (.list (.int .u32)))) (.pair (.st (.pair (.bool) (.list (.int .u32)))) (.st (.pair (.bool) (.list (.int .u32))))))) x5 x7).2).1), (((nth (.st (.pair (.st (.pair (.bool) (.list (.int .u32)))) (.pair (.st (.pair (.bool) (.list (.int .u32)))) (.st (.pair (.bool) (.list (.int .u32))))))) x5 x7).2).2))).bind fun t1 => bif (!t1) then ((ranges_at 6 (w64 ((-1) - x7))).bind fun t2 => some (.inr t2)) else (rec x22 x5 x6 (w64 (x7 + 1)))) else none) else (some (.inl x22))
def ranges_check.l0 (k : Nat) : Nat → (Int × Int) → (List ((Bool × List Int) × (Bool × List Int) × Bool × List Int)) → Int → Int → Option ((Int × Int) ⊕ (Int × Int))
  | 0 => fun _ _ _ _ => none
  | n + 1 => ranges_check.b0 k (ranges_check.l0 k n)
def ranges_check (k : Nat) (a0 : List ((Bool × List Int) × (Bool × List Int) × Bool × List Int)) : Option (Int × Int) :=
  joinB (α := Int × Int) (ranges_check.l0 k k (0, 0) a0 (a0.length : Int) 0) (fun y3 => some (0, 0)) some

def integer_Of.b0 (k : Nat) (rec : Int → (Bool × List Int) → List Int → Option ((Int × (Bool × List Int) × List Int) ⊕ (Bool × List Int))) (x0 : Int) (x40 : Bool × List Int) (x4 : List Int) : Option ((Int × (Bool × List Int) × List Int) ⊕ (Bool × List Int)) :=
  bif decide (0 < (x4.length : Int)) then (bif inR (w64 ((x4.length : Int) - 1)) (x4.length : Int) then (bif ((rd x4 (w64 ((x4.length : Int) - 1))) == 0) then (bif ((decide (0 ≤ 0) && decide (0 ≤ w64 ((x4.length : Int) - 1))) && decide (w64 ((x4.length : Int) - 1) ≤ (x4.length : Int))) then (rec x0 x40 (sub x4 0 ((w64 ((x4.length : Int) - 1)) - 0))) else none) else (some (.inl (x0, x40, x4)))) else none) else (some (.inl (x0, x40, x4)))
def integer_Of.l0 (k : Nat) : Nat → Int → (Bool × List Int) → List Int → Option ((Int × (Bool × List Int) × List Int) ⊕ (Bool × List Int))
  | 0 => fun _ _ _ => none
  | n + 1 => integer_Of.b0 k (integer_Of.l0 k n)
def integer_Of (k : Nat) (a0 : Int) : Option (Bool × List Int) :=
  joinB (α := Int × (Bool × List Int) × Int) (bif decide (a0 < 0) then (some (.inl (a0, (false, []), wu64 (0 - (wu64 (a0)))))) else (some (.inl (a0, (false, []), wu64 (a0))))) (fun z1 => joinB (α := Int × (Bool × List Int) × List Int) (integer_Of.l0 k k z1.1 z1.2.1 [wu32 (z1.2.2), wu32 (shrI .u64 z1.2.2 32)]) (fun y2 => some (decide (y2.1 < 0), y2.2.2)) some) some

def ranges_sign (k : Nat) (a0 : (Bool × List Int) × (Bool × List Int) × Bool × List Int) : Option (Bool × List Int) :=
  bif a0.2.2.1 then ((integer_Of k (-1)).bind fun t1 => some t1) else ((integer_Of k 1).bind fun t2 => some t2)

def integer_at (a0 : Int) (a1 : Int) : Option (Int × Int) :=
  some (a0, a1)

def integer_check.b0 (k : Nat) (rec : (Int × Int) → (List (Bool × List Int)) → Int → Int → Option ((Int × Int) ⊕ (Int × Int))) (x22 : Int × Int) (x5 : List (Bool × List Int)) (x6 : Int) (x7 : Int) : Option ((Int × Int) ⊕ (Int × Int)) :=
  bif decide (x7 < x6) then (bif inR x7 (x5.length : Int) then ((integer_Valid (nth (.st (.pair (.bool) (.list (.int .u32)))) x5 x7)).bind fun t1 => bif (!t1) then ((integer_at 6 (w64 ((-1) - x7))).bind fun t2 => some (.inr t2)) else (rec x22 x5 x6 (w64 (x7 + 1)))) else none) else (some (.inl x22))
def integer_check.l0 (k : Nat) : Nat → (Int × Int) → (List (Bool × List Int)) → Int → Int → Option ((Int × Int) ⊕ (Int × Int))
  | 0 => fun _ _ _ _ => none
  | n + 1 => integer_check.b0 k (integer_check.l0 k n)
def integer_check (k : Nat) (a0 : List (Bool × List Int)) : Option (Int × Int) :=
  joinB (α := Int × Int) (integer_check.l0 k k (0, 0) a0 (a0.length : Int) 0) (fun y3 => some (0, 0)) some

def natural_Valid (a0 : List Int) : Option (Bool) :=
  bif decide ((a0.length : Int) ≤ 600) then (bif ((a0.length : Int) == 0) then (some true) else (bif inR (w64 ((a0.length : Int) - 1)) (a0.length : Int) then (let c1 := ((rd a0 (w64 ((a0.length : Int) - 1))) != 0); some c1) else none)) else (some false)

def natural_at (a0 : Int) (a1 : Int) : Option (Int × Int) :=
  some (a0, a1)

def natural_check (a0 : List Int) (a1 : List Int) : Option (Int × Int) :=
  (natural_Valid a0).bind fun t1 => bif (!t1) then ((natural_at 6 (-1)).bind fun t2 => some t2) else ((natural_Valid a1).bind fun t3 => bif (!t3) then ((natural_at 6 (-2)).bind fun t4 => some t4) else (some (0, 0)))

def natural_trim_v.b0 (k : Nat) (rec : List Int → (Int × Int) → Option ((List Int × Int × Int) ⊕ (Int × Int))) (x0_0 : List Int) (x0_1 : Int × Int) : Option ((List Int × Int × Int) ⊕ (Int × Int)) :=
  bif decide (0 < x0_1.2) then (bif inR (w64 (x0_1.2 - 1)) x0_1.2 then (bif ((rd x0_0 (x0_1.1 + (w64 (x0_1.2 - 1)))) == 0) then (bif ((decide (0 ≤ 0) && decide (0 ≤ w64 (x0_1.2 - 1))) && decide (w64 (x0_1.2 - 1) ≤ x0_1.2)) then (rec x0_0 ((x0_1.1 + 0), ((w64 (x0_1.2 - 1)) - 0))) else none) else (some (.inl (x0_0, (x0_1.1, x0_1.2))))) else none) else (some (.inl (x0_0, (x0_1.1, x0_1.2))))
def natural_trim_v.l0 (k : Nat) : Nat → List Int → (Int × Int) → Option ((List Int × Int × Int) ⊕ (Int × Int))
  | 0 => fun _ _ => none
  | n + 1 => natural_trim_v.b0 k (natural_trim_v.l0 k n)
def natural_trim_v (k : Nat) (a0 : List Int) : Option (Int × Int) :=
  joinB (α := List Int × Int × Int) (natural_trim_v.l0 k k a0 (0, (a0.length : Int))) (fun y1 => some (y1.2.1, y1.2.2)) some

def natural_mul.b1 (k : Nat) (rec : List Int → List Int → Int → Int → Int → List Int → Int → Int → List Int → Int → Int → Option ((List Int × List Int × Int × Int × List Int × Int × Int) ⊕ (List Int))) (x1 : List Int) (x5 : List Int) (x6 : Int) (x7 : Int) (x8 : Int) (x17 : List Int) (x18 : Int) (x19 : Int) (x24 : List Int) (x25 : Int) (x26 : Int) : Option ((List Int × List Int × Int × Int × List Int × Int × Int) ⊕ (List Int)) :=
  bif decide (x26 < x25) then (bif inR x26 (x24.length : Int) then (bif inR (w64 (x6 + x26)) (x5.length : Int) then (let c1 := wu64 (x8 + (wu64 ((wu64 ((wu64 (x7)) * (wu64 (rd x24 x26)))) + (wu64 (rd x5 (w64 (x6 + x26))))))); bif inR (w64 (x6 + x26)) (x5.length : Int) then (rec x1 (x5.set (Int.toNat (w64 (x6 + x26))) (wu32 (c1))) x6 x7 (shrI .u64 c1 32) x17 x18 x19 x24 x25 (w64 (x26 + 1))) else none) else none) else none) else (some (.inl (x1, x5, x6, x8, x17, x18, x19)))
def natural_mul.l1 (k : Nat) : Nat → List Int → List Int → Int → Int → Int → List Int → Int → Int → List Int → Int → Int → Option ((List Int × List Int × Int × Int × List Int × Int × Int) ⊕ (List Int))
  | 0 => fun _ _ _ _ _ _ _ _ _ _ _ => none
  | n + 1 => natural_mul.b1 k (natural_mul.l1 k n)
def natural_mul.b0 (k : Nat) (rec : List Int → List Int → List Int → Int → Int → Option ((List Int) ⊕ (List Int))) (x1 : List Int) (x5 : List Int) (x17 : List Int) (x18 : Int) (x19 : Int) : Option ((List Int) ⊕ (List Int)) :=
  bif decide (x19 < x18) then (bif inR x19 (x17.length : Int) then (joinB (α := List Int × List Int × Int × Int × List Int × Int × Int) (natural_mul.l1 k k x1 x5 x19 (rd x17 x19) 0 x17 x18 x19 x1 (x1.length : Int) 0) (fun y2 => bif inR (w64 (y2.2.2.1 + (y2.1.length : Int))) (y2.2.1.length : Int) then (rec y2.1 (y2.2.1.set (Int.toNat (w64 (y2.2.2.1 + (y2.1.length : Int)))) (wu32 (y2.2.2.2.1))) y2.2.2.2.2.1 y2.2.2.2.2.2.1 (w64 (y2.2.2.2.2.2.2 + 1))) else none) (fun r => some (.inr r))) else none) else (some (.inl x5))
def natural_mul.l0 (k : Nat) : Nat → List Int → List Int → List Int → Int → Int → Option ((List Int) ⊕ (List Int))
  | 0 => fun _ _ _ _ _ => none
  | n + 1 => natural_mul.b0 k (natural_mul.l0 k n)
def natural_mul (k : Nat) (a0 : List Int) (a1 : List Int) : Option (List Int) :=
  bif ((decide (0 ≤ w64 ((a0.length : Int) + (a1.length : Int))) && decide (w64 ((a0.length : Int) + (a1.length : Int)) ≤ w64 ((a0.length : Int) + (a1.length : Int)))) && fitsB (Int.toNat (w64 ((a0.length : Int) + (a1.length : Int)))) 4) then (joinB (α := List Int) (natural_mul.l0 k k a1 (List.replicate (Int.toNat (w64 ((a0.length : Int) + (a1.length : Int)))) (0 : Int)) a0 (a0.length : Int) 0) (fun y3 => (natural_trim_v k y3).bind fun t4 => some (sub y3 t4.1 t4.2)) some) else none

def natural_trim.b0 (k : Nat) (rec : List Int → Option ((List Int) ⊕ (List Int))) (x0 : List Int) : Option ((List Int) ⊕ (List Int)) :=
  bif decide (0 < (x0.length : Int)) then (bif inR (w64 ((x0.length : Int) - 1)) (x0.length : Int) then (bif ((rd x0 (w64 ((x0.length : Int) - 1))) == 0) then (bif ((decide (0 ≤ 0) && decide (0 ≤ w64 ((x0.length : Int) - 1))) && decide (w64 ((x0.length : Int) - 1) ≤ (x0.length : Int))) then (rec (sub x0 0 ((w64 ((x0.length : Int) - 1)) - 0))) else none) else (some (.inl x0))) else none) else (some (.inl x0))
def natural_trim.l0 (k : Nat) : Nat → List Int → Option ((List Int) ⊕ (List Int))
  | 0 => fun _ => none
  | n + 1 => natural_trim.b0 k (natural_trim.l0 k n)
def natural_trim (k : Nat) (a0 : List Int) : Option (List Int) :=
  joinB (α := List Int) (natural_trim.l0 k k a0) (fun y1 => some y1) some

def natural_fit (k : Nat) (a0 : List Int) : Option (List Int × Int × Int) :=
  (natural_trim k a0).bind fun t1 => bif decide (600 < (t1.length : Int)) then ((natural_at 14 (-1)).bind fun t2 => some ([], t2)) else (some (t1, (0, 0)))

def natural_Mul (k : Nat) (a0 : List Int) (a1 : List Int) : Option (List Int × Int × Int) :=
  (natural_check a0 a1).bind fun t1 => bif (t1.1 != 0) then (some ([], t1)) else ((natural_mul k a0 a1).bind fun t2 => (natural_fit k t2).bind fun t3 => some (t3.1, t3.2))

def integer_signed (a0 : Bool) (a1 : List Int) : Option ((Bool × List Int) × Int × Int) :=
  bif decide (128 < (a1.length : Int)) then ((integer_at 14 (-1)).bind fun t1 => some ((false, []), t1)) else (bif a0 then (some ((decide (0 < (a1.length : Int)), a1), (0, 0))) else (some ((false, a1), (0, 0))))

def integer_Mul (k : Nat) (a0 : Bool × List Int) (a1 : Bool × List Int) : Option ((Bool × List Int) × Int × Int) :=
  (integer_check k [a0, a1]).bind fun t1 => bif (t1.1 != 0) then (some ((false, []), t1)) else ((natural_Mul k a0.2 a1.2).bind fun t2 => (integer_signed (!(a0.1 == a1.1)) t2.1).bind fun t3 => some (t3.1, t3.2))

def ranges_mul (k : Nat) (a0 : Bool × List Int) (a1 : Bool × List Int) : Option (Bool × List Int) :=
  (integer_Mul k a0 a1).bind fun t1 => some t1.1

def natural_compare.b0 (k : Nat) (rec : List Int → List Int → Int → Option ((Unit) ⊕ (Int))) (x0 : List Int) (x1 : List Int) (x5 : Int) : Option ((Unit) ⊕ (Int)) :=
  bif decide (0 ≤ x5) then (bif inR x5 (x0.length : Int) then (bif inR x5 (x1.length : Int) then (bif ((rd x0 x5) != (rd x1 x5)) then (bif inR x5 (x0.length : Int) then (bif inR x5 (x1.length : Int) then (bif decide (rd x0 x5 < rd x1 x5) then (some (.inr (-1))) else (some (.inr 1))) else none) else none) else (rec x0 x1 (w64 (x5 - 1)))) else none) else none) else (some (.inl ()))
def natural_compare.l0 (k : Nat) : Nat → List Int → List Int → Int → Option ((Unit) ⊕ (Int))
  | 0 => fun _ _ _ => none
  | n + 1 => natural_compare.b0 k (natural_compare.l0 k n)
def natural_compare (k : Nat) (a0 : List Int) (a1 : List Int) : Option (Int) :=
  bif ((a0.length : Int) != (a1.length : Int)) then (let c1 := w64 ((a0.length : Int) - (a1.length : Int)); some c1) else (joinB (α := Unit) (natural_compare.l0 k k a0 a1 (w64 ((a0.length : Int) - 1))) (fun y2 => some 0) some)

def natural_Cmp (k : Nat) (a0 : List Int) (a1 : List Int) : Option (Int × Int × Int) :=
  (natural_check a0 a1).bind fun t1 => bif (t1.1 != 0) then (some (0, t1)) else ((natural_compare k a0 a1).bind fun t2 => some (mnI (mxI t2 (-1)) 1, (0, 0)))

def integer_Cmp (k : Nat) (a0 : Bool × List Int) (a1 : Bool × List Int) : Option (Int × Int × Int) :=
  (integer_check k [a0, a1]).bind fun t1 => bif (t1.1 != 0) then (some (0, t1)) else ((natural_Cmp k a0.2 a1.2).bind fun t2 => joinB (α := (Bool × List Int) × (Bool × List Int) × (Int × Int) × Int × Bool) (bif a0.1 then (some (.inl (a0, a1, (0, 0), t2.1, a1.1))) else (some (.inl (a0, a1, (0, 0), t2.1, false)))) (fun z3 => bif z3.2.2.2.2 then (some (w64 (0 - z3.2.2.2.1), (0, 0))) else (bif z3.1.1 then (some ((-1), (0, 0))) else (bif z3.2.1.1 then (some (1, (0, 0))) else (some (z3.2.2.2.1, (0, 0)))))) some)

def ranges_less (k : Nat) (a0 : Bool × List Int) (a1 : Bool × List Int) : Option (Bool) :=
  (integer_Cmp k a0 a1).bind fun t1 => some (decide (t1.1 < 0))

def natural_add.b0 (k : Nat) (rec : List Int → List Int → Int → List Int → Int → Int → Option ((List Int × Int) ⊕ (List Int))) (x1 : List Int) (x5 : List Int) (x6 : Int) (x20 : List Int) (x21 : Int) (x22 : Int) : Option ((List Int × Int) ⊕ (List Int)) :=
  bif decide (x22 < x21) then (bif inR x22 (x20.length : Int) then (let c2 := wu64 (x6 + (wu64 (rd x20 x22))); bif decide (x22 < (x1.length : Int)) then (bif inR x22 (x1.length : Int) then (bif fitsB (x5.length + [wu32 (wu64 (c2 + (wu64 (rd x1 x22))))].length) 4 then (let c3 := shrI .u64 (wu64 (c2 + (wu64 (rd x1 x22)))) 32; rec x1 (x5 ++ [wu32 (wu64 (c2 + (wu64 (rd x1 x22))))]) c3 x20 x21 (w64 (x22 + 1))) else none) else none) else (bif fitsB (x5.length + [wu32 (c2)].length) 4 then (rec x1 (x5 ++ [wu32 (c2)]) (shrI .u64 c2 32) x20 x21 (w64 (x22 + 1))) else none)) else none) else (some (.inl (x5, x6)))
def natural_add.l0 (k : Nat) : Nat → List Int → List Int → Int → List Int → Int → Int → Option ((List Int × Int) ⊕ (List Int))
  | 0 => fun _ _ _ _ _ _ => none
  | n + 1 => natural_add.b0 k (natural_add.l0 k n)
def natural_add (k : Nat) (a0 : List Int) (a1 : List Int) : Option (List Int) :=
  joinB (α := List Int × List Int) (bif decide ((a0.length : Int) < (a1.length : Int)) then (some (.inl (a1, a0))) else (some (.inl (a0, a1)))) (fun z1 => bif ((decide (0 ≤ 0) && decide (0 ≤ w64 ((z1.1.length : Int) + 1))) && fitsB (Int.toNat (w64 ((z1.1.length : Int) + 1))) 4) then (joinB (α := List Int × Int) (natural_add.l0 k k z1.2 (List.replicate 0 (0 : Int)) 0 z1.1 (z1.1.length : Int) 0) (fun y4 => bif fitsB (y4.1.length + [wu32 (y4.2)].length) 4 then ((natural_trim_v k (y4.1 ++ [wu32 (y4.2)])).bind fun t5 => some (sub (y4.1 ++ [wu32 (y4.2)]) t5.1 t5.2)) else none) some) else none) some

def natural_Add (k : Nat) (a0 : List Int) (a1 : List Int) : Option (List Int × Int × Int) :=
  (natural_check a0 a1).bind fun t1 => bif (t1.1 != 0) then (some ([], t1)) else ((natural_add k a0 a1).bind fun t2 => (natural_fit k t2).bind fun t3 => some (t3.1, t3.2))

def slices_Clone_uint32uint32 (a0 : List Int) : Option (List Int) := bif fitsB (0 + a0.length) 4 then some a0 else none

def bits_Sub32 (a0 : Int) (a1 : Int) (a2 : Int) : Option (Int × Int) :=
  let c1 := shrI .u32 (bitsOp .or .u32 (bitsOp .and .u32 (bitsOp .xor .u32 (IntKind.max .u32) a0) a1) (bitsOp .and .u32 (bitsOp .xor .u32 (IntKind.max .u32) (bitsOp .xor .u32 a0 a1)) (wu32 ((wu32 (a0 - a1)) - a2)))) 31; some (wu32 ((wu32 (a0 - a1)) - a2), c1)

def natural_sub.b0 (k : Nat) (rec : List Int → List Int → Int → Int → Int → Option ((List Int) ⊕ (List Int))) (x1 : List Int) (x5 : List Int) (x6 : Int) (x12 : Int) (x13 : Int) : Option ((List Int) ⊕ (List Int)) :=
  bif decide (x13 < x12) then (joinB (α := List Int × List Int × Int × Int × Int × Int × Int) (bif decide (x13 < (x1.length : Int)) then (bif inR x13 (x1.length : Int) then (some (.inl (x1, x5, x6, x13, rd x1 x13, x12, x13))) else none) else (some (.inl (x1, x5, x6, x13, 0, x12, x13)))) (fun z2 => bif inR z2.2.2.2.1 (z2.2.1.length : Int) then ((bits_Sub32 (rd z2.2.1 z2.2.2.2.1) z2.2.2.2.2.1 z2.2.2.1).bind fun t3 => bif inR z2.2.2.2.1 (z2.2.1.length : Int) then (rec z2.1 (z2.2.1.set (Int.toNat z2.2.2.2.1) t3.1) t3.2 z2.2.2.2.2.2.1 (w64 (z2.2.2.2.2.2.2 + 1))) else none) else none) (fun r => some (.inr r))) else (some (.inl x5))
def natural_sub.l0 (k : Nat) : Nat → List Int → List Int → Int → Int → Int → Option ((List Int) ⊕ (List Int))
  | 0 => fun _ _ _ _ _ => none
  | n + 1 => natural_sub.b0 k (natural_sub.l0 k n)
def natural_sub (k : Nat) (a0 : List Int) (a1 : List Int) : Option (List Int) :=
  (slices_Clone_uint32uint32 a0).bind fun t1 => joinB (α := List Int) (natural_sub.l0 k k a1 t1 0 (t1.length : Int) 0) (fun y4 => (natural_trim_v k y4).bind fun t5 => some (sub y4 t5.1 t5.2)) some

def natural_Sub (k : Nat) (a0 : List Int) (a1 : List Int) : Option (List Int × Int × Int) :=
  (natural_check a0 a1).bind fun t1 => bif (t1.1 != 0) then (some ([], t1)) else ((natural_compare k a0 a1).bind fun t2 => bif decide (t2 < 0) then ((natural_at 4 (-2)).bind fun t3 => some ([], t3)) else ((natural_sub k a0 a1).bind fun t4 => some (t4, (0, 0))))

def integer_plus (k : Nat) (a0 : Bool × List Int) (a1 : Bool × List Int) : Option ((Bool × List Int) × Int × Int) :=
  bif (a0.1 == a1.1) then ((natural_Add k a0.2 a1.2).bind fun t1 => (integer_signed a0.1 t1.1).bind fun t2 => some (t2.1, t2.2)) else (joinB (α := (Bool × List Int) × (Bool × List Int) × (Bool × List Int) × Int × Int) ((natural_Cmp k a0.2 a1.2).bind fun t3 => bif decide (t3.1 < 0) then (some (.inl (a1, a0, (false, []), (0, 0)))) else (some (.inl (a0, a1, (false, []), (0, 0))))) (fun z4 => (natural_Sub k z4.1.2 z4.2.1.2).bind fun t5 => (integer_signed z4.1.1 t5.1).bind fun t6 => some (t6.1, t6.2)) some)

def integer_Sub (k : Nat) (a0 : Bool × List Int) (a1 : Bool × List Int) : Option ((Bool × List Int) × Int × Int) :=
  (integer_check k [a0, a1]).bind fun t1 => bif (t1.1 != 0) then (some ((false, []), t1)) else ((integer_plus k a0 ((!a1.1), a1.2)).bind fun t2 => some (t2.1, t2.2))

def ranges_sub (k : Nat) (a0 : Bool × List Int) (a1 : Bool × List Int) : Option (Bool × List Int) :=
  (integer_Sub k a0 a1).bind fun t1 => some t1.1

def integer_Add (k : Nat) (a0 : Bool × List Int) (a1 : Bool × List Int) : Option ((Bool × List Int) × Int × Int) :=
  (integer_check k [a0, a1]).bind fun t1 => bif (t1.1 != 0) then (some ((false, []), t1)) else ((integer_plus k a0 a1).bind fun t2 => some (t2.1, t2.2))

def ranges_add (k : Nat) (a0 : Bool × List Int) (a1 : Bool × List Int) : Option (Bool × List Int) :=
  (integer_Add k a0 a1).bind fun t1 => some t1.1

def bits_Div32 (a0 : Int) (a1 : Int) (a2 : Int) : Option (Int × Int) :=
  joinB (α := Int × Int × Int) (bif (a2 != 0) then (bif decide (a2 ≤ a0) then none else (some (.inl (a0, a1, a2)))) else (some (.inl (a0, a1, a2)))) (fun z1 => let c2 := bitsOp .or .u64 (shlI .u64 (wu64 (z1.1)) 32) (wu64 (z1.2.1)); bif !decide (wu64 (z1.2.2) = 0) then (bif !decide (wu64 (z1.2.2) = 0) then (let c3 := wu32 (wu64 (Int.tdiv c2 (wu64 (z1.2.2)))); let c4 := wu32 (Int.tmod c2 (wu64 (z1.2.2))); some (c3, c4)) else none) else none) some

def natural_short.b0 (k : Nat) (rec : List Int → Int → List Int → Int → Int → Option ((List Int × Int) ⊕ (List Int × Int))) (x0 : List Int) (x1 : Int) (x6 : List Int) (x7 : Int) (x8 : Int) : Option ((List Int × Int) ⊕ (List Int × Int)) :=
  bif decide (0 ≤ x8) then (bif inR x8 (x0.length : Int) then ((bits_Div32 x7 (rd x0 x8) x1).bind fun t1 => bif inR x8 (x6.length : Int) then (rec x0 x1 (x6.set (Int.toNat x8) t1.1) t1.2 (w64 (x8 - 1))) else none) else none) else (some (.inl (x6, x7)))
def natural_short.l0 (k : Nat) : Nat → List Int → Int → List Int → Int → Int → Option ((List Int × Int) ⊕ (List Int × Int))
  | 0 => fun _ _ _ _ _ => none
  | n + 1 => natural_short.b0 k (natural_short.l0 k n)
def natural_short (k : Nat) (a0 : List Int) (a1 : Int) : Option (List Int × Int) :=
  bif ((decide (0 ≤ (a0.length : Int)) && decide ((a0.length : Int) ≤ (a0.length : Int))) && fitsB (Int.toNat (a0.length : Int)) 4) then (joinB (α := List Int × Int) (natural_short.l0 k k a0 a1 (List.replicate (Int.toNat (a0.length : Int)) (0 : Int)) 0 (w64 ((a0.length : Int) - 1))) (fun y2 => (natural_trim_v k y2.1).bind fun t3 => some (sub y2.1 t3.1 t3.2, y2.2)) some) else none

def bits_Len32 (a0 : Int) : Option (Int) :=
  joinB (α := Int × Int) (bif decide (65536 ≤ a0) then (some (.inl (shrI .u32 a0 16, 16))) else (some (.inl (a0, 0)))) (fun z1 => bif decide (256 ≤ z1.1) then (bif inR (wu8 (shrI .u32 z1.1 8)) ((⟨#[0, 1, 2, 2, 3, 3, 3, 3, 4, 4, 4, 4, 4, 4, 4, 4, 5, 5, 5, 5, 5, 5, 5, 5, 5, 5, 5, 5, 5, 5, 5, 5, 6, 6, 6, 6, 6, 6, 6, 6, 6, 6, 6, 6, 6, 6, 6, 6, 6, 6, 6, 6, 6, 6, 6, 6, 6, 6, 6, 6, 6, 6, 6, 6, 7, 7, 7, 7, 7, 7, 7, 7, 7, 7, 7, 7, 7, 7, 7, 7, 7, 7, 7, 7, 7, 7, 7, 7, 7, 7, 7, 7, 7, 7, 7, 7, 7, 7, 7, 7, 7, 7, 7, 7, 7, 7, 7, 7, 7, 7, 7, 7, 7, 7, 7, 7, 7, 7, 7, 7, 7, 7, 7, 7, 7, 7, 7, 7, 8, 8, 8, 8, 8, 8, 8, 8, 8, 8, 8, 8, 8, 8, 8, 8, 8, 8, 8, 8, 8, 8, 8, 8, 8, 8, 8, 8, 8, 8, 8, 8, 8, 8, 8, 8, 8, 8, 8, 8, 8, 8, 8, 8, 8, 8, 8, 8, 8, 8, 8, 8, 8, 8, 8, 8, 8, 8, 8, 8, 8, 8, 8, 8, 8, 8, 8, 8, 8, 8, 8, 8, 8, 8, 8, 8, 8, 8, 8, 8, 8, 8, 8, 8, 8, 8, 8, 8, 8, 8, 8, 8, 8, 8, 8, 8, 8, 8, 8, 8, 8, 8, 8, 8, 8, 8, 8, 8, 8, 8, 8, 8, 8, 8, 8, 8, 8, 8, 8, 8, 8, 8, 8, 8, 8, 8, 8, 8]⟩ : ByteArray).size : Int) then (let c2 := w64 ((w64 (z1.2 + 8)) + (w64 (rd (bytesOf (⟨#[0, 1, 2, 2, 3, 3, 3, 3, 4, 4, 4, 4, 4, 4, 4, 4, 5, 5, 5, 5, 5, 5, 5, 5, 5, 5, 5, 5, 5, 5, 5, 5, 6, 6, 6, 6, 6, 6, 6, 6, 6, 6, 6, 6, 6, 6, 6, 6, 6, 6, 6, 6, 6, 6, 6, 6, 6, 6, 6, 6, 6, 6, 6, 6, 7, 7, 7, 7, 7, 7, 7, 7, 7, 7, 7, 7, 7, 7, 7, 7, 7, 7, 7, 7, 7, 7, 7, 7, 7, 7, 7, 7, 7, 7, 7, 7, 7, 7, 7, 7, 7, 7, 7, 7, 7, 7, 7, 7, 7, 7, 7, 7, 7, 7, 7, 7, 7, 7, 7, 7, 7, 7, 7, 7, 7, 7, 7, 7, 8, 8, 8, 8, 8, 8, 8, 8, 8, 8, 8, 8, 8, 8, 8, 8, 8, 8, 8, 8, 8, 8, 8, 8, 8, 8, 8, 8, 8, 8, 8, 8, 8, 8, 8, 8, 8, 8, 8, 8, 8, 8, 8, 8, 8, 8, 8, 8, 8, 8, 8, 8, 8, 8, 8, 8, 8, 8, 8, 8, 8, 8, 8, 8, 8, 8, 8, 8, 8, 8, 8, 8, 8, 8, 8, 8, 8, 8, 8, 8, 8, 8, 8, 8, 8, 8, 8, 8, 8, 8, 8, 8, 8, 8, 8, 8, 8, 8, 8, 8, 8, 8, 8, 8, 8, 8, 8, 8, 8, 8, 8, 8, 8, 8, 8, 8, 8, 8, 8, 8, 8, 8, 8, 8, 8, 8, 8, 8]⟩ : ByteArray)) (wu8 (shrI .u32 z1.1 8))))); some c2) else none) else (bif inR (wu8 (z1.1)) ((⟨#[0, 1, 2, 2, 3, 3, 3, 3, 4, 4, 4, 4, 4, 4, 4, 4, 5, 5, 5, 5, 5, 5, 5, 5, 5, 5, 5, 5, 5, 5, 5, 5, 6, 6, 6, 6, 6, 6, 6, 6, 6, 6, 6, 6, 6, 6, 6, 6, 6, 6, 6, 6, 6, 6, 6, 6, 6, 6, 6, 6, 6, 6, 6, 6, 7, 7, 7, 7, 7, 7, 7, 7, 7, 7, 7, 7, 7, 7, 7, 7, 7, 7, 7, 7, 7, 7, 7, 7, 7, 7, 7, 7, 7, 7, 7, 7, 7, 7, 7, 7, 7, 7, 7, 7, 7, 7, 7, 7, 7, 7, 7, 7, 7, 7, 7, 7, 7, 7, 7, 7, 7, 7, 7, 7, 7, 7, 7, 7, 8, 8, 8, 8, 8, 8, 8, 8, 8, 8, 8, 8, 8, 8, 8, 8, 8, 8, 8, 8, 8, 8, 8, 8, 8, 8, 8, 8, 8, 8, 8, 8, 8, 8, 8, 8, 8, 8, 8, 8, 8, 8, 8, 8, 8, 8, 8, 8, 8, 8, 8, 8, 8, 8, 8, 8, 8, 8, 8, 8, 8, 8, 8, 8, 8, 8, 8, 8, 8, 8, 8, 8, 8, 8, 8, 8, 8, 8, 8, 8, 8, 8, 8, 8, 8, 8, 8, 8, 8, 8, 8, 8, 8, 8, 8, 8, 8, 8, 8, 8, 8, 8, 8, 8, 8, 8, 8, 8, 8, 8, 8, 8, 8, 8, 8, 8, 8, 8, 8, 8, 8, 8, 8, 8, 8, 8, 8, 8]⟩ : ByteArray).size : Int) then (let c3 := w64 (z1.2 + (w64 (rd (bytesOf (⟨#[0, 1, 2, 2, 3, 3, 3, 3, 4, 4, 4, 4, 4, 4, 4, 4, 5, 5, 5, 5, 5, 5, 5, 5, 5, 5, 5, 5, 5, 5, 5, 5, 6, 6, 6, 6, 6, 6, 6, 6, 6, 6, 6, 6, 6, 6, 6, 6, 6, 6, 6, 6, 6, 6, 6, 6, 6, 6, 6, 6, 6, 6, 6, 6, 7, 7, 7, 7, 7, 7, 7, 7, 7, 7, 7, 7, 7, 7, 7, 7, 7, 7, 7, 7, 7, 7, 7, 7, 7, 7, 7, 7, 7, 7, 7, 7, 7, 7, 7, 7, 7, 7, 7, 7, 7, 7, 7, 7, 7, 7, 7, 7, 7, 7, 7, 7, 7, 7, 7, 7, 7, 7, 7, 7, 7, 7, 7, 7, 8, 8, 8, 8, 8, 8, 8, 8, 8, 8, 8, 8, 8, 8, 8, 8, 8, 8, 8, 8, 8, 8, 8, 8, 8, 8, 8, 8, 8, 8, 8, 8, 8, 8, 8, 8, 8, 8, 8, 8, 8, 8, 8, 8, 8, 8, 8, 8, 8, 8, 8, 8, 8, 8, 8, 8, 8, 8, 8, 8, 8, 8, 8, 8, 8, 8, 8, 8, 8, 8, 8, 8, 8, 8, 8, 8, 8, 8, 8, 8, 8, 8, 8, 8, 8, 8, 8, 8, 8, 8, 8, 8, 8, 8, 8, 8, 8, 8, 8, 8, 8, 8, 8, 8, 8, 8, 8, 8, 8, 8, 8, 8, 8, 8, 8, 8, 8, 8, 8, 8, 8, 8, 8, 8, 8, 8, 8, 8]⟩ : ByteArray)) (wu8 (z1.1))))); some c3) else none)) some

def bits_LeadingZeros32 (a0 : Int) : Option (Int) :=
  (bits_Len32 a0).bind fun t1 => some (w64 (32 - t1))

def natural_left.b0 (k : Nat) (rec : Int → List Int → Int → List Int → Int → Int → Option ((List Int × Int) ⊕ (List Int))) (x1 : Int) (x5 : List Int) (x6 : Int) (x19 : List Int) (x20 : Int) (x21 : Int) : Option ((List Int × Int) ⊕ (List Int)) :=
  bif decide (x21 < x20) then (bif inR x21 (x19.length : Int) then (bif decide (0 ≤ Int.tmod x1 32) then (let c1 := shlI .u64 (wu64 (rd x19 x21)) (Int.tmod x1 32); bif fitsB (x5.length + [bitsOp .or .u32 (wu32 (c1)) x6].length) 4 then (rec x1 (x5 ++ [bitsOp .or .u32 (wu32 (c1)) x6]) (wu32 (shrI .u64 c1 32)) x19 x20 (w64 (x21 + 1))) else none) else none) else none) else (some (.inl (x5, x6)))
def natural_left.l0 (k : Nat) : Nat → Int → List Int → Int → List Int → Int → Int → Option ((List Int × Int) ⊕ (List Int))
  | 0 => fun _ _ _ _ _ _ => none
  | n + 1 => natural_left.b0 k (natural_left.l0 k n)
def natural_left (k : Nat) (a0 : List Int) (a1 : Int) : Option (List Int) :=
  bif ((decide (0 ≤ w64 (Int.tdiv a1 32)) && decide (w64 (Int.tdiv a1 32) ≤ w64 ((w64 ((w64 (Int.tdiv a1 32)) + (a0.length : Int))) + 1))) && fitsB (Int.toNat (w64 ((w64 ((w64 (Int.tdiv a1 32)) + (a0.length : Int))) + 1))) 4) then (joinB (α := List Int × Int) (natural_left.l0 k k a1 (List.replicate (Int.toNat (w64 (Int.tdiv a1 32))) (0 : Int)) 0 a0 (a0.length : Int) 0) (fun y2 => bif fitsB (y2.1.length + [y2.2].length) 4 then ((natural_trim_v k (y2.1 ++ [y2.2])).bind fun t3 => some (sub (y2.1 ++ [y2.2]) t3.1 t3.2)) else none) some) else none

def bits_Add32 (a0 : Int) (a1 : Int) (a2 : Int) : Option (Int × Int) :=
  let c1 := wu64 ((wu64 ((wu64 (a0)) + (wu64 (a1)))) + (wu64 (a2))); some (wu32 (c1), wu32 (shrI .u64 c1 32))

def natural_digit_ld.b2 (k : Nat) (rec : List Int → List Int → Int → Int → Int → Int → Int → Option ((List Int × Int × Int × Int) ⊕ (Int × List Int))) (x0 : List Int) (x1 : List Int) (x5 : Int) (x8 : Int) (x13 : Int) (x111 : Int) (x112 : Int) : Option ((List Int × Int × Int × Int) ⊕ (Int × List Int)) :=
  bif decide (x112 < x111) then (bif inR x112 (x0.length : Int) then (bif inR x112 (x1.length : Int) then ((bits_Add32 (rd x0 x112) (rd x1 x112) x13).bind fun t8 => bif inR x112 (x0.length : Int) then (rec (x0.set (Int.toNat x112) t8.1) x1 x5 x8 t8.2 x111 (w64 (x112 + 1))) else none) else none) else none) else (some (.inl (x0, x5, x8, x13)))
def natural_digit_ld.l2 (k : Nat) : Nat → List Int → List Int → Int → Int → Int → Int → Int → Option ((List Int × Int × Int × Int) ⊕ (Int × List Int))
  | 0 => fun _ _ _ _ _ _ _ => none
  | n + 1 => natural_digit_ld.b2 k (natural_digit_ld.l2 k n)
def natural_digit_ld.b1 (k : Nat) (rec : List Int → List Int → Int → Int → Int → Int → Int → Int → Option ((List Int × List Int × Int × Int × Int) ⊕ (Int × List Int))) (x0 : List Int) (x1 : List Int) (x5 : Int) (x8 : Int) (x10 : Int) (x11 : Int) (x74 : Int) (x75 : Int) : Option ((List Int × List Int × Int × Int × Int) ⊕ (Int × List Int)) :=
  bif decide (x75 < x74) then (joinB (α := List Int × List Int × Int × Int × Int × Int × Int × Int × Int) (bif decide (x75 < x5) then (bif inR x75 (x1.length : Int) then (let c4 := wu64 (x10 + (wu64 (x8 * (wu64 (rd x1 x75))))); some (.inl (x0, x1, x5, x8, c4, x11, x75, x74, x75))) else none) else (some (.inl (x0, x1, x5, x8, x10, x11, x75, x74, x75)))) (fun z5 => bif inR z5.2.2.2.2.2.2.1 (z5.1.length : Int) then ((bits_Sub32 (rd z5.1 z5.2.2.2.2.2.2.1) (wu32 (z5.2.2.2.2.1)) z5.2.2.2.2.2.1).bind fun t6 => bif inR z5.2.2.2.2.2.2.1 (z5.1.length : Int) then (rec (z5.1.set (Int.toNat z5.2.2.2.2.2.2.1) t6.1) z5.2.1 z5.2.2.1 z5.2.2.2.1 (shrI .u64 z5.2.2.2.2.1 32) t6.2 z5.2.2.2.2.2.2.2.1 (w64 (z5.2.2.2.2.2.2.2.2 + 1))) else none) else none) (fun r => some (.inr r))) else (some (.inl (x0, x1, x5, x8, x11)))
def natural_digit_ld.l1 (k : Nat) : Nat → List Int → List Int → Int → Int → Int → Int → Int → Int → Option ((List Int × List Int × Int × Int × Int) ⊕ (Int × List Int))
  | 0 => fun _ _ _ _ _ _ _ _ => none
  | n + 1 => natural_digit_ld.b1 k (natural_digit_ld.l1 k n)
def natural_digit_ld.b0 (k : Nat) (rec : List Int → List Int → Int → Int → Int → Int → Option ((List Int × List Int × Int × Int) ⊕ (Int × List Int))) (x0 : List Int) (x1 : List Int) (x5 : Int) (x7 : Int) (x8 : Int) (x9 : Int) : Option ((List Int × List Int × Int × Int) ⊕ (Int × List Int)) :=
  bif ((shrI .u64 x8 32) != 0) then (bif ((shrI .u64 (wu64 (x9 + x7)) 32) != 0) then (some (.inl (x0, x1, x5, wu64 (x8 - 1)))) else (rec x0 x1 x5 x7 (wu64 (x8 - 1)) (wu64 (x9 + x7)))) else (bif inR (w64 (x5 - 2)) (x1.length : Int) then (bif inR (w64 (x5 - 2)) (x0.length : Int) then (bif decide (bitsOp .or .u64 (shlI .u64 x9 32) (wu64 (rd x0 (w64 (x5 - 2)))) < wu64 (x8 * (wu64 (rd x1 (w64 (x5 - 2)))))) then (bif ((shrI .u64 (wu64 (x9 + x7)) 32) != 0) then (some (.inl (x0, x1, x5, wu64 (x8 - 1)))) else (rec x0 x1 x5 x7 (wu64 (x8 - 1)) (wu64 (x9 + x7)))) else (some (.inl (x0, x1, x5, x8)))) else none) else none)
def natural_digit_ld.l0 (k : Nat) : Nat → List Int → List Int → Int → Int → Int → Int → Option ((List Int × List Int × Int × Int) ⊕ (Int × List Int))
  | 0 => fun _ _ _ _ _ _ => none
  | n + 1 => natural_digit_ld.b0 k (natural_digit_ld.l0 k n)
def natural_digit_ld (k : Nat) (a0 : List Int) (a1 : List Int) : Option (Int × List Int) :=
  bif inR (a1.length : Int) (a0.length : Int) then (bif inR (w64 ((a1.length : Int) - 1)) (a0.length : Int) then (bif inR (w64 ((a1.length : Int) - 1)) (a1.length : Int) then (let c1 := bitsOp .or .u64 (shlI .u64 (wu64 (rd a0 (a1.length : Int))) 32) (wu64 (rd a0 (w64 ((a1.length : Int) - 1)))); let c2 := wu64 (rd a1 (w64 ((a1.length : Int) - 1))); bif !decide (c2 = 0) then (bif !decide (c2 = 0) then (joinB (α := List Int × List Int × Int × Int) (natural_digit_ld.l0 k k a0 a1 (a1.length : Int) c2 (wu64 (Int.tdiv c1 c2)) (Int.tmod c1 c2)) (fun y3 => joinB (α := List Int × List Int × Int × Int × Int) (natural_digit_ld.l1 k k y3.1 y3.2.1 y3.2.2.1 y3.2.2.2 0 0 (w64 (y3.2.2.1 + 1)) 0) (fun y7 => bif (y7.2.2.2.2 != 0) then (joinB (α := List Int × Int × Int × Int) (natural_digit_ld.l2 k k y7.1 y7.2.1 y7.2.2.1 (wu64 (y7.2.2.2.1 - 1)) 0 y7.2.2.1 0) (fun y9 => bif inR y9.2.1 (y9.1.length : Int) then (bif inR y9.2.1 (y9.1.length : Int) then (some (wu32 (y9.2.2.1), y9.1.set (Int.toNat y9.2.1) (wu32 ((rd y9.1 y9.2.1) + y9.2.2.2)))) else none) else none) some) else (some (wu32 (y7.2.2.2.1), y7.1))) some) some) else none) else none) else none) else none) else none

def natural_right.b0 (k : Nat) (rec : List Int → Int → List Int → Int → Option ((List Int) ⊕ (List Int))) (x0 : List Int) (x1 : Int) (x5 : List Int) (x6 : Int) : Option ((List Int) ⊕ (List Int)) :=
  bif decide (x6 < (x0.length : Int)) then (bif inR x6 (x0.length : Int) then (bif decide (w64 (x6 + 1) < (x0.length : Int)) then (bif inR (w64 (x6 + 1)) (x0.length : Int) then (let c1 := bitsOp .or .u64 (wu64 (rd x0 x6)) (shlI .u64 (wu64 (rd x0 (w64 (x6 + 1)))) 32); bif decide (0 ≤ Int.tmod x1 32) then (bif fitsB (x5.length + [wu32 (shrI .u64 c1 (Int.tmod x1 32))].length) 4 then (rec x0 x1 (x5 ++ [wu32 (shrI .u64 c1 (Int.tmod x1 32))]) (w64 (x6 + 1))) else none) else none) else none) else (bif decide (0 ≤ Int.tmod x1 32) then (bif fitsB (x5.length + [wu32 (shrI .u64 (wu64 (rd x0 x6)) (Int.tmod x1 32))].length) 4 then (rec x0 x1 (x5 ++ [wu32 (shrI .u64 (wu64 (rd x0 x6)) (Int.tmod x1 32))]) (w64 (x6 + 1))) else none) else none)) else none) else (some (.inl x5))
def natural_right.l0 (k : Nat) : Nat → List Int → Int → List Int → Int → Option ((List Int) ⊕ (List Int))
  | 0 => fun _ _ _ _ => none
  | n + 1 => natural_right.b0 k (natural_right.l0 k n)
def natural_right (k : Nat) (a0 : List Int) (a1 : Int) : Option (List Int) :=
  joinB (α := List Int) (natural_right.l0 k k a0 a1 [] (w64 (Int.tdiv a1 32))) (fun y2 => (natural_trim_v k y2).bind fun t3 => some (sub y2 t3.1 t3.2)) some

def natural_divide.b1 (k : Nat) (rec : Int → Int → List Int → List Int → List Int → Int → Option ((Int × Int × List Int × List Int) ⊕ (List Int × List Int))) (x6 : Int) (x7 : Int) (x8 : List Int) (x9 : List Int) (x10 : List Int) (x11 : Int) : Option ((Int × Int × List Int × List Int) ⊕ (List Int × List Int)) :=
  bif decide (0 ≤ x11) then (bif ((decide (0 ≤ x11) && decide (x11 ≤ w64 ((w64 (x11 + x6)) + 1))) && decide (w64 ((w64 (x11 + x6)) + 1) ≤ (x9.length : Int))) then ((natural_digit_ld k (sub x9 x11 ((w64 ((w64 (x11 + x6)) + 1)) - x11)) x8).bind fun t6 => bif inR x11 (x10.length : Int) then (rec x6 x7 x8 (splice x9 x11 t6.2) (x10.set (Int.toNat x11) t6.1) (w64 (x11 - 1))) else none) else none) else (some (.inl (x6, x7, x9, x10)))
def natural_divide.l1 (k : Nat) : Nat → Int → Int → List Int → List Int → List Int → Int → Option ((Int × Int × List Int × List Int) ⊕ (List Int × List Int))
  | 0 => fun _ _ _ _ _ _ => none
  | n + 1 => natural_divide.b1 k (natural_divide.l1 k n)
def natural_divide.b0 (k : Nat) (rec : List Int → Int → Int → List Int → List Int → Option ((Int × Int × List Int × List Int) ⊕ (List Int × List Int))) (x0 : List Int) (x6 : Int) (x7 : Int) (x8 : List Int) (x9 : List Int) : Option ((Int × Int × List Int × List Int) ⊕ (List Int × List Int)) :=
  bif decide ((x9.length : Int) ≤ (x0.length : Int)) then (bif fitsB (x9.length + [0].length) 4 then (rec x0 x6 x7 x8 (x9 ++ [0])) else none) else (some (.inl (x6, x7, x8, x9)))
def natural_divide.l0 (k : Nat) : Nat → List Int → Int → Int → List Int → List Int → Option ((Int × Int × List Int × List Int) ⊕ (List Int × List Int))
  | 0 => fun _ _ _ _ _ => none
  | n + 1 => natural_divide.b0 k (natural_divide.l0 k n)
def natural_divide (k : Nat) (a0 : List Int) (a1 : List Int) : Option (List Int × List Int) :=
  bif inR (w64 ((a1.length : Int) - 1)) (a1.length : Int) then ((bits_LeadingZeros32 (rd a1 (w64 ((a1.length : Int) - 1)))).bind fun t1 => (natural_left k a1 t1).bind fun t2 => (natural_left k a0 t1).bind fun t3 => joinB (α := Int × Int × List Int × List Int) (natural_divide.l0 k k a0 (a1.length : Int) t1 t2 t3) (fun y4 => bif ((decide (0 ≤ w64 ((y4.2.2.2.length : Int) - y4.1)) && decide (w64 ((y4.2.2.2.length : Int) - y4.1) ≤ w64 ((y4.2.2.2.length : Int) - y4.1))) && fitsB (Int.toNat (w64 ((y4.2.2.2.length : Int) - y4.1))) 4) then (let c5 := w64 ((w64 ((y4.2.2.2.length : Int) - y4.1)) - 1); joinB (α := Int × Int × List Int × List Int) (natural_divide.l1 k k y4.1 y4.2.1 y4.2.2.1 y4.2.2.2 (List.replicate (Int.toNat (w64 ((y4.2.2.2.length : Int) - y4.1))) (0 : Int)) c5) (fun y7 => (natural_trim_v k y7.2.2.2).bind fun t8 => bif ((decide (0 ≤ 0) && decide (0 ≤ y7.1)) && decide (y7.1 ≤ (y7.2.2.1.length : Int))) then ((natural_trim_v k (sub y7.2.2.1 0 (y7.1 - 0))).bind fun t9 => (natural_right k (sub y7.2.2.1 (0 + t9.1) t9.2) y7.2.1).bind fun t10 => some (sub y7.2.2.2 t8.1 t8.2, t10)) else none) some) else none) some) else none

def natural_divMod (k : Nat) (a0 : List Int) (a1 : List Int) : Option (List Int × List Int) :=
  (natural_compare k a0 a1).bind fun t1 => bif decide (t1 < 0) then ((slices_Clone_uint32uint32 a0).bind fun t2 => some ([], t2)) else (bif ((a1.length : Int) == 1) then (bif inR 0 (a1.length : Int) then ((natural_short k a0 (rd a1 0)).bind fun t3 => (natural_trim_v k [t3.2]).bind fun t4 => some (t3.1, sub [t3.2] t4.1 t4.2)) else none) else ((natural_divide k a0 a1).bind fun t5 => some (t5.1, t5.2)))

def natural_DivMod (k : Nat) (a0 : List Int) (a1 : List Int) : Option (List Int × List Int × Int × Int) :=
  (natural_check a0 a1).bind fun t1 => bif (t1.1 != 0) then (some ([], [], t1)) else (bif ((a1.length : Int) == 0) then ((natural_at 22 (-2)).bind fun t2 => some ([], [], t2)) else ((natural_divMod k a0 a1).bind fun t3 => some (t3.1, t3.2, (0, 0))))

def integer_DivMod (k : Nat) (a0 : Bool × List Int) (a1 : Bool × List Int) : Option ((Bool × List Int) × (Bool × List Int) × Int × Int) :=
  (integer_check k [a0, a1]).bind fun t1 => bif (t1.1 != 0) then (some ((false, []), (false, []), t1)) else ((natural_DivMod k a0.2 a1.2).bind fun t2 => bif (t2.2.2.1 != 0) then (some ((false, []), (false, []), t2.2.2)) else (joinB (α := (Bool × List Int) × (Bool × List Int) × (Bool × List Int) × (Bool × List Int) × (Int × Int) × List Int × List Int × Int × Int) (joinB (α := (Bool × List Int) × (Bool × List Int) × (Bool × List Int) × (Bool × List Int) × (Int × Int) × List Int × List Int × (Int × Int) × Bool) (bif (!(a0.1 == a1.1)) then (some (.inl (a0, a1, (false, []), (false, []), (0, 0), t2.1, t2.2.1, t2.2.2, decide (0 < (t2.2.1.length : Int))))) else (some (.inl (a0, a1, (false, []), (false, []), (0, 0), t2.1, t2.2.1, t2.2.2, false)))) (fun z3 => bif z3.2.2.2.2.2.2.2.2 then ((natural_Add k z3.2.2.2.2.2.1 [1]).bind fun t4 => (natural_Sub k z3.2.1.2 z3.2.2.2.2.2.2.1).bind fun t5 => some (.inl (z3.1, z3.2.1, z3.2.2.1, z3.2.2.2.1, z3.2.2.2.2.1, t4.1, t5.1, z3.2.2.2.2.2.2.2.1))) else (some (.inl (z3.1, z3.2.1, z3.2.2.1, z3.2.2.2.1, z3.2.2.2.2.1, z3.2.2.2.2.2.1, z3.2.2.2.2.2.2.1, z3.2.2.2.2.2.2.2.1)))) (fun r => some (.inr r))) (fun z6 => (integer_signed (!(z6.1.1 == z6.2.1.1)) z6.2.2.2.2.2.1).bind fun t7 => bif (t7.2.1 != 0) then (some ((false, []), (false, []), t7.2)) else ((integer_signed z6.2.1.1 z6.2.2.2.2.2.2.1).bind fun t8 => some (t7.1, t8.1, (0, 0)))) some))

def ranges_divMod (k : Nat) (a0 : Bool × List Int) (a1 : Bool × List Int) : Option ((Bool × List Int) × Bool × List Int) :=
  (integer_DivMod k a0 a1).bind fun t1 => some (t1.1, t1.2.1)

def ranges_length (k : Nat) (a0 : (Bool × List Int) × (Bool × List Int) × Bool × List Int) : Option (Bool × List Int) :=
  (ranges_sign k a0).bind fun t1 => (ranges_mul k a0.2.2 t1).bind fun t2 => joinB (α := (Bool × List Int) × (Bool × List Int) × (Bool × List Int) × Bool × List Int) (bif a0.2.2.1 then (some (.inl ((false, []), a0.2.1, a0.1, t2))) else (some (.inl ((false, []), a0.1, a0.2.1, t2)))) (fun z3 => (ranges_less k z3.2.1 z3.2.2.1).bind fun t4 => bif (!t4) then (some (false, [])) else ((ranges_sub k z3.2.2.1 z3.2.1).bind fun t5 => (integer_Of k 1).bind fun t6 => (ranges_sub k z3.2.2.2 t6).bind fun t7 => (ranges_add k t5 t7).bind fun t8 => (ranges_divMod k t8 z3.2.2.2).bind fun t9 => some t9.1)) some

def ranges_zero (a0 : Bool × List Int) : Option (Bool) :=
  some ((a0.2.length : Int) == 0)

def ranges_element (k : Nat) (a0 : (Bool × List Int) × (Bool × List Int) × Bool × List Int) (a1 : Bool × List Int) : Option (Bool × List Int) :=
  (ranges_mul k a0.2.2 a1).bind fun t1 => (ranges_add k a0.1 t1).bind fun t2 => some t2

def ranges_upward (k : Nat) (a0 : (Bool × List Int) × (Bool × List Int) × Bool × List Int) : Option ((Bool × List Int) × (Bool × List Int) × Bool × List Int) :=
  (ranges_length k a0).bind fun t1 => (integer_Of k 1).bind fun t2 => (ranges_sub k t1 t2).bind fun t3 => (ranges_element k a0 t3).bind fun t4 => bif a0.2.2.1 then ((ranges_sub k (false, []) a0.2.2).bind fun t5 => some (t4, a0.1, t5)) else (some (a0.1, t4, a0.2.2))

def natural_Gcd.b0 (k : Nat) (rec : List Int → List Int → (Int × Int) → Option ((List Int × Int × Int) ⊕ (List Int × Int × Int))) (x0 : List Int) (x1 : List Int) (x37 : Int × Int) : Option ((List Int × Int × Int) ⊕ (List Int × Int × Int)) :=
  bif decide (0 < (x1.length : Int)) then ((natural_divMod k x0 x1).bind fun t3 => (slices_Clone_uint32uint32 x1).bind fun t4 => rec t4 t3.2 x37) else (some (.inl (x0, x37)))
def natural_Gcd.l0 (k : Nat) : Nat → List Int → List Int → (Int × Int) → Option ((List Int × Int × Int) ⊕ (List Int × Int × Int))
  | 0 => fun _ _ _ => none
  | n + 1 => natural_Gcd.b0 k (natural_Gcd.l0 k n)
def natural_Gcd (k : Nat) (a0 : List Int) (a1 : List Int) : Option (List Int × Int × Int) :=
  (natural_check a0 a1).bind fun t1 => bif (t1.1 != 0) then (some ([], t1)) else ((slices_Clone_uint32uint32 a0).bind fun t2 => joinB (α := List Int × Int × Int) (natural_Gcd.l0 k k t2 a1 (0, 0)) (fun y5 => some (y5.1, (0, 0))) some)

def integer_Gcd (k : Nat) (a0 : Bool × List Int) (a1 : Bool × List Int) : Option ((Bool × List Int) × Int × Int) :=
  (integer_check k [a0, a1]).bind fun t1 => bif (t1.1 != 0) then (some ((false, []), t1)) else ((natural_Gcd k a0.2 a1.2).bind fun t2 => (integer_signed false t2.1).bind fun t3 => some (t3.1, t3.2))

def ranges_inverse.b0 (k : Nat) (rec : (Bool × List Int) → (Bool × List Int) → (Bool × List Int) → (Bool × List Int) → (Bool × List Int) → (Bool × List Int) → Option (((Bool × List Int) × (Bool × List Int) × Bool × List Int) ⊕ (Bool × List Int))) (x48 : Bool × List Int) (x49 : Bool × List Int) (x50 : Bool × List Int) (x51 : Bool × List Int) (x52 : Bool × List Int) (x54 : Bool × List Int) : Option (((Bool × List Int) × (Bool × List Int) × Bool × List Int) ⊕ (Bool × List Int)) :=
  (ranges_zero x54).bind fun t3 => bif (!t3) then ((ranges_divMod k x52 x54).bind fun t4 => (ranges_mul k t4.1 x51).bind fun t5 => (ranges_sub k x50 t5).bind fun t6 => rec x48 x49 x51 t6 x54 t4.2) else (some (.inl (x48, x49, x50)))
def ranges_inverse.l0 (k : Nat) : Nat → (Bool × List Int) → (Bool × List Int) → (Bool × List Int) → (Bool × List Int) → (Bool × List Int) → (Bool × List Int) → Option (((Bool × List Int) × (Bool × List Int) × Bool × List Int) ⊕ (Bool × List Int))
  | 0 => fun _ _ _ _ _ _ => none
  | n + 1 => ranges_inverse.b0 k (ranges_inverse.l0 k n)
def ranges_inverse (k : Nat) (a0 : Bool × List Int) (a1 : Bool × List Int) : Option (Bool × List Int) :=
  (integer_Of k 1).bind fun t1 => (ranges_divMod k a0 a1).bind fun t2 => joinB (α := (Bool × List Int) × (Bool × List Int) × Bool × List Int) (ranges_inverse.l0 k k a1 (false, []) (false, []) t1 a1 t2.2) (fun y7 => (ranges_divMod k y7.2.2 y7.1).bind fun t8 => some t8.2) some

def ranges_common (k : Nat) (a0 : (Bool × List Int) × (Bool × List Int) × Bool × List Int) (a1 : (Bool × List Int) × (Bool × List Int) × Bool × List Int) : Option ((Bool × List Int) × (Bool × List Int) × Bool) :=
  (integer_Gcd k a0.2.2 a1.2.2).bind fun t1 => (ranges_sub k a1.1 a0.1).bind fun t2 => (ranges_divMod k t2 t1.1).bind fun t3 => (ranges_zero t3.2).bind fun t4 => bif (!t4) then (some ((false, []), (false, []), false)) else ((ranges_divMod k a0.2.2 t1.1).bind fun t5 => (ranges_divMod k a1.2.2 t1.1).bind fun t6 => (ranges_divMod k t3.1 t6.1).bind fun t7 => (ranges_inverse k t5.1 t6.1).bind fun t8 => (ranges_mul k t7.2 t8).bind fun t9 => (ranges_divMod k t9 t6.1).bind fun t10 => (ranges_mul k a0.2.2 t10.2).bind fun t11 => (ranges_add k a0.1 t11).bind fun t12 => (ranges_mul k a0.2.2 t6.1).bind fun t13 => some (t12, t13, true))

def ranges_plain (k : Nat) (a0 : (Bool × List Int) × (Bool × List Int) × Bool × List Int) : Option ((Bool × List Int) × (Bool × List Int) × Bool × List Int) :=
  (ranges_length k a0).bind fun t1 => (ranges_zero t1).bind fun t2 => bif t2 then ((integer_Of k 1).bind fun t3 => some ((false, []), (false, []), t3)) else ((integer_Of k 1).bind fun t4 => (ranges_sub k t1 t4).bind fun t5 => (ranges_element k a0 t5).bind fun t6 => (ranges_add k a0.1 (false, [])).bind fun t7 => (ranges_sign k a0).bind fun t8 => (ranges_add k t6 t8).bind fun t9 => (ranges_add k a0.2.2 (false, [])).bind fun t10 => (integer_Of k 1).bind fun t11 => (ranges_less k t11 t1).bind fun t12 => bif (!t12) then ((ranges_sign k a0).bind fun t13 => some (t7, t9, t13)) else (some (t7, t9, t10)))

def ranges_whole (a0 : (Bool × List Int) × (Bool × List Int) × Bool × List Int) : Option (((Bool × List Int) × (Bool × List Int) × Bool × List Int) × Int × Int) :=
  (ranges_Valid a0).bind fun t1 => bif (!t1) then ((ranges_at 14 (-1)).bind fun t2 => some (((false, []), (false, []), false, []), t2)) else (some (a0, (0, 0)))

def ranges_Meet (k : Nat) (a0 : (Bool × List Int) × (Bool × List Int) × Bool × List Int) (a1 : (Bool × List Int) × (Bool × List Int) × Bool × List Int) : Option (((Bool × List Int) × (Bool × List Int) × Bool × List Int) × Int × Int) :=
  (ranges_check k [a0, a1]).bind fun t1 => bif (t1.1 != 0) then (some (((false, []), (false, []), false, []), t1)) else ((integer_Of k 1).bind fun t2 => joinB (α := ((Bool × List Int) × (Bool × List Int) × Bool × List Int) × ((Bool × List Int) × (Bool × List Int) × Bool × List Int) × ((Bool × List Int) × (Bool × List Int) × Bool × List Int) × (Int × Int) × (Bool × List Int) × (Bool × List Int) × Bool × List Int) ((ranges_length k a0).bind fun t3 => (ranges_zero t3).bind fun t4 => bif t4 then (some (.inr (((false, []), (false, []), t2), (0, 0)))) else ((ranges_length k a1).bind fun t5 => (ranges_zero t5).bind fun t6 => bif t6 then (some (.inr (((false, []), (false, []), t2), (0, 0)))) else (some (.inl (a0, a1, ((false, []), (false, []), false, []), (0, 0), ((false, []), (false, []), t2)))))) (fun z7 => (ranges_upward k z7.1).bind fun t8 => (ranges_upward k z7.2.1).bind fun t9 => (ranges_common k t8 t9).bind fun t10 => bif (!t10.2.2) then (some (z7.2.2.2.2, (0, 0))) else (joinB (α := ((Bool × List Int) × (Bool × List Int) × Bool × List Int) × (Int × Int) × ((Bool × List Int) × (Bool × List Int) × Bool × List Int) × ((Bool × List Int) × (Bool × List Int) × Bool × List Int) × (Bool × List Int) × Bool × List Int) ((ranges_less k t10.1 t9.1).bind fun t11 => bif t11 then ((ranges_sub k t9.1 t10.1).bind fun t12 => (integer_Of k 1).bind fun t13 => (ranges_sub k t10.2.1 t13).bind fun t14 => (ranges_add k t12 t14).bind fun t15 => (ranges_divMod k t15 t10.2.1).bind fun t16 => (ranges_mul k t10.2.1 t16.1).bind fun t17 => (ranges_add k t10.1 t17).bind fun t18 => some (.inl (z7.2.2.1, z7.2.2.2.1, t8, t9, t18, t10.2.1))) else (some (.inl (z7.2.2.1, z7.2.2.2.1, t8, t9, t10.1, t10.2.1)))) (fun z19 => joinB (α := ((Bool × List Int) × (Bool × List Int) × Bool × List Int) × (Int × Int) × (Bool × List Int) × (Bool × List Int) × Bool × List Int) ((ranges_less k z19.2.2.2.1.2.1 z19.2.2.1.2.1).bind fun t20 => bif t20 then (some (.inl (z19.1, z19.2.1, z19.2.2.2.2.1, z19.2.2.2.2.2, z19.2.2.2.1.2.1))) else (some (.inl (z19.1, z19.2.1, z19.2.2.2.2.1, z19.2.2.2.2.2, z19.2.2.1.2.1)))) (fun z21 => (integer_Of k 1).bind fun t22 => (ranges_add k z21.2.2.2.2 t22).bind fun t23 => (ranges_plain k (z21.2.2.1, t23, z21.2.2.2.1)).bind fun t24 => (ranges_whole t24).bind fun t25 => some (t25.1, t25.2)) some) some)) some)

def brindlewoodref3_IntOk (a0 : Bool × List Int) : Option (Bool) :=
  bif decide ((a0.2.length : Int) ≤ 128) then (bif ((a0.2.length : Int) == 0) then (bif (!a0.1) then (some true) else (bif decide (0 < (a0.2.length : Int)) then (bif inR (w64 ((a0.2.length : Int) - 1)) (a0.2.length : Int) then (let c1 := ((rd a0.2 (w64 ((a0.2.length : Int) - 1))) != 0); some c1) else none) else (some false))) else (bif decide (0 < (a0.2.length : Int)) then (bif inR (w64 ((a0.2.length : Int) - 1)) (a0.2.length : Int) then (let c2 := ((rd a0.2 (w64 ((a0.2.length : Int) - 1))) != 0); some c2) else none) else (some false))) else (some false)

def brindlewoodref3_NoInt (a0 : Bool × List Int) : Option (Bool) :=
  bif (!a0.1) then (some ((a0.2.length : Int) == 0)) else (some false)

def brindlewoodref3_RangeOk.b0 (k : Nat) (rec : ((Bool × List Int) × (Bool × List Int) × Bool × List Int) → (List (Bool × List Int)) → Int → Option (((Bool × List Int) × (Bool × List Int) × Bool × List Int) ⊕ (Bool))) (x36 : (Bool × List Int) × (Bool × List Int) × Bool × List Int) (x3 : List (Bool × List Int)) (x4 : Int) : Option (((Bool × List Int) × (Bool × List Int) × Bool × List Int) ⊕ (Bool)) :=
  bif decide (x4 < 3) then (bif inR x4 (x3.length : Int) then ((brindlewoodref3_IntOk (nth (.st (.pair (.bool) (.list (.int .u32)))) x3 x4)).bind fun t1 => bif (!t1) then (some (.inr false)) else (bif inR x4 (x3.length : Int) then (bif decide (40 < (((nth (.st (.pair (.bool) (.list (.int .u32)))) x3 x4).2).length : Int)) then (some (.inr false)) else (rec x36 x3 (w64 (x4 + 1)))) else none)) else none) else (some (.inl x36))
def brindlewoodref3_RangeOk.l0 (k : Nat) : Nat → ((Bool × List Int) × (Bool × List Int) × Bool × List Int) → (List (Bool × List Int)) → Int → Option (((Bool × List Int) × (Bool × List Int) × Bool × List Int) ⊕ (Bool))
  | 0 => fun _ _ _ => none
  | n + 1 => brindlewoodref3_RangeOk.b0 k (brindlewoodref3_RangeOk.l0 k n)
def brindlewoodref3_RangeOk (k : Nat) (a0 : (Bool × List Int) × (Bool × List Int) × Bool × List Int) : Option (Bool) :=
  joinB (α := (Bool × List Int) × (Bool × List Int) × Bool × List Int) (brindlewoodref3_RangeOk.l0 k k a0 [a0.1, a0.2.1, a0.2.2] 0) (fun y2 => (brindlewoodref3_NoInt y2.2.2).bind fun t3 => some (!t3)) some

def brindlewoodref3_At (a0 : Int) (a1 : Int) : Option (Int × Int) :=
  some (a0, a1)

def ranges_Length (k : Nat) (a0 : (Bool × List Int) × (Bool × List Int) × Bool × List Int) : Option ((Bool × List Int) × Int × Int) :=
  (ranges_check k [a0]).bind fun t1 => bif (t1.1 != 0) then (some ((false, []), t1)) else ((ranges_length k a0).bind fun t2 => some (t2, (0, 0)))

def brindlewoodref3_trim_v.b0 (k : Nat) (rec : List Int → (Int × Int) → Option ((List Int × Int × Int) ⊕ (Int × Int))) (x0_0 : List Int) (x0_1 : Int × Int) : Option ((List Int × Int × Int) ⊕ (Int × Int)) :=
  bif decide (0 < x0_1.2) then (bif inR (w64 (x0_1.2 - 1)) x0_1.2 then (bif ((rd x0_0 (x0_1.1 + (w64 (x0_1.2 - 1)))) == 0) then (bif ((decide (0 ≤ 0) && decide (0 ≤ w64 (x0_1.2 - 1))) && decide (w64 (x0_1.2 - 1) ≤ x0_1.2)) then (rec x0_0 ((x0_1.1 + 0), ((w64 (x0_1.2 - 1)) - 0))) else none) else (some (.inl (x0_0, (x0_1.1, x0_1.2))))) else none) else (some (.inl (x0_0, (x0_1.1, x0_1.2))))
def brindlewoodref3_trim_v.l0 (k : Nat) : Nat → List Int → (Int × Int) → Option ((List Int × Int × Int) ⊕ (Int × Int))
  | 0 => fun _ _ => none
  | n + 1 => brindlewoodref3_trim_v.b0 k (brindlewoodref3_trim_v.l0 k n)
def brindlewoodref3_trim_v (k : Nat) (a0 : List Int) : Option (Int × Int) :=
  joinB (α := List Int × Int × Int) (brindlewoodref3_trim_v.l0 k k a0 (0, (a0.length : Int))) (fun y1 => some (y1.2.1, y1.2.2)) some

def brindlewoodref3_Binary.b1 (k : Nat) (rec : List Bool → List Int → Int → Int → Int → Option ((List Bool × List Int × Int × Int) ⊕ (List Int))) (x0 : List Bool) (x3 : List Int) (x4 : Int) (x5 : Int) (x6 : Int) : Option ((List Bool × List Int × Int × Int) ⊕ (List Int)) :=
  bif decide (0 ≤ x6) then (bif decide (w64 (x4 + x6) < (x0.length : Int)) then (bif inR (w64 (x4 + x6)) (x0.length : Int) then (bif rdB x0 (w64 (x4 + x6)) then (rec x0 x3 x4 (w64 ((w64 (x5 * 2)) + 1)) (w64 (x6 - 1))) else (rec x0 x3 x4 (w64 (x5 * 2)) (w64 (x6 - 1)))) else none) else (rec x0 x3 x4 (w64 (x5 * 2)) (w64 (x6 - 1)))) else (some (.inl (x0, x3, x4, x5)))
def brindlewoodref3_Binary.l1 (k : Nat) : Nat → List Bool → List Int → Int → Int → Int → Option ((List Bool × List Int × Int × Int) ⊕ (List Int))
  | 0 => fun _ _ _ _ _ => none
  | n + 1 => brindlewoodref3_Binary.b1 k (brindlewoodref3_Binary.l1 k n)
def brindlewoodref3_Binary.b0 (k : Nat) (rec : List Bool → List Int → Int → Option ((List Int) ⊕ (List Int))) (x0 : List Bool) (x3 : List Int) (x4 : Int) : Option ((List Int) ⊕ (List Int)) :=
  bif decide (x4 < (x0.length : Int)) then (joinB (α := List Bool × List Int × Int × Int) (brindlewoodref3_Binary.l1 k k x0 x3 x4 0 15) (fun y1 => bif fitsB (y1.2.1.length + [y1.2.2.2].length) 8 then (rec y1.1 (y1.2.1 ++ [y1.2.2.2]) (w64 (y1.2.2.1 + 16))) else none) (fun r => some (.inr r))) else (some (.inl x3))
def brindlewoodref3_Binary.l0 (k : Nat) : Nat → List Bool → List Int → Int → Option ((List Int) ⊕ (List Int))
  | 0 => fun _ _ _ => none
  | n + 1 => brindlewoodref3_Binary.b0 k (brindlewoodref3_Binary.l0 k n)
def brindlewoodref3_Binary (k : Nat) (a0 : List Bool) : Option (List Int) :=
  joinB (α := List Int) (brindlewoodref3_Binary.l0 k k a0 [] 0) (fun y2 => (brindlewoodref3_trim_v k y2).bind fun t3 => some (sub y2 t3.1 t3.2)) some

def brindlewoodref3_Number.b0 (k : Nat) (rec : Int → (Bool × List Int) → List Bool → Bool → Option (((Bool × List Int) × List Bool × Bool) ⊕ (Bool × List Int))) (x0 : Int) (x23 : Bool × List Int) (x3 : List Bool) (x4 : Bool) : Option (((Bool × List Int) × List Bool × Bool) ⊕ (Bool × List Int)) :=
  bif (x0 != 0) then (bif fitsB (x3.length + [((Int.tmod x0 2) != 0)].length) 1 then (rec (w64 (Int.tdiv x0 2)) x23 (x3 ++ [((Int.tmod x0 2) != 0)]) x4) else none) else (some (.inl (x23, x3, x4)))
def brindlewoodref3_Number.l0 (k : Nat) : Nat → Int → (Bool × List Int) → List Bool → Bool → Option (((Bool × List Int) × List Bool × Bool) ⊕ (Bool × List Int))
  | 0 => fun _ _ _ _ => none
  | n + 1 => brindlewoodref3_Number.b0 k (brindlewoodref3_Number.l0 k n)
def brindlewoodref3_Number (k : Nat) (a0 : Int) : Option (Bool × List Int) :=
  joinB (α := (Bool × List Int) × List Bool × Bool) (brindlewoodref3_Number.l0 k k a0 (false, []) [] (decide (a0 < 0))) (fun y1 => (brindlewoodref3_Binary k y1.2.1).bind fun t2 => some (y1.2.2, t2)) some

def brindlewoodref3_Limbs.b0 (k : Nat) (rec : List Int → List Int → Int → Option ((List Int) ⊕ (List Int))) (x0 : List Int) (x3 : List Int) (x4 : Int) : Option ((List Int) ⊕ (List Int)) :=
  bif decide (x4 < (x0.length : Int)) then (bif inR x4 (x0.length : Int) then (bif decide (w64 (x4 + 1) < (x0.length : Int)) then (bif inR (w64 (x4 + 1)) (x0.length : Int) then (let c1 := wu32 ((wu32 (rd x0 x4)) + (wu32 ((wu32 (rd x0 (w64 (x4 + 1)))) * 65536))); bif fitsB (x3.length + [c1].length) 4 then (rec x0 (x3 ++ [c1]) (w64 (x4 + 2))) else none) else none) else (bif fitsB (x3.length + [wu32 (rd x0 x4)].length) 4 then (rec x0 (x3 ++ [wu32 (rd x0 x4)]) (w64 (x4 + 2))) else none)) else none) else (some (.inl x3))
def brindlewoodref3_Limbs.l0 (k : Nat) : Nat → List Int → List Int → Int → Option ((List Int) ⊕ (List Int))
  | 0 => fun _ _ _ => none
  | n + 1 => brindlewoodref3_Limbs.b0 k (brindlewoodref3_Limbs.l0 k n)
def brindlewoodref3_Limbs (k : Nat) (a0 : List Int) : Option (List Int) :=
  joinB (α := List Int) (brindlewoodref3_Limbs.l0 k k a0 [] 0) (fun y2 => some y2) some

def brindlewoodref3_SameLimbs.b0 (k : Nat) (rec : List Int → List Int → Int → Option ((Unit) ⊕ (Bool))) (x0 : List Int) (x1 : List Int) (x5 : Int) : Option ((Unit) ⊕ (Bool)) :=
  bif decide (x5 < (x0.length : Int)) then (bif inR x5 (x0.length : Int) then (bif inR x5 (x1.length : Int) then (bif ((rd x0 x5) != (rd x1 x5)) then (some (.inr false)) else (rec x0 x1 (w64 (x5 + 1)))) else none) else none) else (some (.inl ()))
def brindlewoodref3_SameLimbs.l0 (k : Nat) : Nat → List Int → List Int → Int → Option ((Unit) ⊕ (Bool))
  | 0 => fun _ _ _ => none
  | n + 1 => brindlewoodref3_SameLimbs.b0 k (brindlewoodref3_SameLimbs.l0 k n)
def brindlewoodref3_SameLimbs (k : Nat) (a0 : List Int) (a1 : List Int) : Option (Bool) :=
  bif ((a0.length : Int) != (a1.length : Int)) then (some false) else (joinB (α := Unit) (brindlewoodref3_SameLimbs.l0 k k a0 a1 0) (fun y1 => some true) some)

def brindlewoodref3_SameInt (k : Nat) (a0 : Bool × List Int) (a1 : Bool × List Int) : Option (Bool) :=
  bif a1.1 then (bif (a0.1 == (decide (0 < (a1.2.length : Int)))) then ((brindlewoodref3_Limbs k a1.2).bind fun t1 => (brindlewoodref3_SameLimbs k a0.2 t1).bind fun t2 => some t2) else (some false)) else (bif (a0.1 == false) then ((brindlewoodref3_Limbs k a1.2).bind fun t3 => (brindlewoodref3_SameLimbs k a0.2 t3).bind fun t4 => some t4) else (some false))

def brindlewoodlaw3_spans (k : Nat)  : Option (Bool) :=
  (integer_Of k 10).bind fun t1 => (integer_Of k (-3)).bind fun t2 => (ranges_Length k (t1, (false, []), t2)).bind fun t3 => (integer_Of k 20).bind fun t4 => (integer_Of k 4).bind fun t5 => (integer_Of k 18).bind fun t6 => (integer_Of k (-6)).bind fun t7 => (ranges_Meet k ((false, []), t4, t5) (t6, (false, []), t7)).bind fun t8 => bif (t3.2.1 == 0) then (bif (t8.2.1 == 0) then ((brindlewoodref3_Number k 4).bind fun t9 => (brindlewoodref3_SameInt k t3.1 t9).bind fun t10 => bif t10 then ((brindlewoodref3_Number k 12).bind fun t11 => (brindlewoodref3_SameInt k t8.1.1 t11).bind fun t12 => bif t12 then ((brindlewoodref3_Number k 13).bind fun t13 => (brindlewoodref3_SameInt k t8.1.2.1 t13).bind fun t14 => bif t14 then ((brindlewoodref3_Number k 1).bind fun t15 => (brindlewoodref3_SameInt k t8.1.2.2 t15).bind fun t16 => some t16) else (some false)) else (some false)) else (some false)) else (some false)) else (some false)

def brindlewoodref3_NoRange (a0 : (Bool × List Int) × (Bool × List Int) × Bool × List Int) : Option (Bool) :=
  (brindlewoodref3_NoInt a0.1).bind fun t1 => bif t1 then ((brindlewoodref3_NoInt a0.2.1).bind fun t2 => bif t2 then ((brindlewoodref3_NoInt a0.2.2).bind fun t3 => some t3) else (some false)) else (some false)

def brindlewoodref3_Of.b0 (k : Nat) (rec : List Int → List Int → Int → Option ((List Int) ⊕ (List Int))) (x0 : List Int) (x3 : List Int) (x4 : Int) : Option ((List Int) ⊕ (List Int)) :=
  bif decide (x4 < (x0.length : Int)) then (bif inR x4 (x0.length : Int) then (bif inR x4 (x0.length : Int) then (bif fitsB (x3.length + [w64 (Int.tmod (rd x0 x4) 65536), w64 (wu32 (Int.tdiv (rd x0 x4) 65536))].length) 8 then (rec x0 (x3 ++ [w64 (Int.tmod (rd x0 x4) 65536), w64 (wu32 (Int.tdiv (rd x0 x4) 65536))]) (w64 (x4 + 1))) else none) else none) else none) else (some (.inl x3))
def brindlewoodref3_Of.l0 (k : Nat) : Nat → List Int → List Int → Int → Option ((List Int) ⊕ (List Int))
  | 0 => fun _ _ _ => none
  | n + 1 => brindlewoodref3_Of.b0 k (brindlewoodref3_Of.l0 k n)
def brindlewoodref3_Of (k : Nat) (a0 : List Int) : Option (List Int) :=
  joinB (α := List Int) (brindlewoodref3_Of.l0 k k a0 [] 0) (fun y1 => (brindlewoodref3_trim_v k y1).bind fun t2 => some (sub y1 t2.1 t2.2)) some

def brindlewoodref3_IntOf (k : Nat) (a0 : Bool × List Int) : Option (Bool × List Int) :=
  (brindlewoodref3_Of k a0.2).bind fun t1 => some (a0.1, t1)

def brindlewoodref3_Int_Minus (a0 : Bool × List Int) : Option (Bool × List Int) :=
  bif (!a0.1) then (some (decide (0 < (a0.2.length : Int)), a0.2)) else (some (false, a0.2))

def brindlewoodref3_Plus.b0 (k : Nat) (rec : List Int → List Int → List Int → Int → Int → Option ((List Int) ⊕ (List Int))) (x0 : List Int) (x1 : List Int) (x5 : List Int) (x6 : Int) (x7 : Int) : Option ((List Int) ⊕ (List Int)) :=
  bif decide (x7 < (x0.length : Int)) then (joinB (α := List Int × List Int × List Int × Int × Int) (bif decide (x7 < (x0.length : Int)) then (bif inR x7 (x0.length : Int) then (some (.inl (x0, x1, x5, w64 (x6 + (rd x0 x7)), x7))) else none) else (some (.inl (x0, x1, x5, x6, x7)))) (fun z1 => bif decide (z1.2.2.2.2 < (z1.2.1.length : Int)) then (bif inR z1.2.2.2.2 (z1.2.1.length : Int) then (let c2 := w64 (z1.2.2.2.1 + (rd z1.2.1 z1.2.2.2.2)); bif fitsB (z1.2.2.1.length + [Int.tmod c2 65536].length) 8 then (rec z1.1 z1.2.1 (z1.2.2.1 ++ [Int.tmod c2 65536]) (w64 (Int.tdiv c2 65536)) (w64 (z1.2.2.2.2 + 1))) else none) else none) else (bif fitsB (z1.2.2.1.length + [Int.tmod z1.2.2.2.1 65536].length) 8 then (let c3 := w64 (Int.tdiv z1.2.2.2.1 65536); rec z1.1 z1.2.1 (z1.2.2.1 ++ [Int.tmod z1.2.2.2.1 65536]) c3 (w64 (z1.2.2.2.2 + 1))) else none)) (fun r => some (.inr r))) else (bif decide (x7 < (x1.length : Int)) then (joinB (α := List Int × List Int × List Int × Int × Int) (bif decide (x7 < (x0.length : Int)) then (bif inR x7 (x0.length : Int) then (some (.inl (x0, x1, x5, w64 (x6 + (rd x0 x7)), x7))) else none) else (some (.inl (x0, x1, x5, x6, x7)))) (fun z4 => bif decide (z4.2.2.2.2 < (z4.2.1.length : Int)) then (bif inR z4.2.2.2.2 (z4.2.1.length : Int) then (let c5 := w64 (z4.2.2.2.1 + (rd z4.2.1 z4.2.2.2.2)); bif fitsB (z4.2.2.1.length + [Int.tmod c5 65536].length) 8 then (rec z4.1 z4.2.1 (z4.2.2.1 ++ [Int.tmod c5 65536]) (w64 (Int.tdiv c5 65536)) (w64 (z4.2.2.2.2 + 1))) else none) else none) else (bif fitsB (z4.2.2.1.length + [Int.tmod z4.2.2.2.1 65536].length) 8 then (let c6 := w64 (Int.tdiv z4.2.2.2.1 65536); rec z4.1 z4.2.1 (z4.2.2.1 ++ [Int.tmod z4.2.2.2.1 65536]) c6 (w64 (z4.2.2.2.2 + 1))) else none)) (fun r => some (.inr r))) else (bif decide (0 < x6) then (joinB (α := List Int × List Int × List Int × Int × Int) (bif decide (x7 < (x0.length : Int)) then (bif inR x7 (x0.length : Int) then (some (.inl (x0, x1, x5, w64 (x6 + (rd x0 x7)), x7))) else none) else (some (.inl (x0, x1, x5, x6, x7)))) (fun z7 => bif decide (z7.2.2.2.2 < (z7.2.1.length : Int)) then (bif inR z7.2.2.2.2 (z7.2.1.length : Int) then (let c8 := w64 (z7.2.2.2.1 + (rd z7.2.1 z7.2.2.2.2)); bif fitsB (z7.2.2.1.length + [Int.tmod c8 65536].length) 8 then (rec z7.1 z7.2.1 (z7.2.2.1 ++ [Int.tmod c8 65536]) (w64 (Int.tdiv c8 65536)) (w64 (z7.2.2.2.2 + 1))) else none) else none) else (bif fitsB (z7.2.2.1.length + [Int.tmod z7.2.2.2.1 65536].length) 8 then (let c9 := w64 (Int.tdiv z7.2.2.2.1 65536); rec z7.1 z7.2.1 (z7.2.2.1 ++ [Int.tmod z7.2.2.2.1 65536]) c9 (w64 (z7.2.2.2.2 + 1))) else none)) (fun r => some (.inr r))) else (some (.inl x5))))
def brindlewoodref3_Plus.l0 (k : Nat) : Nat → List Int → List Int → List Int → Int → Int → Option ((List Int) ⊕ (List Int))
  | 0 => fun _ _ _ _ _ => none
  | n + 1 => brindlewoodref3_Plus.b0 k (brindlewoodref3_Plus.l0 k n)
def brindlewoodref3_Plus (k : Nat) (a0 : List Int) (a1 : List Int) : Option (List Int) :=
  joinB (α := List Int) (brindlewoodref3_Plus.l0 k k a0 a1 [] 0 0) (fun y10 => (brindlewoodref3_trim_v k y10).bind fun t11 => some (sub y10 t11.1 t11.2)) some

def brindlewoodref3_Compare.b0 (k : Nat) (rec : List Int → List Int → Int → Option ((Unit) ⊕ (Int))) (x0 : List Int) (x1 : List Int) (x5 : Int) : Option ((Unit) ⊕ (Int)) :=
  bif decide (0 ≤ x5) then (bif inR x5 (x0.length : Int) then (bif inR x5 (x1.length : Int) then (bif decide (rd x0 x5 < rd x1 x5) then (some (.inr (-1))) else (bif inR x5 (x0.length : Int) then (bif inR x5 (x1.length : Int) then (bif decide (rd x1 x5 < rd x0 x5) then (some (.inr 1)) else (rec x0 x1 (w64 (x5 - 1)))) else none) else none)) else none) else none) else (some (.inl ()))
def brindlewoodref3_Compare.l0 (k : Nat) : Nat → List Int → List Int → Int → Option ((Unit) ⊕ (Int))
  | 0 => fun _ _ _ => none
  | n + 1 => brindlewoodref3_Compare.b0 k (brindlewoodref3_Compare.l0 k n)
def brindlewoodref3_Compare (k : Nat) (a0 : List Int) (a1 : List Int) : Option (Int) :=
  bif ((a0.length : Int) != (a1.length : Int)) then (bif decide ((a0.length : Int) < (a1.length : Int)) then (some (-1)) else (some 1)) else (joinB (α := Unit) (brindlewoodref3_Compare.l0 k k a0 a1 (w64 ((a0.length : Int) - 1))) (fun y1 => some 0) some)

def brindlewoodref3_Minus.b0 (k : Nat) (rec : List Int → List Int → List Int → Int → Int → Option ((List Int) ⊕ (List Int))) (x0 : List Int) (x1 : List Int) (x5 : List Int) (x6 : Int) (x7 : Int) : Option ((List Int) ⊕ (List Int)) :=
  bif decide (x7 < (x0.length : Int)) then (bif inR x7 (x0.length : Int) then (joinB (α := List Int × List Int × List Int × Int × Int) (bif decide (x7 < (x1.length : Int)) then (bif inR x7 (x1.length : Int) then (let c1 := w64 ((w64 ((rd x0 x7) - x6)) - (rd x1 x7)); some (.inl (x0, x1, x5, x7, c1))) else none) else (some (.inl (x0, x1, x5, x7, w64 ((rd x0 x7) - x6))))) (fun z2 => bif decide (z2.2.2.2.2 < 0) then (bif fitsB (z2.2.2.1.length + [w64 (z2.2.2.2.2 + 65536)].length) 8 then (rec z2.1 z2.2.1 (z2.2.2.1 ++ [w64 (z2.2.2.2.2 + 65536)]) 1 (w64 (z2.2.2.2.1 + 1))) else none) else (bif fitsB (z2.2.2.1.length + [z2.2.2.2.2].length) 8 then (rec z2.1 z2.2.1 (z2.2.2.1 ++ [z2.2.2.2.2]) 0 (w64 (z2.2.2.2.1 + 1))) else none)) (fun r => some (.inr r))) else none) else (some (.inl x5))
def brindlewoodref3_Minus.l0 (k : Nat) : Nat → List Int → List Int → List Int → Int → Int → Option ((List Int) ⊕ (List Int))
  | 0 => fun _ _ _ _ _ => none
  | n + 1 => brindlewoodref3_Minus.b0 k (brindlewoodref3_Minus.l0 k n)
def brindlewoodref3_Minus (k : Nat) (a0 : List Int) (a1 : List Int) : Option (List Int) :=
  joinB (α := List Int) (brindlewoodref3_Minus.l0 k k a0 a1 [] 0 0) (fun y3 => (brindlewoodref3_trim_v k y3).bind fun t4 => some (sub y3 t4.1 t4.2)) some

def brindlewoodref3_Int_Plus (k : Nat) (a0 : Bool × List Int) (a1 : Bool × List Int) : Option (Bool × List Int) :=
  bif (a0.1 == a1.1) then ((brindlewoodref3_Plus k a0.2 a1.2).bind fun t1 => some (a0.1, t1)) else ((brindlewoodref3_Compare k a0.2 a1.2).bind fun t2 => bif decide (0 ≤ t2) then ((brindlewoodref3_Minus k a0.2 a1.2).bind fun t3 => some (a0.1, t3)) else ((brindlewoodref3_Minus k a1.2 a0.2).bind fun t4 => some (a1.1, t4)))

def brindlewoodref3_Ones.b2 (k : Nat) (rec : List Bool → Option ((List Bool) ⊕ (List Bool))) (x3 : List Bool) : Option ((List Bool) ⊕ (List Bool)) :=
  bif decide (0 < (x3.length : Int)) then (bif inR (w64 ((x3.length : Int) - 1)) (x3.length : Int) then (bif (!(rdB x3 (w64 ((x3.length : Int) - 1)))) then (bif ((decide (0 ≤ 0) && decide (0 ≤ w64 ((x3.length : Int) - 1))) && decide (w64 ((x3.length : Int) - 1) ≤ (x3.length : Int))) then (rec (sub x3 0 ((w64 ((x3.length : Int) - 1)) - 0))) else none) else (some (.inl x3))) else none) else (some (.inl x3))
def brindlewoodref3_Ones.l2 (k : Nat) : Nat → List Bool → Option ((List Bool) ⊕ (List Bool))
  | 0 => fun _ => none
  | n + 1 => brindlewoodref3_Ones.b2 k (brindlewoodref3_Ones.l2 k n)
def brindlewoodref3_Ones.b1 (k : Nat) (rec : List Int → List Bool → Int → Int → Int → Option ((List Int × List Bool × Int) ⊕ (List Bool))) (x0 : List Int) (x3 : List Bool) (x4 : Int) (x5 : Int) (x6 : Int) : Option ((List Int × List Bool × Int) ⊕ (List Bool)) :=
  bif decide (x6 < 16) then (bif fitsB (x3.length + [((Int.tmod x5 2) == 1)].length) 1 then (rec x0 (x3 ++ [((Int.tmod x5 2) == 1)]) x4 (w64 (Int.tdiv x5 2)) (w64 (x6 + 1))) else none) else (some (.inl (x0, x3, x4)))
def brindlewoodref3_Ones.l1 (k : Nat) : Nat → List Int → List Bool → Int → Int → Int → Option ((List Int × List Bool × Int) ⊕ (List Bool))
  | 0 => fun _ _ _ _ _ => none
  | n + 1 => brindlewoodref3_Ones.b1 k (brindlewoodref3_Ones.l1 k n)
def brindlewoodref3_Ones.b0 (k : Nat) (rec : List Int → List Bool → Int → Option ((List Bool) ⊕ (List Bool))) (x0 : List Int) (x3 : List Bool) (x4 : Int) : Option ((List Bool) ⊕ (List Bool)) :=
  bif decide (x4 < (x0.length : Int)) then (bif inR x4 (x0.length : Int) then (joinB (α := List Int × List Bool × Int) (brindlewoodref3_Ones.l1 k k x0 x3 x4 (rd x0 x4) 0) (fun y1 => rec y1.1 y1.2.1 (w64 (y1.2.2 + 1))) (fun r => some (.inr r))) else none) else (some (.inl x3))
def brindlewoodref3_Ones.l0 (k : Nat) : Nat → List Int → List Bool → Int → Option ((List Bool) ⊕ (List Bool))
  | 0 => fun _ _ _ => none
  | n + 1 => brindlewoodref3_Ones.b0 k (brindlewoodref3_Ones.l0 k n)
def brindlewoodref3_Ones (k : Nat) (a0 : List Int) : Option (List Bool) :=
  joinB (α := List Bool) (brindlewoodref3_Ones.l0 k k a0 [] 0) (fun y2 => joinB (α := List Bool) (brindlewoodref3_Ones.l2 k k y2) (fun y3 => some y3) some) some

def brindlewoodref3_Double.b0 (k : Nat) (rec : List Int → Int → List Int → Int → Option ((Int × List Int) ⊕ (List Int))) (x0 : List Int) (x5 : Int) (x6 : List Int) (x7 : Int) : Option ((Int × List Int) ⊕ (List Int)) :=
  bif decide (x7 < (x0.length : Int)) then (bif inR x7 (x0.length : Int) then (let c2 := w64 ((w64 (2 * (rd x0 x7))) + x5); bif fitsB (x6.length + [Int.tmod c2 65536].length) 8 then (rec x0 (w64 (Int.tdiv c2 65536)) (x6 ++ [Int.tmod c2 65536]) (w64 (x7 + 1))) else none) else none) else (some (.inl (x5, x6)))
def brindlewoodref3_Double.l0 (k : Nat) : Nat → List Int → Int → List Int → Int → Option ((Int × List Int) ⊕ (List Int))
  | 0 => fun _ _ _ _ => none
  | n + 1 => brindlewoodref3_Double.b0 k (brindlewoodref3_Double.l0 k n)
def brindlewoodref3_Double (k : Nat) (a0 : List Int) (a1 : Bool) : Option (List Int) :=
  joinB (α := List Int × Int) (bif a1 then (some (.inl (a0, 1))) else (some (.inl (a0, 0)))) (fun z1 => joinB (α := Int × List Int) (brindlewoodref3_Double.l0 k k z1.1 z1.2 [] 0) (fun y3 => bif decide (0 < y3.1) then (bif fitsB (y3.2.length + [y3.1].length) 8 then ((brindlewoodref3_trim_v k (y3.2 ++ [y3.1])).bind fun t4 => some (sub (y3.2 ++ [y3.1]) t4.1 t4.2)) else none) else ((brindlewoodref3_trim_v k y3.2).bind fun t5 => some (sub y3.2 t5.1 t5.2))) some) some

def brindlewoodref3_Divide.b0 (k : Nat) (rec : List Int → List Bool → List Bool → List Int → Int → Option ((List Bool × List Int) ⊕ (List Int × List Int))) (x1 : List Int) (x6 : List Bool) (x7 : List Bool) (x8 : List Int) (x9 : Int) : Option ((List Bool × List Int) ⊕ (List Int × List Int)) :=
  bif decide (0 ≤ x9) then (bif inR x9 (x6.length : Int) then ((brindlewoodref3_Double k x8 (rdB x6 x9)).bind fun t2 => (brindlewoodref3_Compare k t2 x1).bind fun t3 => bif decide (0 ≤ t3) then ((brindlewoodref3_Minus k t2 x1).bind fun t4 => bif inR x9 (x7.length : Int) then (rec x1 x6 (x7.set (Int.toNat x9) true) t4 (w64 (x9 - 1))) else none) else (rec x1 x6 x7 t2 (w64 (x9 - 1)))) else none) else (some (.inl (x7, x8)))
def brindlewoodref3_Divide.l0 (k : Nat) : Nat → List Int → List Bool → List Bool → List Int → Int → Option ((List Bool × List Int) ⊕ (List Int × List Int))
  | 0 => fun _ _ _ _ _ => none
  | n + 1 => brindlewoodref3_Divide.b0 k (brindlewoodref3_Divide.l0 k n)
def brindlewoodref3_Divide (k : Nat) (a0 : List Int) (a1 : List Int) : Option (List Int × List Int) :=
  (brindlewoodref3_Ones k a0).bind fun t1 => bif ((decide (0 ≤ (t1.length : Int)) && decide ((t1.length : Int) ≤ (t1.length : Int))) && fitsB (Int.toNat (t1.length : Int)) 1) then (joinB (α := List Bool × List Int) (brindlewoodref3_Divide.l0 k k a1 t1 (List.replicate (Int.toNat (t1.length : Int)) (false : Bool)) [] (w64 ((t1.length : Int) - 1))) (fun y5 => (brindlewoodref3_Binary k y5.1).bind fun t6 => some (t6, y5.2)) some) else none

def brindlewoodref3_Small.b0 (k : Nat) (rec : Int → List Int → Option ((List Int) ⊕ (List Int))) (x0 : Int) (x3 : List Int) : Option ((List Int) ⊕ (List Int)) :=
  bif decide (0 < x0) then (bif fitsB (x3.length + [Int.tmod x0 65536].length) 8 then (rec (w64 (Int.tdiv x0 65536)) (x3 ++ [Int.tmod x0 65536])) else none) else (some (.inl x3))
def brindlewoodref3_Small.l0 (k : Nat) : Nat → Int → List Int → Option ((List Int) ⊕ (List Int))
  | 0 => fun _ _ => none
  | n + 1 => brindlewoodref3_Small.b0 k (brindlewoodref3_Small.l0 k n)
def brindlewoodref3_Small (k : Nat) (a0 : Int) : Option (List Int) :=
  joinB (α := List Int) (brindlewoodref3_Small.l0 k k a0 []) (fun y1 => some y1) some

def brindlewoodref3_Int_Floor (k : Nat) (a0 : Bool × List Int) (a1 : Bool × List Int) : Option ((Bool × List Int) × Bool × List Int) :=
  (brindlewoodref3_Divide k a0.2 a1.2).bind fun t1 => joinB (α := (Bool × List Int) × (Bool × List Int) × (Bool × List Int) × (Bool × List Int) × List Int × List Int) (bif (!(a0.1 == a1.1)) then (bif decide (0 < (t1.2.length : Int)) then ((brindlewoodref3_Small k 1).bind fun t2 => (brindlewoodref3_Plus k t1.1 t2).bind fun t3 => (brindlewoodref3_Minus k a1.2 t1.2).bind fun t4 => some (.inl (a0, a1, (false, []), (false, []), t3, t4))) else (some (.inl (a0, a1, (false, []), (false, []), t1.1, t1.2)))) else (some (.inl (a0, a1, (false, []), (false, []), t1.1, t1.2)))) (fun z5 => some (((!(z5.1.1 == z5.2.1.1)), z5.2.2.2.2.1), (z5.2.1.1, z5.2.2.2.2.2))) some

def brindlewoodref3_Times.b1 (k : Nat) (rec : List Int → List Int → List Int → Int → Int → Int → Option ((List Int × List Int × List Int × Int × Int × Bool) ⊕ (List Int))) (x0 : List Int) (x1 : List Int) (x5 : List Int) (x6 : Int) (x7 : Int) (x8 : Int) : Option ((List Int × List Int × List Int × Int × Int × Bool) ⊕ (List Int)) :=
  bif decide (x8 < (x1.length : Int)) then (bif inR (w64 (x6 + x8)) (x5.length : Int) then (let c1 := w64 ((rd x5 (w64 (x6 + x8))) + x7); bif decide (x8 < (x1.length : Int)) then (bif inR x6 (x0.length : Int) then (bif inR x8 (x1.length : Int) then (let c2 := w64 (c1 + (w64 ((rd x0 x6) * (rd x1 x8)))); bif inR (w64 (x6 + x8)) (x5.length : Int) then (rec x0 x1 (x5.set (Int.toNat (w64 (x6 + x8))) (Int.tmod c2 65536)) x6 (w64 (Int.tdiv c2 65536)) (w64 (x8 + 1))) else none) else none) else none) else (bif inR (w64 (x6 + x8)) (x5.length : Int) then (rec x0 x1 (x5.set (Int.toNat (w64 (x6 + x8))) (Int.tmod c1 65536)) x6 (w64 (Int.tdiv c1 65536)) (w64 (x8 + 1))) else none)) else none) else (bif decide (0 < x7) then (bif inR (w64 (x6 + x8)) (x5.length : Int) then (let c3 := w64 ((rd x5 (w64 (x6 + x8))) + x7); bif decide (x8 < (x1.length : Int)) then (bif inR x6 (x0.length : Int) then (bif inR x8 (x1.length : Int) then (let c4 := w64 (c3 + (w64 ((rd x0 x6) * (rd x1 x8)))); bif inR (w64 (x6 + x8)) (x5.length : Int) then (rec x0 x1 (x5.set (Int.toNat (w64 (x6 + x8))) (Int.tmod c4 65536)) x6 (w64 (Int.tdiv c4 65536)) (w64 (x8 + 1))) else none) else none) else none) else (bif inR (w64 (x6 + x8)) (x5.length : Int) then (rec x0 x1 (x5.set (Int.toNat (w64 (x6 + x8))) (Int.tmod c3 65536)) x6 (w64 (Int.tdiv c3 65536)) (w64 (x8 + 1))) else none)) else none) else (some (.inl (x0, x1, x5, x6, x7, decide (0 < x7)))))
def brindlewoodref3_Times.l1 (k : Nat) : Nat → List Int → List Int → List Int → Int → Int → Int → Option ((List Int × List Int × List Int × Int × Int × Bool) ⊕ (List Int))
  | 0 => fun _ _ _ _ _ _ => none
  | n + 1 => brindlewoodref3_Times.b1 k (brindlewoodref3_Times.l1 k n)
def brindlewoodref3_Times.b0 (k : Nat) (rec : List Int → List Int → List Int → Int → Option ((List Int) ⊕ (List Int))) (x0 : List Int) (x1 : List Int) (x5 : List Int) (x6 : Int) : Option ((List Int) ⊕ (List Int)) :=
  bif decide (x6 < (x0.length : Int)) then (joinB (α := List Int × List Int × List Int × Int × Int × Bool) (brindlewoodref3_Times.l1 k k x0 x1 x5 x6 0 0) (fun y5 => rec y5.1 y5.2.1 y5.2.2.1 (w64 (y5.2.2.2.1 + 1))) (fun r => some (.inr r))) else (some (.inl x5))
def brindlewoodref3_Times.l0 (k : Nat) : Nat → List Int → List Int → List Int → Int → Option ((List Int) ⊕ (List Int))
  | 0 => fun _ _ _ _ => none
  | n + 1 => brindlewoodref3_Times.b0 k (brindlewoodref3_Times.l0 k n)
def brindlewoodref3_Times (k : Nat) (a0 : List Int) (a1 : List Int) : Option (List Int) :=
  bif ((decide (0 ≤ w64 ((w64 ((a0.length : Int) + (a1.length : Int))) + 1)) && decide (w64 ((w64 ((a0.length : Int) + (a1.length : Int))) + 1) ≤ w64 ((w64 ((a0.length : Int) + (a1.length : Int))) + 1))) && fitsB (Int.toNat (w64 ((w64 ((a0.length : Int) + (a1.length : Int))) + 1))) 8) then (joinB (α := List Int) (brindlewoodref3_Times.l0 k k a0 a1 (List.replicate (Int.toNat (w64 ((w64 ((a0.length : Int) + (a1.length : Int))) + 1))) (0 : Int)) 0) (fun y6 => (brindlewoodref3_trim_v k y6).bind fun t7 => some (sub y6 t7.1 t7.2)) some) else none

def brindlewoodref3_Int_Times (k : Nat) (a0 : Bool × List Int) (a1 : Bool × List Int) : Option (Bool × List Int) :=
  (brindlewoodref3_Times k a0.2 a1.2).bind fun t1 => bif (!(a0.1 == a1.1)) then (some (decide (0 < (t1.length : Int)), t1)) else (some (false, t1))

def brindlewoodref3_RangeOf (k : Nat) (a0 : (Bool × List Int) × (Bool × List Int) × Bool × List Int) : Option ((Bool × List Int) × (Bool × List Int) × (Bool × List Int) × Bool × List Int) :=
  (brindlewoodref3_IntOf k a0.1).bind fun t1 => (brindlewoodref3_IntOf k a0.2.2).bind fun t2 => (brindlewoodref3_IntOf k a0.2.1).bind fun t3 => (brindlewoodref3_Int_Minus t1).bind fun t4 => (brindlewoodref3_Int_Plus k t3 t4).bind fun t5 => (brindlewoodref3_Int_Floor k t5 t2).bind fun t6 => joinB (α := ((Bool × List Int) × (Bool × List Int) × (Bool × List Int) × Bool × List Int) × ((Bool × List Int) × (Bool × List Int) × (Bool × List Int) × Bool × List Int) × Bool × List Int) (bif decide (0 < (t6.2.2.length : Int)) then ((brindlewoodref3_Number k 1).bind fun t7 => (brindlewoodref3_Int_Plus k t6.1 t7).bind fun t8 => some (.inl (((false, []), (false, []), (false, []), false, []), (t1, t2, (false, []), false, []), t8))) else (some (.inl (((false, []), (false, []), (false, []), false, []), (t1, t2, (false, []), false, []), t6.1)))) (fun z9 => joinB (α := ((Bool × List Int) × (Bool × List Int) × (Bool × List Int) × Bool × List Int) × (Bool × List Int) × (Bool × List Int) × (Bool × List Int) × Bool × List Int) (bif (!z9.2.2.1) then (some (.inl (z9.1, (z9.2.1.1, z9.2.1.2.1, z9.2.2, z9.2.1.2.2.2)))) else (some (.inl (z9.1, z9.2.1)))) (fun z10 => (brindlewoodref3_Number k (-1)).bind fun t11 => (brindlewoodref3_Int_Plus k z10.2.2.2.1 t11).bind fun t12 => (brindlewoodref3_Int_Times k z10.2.2.1 t12).bind fun t13 => (brindlewoodref3_Int_Plus k z10.2.1 t13).bind fun t14 => some (z10.2.1, z10.2.2.1, z10.2.2.2.1, t14)) some) some

def brindlewoodref3_Range_rising (a0 : (Bool × List Int) × (Bool × List Int) × (Bool × List Int) × Bool × List Int) : Option ((Bool × List Int) × (Bool × List Int) × Bool × List Int) :=
  bif a0.2.1.1 then ((brindlewoodref3_Int_Minus a0.2.1).bind fun t1 => some (a0.2.2.2, a0.1, t1)) else (some (a0.1, a0.2.2.2, a0.2.1))

def brindlewoodref3_Halve.b0 (k : Nat) (rec : List Int → Int → List Int → Int → Int → Option ((List Int × Int) ⊕ (List Int × Int))) (x0 : List Int) (x1 : Int) (x6 : List Int) (x7 : Int) (x8 : Int) : Option ((List Int × Int) ⊕ (List Int × Int)) :=
  bif decide (0 ≤ x8) then (bif inR x8 (x0.length : Int) then (let c1 := w64 ((w64 (x7 * 65536)) + (rd x0 x8)); bif !decide (x1 = 0) then (bif inR x8 (x6.length : Int) then (bif !decide (x1 = 0) then (rec x0 x1 (x6.set (Int.toNat x8) (w64 (Int.tdiv c1 x1))) (Int.tmod c1 x1) (w64 (x8 - 1))) else none) else none) else none) else none) else (some (.inl (x6, x7)))
def brindlewoodref3_Halve.l0 (k : Nat) : Nat → List Int → Int → List Int → Int → Int → Option ((List Int × Int) ⊕ (List Int × Int))
  | 0 => fun _ _ _ _ _ => none
  | n + 1 => brindlewoodref3_Halve.b0 k (brindlewoodref3_Halve.l0 k n)
def brindlewoodref3_Halve (k : Nat) (a0 : List Int) (a1 : Int) : Option (List Int × Int) :=
  bif ((decide (0 ≤ (a0.length : Int)) && decide ((a0.length : Int) ≤ (a0.length : Int))) && fitsB (Int.toNat (a0.length : Int)) 8) then (joinB (α := List Int × Int) (brindlewoodref3_Halve.l0 k k a0 a1 (List.replicate (Int.toNat (a0.length : Int)) (0 : Int)) 0 (w64 ((a0.length : Int) - 1))) (fun y2 => (brindlewoodref3_trim_v k y2.1).bind fun t3 => some (sub y2.1 t3.1 t3.2, y2.2)) some) else none

def brindlewoodref3_Common.b1 (k : Nat) (rec : Int → List Int → Option ((List Int) ⊕ (List Int))) (x5 : Int) (x6 : List Int) : Option ((List Int) ⊕ (List Int)) :=
  bif decide (0 < x5) then ((brindlewoodref3_Double k x6 false).bind fun t13 => rec (w64 (x5 - 1)) t13) else (some (.inl x6))
def brindlewoodref3_Common.l1 (k : Nat) : Nat → Int → List Int → Option ((List Int) ⊕ (List Int))
  | 0 => fun _ _ => none
  | n + 1 => brindlewoodref3_Common.b1 k (brindlewoodref3_Common.l1 k n)
def brindlewoodref3_Common.b0 (k : Nat) (rec : List Int → List Int → Int → Option ((List Int × List Int × Int) ⊕ (List Int))) (x0 : List Int) (x1 : List Int) (x5 : Int) : Option ((List Int × List Int × Int) ⊕ (List Int)) :=
  bif decide (0 < (x0.length : Int)) then (bif decide (0 < (x1.length : Int)) then (joinB (α := List Int × List Int × Int × List Int × Int × Bool × Bool) (bif inR 0 (x0.length : Int) then (bif ((Int.tmod (rd x0 0) 2) == 0) then (bif inR 0 (x1.length : Int) then (some (.inl (x0, x1, x5, x1, (x1.length : Int), decide (0 < (x1.length : Int)), ((Int.tmod (rd x1 0) 2) == 0)))) else none) else (some (.inl (x0, x1, x5, x1, (x1.length : Int), decide (0 < (x1.length : Int)), false)))) else none) (fun z1 => bif z1.2.2.2.2.2.2 then ((brindlewoodref3_Halve k z1.1 2).bind fun t2 => (brindlewoodref3_Halve k z1.2.1 2).bind fun t3 => rec t2.1 t3.1 (w64 (z1.2.2.1 + 1))) else (bif inR 0 (z1.1.length : Int) then (let c4 := ((Int.tmod (rd z1.1 0) 2) == 0); bif c4 then ((brindlewoodref3_Halve k z1.1 2).bind fun t5 => rec t5.1 z1.2.1 z1.2.2.1) else (bif inR 0 (z1.2.1.length : Int) then (let c6 := ((Int.tmod (rd z1.2.1 0) 2) == 0); bif c6 then ((brindlewoodref3_Halve k z1.2.1 2).bind fun t7 => rec z1.1 t7.1 z1.2.2.1) else ((brindlewoodref3_Compare k z1.1 z1.2.1).bind fun t8 => bif decide (0 ≤ t8) then ((brindlewoodref3_Minus k z1.1 z1.2.1).bind fun t9 => rec t9 z1.2.1 z1.2.2.1) else ((brindlewoodref3_Minus k z1.2.1 z1.1).bind fun t10 => rec z1.1 t10 z1.2.2.1))) else none)) else none)) (fun r => some (.inr r))) else (some (.inl (x0, x1, x5)))) else (some (.inl (x0, x1, x5)))
def brindlewoodref3_Common.l0 (k : Nat) : Nat → List Int → List Int → Int → Option ((List Int × List Int × Int) ⊕ (List Int))
  | 0 => fun _ _ _ => none
  | n + 1 => brindlewoodref3_Common.b0 k (brindlewoodref3_Common.l0 k n)
def brindlewoodref3_Common (k : Nat) (a0 : List Int) (a1 : List Int) : Option (List Int) :=
  joinB (α := List Int × List Int × Int) (brindlewoodref3_Common.l0 k k a0 a1 0) (fun y11 => (brindlewoodref3_Plus k y11.1 y11.2.1).bind fun t12 => joinB (α := List Int) (brindlewoodref3_Common.l1 k k y11.2.2 t12) (fun y14 => some y14) some) some

def brindlewoodref3_Int_Order (k : Nat) (a0 : Bool × List Int) (a1 : Bool × List Int) : Option (Int) :=
  joinB (α := (Bool × List Int) × (Bool × List Int) × Bool × Bool) (bif a0.1 then (bif a1.1 then (let c1 := decide (0 < (a0.2.length : Int)); let c2 := decide (0 < (a1.2.length : Int)); some (.inl (a0, a1, c1, c2))) else (let c3 := decide (0 < (a0.2.length : Int)); some (.inl (a0, a1, c3, false)))) else (bif a1.1 then (let c4 := decide (0 < (a1.2.length : Int)); some (.inl (a0, a1, false, c4))) else (some (.inl (a0, a1, false, false))))) (fun z5 => joinB (α := (Bool × List Int) × (Bool × List Int) × Bool × Bool × Bool) (bif z5.2.2.1 then (some (.inl (z5.1, z5.2.1, z5.2.2.1, z5.2.2.2, z5.2.2.2))) else (some (.inl (z5.1, z5.2.1, z5.2.2.1, z5.2.2.2, false)))) (fun z6 => bif z6.2.2.2.2 then ((brindlewoodref3_Compare k z6.2.1.2 z6.1.2).bind fun t7 => some t7) else (bif z6.2.2.1 then (some (-1)) else (bif z6.2.2.2.1 then (some 1) else ((brindlewoodref3_Compare k z6.1.2 z6.2.1.2).bind fun t8 => some t8)))) some) some

def brindlewoodref3_inverse.b (k : Nat) (self : (Bool × List Int) → (Bool × List Int) → Option (Bool × List Int)) (a0 : Bool × List Int) (a1 : Bool × List Int) : Option (Bool × List Int) :=
  (brindlewoodref3_Int_Floor k a0 a1).bind fun t1 => (brindlewoodref3_Number k 1).bind fun t2 => (brindlewoodref3_Int_Order k a1 t2).bind fun t3 => bif (t3 == 0) then (some (false, [])) else ((brindlewoodref3_Number k 1).bind fun t4 => (brindlewoodref3_Int_Order k t1.2 t4).bind fun t5 => bif (t5 == 0) then (some t1.2) else ((self a1 t1.2).bind fun t6 => (brindlewoodref3_Int_Minus t6).bind fun t7 => (brindlewoodref3_Int_Floor k t7 t1.2).bind fun t8 => (brindlewoodref3_Int_Times k a1 t8.2).bind fun t9 => (brindlewoodref3_Number k 1).bind fun t10 => (brindlewoodref3_Int_Plus k t9 t10).bind fun t11 => (brindlewoodref3_Int_Floor k t11 t1.2).bind fun t12 => some t12.1))
def brindlewoodref3_inverse.r (k : Nat) : Nat → (Bool × List Int) → (Bool × List Int) → Option (Bool × List Int)
  | 0 => fun _ _ => none
  | n + 1 => brindlewoodref3_inverse.b k (brindlewoodref3_inverse.r k n)
def brindlewoodref3_inverse (k : Nat) (a0 : Bool × List Int) (a1 : Bool × List Int) : Option (Bool × List Int) := brindlewoodref3_inverse.r k k a0 a1

def brindlewoodref3_Met (k : Nat) (a0 : (Bool × List Int) × (Bool × List Int) × (Bool × List Int) × Bool × List Int) (a1 : (Bool × List Int) × (Bool × List Int) × (Bool × List Int) × Bool × List Int) : Option ((Bool × List Int) × (Bool × List Int) × Bool × List Int) :=
  joinB (α := ((Bool × List Int) × (Bool × List Int) × (Bool × List Int) × Bool × List Int) × ((Bool × List Int) × (Bool × List Int) × (Bool × List Int) × Bool × List Int) × (Bool × List Int) × (Bool × List Int) × Bool × List Int) (bif ((a0.2.2.1.2.length : Int) == 0) then (some (.inr ((false, []), (false, []), (false, [])))) else (bif ((a1.2.2.1.2.length : Int) == 0) then (some (.inr ((false, []), (false, []), (false, [])))) else (some (.inl (a0, a1, (false, []), (false, []), (false, [])))))) (fun z1 => (brindlewoodref3_Range_rising z1.1).bind fun t2 => (brindlewoodref3_Range_rising z1.2.1).bind fun t3 => (brindlewoodref3_Common k t2.2.2.2 t3.2.2.2).bind fun t4 => (brindlewoodref3_Int_Minus t2.1).bind fun t5 => (brindlewoodref3_Int_Plus k t3.1 t5).bind fun t6 => (brindlewoodref3_Int_Floor k t6 (false, t4)).bind fun t7 => bif decide (0 < (t7.2.2.length : Int)) then (some ((false, []), (false, []), (false, []))) else ((brindlewoodref3_Int_Floor k t3.2.2 (false, t4)).bind fun t8 => (brindlewoodref3_Int_Floor k t2.2.2 (false, t4)).bind fun t9 => (brindlewoodref3_inverse k t9.1 t8.1).bind fun t10 => (brindlewoodref3_Int_Times k t7.1 t10).bind fun t11 => (brindlewoodref3_Int_Floor k t11 t8.1).bind fun t12 => (brindlewoodref3_Int_Times k t2.2.2 t8.1).bind fun t13 => (brindlewoodref3_Int_Times k t2.2.2 t12.2).bind fun t14 => (brindlewoodref3_Int_Plus k t2.1 t14).bind fun t15 => joinB (α := (Bool × List Int) × (Bool × List Int) × (Bool × List Int) × (Bool × List Int) × (Bool × List Int) × Bool × List Int) ((brindlewoodref3_Int_Minus t15).bind fun t16 => (brindlewoodref3_Int_Plus k t3.1 t16).bind fun t17 => joinB (α := (Bool × List Int) × (Bool × List Int) × (Bool × List Int) × (Bool × List Int) × (Bool × List Int) × (Bool × List Int) × (Bool × List Int) × Bool) (bif (!t17.1) then (some (.inl (t15, t13, z1.2.2.2.2, t2.2.1, t3.2.1, t12.2, t17, decide (0 < (t17.2.length : Int))))) else (some (.inl (t15, t13, z1.2.2.2.2, t2.2.1, t3.2.1, t12.2, t17, false)))) (fun z18 => bif z18.2.2.2.2.2.2.2 then ((brindlewoodref3_Int_Plus k z18.2.2.2.2.2.2.1 z18.2.1).bind fun t19 => (brindlewoodref3_Number k (-1)).bind fun t20 => (brindlewoodref3_Int_Plus k t19 t20).bind fun t21 => (brindlewoodref3_Int_Floor k t21 z18.2.1).bind fun t22 => (brindlewoodref3_Int_Times k z18.2.1 t22.1).bind fun t23 => (brindlewoodref3_Int_Plus k z18.1 t23).bind fun t24 => some (.inl (t24, z18.2.1, z18.2.2.1, z18.2.2.2.1, z18.2.2.2.2.1, t22.1))) else (some (.inl (z18.1, z18.2.1, z18.2.2.1, z18.2.2.2.1, z18.2.2.2.2.1, z18.2.2.2.2.2.1)))) (fun r => some (.inr r))) (fun z25 => joinB (α := (Bool × List Int) × (Bool × List Int) × (Bool × List Int) × (Bool × List Int) × Bool × List Int) ((brindlewoodref3_Int_Order k z25.2.2.2.2.1 z25.2.2.2.1).bind fun t26 => bif decide (t26 < 0) then (some (.inl (z25.1, z25.2.1, z25.2.2.1, z25.2.2.2.2.1, z25.2.2.2.2.2))) else (some (.inl (z25.1, z25.2.1, z25.2.2.1, z25.2.2.2.1, z25.2.2.2.2.2)))) (fun z27 => (brindlewoodref3_Int_Order k z27.1 z27.2.2.2.1).bind fun t28 => bif decide (0 < t28) then (some ((false, []), (false, []), (false, []))) else ((brindlewoodref3_Int_Minus z27.1).bind fun t29 => (brindlewoodref3_Int_Plus k z27.2.2.2.1 t29).bind fun t30 => (brindlewoodref3_Int_Floor k t30 z27.2.1).bind fun t31 => (brindlewoodref3_Number k 1).bind fun t32 => (brindlewoodref3_Int_Plus k t31.1 t32).bind fun t33 => some (z27.1, z27.2.1, t33))) some) some)) some

def brindlewoodref3_Int_Fits (a0 : Bool × List Int) (a1 : Int) : Option (Bool) :=
  let c1 := decide ((a0.2.length : Int) ≤ w64 (2 * a1)); some c1

def brindlewoodref3_IsPlain (k : Nat) (a0 : (Bool × List Int) × (Bool × List Int) × Bool × List Int) (a1 : Bool × List Int) (a2 : Bool × List Int) (a3 : Bool × List Int) (a4 : Int) : Option (Bool) :=
  bif ((a3.2.length : Int) == 0) then ((brindlewoodref3_NoInt a0.1).bind fun t1 => bif t1 then ((brindlewoodref3_NoInt a0.2.1).bind fun t2 => bif t2 then ((brindlewoodref3_Number k 1).bind fun t3 => (brindlewoodref3_SameInt k a0.2.2 t3).bind fun t4 => some t4) else (some false)) else (some false)) else (joinB (α := ((Bool × List Int) × (Bool × List Int) × Bool × List Int) × (Bool × List Int) × (Bool × List Int) × Bool × List Int) ((brindlewoodref3_Number k 1).bind fun t5 => (brindlewoodref3_Int_Order k a3 t5).bind fun t6 => bif (t6 == 0) then ((brindlewoodref3_Number k a4).bind fun t7 => some (.inl (a0, a1, t7, a3))) else (some (.inl (a0, a1, a2, a3)))) (fun z8 => (brindlewoodref3_Number k 1).bind fun t9 => joinB (α := ((Bool × List Int) × (Bool × List Int) × Bool × List Int) × (Bool × List Int) × (Bool × List Int) × (Bool × List Int) × Bool × List Int) (bif z8.2.2.1.1 then ((brindlewoodref3_Number k (-1)).bind fun t10 => some (.inl (z8.1, z8.2.1, z8.2.2.1, z8.2.2.2, t10))) else (some (.inl (z8.1, z8.2.1, z8.2.2.1, z8.2.2.2, t9)))) (fun z11 => (brindlewoodref3_Number k (-1)).bind fun t12 => (brindlewoodref3_Int_Plus k z11.2.2.2.1 t12).bind fun t13 => (brindlewoodref3_Int_Times k z11.2.2.1 t13).bind fun t14 => (brindlewoodref3_Int_Plus k z11.2.1 t14).bind fun t15 => (brindlewoodref3_SameInt k z11.1.1 z11.2.1).bind fun t16 => bif t16 then ((brindlewoodref3_Int_Plus k t15 z11.2.2.2.2).bind fun t17 => (brindlewoodref3_SameInt k z11.1.2.1 t17).bind fun t18 => bif t18 then ((brindlewoodref3_SameInt k z11.1.2.2 z11.2.2.1).bind fun t19 => some t19) else (some false)) else (some false)) some) some)

def brindlewoodlaw3_RangesMeet (k : Nat) (a0 : (Bool × List Int) × (Bool × List Int) × Bool × List Int) (a1 : (Bool × List Int) × (Bool × List Int) × Bool × List Int) : Option (Bool) :=
  (ranges_Meet k a0 a1).bind fun t1 => joinB (α := ((Bool × List Int) × (Bool × List Int) × Bool × List Int) × ((Bool × List Int) × (Bool × List Int) × Bool × List Int) × ((Bool × List Int) × (Bool × List Int) × Bool × List Int) × (Int × Int) × Int × Int) ((brindlewoodref3_RangeOk k a0).bind fun t2 => bif (!t2) then ((brindlewoodref3_At 6 (-1)).bind fun t3 => some (.inl (a0, a1, t1.1, t1.2, t3))) else ((brindlewoodref3_RangeOk k a1).bind fun t4 => bif (!t4) then ((brindlewoodref3_At 6 (-2)).bind fun t5 => some (.inl (a0, a1, t1.1, t1.2, t5))) else (some (.inl (a0, a1, t1.1, t1.2, (0, 0)))))) (fun z6 => (brindlewoodlaw3_spans k).bind fun t7 => bif (!t7) then (some false) else (bif (z6.2.2.2.2.1 != 0) then (bif ((z6.2.2.2.1.1 == z6.2.2.2.2.1) && ((z6.2.2.2.1.2 == z6.2.2.2.2.2) && true)) then ((brindlewoodref3_NoRange z6.2.2.1).bind fun t8 => some t8) else (some false)) else ((brindlewoodref3_RangeOf k z6.1).bind fun t9 => (brindlewoodref3_RangeOf k z6.2.1).bind fun t10 => (brindlewoodref3_Met k t9 t10).bind fun t11 => (brindlewoodref3_Number k (-1)).bind fun t12 => (brindlewoodref3_Int_Plus k t11.2.2 t12).bind fun t13 => (brindlewoodref3_Int_Times k t11.2.1 t13).bind fun t14 => (brindlewoodref3_Int_Plus k t11.1 t14).bind fun t15 => bif decide (0 < (t11.2.2.2.length : Int)) then ((brindlewoodref3_Number k 1).bind fun t16 => (brindlewoodref3_Int_Plus k t15 t16).bind fun t17 => (brindlewoodref3_Int_Fits t17 40).bind fun t18 => bif (!t18) then ((brindlewoodref3_At 14 (-1)).bind fun t19 => bif ((z6.2.2.2.1.1 == t19.1) && ((z6.2.2.2.1.2 == t19.2) && true)) then ((brindlewoodref3_NoRange z6.2.2.1).bind fun t20 => some t20) else (some false)) else ((brindlewoodref3_Number k 1).bind fun t21 => (brindlewoodref3_Int_Order k t11.2.2 t21).bind fun t22 => bif decide (0 < t22) then ((brindlewoodref3_Int_Fits t11.2.1 40).bind fun t23 => bif (!t23) then ((brindlewoodref3_At 14 (-1)).bind fun t24 => bif ((z6.2.2.2.1.1 == t24.1) && ((z6.2.2.2.1.2 == t24.2) && true)) then ((brindlewoodref3_NoRange z6.2.2.1).bind fun t25 => some t25) else (some false)) else (bif (z6.2.2.2.1.1 == 0) then ((brindlewoodref3_IsPlain k z6.2.2.1 t11.1 t11.2.1 t11.2.2 1).bind fun t26 => some t26) else (some false))) else (bif (z6.2.2.2.1.1 == 0) then ((brindlewoodref3_IsPlain k z6.2.2.1 t11.1 t11.2.1 t11.2.2 1).bind fun t27 => some t27) else (some false)))) else (bif (z6.2.2.2.1.1 == 0) then ((brindlewoodref3_IsPlain k z6.2.2.1 t11.1 t11.2.1 t11.2.2 1).bind fun t28 => some t28) else (some false))))) some
end Go.Sh
