/- The functions of the program as plain Lean functions, by wip/gen/gen.py.  Conditions: none, these are definitions. -/
import Derived.Test.YtjimnjkgpdoacaaE1
set_option linter.unusedVariables false
namespace Go.Sh
open Go Go.Ev

def integer_Of.b0 (k : Nat) (rec : Int → (Bool × List Int) → List Int → Option ((Int × (Bool × List Int) × List Int) ⊕ (Bool × List Int))) (x0 : Int) (x40 : Bool × List Int) (x4 : List Int) : Option ((Int × (Bool × List Int) × List Int) ⊕ (Bool × List Int)) :=
  bif decide (0 < (x4.length : Int)) then (bif inR (w64 ((x4.length : Int) - 1)) (x4.length : Int) then (bif ((rd x4 (w64 ((x4.length : Int) - 1))) == 0) then (bif ((decide (0 ≤ 0) && decide (0 ≤ w64 ((x4.length : Int) - 1))) && decide (w64 ((x4.length : Int) - 1) ≤ (x4.length : Int))) then (rec x0 x40 (sub x4 0 ((w64 ((x4.length : Int) - 1)) - 0))) else none) else (some (.inl (x0, x40, x4)))) else none) else (some (.inl (x0, x40, x4)))
def integer_Of.l0 (k : Nat) : Nat → Int → (Bool × List Int) → List Int → Option ((Int × (Bool × List Int) × List Int) ⊕ (Bool × List Int))
  | 0 => fun _ _ _ => none
  | n + 1 => integer_Of.b0 k (integer_Of.l0 k n)
def integer_Of (k : Nat) (a0 : Int) : Option (Bool × List Int) :=
  joinB (α := Int × (Bool × List Int) × Int) (bif decide (a0 < 0) then (some (.inl (a0, (false, []), wu64 (0 - (wu64 (a0)))))) else (some (.inl (a0, (false, []), wu64 (a0))))) (fun z1 => joinB (α := Int × (Bool × List Int) × List Int) (integer_Of.l0 k k z1.1 z1.2.1 [wu32 (z1.2.2), wu32 (shrI .u64 z1.2.2 32)]) (fun y2 => some (decide (y2.1 < 0), y2.2.2)) some) some

def integer_Valid (a0 : Bool × List Int) : Option (Bool) :=
  bif decide ((a0.2.length : Int) ≤ 128) then (bif ((a0.2.length : Int) == 0) then (bif (!a0.1) then (some true) else (bif decide (0 < (a0.2.length : Int)) then (bif inR (w64 ((a0.2.length : Int) - 1)) (a0.2.length : Int) then (let c1 := ((rd a0.2 (w64 ((a0.2.length : Int) - 1))) != 0); some c1) else none) else (some false))) else (bif decide (0 < (a0.2.length : Int)) then (bif inR (w64 ((a0.2.length : Int) - 1)) (a0.2.length : Int) then (let c2 := ((rd a0.2 (w64 ((a0.2.length : Int) - 1))) != 0); some c2) else none) else (some false))) else (some false)

def integer_at (a0 : Int) (a1 : Int) : Option (Int × Int) :=
  some (a0, a1)

def integer_check.b0 (k : Nat) (rec : (Int × Int) → (List (Bool × List Int)) → Int → Int → Option ((Int × Int) ⊕ (Int × Int))) (x22 : Int × Int) (x5 : List (Bool × List Int)) (x6 : Int) (x7 : Int) : Option ((Int × Int) ⊕ (Int × Int)) :=
  bif decide (x7 < x6) then (bif inR x7 (x5.length : Int) then ((integer_Valid (nth (.st (.pair (.bool) (.list (.int .u32)))) x5 x7)).bind fun t1 => bif (!t1) then ((integer_at 6 (w64 ((-1) - x7))).bind fun t2 => some (.inr t2)) else (rec x22 x5 x6 (w64 (x7 + 1)))) else none) else (some (.inl x22))
def integer_check.l0 (k : Nat) : Nat → (Int × Int) → (List (Bool × List Int)) → Int → Int → Option ((Int × Int) ⊕ (Int × Int))
  | 0 => fun _ _ _ _ => none
  | n + 1 => integer_check.b0 k (integer_check.l0 k n)
def integer_check (k : Nat) (a0 : List (Bool × List Int)) : Option (Int × Int) :=
  joinB (α := Int × Int) (integer_check.l0 k k (0, 0) a0 (a0.length : Int) 0) (fun y3 => some (0, 0)) some

def natural_Valid (a0 : List Int) : Option (Bool) :=
  bif decide ((a0.length : Int) ≤ 600) then (bif ((a0.length : Int) == 0) then (some true) else (bif inR (w64 ((a0.length : Int) - 1)) (a0.length : Int) then (let c1 := ((rd a0 (w64 ((a0.length : Int) - 1))) != 0); some c1) else none)) else (some false)

def natural_at (a0 : Int) (a1 : Int) : Option (Int × Int) :=
  some (a0, a1)

def natural_check (a0 : List Int) (a1 : List Int) : Option (Int × Int) :=
  (natural_Valid a0).bind fun t1 => bif (!t1) then ((natural_at 6 (-1)).bind fun t2 => some t2) else ((natural_Valid a1).bind fun t3 => bif (!t3) then ((natural_at 6 (-2)).bind fun t4 => some t4) else (some (0, 0)))

def natural_compare.b0 (k : Nat) (rec : List Int → List Int → Int → Option ((Unit) ⊕ (Int))) (x0 : List Int) (x1 : List Int) (x5 : Int) : Option ((Unit) ⊕ (Int)) :=
  bif decide (0 ≤ x5) then (bif inR x5 (x0.length : Int) then (bif inR x5 (x1.length : Int) then (bif ((rd x0 x5) != (rd x1 x5)) then (bif inR x5 (x0.length : Int) then (bif inR x5 (x1.length : Int) then (bif decide (rd x0 x5 < rd x1 x5) then (some (.inr (-1))) else (some (.inr 1))) else none) else none) else (rec x0 x1 (w64 (x5 - 1)))) else none) else none) else (some (.inl ()))
def natural_compare.l0 (k : Nat) : Nat → List Int → List Int → Int → Option ((Unit) ⊕ (Int))
  | 0 => fun _ _ _ => none
  | n + 1 => natural_compare.b0 k (natural_compare.l0 k n)
def natural_compare (k : Nat) (a0 : List Int) (a1 : List Int) : Option (Int) :=
  bif ((a0.length : Int) != (a1.length : Int)) then (let c1 := w64 ((a0.length : Int) - (a1.length : Int)); some c1) else (joinB (α := Unit) (natural_compare.l0 k k a0 a1 (w64 ((a0.length : Int) - 1))) (fun y2 => some 0) some)

def slices_Clone_uint32uint32 (a0 : List Int) : Option (List Int) := bif fitsB (0 + a0.length) 4 then some a0 else none

def bits_Div32 (a0 : Int) (a1 : Int) (a2 : Int) : Option (Int × Int) :=
  joinB (α := Int × Int × Int) (bif (a2 != 0) then (bif decide (a2 ≤ a0) then none else (some (.inl (a0, a1, a2)))) else (some (.inl (a0, a1, a2)))) (fun z1 => let c2 := bitsOp .or .u64 (shlI .u64 (wu64 (z1.1)) 32) (wu64 (z1.2.1)); bif !decide (wu64 (z1.2.2) = 0) then (bif !decide (wu64 (z1.2.2) = 0) then (let c3 := wu32 (wu64 (Int.tdiv c2 (wu64 (z1.2.2)))); let c4 := wu32 (Int.tmod c2 (wu64 (z1.2.2))); some (c3, c4)) else none) else none) some

def natural_trim_v.b0 (k : Nat) (rec : List Int → (Int × Int) → Option ((List Int × Int × Int) ⊕ (Int × Int))) (x0_0 : List Int) (x0_1 : Int × Int) : Option ((List Int × Int × Int) ⊕ (Int × Int)) :=
  bif decide (0 < x0_1.2) then (bif inR (w64 (x0_1.2 - 1)) x0_1.2 then (bif ((rd x0_0 (x0_1.1 + (w64 (x0_1.2 - 1)))) == 0) then (bif ((decide (0 ≤ 0) && decide (0 ≤ w64 (x0_1.2 - 1))) && decide (w64 (x0_1.2 - 1) ≤ x0_1.2)) then (rec x0_0 ((x0_1.1 + 0), ((w64 (x0_1.2 - 1)) - 0))) else none) else (some (.inl (x0_0, (x0_1.1, x0_1.2))))) else none) else (some (.inl (x0_0, (x0_1.1, x0_1.2))))
def natural_trim_v.l0 (k : Nat) : Nat → List Int → (Int × Int) → Option ((List Int × Int × Int) ⊕ (Int × Int))
  | 0 => fun _ _ => none
  | n + 1 => natural_trim_v.b0 k (natural_trim_v.l0 k n)
def natural_trim_v (k : Nat) (a0 : List Int) : Option (Int × Int) :=
  joinB (α := List Int × Int × Int) (natural_trim_v.l0 k k a0 (0, (a0.length : Int))) (fun y1 => some (y1.2.1, y1.2.2)) some

def natural_short.b0 (k : Nat) (rec : List Int → Int → List Int → Int → Int → Option ((List Int × Int) ⊕ (List Int × Int))) (x0 : List Int) (x1 : Int) (x6 : List Int) (x7 : Int) (x8 : Int) : Option ((List Int × Int) ⊕ (List Int × Int)) :=
  bif decide (0 ≤ x8) then (bif inR x8 (x0.length : Int) then ((bits_Div32 x7 (rd x0 x8) x1).bind fun t1 => bif inR x8 (x6.length : Int) then (rec x0 x1 (x6.set (Int.toNat x8) t1.1) t1.2 (w64 (x8 - 1))) else none) else none) else (some (.inl (x6, x7)))
def natural_short.l0 (k : Nat) : Nat → List Int → Int → List Int → Int → Int → Option ((List Int × Int) ⊕ (List Int × Int))
  | 0 => fun _ _ _ _ _ => none
  | n + 1 => natural_short.b0 k (natural_short.l0 k n)
def natural_short (k : Nat) (a0 : List Int) (a1 : Int) : Option (List Int × Int) :=
  bif ((decide (0 ≤ (a0.length : Int)) && decide ((a0.length : Int) ≤ (a0.length : Int))) && fitsB (Int.toNat (a0.length : Int)) 4) then (joinB (α := List Int × Int) (natural_short.l0 k k a0 a1 (List.replicate (Int.toNat (a0.length : Int)) (0 : Int)) 0 (w64 ((a0.length : Int) - 1))) (fun y2 => (natural_trim_v k y2.1).bind fun t3 => some (sub y2.1 t3.1 t3.2, y2.2)) some) else none

def bits_Len32 (a0 : Int) : Option (Int) :=
  joinB (α := Int × Int) (bif decide (65536 ≤ a0) then (some (.inl (shrI .u32 a0 16, 16))) else (some (.inl (a0, 0)))) (fun z1 => bif decide (256 ≤ z1.1) then (bif inR (wu8 (shrI .u32 z1.1 8)) ((⟨#[0, 1, 2, 2, 3, 3, 3, 3, 4, 4, 4, 4, 4, 4, 4, 4, 5, 5, 5, 5, 5, 5, 5, 5, 5, 5, 5, 5, 5, 5, 5, 5, 6, 6, 6, 6, 6, 6, 6, 6, 6, 6, 6, 6, 6, 6, 6, 6, 6, 6, 6, 6, 6, 6, 6, 6, 6, 6, 6, 6, 6, 6, 6, 6, 7, 7, 7, 7, 7, 7, 7, 7, 7, 7, 7, 7, 7, 7, 7, 7, 7, 7, 7, 7, 7, 7, 7, 7, 7, 7, 7, 7, 7, 7, 7, 7, 7, 7, 7, 7, 7, 7, 7, 7, 7, 7, 7, 7, 7, 7, 7, 7, 7, 7, 7, 7, 7, 7, 7, 7, 7, 7, 7, 7, 7, 7, 7, 7, 8, 8, 8, 8, 8, 8, 8, 8, 8, 8, 8, 8, 8, 8, 8, 8, 8, 8, 8, 8, 8, 8, 8, 8, 8, 8, 8, 8, 8, 8, 8, 8, 8, 8, 8, 8, 8, 8, 8, 8, 8, 8, 8, 8, 8, 8, 8, 8, 8, 8, 8, 8, 8, 8, 8, 8, 8, 8, 8, 8, 8, 8, 8, 8, 8, 8, 8, 8, 8, 8, 8, 8, 8, 8, 8, 8, 8, 8, 8, 8, 8, 8, 8, 8, 8, 8, 8, 8, 8, 8, 8, 8, 8, 8, 8, 8, 8, 8, 8, 8, 8, 8, 8, 8, 8, 8, 8, 8, 8, 8, 8, 8, 8, 8, 8, 8, 8, 8, 8, 8, 8, 8, 8, 8, 8, 8, 8, 8]⟩ : ByteArray).size : Int) then (let c2 := w64 ((w64 (z1.2 + 8)) + (w64 (rd (bytesOf (⟨#[0, 1, 2, 2, 3, 3, 3, 3, 4, 4, 4, 4, 4, 4, 4, 4, 5, 5, 5, 5, 5, 5, 5, 5, 5, 5, 5, 5, 5, 5, 5, 5, 6, 6, 6, 6, 6, 6, 6, 6, 6, 6, 6, 6, 6, 6, 6, 6, 6, 6, 6, 6, 6, 6, 6, 6, 6, 6, 6, 6, 6, 6, 6, 6, 7, 7, 7, 7, 7, 7, 7, 7, 7, 7, 7, 7, 7, 7, 7, 7, 7, 7, 7, 7, 7, 7, 7, 7, 7, 7, 7, 7, 7, 7, 7, 7, 7, 7, 7, 7, 7, 7, 7, 7, 7, 7, 7, 7, 7, 7, 7, 7, 7, 7, 7, 7, 7, 7, 7, 7, 7, 7, 7, 7, 7, 7, 7, 7, 8, 8, 8, 8, 8, 8, 8, 8, 8, 8, 8, 8, 8, 8, 8, 8, 8, 8, 8, 8, 8, 8, 8, 8, 8, 8, 8, 8, 8, 8, 8, 8, 8, 8, 8, 8, 8, 8, 8, 8, 8, 8, 8, 8, 8, 8, 8, 8, 8, 8, 8, 8, 8, 8, 8, 8, 8, 8, 8, 8, 8, 8, 8, 8, 8, 8, 8, 8, 8, 8, 8, 8, 8, 8, 8, 8, 8, 8, 8, 8, 8, 8, 8, 8, 8, 8, 8, 8, 8, 8, 8, 8, 8, 8, 8, 8, 8, 8, 8, 8, 8, 8, 8, 8, 8, 8, 8, 8, 8, 8, 8, 8, 8, 8, 8, 8, 8, 8, 8, 8, 8, 8, 8, 8, 8, 8, 8, 8]⟩ : ByteArray)) (wu8 (shrI .u32 z1.1 8))))); some c2) else none) else (bif inR (wu8 (z1.1)) ((⟨#[0, 1, 2, 2, 3, 3, 3, 3, 4, 4, 4, 4, 4, 4, 4, 4, 5, 5, 5, 5, 5, 5, 5, 5, 5, 5, 5, 5, 5, 5, 5, 5, 6, 6, 6, 6, 6, 6, 6, 6, 6, 6, 6, 6, 6, 6, 6, 6, 6, 6, 6, 6, 6, 6, 6, 6, 6, 6, 6, 6, 6, 6, 6, 6, 7, 7, 7, 7, 7, 7, 7, 7, 7, 7, 7, 7, 7, 7, 7, 7, 7, 7, 7, 7, 7, 7, 7, 7, 7, 7, 7, 7, 7, 7, 7, 7, 7, 7, 7, 7, 7, 7, 7, 7, 7, 7, 7, 7, 7, 7, 7, 7, 7, 7, 7, 7, 7, 7, 7, 7, 7, 7, 7, 7, 7, 7, 7, 7, 8, 8, 8, 8, 8, 8, 8, 8, 8, 8, 8, 8, 8, 8, 8, 8, 8, 8, 8, 8, 8, 8, 8, 8, 8, 8, 8, 8, 8, 8, 8, 8, 8, 8, 8, 8, 8, 8, 8, 8, 8, 8, 8, 8, 8, 8, 8, 8, 8, 8, 8, 8, 8, 8, 8, 8, 8, 8, 8, 8, 8, 8, 8, 8, 8, 8, 8, 8, 8, 8, 8, 8, 8, 8, 8, 8, 8, 8, 8, 8, 8, 8, 8, 8, 8, 8, 8, 8, 8, 8, 8, 8, 8, 8, 8, 8, 8, 8, 8, 8, 8, 8, 8, 8, 8, 8, 8, 8, 8, 8, 8, 8, 8, 8, 8, 8, 8, 8, 8, 8, 8, 8, 8, 8, 8, 8, 8, 8]⟩ : ByteArray).size : Int) then (let c3 := w64 (z1.2 + (w64 (rd (bytesOf (⟨#[0, 1, 2, 2, 3, 3, 3, 3, 4, 4, 4, 4, 4, 4, 4, 4, 5, 5, 5, 5, 5, 5, 5, 5, 5, 5, 5, 5, 5, 5, 5, 5, 6, 6, 6, 6, 6, 6, 6, 6, 6, 6, 6, 6, 6, 6, 6, 6, 6, 6, 6, 6, 6, 6, 6, 6, 6, 6, 6, 6, 6, 6, 6, 6, 7, 7, 7, 7, 7, 7, 7, 7, 7, 7, 7, 7, 7, 7, 7, 7, 7, 7, 7, 7, 7, 7, 7, 7, 7, 7, 7, 7, 7, 7, 7, 7, 7, 7, 7, 7, 7, 7, 7, 7, 7, 7, 7, 7, 7, 7, 7, 7, 7, 7, 7, 7, 7, 7, 7, 7, 7, 7, 7, 7, 7, 7, 7, 7, 8, 8, 8, 8, 8, 8, 8, 8, 8, 8, 8, 8, 8, 8, 8, 8, 8, 8, 8, 8, 8, 8, 8, 8, 8, 8, 8, 8, 8, 8, 8, 8, 8, 8, 8, 8, 8, 8, 8, 8, 8, 8, 8, 8, 8, 8, 8, 8, 8, 8, 8, 8, 8, 8, 8, 8, 8, 8, 8, 8, 8, 8, 8, 8, 8, 8, 8, 8, 8, 8, 8, 8, 8, 8, 8, 8, 8, 8, 8, 8, 8, 8, 8, 8, 8, 8, 8, 8, 8, 8, 8, 8, 8, 8, 8, 8, 8, 8, 8, 8, 8, 8, 8, 8, 8, 8, 8, 8, 8, 8, 8, 8, 8, 8, 8, 8, 8, 8, 8, 8, 8, 8, 8, 8, 8, 8, 8, 8]⟩ : ByteArray)) (wu8 (z1.1))))); some c3) else none)) some

def bits_LeadingZeros32 (a0 : Int) : Option (Int) :=
  (bits_Len32 a0).bind fun t1 => some (w64 (32 - t1))

def natural_left.b0 (k : Nat) (rec : Int → List Int → Int → List Int → Int → Int → Option ((List Int × Int) ⊕ (List Int))) (x1 : Int) (x5 : List Int) (x6 : Int) (x19 : List Int) (x20 : Int) (x21 : Int) : Option ((List Int × Int) ⊕ (List Int)) :=
  bif decide (x21 < x20) then (bif inR x21 (x19.length : Int) then (bif decide (0 ≤ Int.tmod x1 32) then (let c1 := shlI .u64 (wu64 (rd x19 x21)) (Int.tmod x1 32); bif fitsB (x5.length + [bitsOp .or .u32 (wu32 (c1)) x6].length) 4 then (rec x1 (x5 ++ [bitsOp .or .u32 (wu32 (c1)) x6]) (wu32 (shrI .u64 c1 32)) x19 x20 (w64 (x21 + 1))) else none) else none) else none) else (some (.inl (x5, x6)))
def natural_left.l0 (k : Nat) : Nat → Int → List Int → Int → List Int → Int → Int → Option ((List Int × Int) ⊕ (List Int))
  | 0 => fun _ _ _ _ _ _ => none
  | n + 1 => natural_left.b0 k (natural_left.l0 k n)
def natural_left (k : Nat) (a0 : List Int) (a1 : Int) : Option (List Int) :=
  bif ((decide (0 ≤ w64 (Int.tdiv a1 32)) && decide (w64 (Int.tdiv a1 32) ≤ w64 ((w64 ((w64 (Int.tdiv a1 32)) + (a0.length : Int))) + 1))) && fitsB (Int.toNat (w64 ((w64 ((w64 (Int.tdiv a1 32)) + (a0.length : Int))) + 1))) 4) then (joinB (α := List Int × Int) (natural_left.l0 k k a1 (List.replicate (Int.toNat (w64 (Int.tdiv a1 32))) (0 : Int)) 0 a0 (a0.length : Int) 0) (fun y2 => bif fitsB (y2.1.length + [y2.2].length) 4 then ((natural_trim_v k (y2.1 ++ [y2.2])).bind fun t3 => some (sub (y2.1 ++ [y2.2]) t3.1 t3.2)) else none) some) else none

def bits_Sub32 (a0 : Int) (a1 : Int) (a2 : Int) : Option (Int × Int) :=
  let c1 := shrI .u32 (bitsOp .or .u32 (bitsOp .and .u32 (bitsOp .xor .u32 (IntKind.max .u32) a0) a1) (bitsOp .and .u32 (bitsOp .xor .u32 (IntKind.max .u32) (bitsOp .xor .u32 a0 a1)) (wu32 ((wu32 (a0 - a1)) - a2)))) 31; some (wu32 ((wu32 (a0 - a1)) - a2), c1)

def bits_Add32 (a0 : Int) (a1 : Int) (a2 : Int) : Option (Int × Int) :=
  let c1 := wu64 ((wu64 ((wu64 (a0)) + (wu64 (a1)))) + (wu64 (a2))); some (wu32 (c1), wu32 (shrI .u64 c1 32))

def natural_digit_ld.b2 (k : Nat) (rec : List Int → List Int → Int → Int → Int → Int → Int → Option ((List Int × Int × Int × Int) ⊕ (Int × List Int))) (x0 : List Int) (x1 : List Int) (x5 : Int) (x8 : Int) (x13 : Int) (x111 : Int) (x112 : Int) : Option ((List Int × Int × Int × Int) ⊕ (Int × List Int)) :=
  bif decide (x112 < x111) then (bif inR x112 (x0.length : Int) then (bif inR x112 (x1.length : Int) then ((bits_Add32 (rd x0 x112) (rd x1 x112) x13).bind fun t8 => bif inR x112 (x0.length : Int) then (rec (x0.set (Int.toNat x112) t8.1) x1 x5 x8 t8.2 x111 (w64 (x112 + 1))) else none) else none) else none) else (some (.inl (x0, x5, x8, x13)))
def natural_digit_ld.l2 (k : Nat) : Nat → List Int → List Int → Int → Int → Int → Int → Int → Option ((List Int × Int × Int × Int) ⊕ (Int × List Int))
  | 0 => fun _ _ _ _ _ _ _ => none
  | n + 1 => natural_digit_ld.b2 k (natural_digit_ld.l2 k n)
def natural_digit_ld.b1 (k : Nat) (rec : List Int → List Int → Int → Int → Int → Int → Int → Int → Option ((List Int × List Int × Int × Int × Int) ⊕ (Int × List Int))) (x0 : List Int) (x1 : List Int) (x5 : Int) (x8 : Int) (x10 : Int) (x11 : Int) (x74 : Int) (x75 : Int) : Option ((List Int × List Int × Int × Int × Int) ⊕ (Int × List Int)) :=
  bif decide (x75 < x74) then (joinB (α := List Int × List Int × Int × Int × Int × Int × Int × Int × Int) (bif decide (x75 < x5) then (bif inR x75 (x1.length : Int) then (let c4 := wu64 (x10 + (wu64 (x8 * (wu64 (rd x1 x75))))); some (.inl (x0, x1, x5, x8, c4, x11, x75, x74, x75))) else none) else (some (.inl (x0, x1, x5, x8, x10, x11, x75, x74, x75)))) (fun z5 => bif inR z5.2.2.2.2.2.2.1 (z5.1.length : Int) then ((bits_Sub32 (rd z5.1 z5.2.2.2.2.2.2.1) (wu32 (z5.2.2.2.2.1)) z5.2.2.2.2.2.1).bind fun t6 => bif inR z5.2.2.2.2.2.2.1 (z5.1.length : Int) then (rec (z5.1.set (Int.toNat z5.2.2.2.2.2.2.1) t6.1) z5.2.1 z5.2.2.1 z5.2.2.2.1 (shrI .u64 z5.2.2.2.2.1 32) t6.2 z5.2.2.2.2.2.2.2.1 (w64 (z5.2.2.2.2.2.2.2.2 + 1))) else none) else none) (fun r => some (.inr r))) else (some (.inl (x0, x1, x5, x8, x11)))
def natural_digit_ld.l1 (k : Nat) : Nat → List Int → List Int → Int → Int → Int → Int → Int → Int → Option ((List Int × List Int × Int × Int × Int) ⊕ (Int × List Int))
  | 0 => fun _ _ _ _ _ _ _ _ => none
  | n + 1 => natural_digit_ld.b1 k (natural_digit_ld.l1 k n)
def natural_digit_ld.b0 (k : Nat) (rec : List Int → List Int → Int → Int → Int → Int → Option ((List Int × List Int × Int × Int) ⊕ (Int × List Int))) (x0 : List Int) (x1 : List Int) (x5 : Int) (x7 : Int) (x8 : Int) (x9 : Int) : Option ((List Int × List Int × Int × Int) ⊕ (Int × List Int)) :=
  bif ((shrI .u64 x8 32) != 0) then (bif ((shrI .u64 (wu64 (x9 + x7)) 32) != 0) then (some (.inl (x0, x1, x5, wu64 (x8 - 1)))) else (rec x0 x1 x5 x7 (wu64 (x8 - 1)) (wu64 (x9 + x7)))) else (bif inR (w64 (x5 - 2)) (x1.length : Int) then (bif inR (w64 (x5 - 2)) (x0.length : Int) then (bif decide (bitsOp .or .u64 (shlI .u64 x9 32) (wu64 (rd x0 (w64 (x5 - 2)))) < wu64 (x8 * (wu64 (rd x1 (w64 (x5 - 2)))))) then (bif ((shrI .u64 (wu64 (x9 + x7)) 32) != 0) then (some (.inl (x0, x1, x5, wu64 (x8 - 1)))) else (rec x0 x1 x5 x7 (wu64 (x8 - 1)) (wu64 (x9 + x7)))) else (some (.inl (x0, x1, x5, x8)))) else none) else none)
def natural_digit_ld.l0 (k : Nat) : Nat → List Int → List Int → Int → Int → Int → Int → Option ((List Int × List Int × Int × Int) ⊕ (Int × List Int))
  | 0 => fun _ _ _ _ _ _ => none
  | n + 1 => natural_digit_ld.b0 k (natural_digit_ld.l0 k n)
def natural_digit_ld (k : Nat) (a0 : List Int) (a1 : List Int) : Option (Int × List Int) :=
  bif inR (a1.length : Int) (a0.length : Int) then (bif inR (w64 ((a1.length : Int) - 1)) (a0.length : Int) then (bif inR (w64 ((a1.length : Int) - 1)) (a1.length : Int) then (let c1 := bitsOp .or .u64 (shlI .u64 (wu64 (rd a0 (a1.length : Int))) 32) (wu64 (rd a0 (w64 ((a1.length : Int) - 1)))); let c2 := wu64 (rd a1 (w64 ((a1.length : Int) - 1))); bif !decide (c2 = 0) then (bif !decide (c2 = 0) then (joinB (α := List Int × List Int × Int × Int) (natural_digit_ld.l0 k k a0 a1 (a1.length : Int) c2 (wu64 (Int.tdiv c1 c2)) (Int.tmod c1 c2)) (fun y3 => joinB (α := List Int × List Int × Int × Int × Int) (natural_digit_ld.l1 k k y3.1 y3.2.1 y3.2.2.1 y3.2.2.2 0 0 (w64 (y3.2.2.1 + 1)) 0) (fun y7 => bif (y7.2.2.2.2 != 0) then (joinB (α := List Int × Int × Int × Int) (natural_digit_ld.l2 k k y7.1 y7.2.1 y7.2.2.1 (wu64 (y7.2.2.2.1 - 1)) 0 y7.2.2.1 0) (fun y9 => bif inR y9.2.1 (y9.1.length : Int) then (bif inR y9.2.1 (y9.1.length : Int) then (some (wu32 (y9.2.2.1), y9.1.set (Int.toNat y9.2.1) (wu32 ((rd y9.1 y9.2.1) + y9.2.2.2)))) else none) else none) some) else (some (wu32 (y7.2.2.2.1), y7.1))) some) some) else none) else none) else none) else none) else none

def natural_right.b0 (k : Nat) (rec : List Int → Int → List Int → Int → Option ((List Int) ⊕ (List Int))) (x0 : List Int) (x1 : Int) (x5 : List Int) (x6 : Int) : Option ((List Int) ⊕ (List Int)) :=
  bif decide (x6 < (x0.length : Int)) then (bif inR x6 (x0.length : Int) then (bif decide (w64 (x6 + 1) < (x0.length : Int)) then (bif inR (w64 (x6 + 1)) (x0.length : Int) then (let c1 := bitsOp .or .u64 (wu64 (rd x0 x6)) (shlI .u64 (wu64 (rd x0 (w64 (x6 + 1)))) 32); bif decide (0 ≤ Int.tmod x1 32) then (bif fitsB (x5.length + [wu32 (shrI .u64 c1 (Int.tmod x1 32))].length) 4 then (rec x0 x1 (x5 ++ [wu32 (shrI .u64 c1 (Int.tmod x1 32))]) (w64 (x6 + 1))) else none) else none) else none) else (bif decide (0 ≤ Int.tmod x1 32) then (bif fitsB (x5.length + [wu32 (shrI .u64 (wu64 (rd x0 x6)) (Int.tmod x1 32))].length) 4 then (rec x0 x1 (x5 ++ [wu32 (shrI .u64 (wu64 (rd x0 x6)) (Int.tmod x1 32))]) (w64 (x6 + 1))) else none) else none)) else none) else (some (.inl x5))
def natural_right.l0 (k : Nat) : Nat → List Int → Int → List Int → Int → Option ((List Int) ⊕ (List Int))
  | 0 => fun _ _ _ _ => none
  | n + 1 => natural_right.b0 k (natural_right.l0 k n)
def natural_right (k : Nat) (a0 : List Int) (a1 : Int) : Option (List Int) :=
  joinB (α := List Int) (natural_right.l0 k k a0 a1 [] (w64 (Int.tdiv a1 32))) (fun y2 => (natural_trim_v k y2).bind fun t3 => some (sub y2 t3.1 t3.2)) some

def natural_divide.b1 (k : Nat) (rec : Int → Int → List Int → List Int → List Int → Int → Option ((Int × Int × List Int × List Int) ⊕ (List Int × List Int))) (x6 : Int) (x7 : Int) (x8 : List Int) (x9 : List Int) (x10 : List Int) (x11 : Int) : Option ((Int × Int × List Int × List Int) ⊕ (List Int × List Int)) :=
  bif decide (0 ≤ x11) then (bif ((decide (0 ≤ x11) && decide (x11 ≤ w64 ((w64 (x11 + x6)) + 1))) && decide (w64 ((w64 (x11 + x6)) + 1) ≤ (x9.length : Int))) then ((natural_digit_ld k (sub x9 x11 ((w64 ((w64 (x11 + x6)) + 1)) - x11)) x8).bind fun t6 => bif inR x11 (x10.length : Int) then (rec x6 x7 x8 (splice x9 x11 t6.2) (x10.set (Int.toNat x11) t6.1) (w64 (x11 - 1))) else none) else none) else (some (.inl (x6, x7, x9, x10)))
def natural_divide.l1 (k : Nat) : Nat → Int → Int → List Int → List Int → List Int → Int → Option ((Int × Int × List Int × List Int) ⊕ (List Int × List Int))
  | 0 => fun _ _ _ _ _ _ => none
  | n + 1 => natural_divide.b1 k (natural_divide.l1 k n)
def natural_divide.b0 (k : Nat) (rec : List Int → Int → Int → List Int → List Int → Option ((Int × Int × List Int × List Int) ⊕ (List Int × List Int))) (x0 : List Int) (x6 : Int) (x7 : Int) (x8 : List Int) (x9 : List Int) : Option ((Int × Int × List Int × List Int) ⊕ (List Int × List Int)) :=
  bif decide ((x9.length : Int) ≤ (x0.length : Int)) then (bif fitsB (x9.length + [0].length) 4 then (rec x0 x6 x7 x8 (x9 ++ [0])) else none) else (some (.inl (x6, x7, x8, x9)))
def natural_divide.l0 (k : Nat) : Nat → List Int → Int → Int → List Int → List Int → Option ((Int × Int × List Int × List Int) ⊕ (List Int × List Int))
  | 0 => fun _ _ _ _ _ => none
  | n + 1 => natural_divide.b0 k (natural_divide.l0 k n)
def natural_divide (k : Nat) (a0 : List Int) (a1 : List Int) : Option (List Int × List Int) :=
  bif inR (w64 ((a1.length : Int) - 1)) (a1.length : Int) then ((bits_LeadingZeros32 (rd a1 (w64 ((a1.length : Int) - 1)))).bind fun t1 => (natural_left k a1 t1).bind fun t2 => (natural_left k a0 t1).bind fun t3 => joinB (α := Int × Int × List Int × List Int) (natural_divide.l0 k k a0 (a1.length : Int) t1 t2 t3) (fun y4 => bif ((decide (0 ≤ w64 ((y4.2.2.2.length : Int) - y4.1)) && decide (w64 ((y4.2.2.2.length : Int) - y4.1) ≤ w64 ((y4.2.2.2.length : Int) - y4.1))) && fitsB (Int.toNat (w64 ((y4.2.2.2.length : Int) - y4.1))) 4) then (let c5 := w64 ((w64 ((y4.2.2.2.length : Int) - y4.1)) - 1); joinB (α := Int × Int × List Int × List Int) (natural_divide.l1 k k y4.1 y4.2.1 y4.2.2.1 y4.2.2.2 (List.replicate (Int.toNat (w64 ((y4.2.2.2.length : Int) - y4.1))) (0 : Int)) c5) (fun y7 => (natural_trim_v k y7.2.2.2).bind fun t8 => bif ((decide (0 ≤ 0) && decide (0 ≤ y7.1)) && decide (y7.1 ≤ (y7.2.2.1.length : Int))) then ((natural_trim_v k (sub y7.2.2.1 0 (y7.1 - 0))).bind fun t9 => (natural_right k (sub y7.2.2.1 (0 + t9.1) t9.2) y7.2.1).bind fun t10 => some (sub y7.2.2.2 t8.1 t8.2, t10)) else none) some) else none) some) else none

def natural_divMod (k : Nat) (a0 : List Int) (a1 : List Int) : Option (List Int × List Int) :=
  (natural_compare k a0 a1).bind fun t1 => bif decide (t1 < 0) then ((slices_Clone_uint32uint32 a0).bind fun t2 => some ([], t2)) else (bif ((a1.length : Int) == 1) then (bif inR 0 (a1.length : Int) then ((natural_short k a0 (rd a1 0)).bind fun t3 => (natural_trim_v k [t3.2]).bind fun t4 => some (t3.1, sub [t3.2] t4.1 t4.2)) else none) else ((natural_divide k a0 a1).bind fun t5 => some (t5.1, t5.2)))

def natural_DivMod (k : Nat) (a0 : List Int) (a1 : List Int) : Option (List Int × List Int × Int × Int) :=
  (natural_check a0 a1).bind fun t1 => bif (t1.1 != 0) then (some ([], [], t1)) else (bif ((a1.length : Int) == 0) then ((natural_at 22 (-2)).bind fun t2 => some ([], [], t2)) else ((natural_divMod k a0 a1).bind fun t3 => some (t3.1, t3.2, (0, 0))))

def natural_add.b0 (k : Nat) (rec : List Int → List Int → Int → List Int → Int → Int → Option ((List Int × Int) ⊕ (List Int))) (x1 : List Int) (x5 : List Int) (x6 : Int) (x20 : List Int) (x21 : Int) (x22 : Int) : Option ((List Int × Int) ⊕ (List Int)) :=
  bif decide (x22 < x21) then (bif inR x22 (x20.length : Int) then (let c2 := wu64 (x6 + (wu64 (rd x20 x22))); bif decide (x22 < (x1.length : Int)) then (bif inR x22 (x1.length : Int) then (bif fitsB (x5.length + [wu32 (wu64 (c2 + (wu64 (rd x1 x22))))].length) 4 then (let c3 := shrI .u64 (wu64 (c2 + (wu64 (rd x1 x22)))) 32; rec x1 (x5 ++ [wu32 (wu64 (c2 + (wu64 (rd x1 x22))))]) c3 x20 x21 (w64 (x22 + 1))) else none) else none) else (bif fitsB (x5.length + [wu32 (c2)].length) 4 then (rec x1 (x5 ++ [wu32 (c2)]) (shrI .u64 c2 32) x20 x21 (w64 (x22 + 1))) else none)) else none) else (some (.inl (x5, x6)))
def natural_add.l0 (k : Nat) : Nat → List Int → List Int → Int → List Int → Int → Int → Option ((List Int × Int) ⊕ (List Int))
  | 0 => fun _ _ _ _ _ _ => none
  | n + 1 => natural_add.b0 k (natural_add.l0 k n)
def natural_add (k : Nat) (a0 : List Int) (a1 : List Int) : Option (List Int) :=
  joinB (α := List Int × List Int) (bif decide ((a0.length : Int) < (a1.length : Int)) then (some (.inl (a1, a0))) else (some (.inl (a0, a1)))) (fun z1 => bif ((decide (0 ≤ 0) && decide (0 ≤ w64 ((z1.1.length : Int) + 1))) && fitsB (Int.toNat (w64 ((z1.1.length : Int) + 1))) 4) then (joinB (α := List Int × Int) (natural_add.l0 k k z1.2 (List.replicate 0 (0 : Int)) 0 z1.1 (z1.1.length : Int) 0) (fun y4 => bif fitsB (y4.1.length + [wu32 (y4.2)].length) 4 then ((natural_trim_v k (y4.1 ++ [wu32 (y4.2)])).bind fun t5 => some (sub (y4.1 ++ [wu32 (y4.2)]) t5.1 t5.2)) else none) some) else none) some

def natural_trim.b0 (k : Nat) (rec : List Int → Option ((List Int) ⊕ (List Int))) (x0 : List Int) : Option ((List Int) ⊕ (List Int)) :=
  bif decide (0 < (x0.length : Int)) then (bif inR (w64 ((x0.length : Int) - 1)) (x0.length : Int) then (bif ((rd x0 (w64 ((x0.length : Int) - 1))) == 0) then (bif ((decide (0 ≤ 0) && decide (0 ≤ w64 ((x0.length : Int) - 1))) && decide (w64 ((x0.length : Int) - 1) ≤ (x0.length : Int))) then (rec (sub x0 0 ((w64 ((x0.length : Int) - 1)) - 0))) else none) else (some (.inl x0))) else none) else (some (.inl x0))
def natural_trim.l0 (k : Nat) : Nat → List Int → Option ((List Int) ⊕ (List Int))
  | 0 => fun _ => none
  | n + 1 => natural_trim.b0 k (natural_trim.l0 k n)
def natural_trim (k : Nat) (a0 : List Int) : Option (List Int) :=
  joinB (α := List Int) (natural_trim.l0 k k a0) (fun y1 => some y1) some

def natural_fit (k : Nat) (a0 : List Int) : Option (List Int × Int × Int) :=
  (natural_trim k a0).bind fun t1 => bif decide (600 < (t1.length : Int)) then ((natural_at 14 (-1)).bind fun t2 => some ([], t2)) else (some (t1, (0, 0)))

def natural_Add (k : Nat) (a0 : List Int) (a1 : List Int) : Option (List Int × Int × Int) :=
  (natural_check a0 a1).bind fun t1 => bif (t1.1 != 0) then (some ([], t1)) else ((natural_add k a0 a1).bind fun t2 => (natural_fit k t2).bind fun t3 => some (t3.1, t3.2))

def natural_sub.b0 (k : Nat) (rec : List Int → List Int → Int → Int → Int → Option ((List Int) ⊕ (List Int))) (x1 : List Int) (x5 : List Int) (x6 : Int) (x12 : Int) (x13 : Int) : Option ((List Int) ⊕ (List Int)) :=
  bif decide (x13 < x12) then (joinB (α := List Int × List Int × Int × Int × Int × Int × Int) (bif decide (x13 < (x1.length : Int)) then (bif inR x13 (x1.length : Int) then (some (.inl (x1, x5, x6, x13, rd x1 x13, x12, x13))) else none) else (some (.inl (x1, x5, x6, x13, 0, x12, x13)))) (fun z2 => bif inR z2.2.2.2.1 (z2.2.1.length : Int) then ((bits_Sub32 (rd z2.2.1 z2.2.2.2.1) z2.2.2.2.2.1 z2.2.2.1).bind fun t3 => bif inR z2.2.2.2.1 (z2.2.1.length : Int) then (rec z2.1 (z2.2.1.set (Int.toNat z2.2.2.2.1) t3.1) t3.2 z2.2.2.2.2.2.1 (w64 (z2.2.2.2.2.2.2 + 1))) else none) else none) (fun r => some (.inr r))) else (some (.inl x5))
def natural_sub.l0 (k : Nat) : Nat → List Int → List Int → Int → Int → Int → Option ((List Int) ⊕ (List Int))
  | 0 => fun _ _ _ _ _ => none
  | n + 1 => natural_sub.b0 k (natural_sub.l0 k n)
def natural_sub (k : Nat) (a0 : List Int) (a1 : List Int) : Option (List Int) :=
  (slices_Clone_uint32uint32 a0).bind fun t1 => joinB (α := List Int) (natural_sub.l0 k k a1 t1 0 (t1.length : Int) 0) (fun y4 => (natural_trim_v k y4).bind fun t5 => some (sub y4 t5.1 t5.2)) some

def natural_Sub (k : Nat) (a0 : List Int) (a1 : List Int) : Option (List Int × Int × Int) :=
  (natural_check a0 a1).bind fun t1 => bif (t1.1 != 0) then (some ([], t1)) else ((natural_compare k a0 a1).bind fun t2 => bif decide (t2 < 0) then ((natural_at 4 (-2)).bind fun t3 => some ([], t3)) else ((natural_sub k a0 a1).bind fun t4 => some (t4, (0, 0))))

def integer_signed (a0 : Bool) (a1 : List Int) : Option ((Bool × List Int) × Int × Int) :=
  bif decide (128 < (a1.length : Int)) then ((integer_at 14 (-1)).bind fun t1 => some ((false, []), t1)) else (bif a0 then (some ((decide (0 < (a1.length : Int)), a1), (0, 0))) else (some ((false, a1), (0, 0))))

def integer_DivMod (k : Nat) (a0 : Bool × List Int) (a1 : Bool × List Int) : Option ((Bool × List Int) × (Bool × List Int) × Int × Int) :=
  (integer_check k [a0, a1]).bind fun t1 => bif (t1.1 != 0) then (some ((false, []), (false, []), t1)) else ((natural_DivMod k a0.2 a1.2).bind fun t2 => bif (t2.2.2.1 != 0) then (some ((false, []), (false, []), t2.2.2)) else (joinB (α := (Bool × List Int) × (Bool × List Int) × (Bool × List Int) × (Bool × List Int) × (Int × Int) × List Int × List Int × Int × Int) (joinB (α := (Bool × List Int) × (Bool × List Int) × (Bool × List Int) × (Bool × List Int) × (Int × Int) × List Int × List Int × (Int × Int) × Bool) (bif (!(a0.1 == a1.1)) then (some (.inl (a0, a1, (false, []), (false, []), (0, 0), t2.1, t2.2.1, t2.2.2, decide (0 < (t2.2.1.length : Int))))) else (some (.inl (a0, a1, (false, []), (false, []), (0, 0), t2.1, t2.2.1, t2.2.2, false)))) (fun z3 => bif z3.2.2.2.2.2.2.2.2 then ((natural_Add k z3.2.2.2.2.2.1 [1]).bind fun t4 => (natural_Sub k z3.2.1.2 z3.2.2.2.2.2.2.1).bind fun t5 => some (.inl (z3.1, z3.2.1, z3.2.2.1, z3.2.2.2.1, z3.2.2.2.2.1, t4.1, t5.1, z3.2.2.2.2.2.2.2.1))) else (some (.inl (z3.1, z3.2.1, z3.2.2.1, z3.2.2.2.1, z3.2.2.2.2.1, z3.2.2.2.2.2.1, z3.2.2.2.2.2.2.1, z3.2.2.2.2.2.2.2.1)))) (fun r => some (.inr r))) (fun z6 => (integer_signed (!(z6.1.1 == z6.2.1.1)) z6.2.2.2.2.2.1).bind fun t7 => bif (t7.2.1 != 0) then (some ((false, []), (false, []), t7.2)) else ((integer_signed z6.2.1.1 z6.2.2.2.2.2.2.1).bind fun t8 => some (t7.1, t8.1, (0, 0)))) some))

def natural_chunk.b0 (k : Nat) (rec : Int → Int → Int → Option ((Int × Int) ⊕ (Int × Int))) (x0 : Int) (x4 : Int) (x5 : Int) : Option ((Int × Int) ⊕ (Int × Int)) :=
  bif decide (wu64 (x4 * (wu64 (x0))) < 4294967296) then (rec x0 (wu64 (x4 * (wu64 (x0)))) (w64 (x5 + 1))) else (some (.inl (x4, x5)))
def natural_chunk.l0 (k : Nat) : Nat → Int → Int → Int → Option ((Int × Int) ⊕ (Int × Int))
  | 0 => fun _ _ _ => none
  | n + 1 => natural_chunk.b0 k (natural_chunk.l0 k n)
def natural_chunk (k : Nat) (a0 : Int) : Option (Int × Int) :=
  joinB (α := Int × Int) (natural_chunk.l0 k k a0 (wu64 (a0)) 1) (fun y1 => some (wu32 (y1.1), y1.2)) some

def slices_Reverse_intint_l.b0 (k : Nat) (rec : List Int → Int → Int → Option ((List Int) ⊕ (List Int))) (x0 : List Int) (x2 : Int) (x3 : Int) : Option ((List Int) ⊕ (List Int)) :=
  bif decide (x2 < x3) then (bif inR x3 (x0.length : Int) then (bif inR x2 (x0.length : Int) then (bif inR x2 (x0.length : Int) then (bif inR x3 ((x0.set (Int.toNat x2) (rd x0 x3)).length : Int) then (rec ((x0.set (Int.toNat x2) (rd x0 x3)).set (Int.toNat x3) (rd x0 x2)) (w64 (x2 + 1)) (w64 (x3 - 1))) else none) else none) else none) else none) else (some (.inl x0))
def slices_Reverse_intint_l.l0 (k : Nat) : Nat → List Int → Int → Int → Option ((List Int) ⊕ (List Int))
  | 0 => fun _ _ _ => none
  | n + 1 => slices_Reverse_intint_l.b0 k (slices_Reverse_intint_l.l0 k n)
def slices_Reverse_intint_l (k : Nat) (a0 : List Int) : Option (List Int) :=
  joinB (α := List Int) (slices_Reverse_intint_l.l0 k k a0 0 (w64 ((a0.length : Int) - 1))) (fun y1 => some y1) some

def natural_Digits.b1 (k : Nat) (rec : List Int → Int → (Int × Int) → Int → Int → List Int → Int → Int → Option ((List Int × Int × (Int × Int) × Int × Int × List Int) ⊕ (List Int × Int × Int))) (x0 : List Int) (x1 : Int) (x72 : Int × Int) (x6 : Int) (x7 : Int) (x8 : List Int) (x9 : Int) (x10 : Int) : Option ((List Int × Int × (Int × Int) × Int × Int × List Int) ⊕ (List Int × Int × Int)) :=
  bif decide (x10 < x7) then (bif decide (0 < (x0.length : Int)) then (bif !decide (x1 = 0) then (bif fitsB (x8.length + [Int.tmod (w64 (x9)) x1].length) 8 then (bif !decide (wu32 (x1) = 0) then (rec x0 x1 x72 x6 x7 (x8 ++ [Int.tmod (w64 (x9)) x1]) (wu32 (Int.tdiv x9 (wu32 (x1)))) (w64 (x10 + 1))) else none) else none) else none) else (bif decide (0 < x9) then (bif !decide (x1 = 0) then (bif fitsB (x8.length + [Int.tmod (w64 (x9)) x1].length) 8 then (bif !decide (wu32 (x1) = 0) then (rec x0 x1 x72 x6 x7 (x8 ++ [Int.tmod (w64 (x9)) x1]) (wu32 (Int.tdiv x9 (wu32 (x1)))) (w64 (x10 + 1))) else none) else none) else none) else (some (.inl (x0, x1, x72, x6, x7, x8))))) else (some (.inl (x0, x1, x72, x6, x7, x8)))
def natural_Digits.l1 (k : Nat) : Nat → List Int → Int → (Int × Int) → Int → Int → List Int → Int → Int → Option ((List Int × Int × (Int × Int) × Int × Int × List Int) ⊕ (List Int × Int × Int))
  | 0 => fun _ _ _ _ _ _ _ _ => none
  | n + 1 => natural_Digits.b1 k (natural_Digits.l1 k n)
def natural_Digits.b0 (k : Nat) (rec : List Int → Int → (Int × Int) → Int → Int → List Int → Option (((Int × Int) × List Int) ⊕ (List Int × Int × Int))) (x0 : List Int) (x1 : Int) (x72 : Int × Int) (x6 : Int) (x7 : Int) (x8 : List Int) : Option (((Int × Int) × List Int) ⊕ (List Int × Int × Int)) :=
  bif decide (0 < (x0.length : Int)) then ((natural_short k x0 x6).bind fun t7 => joinB (α := List Int × Int × (Int × Int) × Int × Int × List Int) (natural_Digits.l1 k k t7.1 x1 x72 x6 x7 x8 t7.2 0) (fun y8 => rec y8.1 y8.2.1 y8.2.2.1 y8.2.2.2.1 y8.2.2.2.2.1 y8.2.2.2.2.2) (fun r => some (.inr r))) else (some (.inl (x72, x8)))
def natural_Digits.l0 (k : Nat) : Nat → List Int → Int → (Int × Int) → Int → Int → List Int → Option (((Int × Int) × List Int) ⊕ (List Int × Int × Int))
  | 0 => fun _ _ _ _ _ _ => none
  | n + 1 => natural_Digits.b0 k (natural_Digits.l0 k n)
def natural_Digits (k : Nat) (a0 : List Int) (a1 : Int) : Option (List Int × Int × Int) :=
  joinB (α := List Int × Int × Int × Int) ((natural_Valid a0).bind fun t1 => bif (!t1) then ((natural_at 6 (-1)).bind fun t2 => some (.inr ([], t2))) else (bif decide (a1 < 2) then ((natural_at 4 (-2)).bind fun t3 => some (.inr ([], t3))) else (bif decide (36 < a1) then ((natural_at 4 (-2)).bind fun t4 => some (.inr ([], t4))) else (some (.inl (a0, a1, (0, 0))))))) (fun z5 => (natural_chunk k z5.2.1).bind fun t6 => joinB (α := (Int × Int) × List Int) (natural_Digits.l0 k k z5.1 z5.2.1 z5.2.2 t6.1 t6.2 []) (fun y9 => (slices_Reverse_intint_l k y9.2).bind fun t10 => some (t10, (0, 0))) some) some

def integer_Text.b0 (k : Nat) (rec : (Int × Int) → List Int → List Int → List Int → Int → Int → Option (((Int × Int) × List Int × List Int) ⊕ (ByteArray × Int × Int))) (x61 : Int × Int) (x7 : List Int) (x9 : List Int) (x35 : List Int) (x36 : Int) (x37 : Int) : Option (((Int × Int) × List Int × List Int) ⊕ (ByteArray × Int × Int)) :=
  bif decide (x37 < x36) then (bif inR x37 (x35.length : Int) then (bif inR (rd x35 x37) ((⟨#[48, 49, 50, 51, 52, 53, 54, 55, 56, 57, 97, 98, 99, 100, 101, 102, 103, 104, 105, 106, 107, 108, 109, 110, 111, 112, 113, 114, 115, 116, 117, 118, 119, 120, 121, 122]⟩ : ByteArray).size : Int) then (bif fitsB (x9.length + [rd (bytesOf (⟨#[48, 49, 50, 51, 52, 53, 54, 55, 56, 57, 97, 98, 99, 100, 101, 102, 103, 104, 105, 106, 107, 108, 109, 110, 111, 112, 113, 114, 115, 116, 117, 118, 119, 120, 121, 122]⟩ : ByteArray)) (rd x35 x37)].length) 1 then (rec x61 x7 (x9 ++ [rd (bytesOf (⟨#[48, 49, 50, 51, 52, 53, 54, 55, 56, 57, 97, 98, 99, 100, 101, 102, 103, 104, 105, 106, 107, 108, 109, 110, 111, 112, 113, 114, 115, 116, 117, 118, 119, 120, 121, 122]⟩ : ByteArray)) (rd x35 x37)]) x35 x36 (w64 (x37 + 1))) else none) else none) else none) else (some (.inl (x61, x7, x9)))
def integer_Text.l0 (k : Nat) : Nat → (Int × Int) → List Int → List Int → List Int → Int → Int → Option (((Int × Int) × List Int × List Int) ⊕ (ByteArray × Int × Int))
  | 0 => fun _ _ _ _ _ _ => none
  | n + 1 => integer_Text.b0 k (integer_Text.l0 k n)
def integer_Text (k : Nat) (a0 : Bool × List Int) (a1 : Int) : Option (ByteArray × Int × Int) :=
  (integer_check k [a0]).bind fun t1 => bif (t1.1 != 0) then (some (ByteArray.empty, t1)) else ((natural_Digits k a0.2 a1).bind fun t2 => bif (t2.2.1 != 0) then (some (ByteArray.empty, t2.2)) else (joinB (α := (Int × Int) × List Int × List Int) (bif a0.1 then (bif fitsB [45].length 1 then (some (.inl ((0, 0), t2.1, [45]))) else none) else (some (.inl ((0, 0), t2.1, [])))) (fun z3 => joinB (α := (Int × Int) × List Int × List Int) (integer_Text.l0 k k z3.1 z3.2.1 z3.2.2 z3.2.1 (z3.2.1.length : Int) 0) (fun y4 => bif ((y4.2.1.length : Int) == 0) then (bif fitsB (y4.2.2.length + [48].length) 1 then (some (ofBytes (y4.2.2 ++ [48]), (0, 0))) else none) else (some (ofBytes y4.2.2, (0, 0)))) some) some))

def brindlewoodref3_trim_v.b0 (k : Nat) (rec : List Int → (Int × Int) → Option ((List Int × Int × Int) ⊕ (Int × Int))) (x0_0 : List Int) (x0_1 : Int × Int) : Option ((List Int × Int × Int) ⊕ (Int × Int)) :=
  bif decide (0 < x0_1.2) then (bif inR (w64 (x0_1.2 - 1)) x0_1.2 then (bif ((rd x0_0 (x0_1.1 + (w64 (x0_1.2 - 1)))) == 0) then (bif ((decide (0 ≤ 0) && decide (0 ≤ w64 (x0_1.2 - 1))) && decide (w64 (x0_1.2 - 1) ≤ x0_1.2)) then (rec x0_0 ((x0_1.1 + 0), ((w64 (x0_1.2 - 1)) - 0))) else none) else (some (.inl (x0_0, (x0_1.1, x0_1.2))))) else none) else (some (.inl (x0_0, (x0_1.1, x0_1.2))))
def brindlewoodref3_trim_v.l0 (k : Nat) : Nat → List Int → (Int × Int) → Option ((List Int × Int × Int) ⊕ (Int × Int))
  | 0 => fun _ _ => none
  | n + 1 => brindlewoodref3_trim_v.b0 k (brindlewoodref3_trim_v.l0 k n)
def brindlewoodref3_trim_v (k : Nat) (a0 : List Int) : Option (Int × Int) :=
  joinB (α := List Int × Int × Int) (brindlewoodref3_trim_v.l0 k k a0 (0, (a0.length : Int))) (fun y1 => some (y1.2.1, y1.2.2)) some

def brindlewoodref3_Binary.b1 (k : Nat) (rec : List Bool → List Int → Int → Int → Int → Option ((List Bool × List Int × Int × Int) ⊕ (List Int))) (x0 : List Bool) (x3 : List Int) (x4 : Int) (x5 : Int) (x6 : Int) : Option ((List Bool × List Int × Int × Int) ⊕ (List Int)) :=
  bif decide (0 ≤ x6) then (bif decide (w64 (x4 + x6) < (x0.length : Int)) then (bif inR (w64 (x4 + x6)) (x0.length : Int) then (bif rdB x0 (w64 (x4 + x6)) then (rec x0 x3 x4 (w64 ((w64 (x5 * 2)) + 1)) (w64 (x6 - 1))) else (rec x0 x3 x4 (w64 (x5 * 2)) (w64 (x6 - 1)))) else none) else (rec x0 x3 x4 (w64 (x5 * 2)) (w64 (x6 - 1)))) else (some (.inl (x0, x3, x4, x5)))
def brindlewoodref3_Binary.l1 (k : Nat) : Nat → List Bool → List Int → Int → Int → Int → Option ((List Bool × List Int × Int × Int) ⊕ (List Int))
  | 0 => fun _ _ _ _ _ => none
  | n + 1 => brindlewoodref3_Binary.b1 k (brindlewoodref3_Binary.l1 k n)
def brindlewoodref3_Binary.b0 (k : Nat) (rec : List Bool → List Int → Int → Option ((List Int) ⊕ (List Int))) (x0 : List Bool) (x3 : List Int) (x4 : Int) : Option ((List Int) ⊕ (List Int)) :=
  bif decide (x4 < (x0.length : Int)) then (joinB (α := List Bool × List Int × Int × Int) (brindlewoodref3_Binary.l1 k k x0 x3 x4 0 15) (fun y1 => bif fitsB (y1.2.1.length + [y1.2.2.2].length) 8 then (rec y1.1 (y1.2.1 ++ [y1.2.2.2]) (w64 (y1.2.2.1 + 16))) else none) (fun r => some (.inr r))) else (some (.inl x3))
def brindlewoodref3_Binary.l0 (k : Nat) : Nat → List Bool → List Int → Int → Option ((List Int) ⊕ (List Int))
  | 0 => fun _ _ _ => none
  | n + 1 => brindlewoodref3_Binary.b0 k (brindlewoodref3_Binary.l0 k n)
def brindlewoodref3_Binary (k : Nat) (a0 : List Bool) : Option (List Int) :=
  joinB (α := List Int) (brindlewoodref3_Binary.l0 k k a0 [] 0) (fun y2 => (brindlewoodref3_trim_v k y2).bind fun t3 => some (sub y2 t3.1 t3.2)) some

def brindlewoodref3_Number.b0 (k : Nat) (rec : Int → (Bool × List Int) → List Bool → Bool → Option (((Bool × List Int) × List Bool × Bool) ⊕ (Bool × List Int))) (x0 : Int) (x23 : Bool × List Int) (x3 : List Bool) (x4 : Bool) : Option (((Bool × List Int) × List Bool × Bool) ⊕ (Bool × List Int)) :=
  bif (x0 != 0) then (bif fitsB (x3.length + [((Int.tmod x0 2) != 0)].length) 1 then (rec (w64 (Int.tdiv x0 2)) x23 (x3 ++ [((Int.tmod x0 2) != 0)]) x4) else none) else (some (.inl (x23, x3, x4)))
def brindlewoodref3_Number.l0 (k : Nat) : Nat → Int → (Bool × List Int) → List Bool → Bool → Option (((Bool × List Int) × List Bool × Bool) ⊕ (Bool × List Int))
  | 0 => fun _ _ _ _ => none
  | n + 1 => brindlewoodref3_Number.b0 k (brindlewoodref3_Number.l0 k n)
def brindlewoodref3_Number (k : Nat) (a0 : Int) : Option (Bool × List Int) :=
  joinB (α := (Bool × List Int) × List Bool × Bool) (brindlewoodref3_Number.l0 k k a0 (false, []) [] (decide (a0 < 0))) (fun y1 => (brindlewoodref3_Binary k y1.2.1).bind fun t2 => some (y1.2.2, t2)) some

def brindlewoodref3_Limbs.b0 (k : Nat) (rec : List Int → List Int → Int → Option ((List Int) ⊕ (List Int))) (x0 : List Int) (x3 : List Int) (x4 : Int) : Option ((List Int) ⊕ (List Int)) :=
  bif decide (x4 < (x0.length : Int)) then (bif inR x4 (x0.length : Int) then (bif decide (w64 (x4 + 1) < (x0.length : Int)) then (bif inR (w64 (x4 + 1)) (x0.length : Int) then (let c1 := wu32 ((wu32 (rd x0 x4)) + (wu32 ((wu32 (rd x0 (w64 (x4 + 1)))) * 65536))); bif fitsB (x3.length + [c1].length) 4 then (rec x0 (x3 ++ [c1]) (w64 (x4 + 2))) else none) else none) else (bif fitsB (x3.length + [wu32 (rd x0 x4)].length) 4 then (rec x0 (x3 ++ [wu32 (rd x0 x4)]) (w64 (x4 + 2))) else none)) else none) else (some (.inl x3))
def brindlewoodref3_Limbs.l0 (k : Nat) : Nat → List Int → List Int → Int → Option ((List Int) ⊕ (List Int))
  | 0 => fun _ _ _ => none
  | n + 1 => brindlewoodref3_Limbs.b0 k (brindlewoodref3_Limbs.l0 k n)
def brindlewoodref3_Limbs (k : Nat) (a0 : List Int) : Option (List Int) :=
  joinB (α := List Int) (brindlewoodref3_Limbs.l0 k k a0 [] 0) (fun y2 => some y2) some

def brindlewoodref3_SameLimbs.b0 (k : Nat) (rec : List Int → List Int → Int → Option ((Unit) ⊕ (Bool))) (x0 : List Int) (x1 : List Int) (x5 : Int) : Option ((Unit) ⊕ (Bool)) :=
  bif decide (x5 < (x0.length : Int)) then (bif inR x5 (x0.length : Int) then (bif inR x5 (x1.length : Int) then (bif ((rd x0 x5) != (rd x1 x5)) then (some (.inr false)) else (rec x0 x1 (w64 (x5 + 1)))) else none) else none) else (some (.inl ()))
def brindlewoodref3_SameLimbs.l0 (k : Nat) : Nat → List Int → List Int → Int → Option ((Unit) ⊕ (Bool))
  | 0 => fun _ _ _ => none
  | n + 1 => brindlewoodref3_SameLimbs.b0 k (brindlewoodref3_SameLimbs.l0 k n)
def brindlewoodref3_SameLimbs (k : Nat) (a0 : List Int) (a1 : List Int) : Option (Bool) :=
  bif ((a0.length : Int) != (a1.length : Int)) then (some false) else (joinB (α := Unit) (brindlewoodref3_SameLimbs.l0 k k a0 a1 0) (fun y1 => some true) some)

def brindlewoodref3_SameInt (k : Nat) (a0 : Bool × List Int) (a1 : Bool × List Int) : Option (Bool) :=
  bif a1.1 then (bif (a0.1 == (decide (0 < (a1.2.length : Int)))) then ((brindlewoodref3_Limbs k a1.2).bind fun t1 => (brindlewoodref3_SameLimbs k a0.2 t1).bind fun t2 => some t2) else (some false)) else (bif (a0.1 == false) then ((brindlewoodref3_Limbs k a1.2).bind fun t3 => (brindlewoodref3_SameLimbs k a0.2 t3).bind fun t4 => some t4) else (some false))

def brindlewoodlaw3_counts (k : Nat)  : Option (Bool) :=
  (integer_Of k (-7)).bind fun t1 => (integer_Of k 2).bind fun t2 => (integer_DivMod k t1 t2).bind fun t3 => (integer_Of k 7).bind fun t4 => (integer_Of k (-2)).bind fun t5 => (integer_DivMod k t4 t5).bind fun t6 => (integer_Of k (-255)).bind fun t7 => (integer_Text k t7 16).bind fun t8 => bif (t3.2.2.1 == 0) then (bif (t6.2.2.1 == 0) then (bif (t8.2.1 == 0) then ((brindlewoodref3_Number k (-4)).bind fun t9 => (brindlewoodref3_SameInt k t3.1 t9).bind fun t10 => bif t10 then ((brindlewoodref3_Number k 1).bind fun t11 => (brindlewoodref3_SameInt k t3.2.1 t11).bind fun t12 => bif t12 then ((brindlewoodref3_Number k (-4)).bind fun t13 => (brindlewoodref3_SameInt k t6.1 t13).bind fun t14 => bif t14 then ((brindlewoodref3_Number k (-1)).bind fun t15 => (brindlewoodref3_SameInt k t6.2.1 t15).bind fun t16 => bif t16 then (let c17 := (t8.1.toList == (⟨#[45, 102, 102]⟩ : ByteArray).toList); some c17) else (some false)) else (some false)) else (some false)) else (some false)) else (some false)) else (some false)) else (some false)

def brindlewoodref3_IntOk (a0 : Bool × List Int) : Option (Bool) :=
  bif decide ((a0.2.length : Int) ≤ 128) then (bif ((a0.2.length : Int) == 0) then (bif (!a0.1) then (some true) else (bif decide (0 < (a0.2.length : Int)) then (bif inR (w64 ((a0.2.length : Int) - 1)) (a0.2.length : Int) then (let c1 := ((rd a0.2 (w64 ((a0.2.length : Int) - 1))) != 0); some c1) else none) else (some false))) else (bif decide (0 < (a0.2.length : Int)) then (bif inR (w64 ((a0.2.length : Int) - 1)) (a0.2.length : Int) then (let c2 := ((rd a0.2 (w64 ((a0.2.length : Int) - 1))) != 0); some c2) else none) else (some false))) else (some false)

def brindlewoodref3_At (a0 : Int) (a1 : Int) : Option (Int × Int) :=
  some (a0, a1)

def brindlewoodref3_Faults.b0 (k : Nat) (rec : (List (Bool × List Int)) → (Int × Int) → Int → Option ((Int × Int) ⊕ (Int × Int))) (x0 : List (Bool × List Int)) (x22 : Int × Int) (x3 : Int) : Option ((Int × Int) ⊕ (Int × Int)) :=
  bif decide (x3 < (x0.length : Int)) then (bif inR x3 (x0.length : Int) then ((brindlewoodref3_IntOk (nth (.st (.pair (.bool) (.list (.int .u32)))) x0 x3)).bind fun t1 => bif (!t1) then ((brindlewoodref3_At 6 (w64 ((-1) - x3))).bind fun t2 => some (.inr t2)) else (rec x0 x22 (w64 (x3 + 1)))) else none) else (some (.inl x22))
def brindlewoodref3_Faults.l0 (k : Nat) : Nat → (List (Bool × List Int)) → (Int × Int) → Int → Option ((Int × Int) ⊕ (Int × Int))
  | 0 => fun _ _ _ => none
  | n + 1 => brindlewoodref3_Faults.b0 k (brindlewoodref3_Faults.l0 k n)
def brindlewoodref3_Faults (k : Nat) (a0 : List (Bool × List Int)) : Option (Int × Int) :=
  joinB (α := Int × Int) (brindlewoodref3_Faults.l0 k k a0 (0, 0) 0) (fun y3 => some (0, 0)) some

def integer_twos.b0 (k : Nat) (rec : List Int → Int → Int → Int → Option ((List Int) ⊕ (List Int))) (x50 : List Int) (x6 : Int) (x20 : Int) (x21 : Int) : Option ((List Int) ⊕ (List Int)) :=
  bif decide (x21 < x20) then (bif inR x21 (x50.length : Int) then (let c1 := wu64 (x6 + (wu64 (bitsOp .xor .u32 (IntKind.max .u32) (rd x50 x21)))); bif inR x21 (x50.length : Int) then (rec (x50.set (Int.toNat x21) (wu32 (c1))) (shrI .u64 c1 32) x20 (w64 (x21 + 1))) else none) else none) else (some (.inl x50))
def integer_twos.l0 (k : Nat) : Nat → List Int → Int → Int → Int → Option ((List Int) ⊕ (List Int))
  | 0 => fun _ _ _ _ => none
  | n + 1 => integer_twos.b0 k (integer_twos.l0 k n)
def integer_twos (k : Nat) (a0 : Bool × List Int) (a1 : Int) : Option (List Int) :=
  bif ((decide (0 ≤ a1) && decide (a1 ≤ a1)) && fitsB (Int.toNat a1) 4) then (bif (!a0.1) then (some (splice (List.replicate (Int.toNat a1) (0 : Int)) 0 (a0.2.take (List.replicate (Int.toNat a1) (0 : Int)).length))) else (joinB (α := List Int) (integer_twos.l0 k k (splice (List.replicate (Int.toNat a1) (0 : Int)) 0 (a0.2.take (List.replicate (Int.toNat a1) (0 : Int)).length)) 1 ((splice (List.replicate (Int.toNat a1) (0 : Int)) 0 (a0.2.take (List.replicate (Int.toNat a1) (0 : Int)).length)).length : Int) 0) (fun y2 => some y2) some)) else none

def integer_Xor_1 (a0 : Int) (a1 : Int) : Option (Int) :=
  some (bitsOp .xor .u32 a0 a1)

def integer_back.b0 (k : Nat) (rec : List Int → (Bool × List Int) → (Int × Int) → Bool → Option ((List Int × (Bool × List Int) × (Int × Int) × Bool) ⊕ ((Bool × List Int) × Int × Int))) (x0 : List Int) (x43 : Bool × List Int) (x44 : Int × Int) (x4 : Bool) : Option ((List Int × (Bool × List Int) × (Int × Int) × Bool) ⊕ ((Bool × List Int) × Int × Int)) :=
  bif decide (0 < (x0.length : Int)) then (bif inR (w64 ((x0.length : Int) - 1)) (x0.length : Int) then (bif ((rd x0 (w64 ((x0.length : Int) - 1))) == 0) then (bif ((decide (0 ≤ 0) && decide (0 ≤ w64 ((x0.length : Int) - 1))) && decide (w64 ((x0.length : Int) - 1) ≤ (x0.length : Int))) then (rec (sub x0 0 ((w64 ((x0.length : Int) - 1)) - 0)) x43 x44 x4) else none) else (some (.inl (x0, x43, x44, x4)))) else none) else (some (.inl (x0, x43, x44, x4)))
def integer_back.l0 (k : Nat) : Nat → List Int → (Bool × List Int) → (Int × Int) → Bool → Option ((List Int × (Bool × List Int) × (Int × Int) × Bool) ⊕ ((Bool × List Int) × Int × Int))
  | 0 => fun _ _ _ _ => none
  | n + 1 => integer_back.b0 k (integer_back.l0 k n)
def integer_back (k : Nat) (a0 : List Int) : Option ((Bool × List Int) × Int × Int) :=
  bif inR (w64 ((a0.length : Int) - 1)) (a0.length : Int) then (let c1 := ((shrI .u32 (rd a0 (w64 ((a0.length : Int) - 1))) 31) == 1); joinB (α := List Int × (Bool × List Int) × (Int × Int) × Bool) (bif c1 then ((integer_twos k (true, a0) (a0.length : Int)).bind fun t2 => some (.inl (t2, (false, []), (0, 0), c1))) else (some (.inl (a0, (false, []), (0, 0), c1)))) (fun z3 => joinB (α := List Int × (Bool × List Int) × (Int × Int) × Bool) (integer_back.l0 k k z3.1 z3.2.1 z3.2.2.1 z3.2.2.2) (fun y4 => (integer_signed y4.2.2.2 y4.1).bind fun t5 => some (t5.1, t5.2)) some) some) else none

def integer_bitwise_ddFinteger_Xor_1.b0 (k : Nat) (rec : Unit → (Bool × List Int) → (Int × Int) → List Int → List Int → Int → Int → Option (((Bool × List Int) × (Int × Int) × List Int) ⊕ ((Bool × List Int) × Int × Int))) (x2 : Unit) (x65 : Bool × List Int) (x66 : Int × Int) (x10 : List Int) (x11 : List Int) (x37 : Int) (x38 : Int) : Option (((Bool × List Int) × (Int × Int) × List Int) ⊕ ((Bool × List Int) × Int × Int)) :=
  bif decide (x38 < x37) then (bif inR x38 (x10.length : Int) then (bif inR x38 (x11.length : Int) then ((integer_Xor_1 (rd x10 x38) (rd x11 x38)).bind fun t5 => bif inR x38 (x10.length : Int) then (rec () x65 x66 (x10.set (Int.toNat x38) t5) x11 x37 (w64 (x38 + 1))) else none) else none) else none) else (some (.inl (x65, x66, x10)))
def integer_bitwise_ddFinteger_Xor_1.l0 (k : Nat) : Nat → Unit → (Bool × List Int) → (Int × Int) → List Int → List Int → Int → Int → Option (((Bool × List Int) × (Int × Int) × List Int) ⊕ ((Bool × List Int) × Int × Int))
  | 0 => fun _ _ _ _ _ _ _ => none
  | n + 1 => integer_bitwise_ddFinteger_Xor_1.b0 k (integer_bitwise_ddFinteger_Xor_1.l0 k n)
def integer_bitwise_ddFinteger_Xor_1 (k : Nat) (a0 : Bool × List Int) (a1 : Bool × List Int) (a2 : Unit) : Option ((Bool × List Int) × Int × Int) :=
  (integer_check k [a0, a1]).bind fun t1 => bif (t1.1 != 0) then (some ((false, []), t1)) else (let c2 := w64 ((mxI (a0.2.length : Int) (a1.2.length : Int)) + 1); (integer_twos k a0 c2).bind fun t3 => (integer_twos k a1 c2).bind fun t4 => joinB (α := (Bool × List Int) × (Int × Int) × List Int) (integer_bitwise_ddFinteger_Xor_1.l0 k k () (false, []) (0, 0) t3 t4 (t3.length : Int) 0) (fun y6 => (integer_back k y6.2.2).bind fun t7 => some (t7.1, t7.2)) some)

def integer_Xor (k : Nat) (a0 : Bool × List Int) (a1 : Bool × List Int) : Option ((Bool × List Int) × Int × Int) :=
  (integer_bitwise_ddFinteger_Xor_1 k a0 a1 ()).bind fun t1 => some (t1.1, t1.2)

def integer_And_1 (a0 : Int) (a1 : Int) : Option (Int) :=
  some (bitsOp .and .u32 a0 a1)

def integer_bitwise_ddFinteger_And_1.b0 (k : Nat) (rec : Unit → (Bool × List Int) → (Int × Int) → List Int → List Int → Int → Int → Option (((Bool × List Int) × (Int × Int) × List Int) ⊕ ((Bool × List Int) × Int × Int))) (x2 : Unit) (x65 : Bool × List Int) (x66 : Int × Int) (x10 : List Int) (x11 : List Int) (x37 : Int) (x38 : Int) : Option (((Bool × List Int) × (Int × Int) × List Int) ⊕ ((Bool × List Int) × Int × Int)) :=
  bif decide (x38 < x37) then (bif inR x38 (x10.length : Int) then (bif inR x38 (x11.length : Int) then ((integer_And_1 (rd x10 x38) (rd x11 x38)).bind fun t5 => bif inR x38 (x10.length : Int) then (rec () x65 x66 (x10.set (Int.toNat x38) t5) x11 x37 (w64 (x38 + 1))) else none) else none) else none) else (some (.inl (x65, x66, x10)))
def integer_bitwise_ddFinteger_And_1.l0 (k : Nat) : Nat → Unit → (Bool × List Int) → (Int × Int) → List Int → List Int → Int → Int → Option (((Bool × List Int) × (Int × Int) × List Int) ⊕ ((Bool × List Int) × Int × Int))
  | 0 => fun _ _ _ _ _ _ _ => none
  | n + 1 => integer_bitwise_ddFinteger_And_1.b0 k (integer_bitwise_ddFinteger_And_1.l0 k n)
def integer_bitwise_ddFinteger_And_1 (k : Nat) (a0 : Bool × List Int) (a1 : Bool × List Int) (a2 : Unit) : Option ((Bool × List Int) × Int × Int) :=
  (integer_check k [a0, a1]).bind fun t1 => bif (t1.1 != 0) then (some ((false, []), t1)) else (let c2 := w64 ((mxI (a0.2.length : Int) (a1.2.length : Int)) + 1); (integer_twos k a0 c2).bind fun t3 => (integer_twos k a1 c2).bind fun t4 => joinB (α := (Bool × List Int) × (Int × Int) × List Int) (integer_bitwise_ddFinteger_And_1.l0 k k () (false, []) (0, 0) t3 t4 (t3.length : Int) 0) (fun y6 => (integer_back k y6.2.2).bind fun t7 => some (t7.1, t7.2)) some)

def integer_And (k : Nat) (a0 : Bool × List Int) (a1 : Bool × List Int) : Option ((Bool × List Int) × Int × Int) :=
  (integer_bitwise_ddFinteger_And_1 k a0 a1 ()).bind fun t1 => some (t1.1, t1.2)

def natural_Bits (a0 : List Int) : Option (Int × Int × Int) :=
  (natural_Valid a0).bind fun t1 => bif (!t1) then ((natural_at 6 (-1)).bind fun t2 => some (0, t2)) else (bif ((a0.length : Int) == 0) then (some (0, (0, 0))) else (bif inR (w64 ((a0.length : Int) - 1)) (a0.length : Int) then ((bits_Len32 (rd a0 (w64 ((a0.length : Int) - 1)))).bind fun t3 => let c4 := w64 ((w64 (32 * (w64 ((a0.length : Int) - 1)))) + t3); some (c4, (0, 0))) else none))

def natural_Shift (k : Nat) (a0 : List Int) (a1 : Int) : Option (List Int × Int × Int) :=
  (natural_Bits a0).bind fun t1 => bif (t1.2.1 != 0) then (some ([], t1.2)) else (joinB (α := List Int × Int × (Int × Int) × Int × Bool) (bif (t1.1 == 0) then (some (.inl (a0, a1, (0, 0), t1.1, true))) else (some (.inl (a0, a1, (0, 0), t1.1, decide (a1 ≤ w64 (0 - t1.1)))))) (fun z2 => bif z2.2.2.2.2 then (some ([], (0, 0))) else (let c3 := decide (w64 (19200 - z2.2.2.2.1) < z2.2.1); bif c3 then ((natural_at 14 (-1)).bind fun t4 => some ([], t4)) else (bif decide (z2.2.1 < 0) then ((natural_right k z2.1 (w64 (0 - z2.2.1))).bind fun t5 => some (t5, (0, 0))) else ((natural_left k z2.1 z2.2.1).bind fun t6 => some (t6, (0, 0)))))) some)

def integer_Shift (k : Nat) (a0 : Bool × List Int) (a1 : Int) : Option ((Bool × List Int) × Int × Int) :=
  (integer_check k [a0]).bind fun t1 => bif (t1.1 != 0) then (some ((false, []), t1)) else (joinB (α := Int × (Bool × List Int) × (Bool × List Int) × (Int × Int) × Bool) (bif a0.1 then (some (.inl (a1, a0, (false, []), (0, 0), decide (a1 < 0)))) else (some (.inl (a1, a0, (false, []), (0, 0), false)))) (fun z2 => bif z2.2.2.2.2 then ((natural_Sub k z2.2.1.2 [1]).bind fun t3 => (natural_Shift k t3.1 z2.1).bind fun t4 => (natural_Add k t4.1 [1]).bind fun t5 => (integer_signed true t5.1).bind fun t6 => some (t6.1, t6.2)) else ((natural_Shift k z2.2.1.2 z2.1).bind fun t7 => bif (t7.2.1 != 0) then (some ((false, []), t7.2)) else ((integer_signed z2.2.1.1 t7.1).bind fun t8 => some (t8.1, t8.2)))) some)

def natural_Cmp (k : Nat) (a0 : List Int) (a1 : List Int) : Option (Int × Int × Int) :=
  (natural_check a0 a1).bind fun t1 => bif (t1.1 != 0) then (some (0, t1)) else ((natural_compare k a0 a1).bind fun t2 => some (mnI (mxI t2 (-1)) 1, (0, 0)))

def integer_plus (k : Nat) (a0 : Bool × List Int) (a1 : Bool × List Int) : Option ((Bool × List Int) × Int × Int) :=
  bif (a0.1 == a1.1) then ((natural_Add k a0.2 a1.2).bind fun t1 => (integer_signed a0.1 t1.1).bind fun t2 => some (t2.1, t2.2)) else (joinB (α := (Bool × List Int) × (Bool × List Int) × (Bool × List Int) × Int × Int) ((natural_Cmp k a0.2 a1.2).bind fun t3 => bif decide (t3.1 < 0) then (some (.inl (a1, a0, (false, []), (0, 0)))) else (some (.inl (a0, a1, (false, []), (0, 0))))) (fun z4 => (natural_Sub k z4.1.2 z4.2.1.2).bind fun t5 => (integer_signed z4.1.1 t5.1).bind fun t6 => some (t6.1, t6.2)) some)

def integer_Add (k : Nat) (a0 : Bool × List Int) (a1 : Bool × List Int) : Option ((Bool × List Int) × Int × Int) :=
  (integer_check k [a0, a1]).bind fun t1 => bif (t1.1 != 0) then (some ((false, []), t1)) else ((integer_plus k a0 a1).bind fun t2 => some (t2.1, t2.2))

def integer_Not_1 (a0 : Int) (a1 : Int) : Option (Int) :=
  let c1 := bitsOp .xor .u32 (IntKind.max .u32) a0; some c1

def integer_bitwise_ddFinteger_Not_1.b0 (k : Nat) (rec : Unit → (Bool × List Int) → (Int × Int) → List Int → List Int → Int → Int → Option (((Bool × List Int) × (Int × Int) × List Int) ⊕ ((Bool × List Int) × Int × Int))) (x2 : Unit) (x65 : Bool × List Int) (x66 : Int × Int) (x10 : List Int) (x11 : List Int) (x37 : Int) (x38 : Int) : Option (((Bool × List Int) × (Int × Int) × List Int) ⊕ ((Bool × List Int) × Int × Int)) :=
  bif decide (x38 < x37) then (bif inR x38 (x10.length : Int) then (bif inR x38 (x11.length : Int) then ((integer_Not_1 (rd x10 x38) (rd x11 x38)).bind fun t5 => bif inR x38 (x10.length : Int) then (rec () x65 x66 (x10.set (Int.toNat x38) t5) x11 x37 (w64 (x38 + 1))) else none) else none) else none) else (some (.inl (x65, x66, x10)))
def integer_bitwise_ddFinteger_Not_1.l0 (k : Nat) : Nat → Unit → (Bool × List Int) → (Int × Int) → List Int → List Int → Int → Int → Option (((Bool × List Int) × (Int × Int) × List Int) ⊕ ((Bool × List Int) × Int × Int))
  | 0 => fun _ _ _ _ _ _ _ => none
  | n + 1 => integer_bitwise_ddFinteger_Not_1.b0 k (integer_bitwise_ddFinteger_Not_1.l0 k n)
def integer_bitwise_ddFinteger_Not_1 (k : Nat) (a0 : Bool × List Int) (a1 : Bool × List Int) (a2 : Unit) : Option ((Bool × List Int) × Int × Int) :=
  (integer_check k [a0, a1]).bind fun t1 => bif (t1.1 != 0) then (some ((false, []), t1)) else (let c2 := w64 ((mxI (a0.2.length : Int) (a1.2.length : Int)) + 1); (integer_twos k a0 c2).bind fun t3 => (integer_twos k a1 c2).bind fun t4 => joinB (α := (Bool × List Int) × (Int × Int) × List Int) (integer_bitwise_ddFinteger_Not_1.l0 k k () (false, []) (0, 0) t3 t4 (t3.length : Int) 0) (fun y6 => (integer_back k y6.2.2).bind fun t7 => some (t7.1, t7.2)) some)

def integer_Not (k : Nat) (a0 : Bool × List Int) : Option ((Bool × List Int) × Int × Int) :=
  (integer_bitwise_ddFinteger_Not_1 k a0 (false, []) ()).bind fun t1 => some (t1.1, t1.2)

def integer_Or_1 (a0 : Int) (a1 : Int) : Option (Int) :=
  some (bitsOp .or .u32 a0 a1)

def integer_bitwise_ddFinteger_Or_1.b0 (k : Nat) (rec : Unit → (Bool × List Int) → (Int × Int) → List Int → List Int → Int → Int → Option (((Bool × List Int) × (Int × Int) × List Int) ⊕ ((Bool × List Int) × Int × Int))) (x2 : Unit) (x65 : Bool × List Int) (x66 : Int × Int) (x10 : List Int) (x11 : List Int) (x37 : Int) (x38 : Int) : Option (((Bool × List Int) × (Int × Int) × List Int) ⊕ ((Bool × List Int) × Int × Int)) :=
  bif decide (x38 < x37) then (bif inR x38 (x10.length : Int) then (bif inR x38 (x11.length : Int) then ((integer_Or_1 (rd x10 x38) (rd x11 x38)).bind fun t5 => bif inR x38 (x10.length : Int) then (rec () x65 x66 (x10.set (Int.toNat x38) t5) x11 x37 (w64 (x38 + 1))) else none) else none) else none) else (some (.inl (x65, x66, x10)))
def integer_bitwise_ddFinteger_Or_1.l0 (k : Nat) : Nat → Unit → (Bool × List Int) → (Int × Int) → List Int → List Int → Int → Int → Option (((Bool × List Int) × (Int × Int) × List Int) ⊕ ((Bool × List Int) × Int × Int))
  | 0 => fun _ _ _ _ _ _ _ => none
  | n + 1 => integer_bitwise_ddFinteger_Or_1.b0 k (integer_bitwise_ddFinteger_Or_1.l0 k n)
def integer_bitwise_ddFinteger_Or_1 (k : Nat) (a0 : Bool × List Int) (a1 : Bool × List Int) (a2 : Unit) : Option ((Bool × List Int) × Int × Int) :=
  (integer_check k [a0, a1]).bind fun t1 => bif (t1.1 != 0) then (some ((false, []), t1)) else (let c2 := w64 ((mxI (a0.2.length : Int) (a1.2.length : Int)) + 1); (integer_twos k a0 c2).bind fun t3 => (integer_twos k a1 c2).bind fun t4 => joinB (α := (Bool × List Int) × (Int × Int) × List Int) (integer_bitwise_ddFinteger_Or_1.l0 k k () (false, []) (0, 0) t3 t4 (t3.length : Int) 0) (fun y6 => (integer_back k y6.2.2).bind fun t7 => some (t7.1, t7.2)) some)

def integer_Or (k : Nat) (a0 : Bool × List Int) (a1 : Bool × List Int) : Option ((Bool × List Int) × Int × Int) :=
  (integer_bitwise_ddFinteger_Or_1 k a0 a1 ()).bind fun t1 => some (t1.1, t1.2)

def brindlewoodref3_SameInts (k : Nat) (a0 : Bool × List Int) (a1 : Bool × List Int) : Option (Bool) :=
  bif (a0.1 == a1.1) then ((brindlewoodref3_SameLimbs k a0.2 a1.2).bind fun t1 => some t1) else (some false)

def brindlewoodlaw3_IntegerBitSums (k : Nat) (a0 : Bool × List Int) (a1 : Bool × List Int) : Option (Bool) :=
  (brindlewoodlaw3_counts k).bind fun t1 => bif (!t1) then (some false) else (joinB (α := (Bool × List Int) × Bool × List Int) ((brindlewoodref3_Faults k [a0, a1]).bind fun t2 => bif (t2.1 != 0) then (some (.inr true)) else (bif decide (120 < (a0.2.length : Int)) then (some (.inr true)) else (bif decide (120 < (a1.2.length : Int)) then (some (.inr true)) else (some (.inl (a0, a1)))))) (fun z3 => (integer_Xor k z3.1 z3.2).bind fun t4 => (integer_And k z3.1 z3.2).bind fun t5 => (integer_Shift k t5.1 1).bind fun t6 => (integer_Add k t4.1 t6.1).bind fun t7 => (integer_Add k z3.1 z3.2).bind fun t8 => (integer_Not k z3.1).bind fun t9 => (integer_Not k z3.2).bind fun t10 => (integer_And k t9.1 t10.1).bind fun t11 => (integer_Not k t11.1).bind fun t12 => (integer_Or k z3.1 z3.2).bind fun t13 => bif (t4.2.1 == 0) then (bif (t5.2.1 == 0) then (bif (t6.2.1 == 0) then (bif (t7.2.1 == 0) then (bif (t8.2.1 == 0) then (bif (t9.2.1 == 0) then (bif (t10.2.1 == 0) then (bif (t11.2.1 == 0) then (bif (t12.2.1 == 0) then (bif (t13.2.1 == 0) then ((brindlewoodref3_SameInts k t7.1 t8.1).bind fun t14 => bif t14 then ((brindlewoodref3_SameInts k t12.1 t13.1).bind fun t15 => some t15) else (some false)) else (some false)) else (some false)) else (some false)) else (some false)) else (some false)) else (some false)) else (some false)) else (some false)) else (some false)) else (some false)) some)
end Go.Sh
