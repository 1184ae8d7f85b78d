/- Functions that the general texts name and this law's program does not reach.  Conditions: none, these are definitions. -/
import Derived.Test.YtpomnejenhgpkaaSh
set_option linter.unusedVariables false
namespace Go.Sh
open Go Go.Ev

def brindlewoodlaw3_SlicingBack (k : Nat) (a0 : List Int) (a1 : (Bool × List Int) × (Bool × List Int) × (Bool × List Int) × Bool × Bool × Bool) : Option (Bool) :=
  joinB (α := List Int × (Bool × List Int) × (Bool × List Int) × (Bool × List Int) × Bool × Bool × Bool) ((brindlewoodlaw3_cuts k).bind fun t1 => bif (!t1) then ((brindlewoodlaw3_cuts k).bind fun t2 => some (.inr t2)) else (bif decide (4000 < (a0.length : Int)) then ((brindlewoodlaw3_cuts k).bind fun t3 => some (.inr t3)) else (some (.inl (a0, a1))))) (fun z4 => (slicing_Take_int k z4.1 z4.2).bind fun t5 => (slicing_Put_int k z4.1 z4.2 t5.1 (z4.1.length : Int)).bind fun t6 => (slicing_Drop_int k z4.1 z4.2).bind fun t7 => bif (t5.2.1 != 0) then (bif ((t6.2.1 == t5.2.1) && ((t6.2.2 == t5.2.2) && true)) then (let c8 := ((t7.2.1 == t5.2.1) && ((t7.2.2 == t5.2.2) && true)); some c8) else (some false)) else ((slicing_Resolve k z4.2 (z4.1.length : Int)).bind fun t9 => joinB (α := List Int × ((Bool × List Int) × (Bool × List Int) × (Bool × List Int) × Bool × Bool × Bool) × List Int × Int × Int) (bif (t9.2.2.2.1 != 0) then (some (.inr false)) else (bif (t6.2.1 != 0) then (some (.inr false)) else (bif (t7.2.1 != 0) then (some (.inr false)) else ((brindlewoodref3_Numbers k t6.1 z4.1).bind fun t10 => bif (!t10) then (some (.inr false)) else (bif ((t5.1.length : Int) != t9.2.2.1) then (some (.inr false)) else (bif ((w64 ((t5.1.length : Int) + (t7.1.length : Int))) != (z4.1.length : Int)) then (some (.inr false)) else (some (.inl (z4.1, z4.2, t7.1, t9.2.1, t9.2.2.1))))))))) (fun z11 => (slicing_Put_int k z11.1 z11.2.1 [] (z11.1.length : Int)).bind fun t12 => bif (z11.2.2.2.1 == 1) then (bif (t12.2.1 == 0) then ((brindlewoodref3_Numbers k t12.1 z11.2.2.1).bind fun t13 => some t13) else (some false)) else (bif (z11.2.2.2.2 == 0) then (bif (t12.2.1 == 0) then ((brindlewoodref3_Numbers k t12.1 z11.1).bind fun t14 => bif t14 then (some true) else (bif decide (0 < z11.2.2.2.2) then ((brindlewoodref3_At 9 (-3)).bind fun t15 => let c16 := ((t12.2.1 == t15.1) && ((t12.2.2 == t15.2) && true)); some c16) else (some false))) else (bif decide (0 < z11.2.2.2.2) then ((brindlewoodref3_At 9 (-3)).bind fun t17 => let c18 := ((t12.2.1 == t17.1) && ((t12.2.2 == t17.2) && true)); some c18) else (some false))) else (bif decide (0 < z11.2.2.2.2) then ((brindlewoodref3_At 9 (-3)).bind fun t19 => let c20 := ((t12.2.1 == t19.1) && ((t12.2.2 == t19.2) && true)); some c20) else (some false)))) some)) some

def slicing_Index (k : Nat) (a0 : Bool × List Int) (a1 : Int) : Option (Int × Int × Int) :=
  joinB (α := Int × (Bool × List Int) × Int × Int) ((integer_Valid a0).bind fun t1 => bif (!t1) then ((slicing_at 6 (-1)).bind fun t2 => some (.inr (0, t2))) else (bif decide (a1 < 0) then ((slicing_at 4 (-2)).bind fun t3 => some (.inr (0, t3))) else (bif decide (4000 < a1) then ((slicing_at 4 (-2)).bind fun t4 => some (.inr (0, t4))) else (some (.inl (a1, a0, (0, 0))))))) (fun z5 => (slicing_bounded k z5.2.1 (w64 ((w64 (0 - z5.1)) - 1)) z5.1).bind fun t6 => joinB (α := Int × (Int × Int) × Int) (bif decide (t6 < 0) then (some (.inl (z5.1, z5.2.2, w64 (t6 + z5.1)))) else (some (.inl (z5.1, z5.2.2, t6)))) (fun z7 => bif decide (z7.2.2 < 0) then ((slicing_at 4 (-1)).bind fun t8 => some (0, t8)) else (bif decide (z7.1 ≤ z7.2.2) then ((slicing_at 4 (-1)).bind fun t9 => some (0, t9)) else (some (z7.2.2, (0, 0))))) some) some

def brindlewoodref3_Indexed (k : Nat) (a0 : Bool × List Int) (a1 : Int) : Option (Int × Bool) :=
  (brindlewoodref3_IntOf k a0).bind fun t1 => joinB (α := Int × Bool × List Int) (bif t1.1 then ((brindlewoodref3_Number k a1).bind fun t2 => (brindlewoodref3_Int_Plus k t1 t2).bind fun t3 => some (.inl (a1, t3))) else (some (.inl (a1, t1)))) (fun z4 => bif z4.2.1 then (bif decide (0 < (z4.2.2.length : Int)) then (some (0, false)) else ((brindlewoodref3_Number k z4.1).bind fun t5 => (brindlewoodref3_Int_Order k z4.2 t5).bind fun t6 => bif decide (0 ≤ t6) then (some (0, false)) else ((brindlewoodref3_near k z4.2 0 z4.1).bind fun t7 => some (t7, true)))) else ((brindlewoodref3_Number k z4.1).bind fun t8 => (brindlewoodref3_Int_Order k z4.2 t8).bind fun t9 => bif decide (0 ≤ t9) then (some (0, false)) else ((brindlewoodref3_near k z4.2 0 z4.1).bind fun t10 => some (t10, true)))) some

def brindlewoodlaw3_SlicingResolves (k : Nat) (a0 : Bool × List Int) (a1 : (Bool × List Int) × (Bool × List Int) × (Bool × List Int) × Bool × Bool × Bool) (a2 : Int) : Option (Bool) :=
  (slicing_Index k a0 a2).bind fun t1 => (slicing_Resolve k a1 a2).bind fun t2 => (brindlewoodref3_SliceFault k a1).bind fun t3 => joinB (α := Int × (Bool × List Int) × ((Bool × List Int) × (Bool × List Int) × (Bool × List Int) × Bool × Bool × Bool) × Int × (Int × Int) × Int × Int × Int × (Int × Int) × Int × Int) ((brindlewoodlaw3_cuts k).bind fun t4 => bif (!t4) then (some (.inr false)) else ((slicing_Check a1).bind fun t5 => bif (!((t5.1 == t3.1) && ((t5.2 == t3.2) && true))) then (some (.inr false)) else (some (.inl (a2, a0, a1, t1.1, t1.2, t2.1, t2.2.1, t2.2.2.1, t2.2.2.2, t3))))) (fun z6 => joinB (α := Int × (Bool × List Int) × ((Bool × List Int) × (Bool × List Int) × (Bool × List Int) × Bool × Bool × Bool) × Int × (Int × Int) × Int × Int × Int × (Int × Int) × (Int × Int) × Bool) (bif decide (0 ≤ z6.1) then (some (.inl (z6.1, z6.2.1, z6.2.2.1, z6.2.2.2.1, z6.2.2.2.2.1, z6.2.2.2.2.2.1, z6.2.2.2.2.2.2.1, z6.2.2.2.2.2.2.2.1, z6.2.2.2.2.2.2.2.2.1, z6.2.2.2.2.2.2.2.2.2, decide (z6.1 ≤ 4000)))) else (some (.inl (z6.1, z6.2.1, z6.2.2.1, z6.2.2.2.1, z6.2.2.2.2.1, z6.2.2.2.2.2.1, z6.2.2.2.2.2.2.1, z6.2.2.2.2.2.2.2.1, z6.2.2.2.2.2.2.2.2.1, z6.2.2.2.2.2.2.2.2.2, false)))) (fun z7 => (brindlewoodref3_At 4 (-1)).bind fun t8 => joinB (α := Int × ((Bool × List Int) × (Bool × List Int) × (Bool × List Int) × Bool × Bool × Bool) × Int × (Int × Int) × Int × Int × Int × (Int × Int) × (Int × Int) × Bool × (Int × Int) × Int × Bool) ((brindlewoodref3_IntOk z7.2.1).bind fun t9 => bif (!t9) then ((brindlewoodref3_At 6 (-1)).bind fun t10 => some (.inl (z7.1, z7.2.2.1, z7.2.2.2.1, z7.2.2.2.2.1, z7.2.2.2.2.2.1, z7.2.2.2.2.2.2.1, z7.2.2.2.2.2.2.2.1, z7.2.2.2.2.2.2.2.2.1, z7.2.2.2.2.2.2.2.2.2.1, z7.2.2.2.2.2.2.2.2.2.2, t10, 0, false))) else (bif (!z7.2.2.2.2.2.2.2.2.2.2) then ((brindlewoodref3_At 4 (-2)).bind fun t11 => some (.inl (z7.1, z7.2.2.1, z7.2.2.2.1, z7.2.2.2.2.1, z7.2.2.2.2.2.1, z7.2.2.2.2.2.2.1, z7.2.2.2.2.2.2.2.1, z7.2.2.2.2.2.2.2.2.1, z7.2.2.2.2.2.2.2.2.2.1, z7.2.2.2.2.2.2.2.2.2.2, t11, 0, false))) else ((brindlewoodref3_Indexed k z7.2.1 z7.1).bind fun t12 => some (.inl (z7.1, z7.2.2.1, z7.2.2.2.1, z7.2.2.2.2.1, z7.2.2.2.2.2.1, z7.2.2.2.2.2.2.1, z7.2.2.2.2.2.2.2.1, z7.2.2.2.2.2.2.2.2.1, z7.2.2.2.2.2.2.2.2.2.1, z7.2.2.2.2.2.2.2.2.2.2, t8, t12.1, t12.2))))) (fun z13 => joinB (α := Int × ((Bool × List Int) × (Bool × List Int) × (Bool × List Int) × Bool × Bool × Bool) × Int × Int × Int × (Int × Int) × (Int × Int) × Bool) (bif z13.2.2.2.2.2.2.2.2.2.2.2.2 then (bif (z13.2.2.2.1.1 != 0) then (some (.inr false)) else (bif (z13.2.2.1 != z13.2.2.2.2.2.2.2.2.2.2.2.1) then (some (.inr false)) else (bif (!z13.2.2.2.2.2.2.2.2.2.2.2.2) then (bif (!((z13.2.2.2.1.1 == z13.2.2.2.2.2.2.2.2.2.2.1.1) && ((z13.2.2.2.1.2 == z13.2.2.2.2.2.2.2.2.2.2.1.2) && true))) then (some (.inr false)) else (bif (z13.2.2.1 != 0) then (some (.inr false)) else (some (.inl (z13.1, z13.2.1, z13.2.2.2.2.1, z13.2.2.2.2.2.1, z13.2.2.2.2.2.2.1, z13.2.2.2.2.2.2.2.1, z13.2.2.2.2.2.2.2.2.1, z13.2.2.2.2.2.2.2.2.2.1))))) else (some (.inl (z13.1, z13.2.1, z13.2.2.2.2.1, z13.2.2.2.2.2.1, z13.2.2.2.2.2.2.1, z13.2.2.2.2.2.2.2.1, z13.2.2.2.2.2.2.2.2.1, z13.2.2.2.2.2.2.2.2.2.1)))))) else (bif (!z13.2.2.2.2.2.2.2.2.2.2.2.2) then (bif (!((z13.2.2.2.1.1 == z13.2.2.2.2.2.2.2.2.2.2.1.1) && ((z13.2.2.2.1.2 == z13.2.2.2.2.2.2.2.2.2.2.1.2) && true))) then (some (.inr false)) else (bif (z13.2.2.1 != 0) then (some (.inr false)) else (some (.inl (z13.1, z13.2.1, z13.2.2.2.2.1, z13.2.2.2.2.2.1, z13.2.2.2.2.2.2.1, z13.2.2.2.2.2.2.2.1, z13.2.2.2.2.2.2.2.2.1, z13.2.2.2.2.2.2.2.2.2.1))))) else (some (.inl (z13.1, z13.2.1, z13.2.2.2.2.1, z13.2.2.2.2.2.1, z13.2.2.2.2.2.2.1, z13.2.2.2.2.2.2.2.1, z13.2.2.2.2.2.2.2.2.1, z13.2.2.2.2.2.2.2.2.2.1))))) (fun z14 => joinB (α := Int × ((Bool × List Int) × (Bool × List Int) × (Bool × List Int) × Bool × Bool × Bool) × Int × Int × Int × (Int × Int) × Int × Int) (bif (z14.2.2.2.2.2.2.1.1 == 0) then (bif (!z14.2.2.2.2.2.2.2) then ((brindlewoodref3_At 4 (-2)).bind fun t15 => some (.inl (z14.1, z14.2.1, z14.2.2.1, z14.2.2.2.1, z14.2.2.2.2.1, z14.2.2.2.2.2.1, t15))) else (some (.inl (z14.1, z14.2.1, z14.2.2.1, z14.2.2.2.1, z14.2.2.2.2.1, z14.2.2.2.2.2.1, z14.2.2.2.2.2.2.1)))) else (some (.inl (z14.1, z14.2.1, z14.2.2.1, z14.2.2.2.1, z14.2.2.2.2.1, z14.2.2.2.2.2.1, z14.2.2.2.2.2.2.1)))) (fun z16 => bif (z16.2.2.2.2.2.2.1 != 0) then (bif ((z16.2.2.2.2.2.1.1 == z16.2.2.2.2.2.2.1) && ((z16.2.2.2.2.2.1.2 == z16.2.2.2.2.2.2.2) && true)) then (bif (z16.2.2.1 == 0) then (bif (z16.2.2.2.1 == 0) then (some (z16.2.2.2.2.1 == 0)) else (some false)) else (some false)) else (some false)) else ((brindlewoodref3_Places k z16.2.1 z16.1).bind fun t17 => bif (z16.2.2.2.2.2.1.1 == 0) then (bif (z16.2.2.1 == t17.1) then (bif (z16.2.2.2.1 == t17.2.1) then (let c18 := (z16.2.2.2.2.1 == (t17.2.2.length : Int)); some c18) else (some false)) else (some false)) else (some false))) some) some) some) some) some

def brindlewoodlaw3_SlicingReversed.b0 (k : Nat) (rec : List Int → Int → ((Bool × List Int) × (Bool × List Int) × (Bool × List Int) × Bool × Bool × Bool) → List Int → List Int → Int → Option ((List Int × Int × ((Bool × List Int) × (Bool × List Int) × (Bool × List Int) × Bool × Bool × Bool) × List Int) ⊕ (Bool))) (x0 : List Int) (x2 : Int) (x160 : (Bool × List Int) × (Bool × List Int) × (Bool × List Int) × Bool × Bool × Bool) (x7 : List Int) (x9 : List Int) (x11 : Int) : Option ((List Int × Int × ((Bool × List Int) × (Bool × List Int) × (Bool × List Int) × Bool × Bool × Bool) × List Int) ⊕ (Bool)) :=
  bif decide (x11 < (x7.length : Int)) then (bif inR x11 (x7.length : Int) then (bif inR (w64 ((w64 ((x9.length : Int) - 1)) - x11)) (x9.length : Int) then (bif ((rd x7 x11) != (rd x9 (w64 ((w64 ((x9.length : Int) - 1)) - x11)))) then (some (.inr false)) else (rec x0 x2 x160 x7 x9 (w64 (x11 + 1)))) else none) else none) else (some (.inl (x0, x2, x160, x7)))
def brindlewoodlaw3_SlicingReversed.l0 (k : Nat) : Nat → List Int → Int → ((Bool × List Int) × (Bool × List Int) × (Bool × List Int) × Bool × Bool × Bool) → List Int → List Int → Int → Option ((List Int × Int × ((Bool × List Int) × (Bool × List Int) × (Bool × List Int) × Bool × Bool × Bool) × List Int) ⊕ (Bool))
  | 0 => fun _ _ _ _ _ _ => none
  | n + 1 => brindlewoodlaw3_SlicingReversed.b0 k (brindlewoodlaw3_SlicingReversed.l0 k n)
def brindlewoodlaw3_SlicingReversed (k : Nat) (a0 : List Int) (a1 : (Bool × List Int) × (Bool × List Int) × (Bool × List Int) × Bool × Bool × Bool) (a2 : Int) : Option (Bool) :=
  joinB (α := List Int × Int × (Bool × List Int) × (Bool × List Int) × (Bool × List Int) × Bool × Bool × Bool) ((brindlewoodlaw3_cuts k).bind fun t1 => bif (!t1) then ((brindlewoodlaw3_cuts k).bind fun t2 => some (.inr t2)) else (bif decide (4000 < (a0.length : Int)) then ((brindlewoodlaw3_cuts k).bind fun t3 => some (.inr t3)) else (some (.inl (a0, a2, a1))))) (fun z4 => (slicing_Take_int k z4.1 z4.2.2).bind fun t5 => bif (t5.2.1 != 0) then (some ((t5.1.length : Int) == 0)) else ((integer_Of k (-1)).bind fun t6 => (slicing_Take_int k t5.1 ((false, []), (false, []), t6, false, false, true)).bind fun t7 => joinB (α := List Int × Int × ((Bool × List Int) × (Bool × List Int) × (Bool × List Int) × Bool × Bool × Bool) × List Int × List Int) (bif (t7.2.1 != 0) then (some (.inr false)) else (bif ((t7.1.length : Int) != (t5.1.length : Int)) then (some (.inr false)) else (some (.inl (z4.1, z4.2.1, z4.2.2, t5.1, t7.1))))) (fun z8 => joinB (α := List Int × Int × ((Bool × List Int) × (Bool × List Int) × (Bool × List Int) × Bool × Bool × Bool) × List Int) (brindlewoodlaw3_SlicingReversed.l0 k k z8.1 z8.2.1 z8.2.2.1 z8.2.2.2.1 z8.2.2.2.2 0) (fun y9 => (slicing_Resolve k y9.2.2.1 (y9.1.length : Int)).bind fun t10 => joinB (α := List Int × Int × List Int × Int × Int × Int) (bif (t10.2.2.2.1 != 0) then (some (.inr (t10.2.2.2.1 == 0))) else (bif (t10.2.2.1 == 0) then (some (.inr (t10.2.2.2.1 == 0))) else (bif decide (y9.2.1 < 0) then (some (.inr (t10.2.2.2.1 == 0))) else (some (.inl (y9.1, y9.2.1, y9.2.2.2, t10.1, t10.2.1, t10.2.2.1)))))) (fun z11 => bif !decide (z11.2.2.2.2.2 = 0) then (let c12 := w64 (z11.2.2.2.1 + (w64 ((Int.tmod z11.2.1 z11.2.2.2.2.2) * z11.2.2.2.2.1))); (integer_Of k c12).bind fun t13 => (slicing_Index k t13 (z11.1.length : Int)).bind fun t14 => (integer_Of k (w64 (c12 - (z11.1.length : Int)))).bind fun t15 => (slicing_Index k t15 (z11.1.length : Int)).bind fun t16 => bif (t14.2.1 == 0) then (bif (t16.2.1 == 0) then (bif (t14.1 == c12) then (bif (t16.1 == c12) then (bif inR (Int.tmod z11.2.1 z11.2.2.2.2.2) (z11.2.2.1.length : Int) then (bif inR c12 (z11.1.length : Int) then (let c17 := ((rd z11.2.2.1 (Int.tmod z11.2.1 z11.2.2.2.2.2)) == (rd z11.1 c12)); some c17) else none) else none) else (some false)) else (some false)) else (some false)) else (some false)) else none) some) some) some)) some

def brindlewoodref3_Faults.b0 (k : Nat) (rec : (List (Bool × List Int)) → (Int × Int) → Int → Option ((Int × Int) ⊕ (Int × Int))) (x0 : List (Bool × List Int)) (x22 : Int × Int) (x3 : Int) : Option ((Int × Int) ⊕ (Int × Int)) :=
  bif decide (x3 < (x0.length : Int)) then (bif inR x3 (x0.length : Int) then ((brindlewoodref3_IntOk (nth (.st (.pair (.bool) (.list (.int .u32)))) x0 x3)).bind fun t1 => bif (!t1) then ((brindlewoodref3_At 6 (w64 ((-1) - x3))).bind fun t2 => some (.inr t2)) else (rec x0 x22 (w64 (x3 + 1)))) else none) else (some (.inl x22))
def brindlewoodref3_Faults.l0 (k : Nat) : Nat → (List (Bool × List Int)) → (Int × Int) → Int → Option ((Int × Int) ⊕ (Int × Int))
  | 0 => fun _ _ _ => none
  | n + 1 => brindlewoodref3_Faults.b0 k (brindlewoodref3_Faults.l0 k n)
def brindlewoodref3_Faults (k : Nat) (a0 : List (Bool × List Int)) : Option (Int × Int) :=
  joinB (α := Int × Int) (brindlewoodref3_Faults.l0 k k a0 (0, 0) 0) (fun y3 => some (0, 0)) some

def integer_signed (a0 : Bool) (a1 : List Int) : Option ((Bool × List Int) × Int × Int) :=
  bif decide (128 < (a1.length : Int)) then ((integer_at 14 (-1)).bind fun t1 => some ((false, []), t1)) else (bif a0 then (some ((decide (0 < (a1.length : Int)), a1), (0, 0))) else (some ((false, a1), (0, 0))))

def natural_Valid (a0 : List Int) : Option (Bool) :=
  bif decide ((a0.length : Int) ≤ 600) then (bif ((a0.length : Int) == 0) then (some true) else (bif inR (w64 ((a0.length : Int) - 1)) (a0.length : Int) then (let c1 := ((rd a0 (w64 ((a0.length : Int) - 1))) != 0); some c1) else none)) else (some false)

def natural_at (a0 : Int) (a1 : Int) : Option (Int × Int) :=
  some (a0, a1)

def natural_check (a0 : List Int) (a1 : List Int) : Option (Int × Int) :=
  (natural_Valid a0).bind fun t1 => bif (!t1) then ((natural_at 6 (-1)).bind fun t2 => some t2) else ((natural_Valid a1).bind fun t3 => bif (!t3) then ((natural_at 6 (-2)).bind fun t4 => some t4) else (some (0, 0)))

def natural_compare.b0 (k : Nat) (rec : List Int → List Int → Int → Option ((Unit) ⊕ (Int))) (x0 : List Int) (x1 : List Int) (x5 : Int) : Option ((Unit) ⊕ (Int)) :=
  bif decide (0 ≤ x5) then (bif inR x5 (x0.length : Int) then (bif inR x5 (x1.length : Int) then (bif ((rd x0 x5) != (rd x1 x5)) then (bif inR x5 (x0.length : Int) then (bif inR x5 (x1.length : Int) then (bif decide (rd x0 x5 < rd x1 x5) then (some (.inr (-1))) else (some (.inr 1))) else none) else none) else (rec x0 x1 (w64 (x5 - 1)))) else none) else none) else (some (.inl ()))
def natural_compare.l0 (k : Nat) : Nat → List Int → List Int → Int → Option ((Unit) ⊕ (Int))
  | 0 => fun _ _ _ => none
  | n + 1 => natural_compare.b0 k (natural_compare.l0 k n)
def natural_compare (k : Nat) (a0 : List Int) (a1 : List Int) : Option (Int) :=
  bif ((a0.length : Int) != (a1.length : Int)) then (let c1 := w64 ((a0.length : Int) - (a1.length : Int)); some c1) else (joinB (α := Unit) (natural_compare.l0 k k a0 a1 (w64 ((a0.length : Int) - 1))) (fun y2 => some 0) some)

def slices_Clone_uint32uint32 (a0 : List Int) : Option (List Int) := bif fitsB (0 + a0.length) 4 then some a0 else none

def bits_Sub32 (a0 : Int) (a1 : Int) (a2 : Int) : Option (Int × Int) :=
  let c1 := shrI .u32 (bitsOp .or .u32 (bitsOp .and .u32 (bitsOp .xor .u32 (IntKind.max .u32) a0) a1) (bitsOp .and .u32 (bitsOp .xor .u32 (IntKind.max .u32) (bitsOp .xor .u32 a0 a1)) (wu32 ((wu32 (a0 - a1)) - a2)))) 31; some (wu32 ((wu32 (a0 - a1)) - a2), c1)

def natural_trim_v.b0 (k : Nat) (rec : List Int → (Int × Int) → Option ((List Int × Int × Int) ⊕ (Int × Int))) (x0_0 : List Int) (x0_1 : Int × Int) : Option ((List Int × Int × Int) ⊕ (Int × Int)) :=
  bif decide (0 < x0_1.2) then (bif inR (w64 (x0_1.2 - 1)) x0_1.2 then (bif ((rd x0_0 (x0_1.1 + (w64 (x0_1.2 - 1)))) == 0) then (bif ((decide (0 ≤ 0) && decide (0 ≤ w64 (x0_1.2 - 1))) && decide (w64 (x0_1.2 - 1) ≤ x0_1.2)) then (rec x0_0 ((x0_1.1 + 0), ((w64 (x0_1.2 - 1)) - 0))) else none) else (some (.inl (x0_0, (x0_1.1, x0_1.2))))) else none) else (some (.inl (x0_0, (x0_1.1, x0_1.2))))
def natural_trim_v.l0 (k : Nat) : Nat → List Int → (Int × Int) → Option ((List Int × Int × Int) ⊕ (Int × Int))
  | 0 => fun _ _ => none
  | n + 1 => natural_trim_v.b0 k (natural_trim_v.l0 k n)
def natural_trim_v (k : Nat) (a0 : List Int) : Option (Int × Int) :=
  joinB (α := List Int × Int × Int) (natural_trim_v.l0 k k a0 (0, (a0.length : Int))) (fun y1 => some (y1.2.1, y1.2.2)) some

def natural_sub.b0 (k : Nat) (rec : List Int → List Int → Int → Int → Int → Option ((List Int) ⊕ (List Int))) (x1 : List Int) (x5 : List Int) (x6 : Int) (x12 : Int) (x13 : Int) : Option ((List Int) ⊕ (List Int)) :=
  bif decide (x13 < x12) then (joinB (α := List Int × List Int × Int × Int × Int × Int × Int) (bif decide (x13 < (x1.length : Int)) then (bif inR x13 (x1.length : Int) then (some (.inl (x1, x5, x6, x13, rd x1 x13, x12, x13))) else none) else (some (.inl (x1, x5, x6, x13, 0, x12, x13)))) (fun z2 => bif inR z2.2.2.2.1 (z2.2.1.length : Int) then ((bits_Sub32 (rd z2.2.1 z2.2.2.2.1) z2.2.2.2.2.1 z2.2.2.1).bind fun t3 => bif inR z2.2.2.2.1 (z2.2.1.length : Int) then (rec z2.1 (z2.2.1.set (Int.toNat z2.2.2.2.1) t3.1) t3.2 z2.2.2.2.2.2.1 (w64 (z2.2.2.2.2.2.2 + 1))) else none) else none) (fun r => some (.inr r))) else (some (.inl x5))
def natural_sub.l0 (k : Nat) : Nat → List Int → List Int → Int → Int → Int → Option ((List Int) ⊕ (List Int))
  | 0 => fun _ _ _ _ _ => none
  | n + 1 => natural_sub.b0 k (natural_sub.l0 k n)
def natural_sub (k : Nat) (a0 : List Int) (a1 : List Int) : Option (List Int) :=
  (slices_Clone_uint32uint32 a0).bind fun t1 => joinB (α := List Int) (natural_sub.l0 k k a1 t1 0 (t1.length : Int) 0) (fun y4 => (natural_trim_v k y4).bind fun t5 => some (sub y4 t5.1 t5.2)) some

def natural_Sub (k : Nat) (a0 : List Int) (a1 : List Int) : Option (List Int × Int × Int) :=
  (natural_check a0 a1).bind fun t1 => bif (t1.1 != 0) then (some ([], t1)) else ((natural_compare k a0 a1).bind fun t2 => bif decide (t2 < 0) then ((natural_at 4 (-2)).bind fun t3 => some ([], t3)) else ((natural_sub k a0 a1).bind fun t4 => some (t4, (0, 0))))

def bits_Len32 (a0 : Int) : Option (Int) :=
  joinB (α := Int × Int) (bif decide (65536 ≤ a0) then (some (.inl (shrI .u32 a0 16, 16))) else (some (.inl (a0, 0)))) (fun z1 => bif decide (256 ≤ z1.1) then (bif inR (wu8 (shrI .u32 z1.1 8)) ((⟨#[0, 1, 2, 2, 3, 3, 3, 3, 4, 4, 4, 4, 4, 4, 4, 4, 5, 5, 5, 5, 5, 5, 5, 5, 5, 5, 5, 5, 5, 5, 5, 5, 6, 6, 6, 6, 6, 6, 6, 6, 6, 6, 6, 6, 6, 6, 6, 6, 6, 6, 6, 6, 6, 6, 6, 6, 6, 6, 6, 6, 6, 6, 6, 6, 7, 7, 7, 7, 7, 7, 7, 7, 7, 7, 7, 7, 7, 7, 7, 7, 7, 7, 7, 7, 7, 7, 7, 7, 7, 7, 7, 7, 7, 7, 7, 7, 7, 7, 7, 7, 7, 7, 7, 7, 7, 7, 7, 7, 7, 7, 7, 7, 7, 7, 7, 7, 7, 7, 7, 7, 7, 7, 7, 7, 7, 7, 7, 7, 8, 8, 8, 8, 8, 8, 8, 8, 8, 8, 8, 8, 8, 8, 8, 8, 8, 8, 8, 8, 8, 8, 8, 8, 8, 8, 8, 8, 8, 8, 8, 8, 8, 8, 8, 8, 8, 8, 8, 8, 8, 8, 8, 8, 8, 8, 8, 8, 8, 8, 8, 8, 8, 8, 8, 8, 8, 8, 8, 8, 8, 8, 8, 8, 8, 8, 8, 8, 8, 8, 8, 8, 8, 8, 8, 8, 8, 8, 8, 8, 8, 8, 8, 8, 8, 8, 8, 8, 8, 8, 8, 8, 8, 8, 8, 8, 8, 8, 8, 8, 8, 8, 8, 8, 8, 8, 8, 8, 8, 8, 8, 8, 8, 8, 8, 8, 8, 8, 8, 8, 8, 8, 8, 8, 8, 8, 8, 8]⟩ : ByteArray).size : Int) then (let c2 := w64 ((w64 (z1.2 + 8)) + (w64 (rd (bytesOf (⟨#[0, 1, 2, 2, 3, 3, 3, 3, 4, 4, 4, 4, 4, 4, 4, 4, 5, 5, 5, 5, 5, 5, 5, 5, 5, 5, 5, 5, 5, 5, 5, 5, 6, 6, 6, 6, 6, 6, 6, 6, 6, 6, 6, 6, 6, 6, 6, 6, 6, 6, 6, 6, 6, 6, 6, 6, 6, 6, 6, 6, 6, 6, 6, 6, 7, 7, 7, 7, 7, 7, 7, 7, 7, 7, 7, 7, 7, 7, 7, 7, 7, 7, 7, 7, 7, 7, 7, 7, 7, 7, 7, 7, 7, 7, 7, 7, 7, 7, 7, 7, 7, 7, 7, 7, 7, 7, 7, 7, 7, 7, 7, 7, 7, 7, 7, 7, 7, 7, 7, 7, 7, 7, 7, 7, 7, 7, 7, 7, 8, 8, 8, 8, 8, 8, 8, 8, 8, 8, 8, 8, 8, 8, 8, 8, 8, 8, 8, 8, 8, 8, 8, 8, 8, 8, 8, 8, 8, 8, 8, 8, 8, 8, 8, 8, 8, 8, 8, 8, 8, 8, 8, 8, 8, 8, 8, 8, 8, 8, 8, 8, 8, 8, 8, 8, 8, 8, 8, 8, 8, 8, 8, 8, 8, 8, 8, 8, 8, 8, 8, 8, 8, 8, 8, 8, 8, 8, 8, 8, 8, 8, 8, 8, 8, 8, 8, 8, 8, 8, 8, 8, 8, 8, 8, 8, 8, 8, 8, 8, 8, 8, 8, 8, 8, 8, 8, 8, 8, 8, 8, 8, 8, 8, 8, 8, 8, 8, 8, 8, 8, 8, 8, 8, 8, 8, 8, 8]⟩ : ByteArray)) (wu8 (shrI .u32 z1.1 8))))); some c2) else none) else (bif inR (wu8 (z1.1)) ((⟨#[0, 1, 2, 2, 3, 3, 3, 3, 4, 4, 4, 4, 4, 4, 4, 4, 5, 5, 5, 5, 5, 5, 5, 5, 5, 5, 5, 5, 5, 5, 5, 5, 6, 6, 6, 6, 6, 6, 6, 6, 6, 6, 6, 6, 6, 6, 6, 6, 6, 6, 6, 6, 6, 6, 6, 6, 6, 6, 6, 6, 6, 6, 6, 6, 7, 7, 7, 7, 7, 7, 7, 7, 7, 7, 7, 7, 7, 7, 7, 7, 7, 7, 7, 7, 7, 7, 7, 7, 7, 7, 7, 7, 7, 7, 7, 7, 7, 7, 7, 7, 7, 7, 7, 7, 7, 7, 7, 7, 7, 7, 7, 7, 7, 7, 7, 7, 7, 7, 7, 7, 7, 7, 7, 7, 7, 7, 7, 7, 8, 8, 8, 8, 8, 8, 8, 8, 8, 8, 8, 8, 8, 8, 8, 8, 8, 8, 8, 8, 8, 8, 8, 8, 8, 8, 8, 8, 8, 8, 8, 8, 8, 8, 8, 8, 8, 8, 8, 8, 8, 8, 8, 8, 8, 8, 8, 8, 8, 8, 8, 8, 8, 8, 8, 8, 8, 8, 8, 8, 8, 8, 8, 8, 8, 8, 8, 8, 8, 8, 8, 8, 8, 8, 8, 8, 8, 8, 8, 8, 8, 8, 8, 8, 8, 8, 8, 8, 8, 8, 8, 8, 8, 8, 8, 8, 8, 8, 8, 8, 8, 8, 8, 8, 8, 8, 8, 8, 8, 8, 8, 8, 8, 8, 8, 8, 8, 8, 8, 8, 8, 8, 8, 8, 8, 8, 8, 8]⟩ : ByteArray).size : Int) then (let c3 := w64 (z1.2 + (w64 (rd (bytesOf (⟨#[0, 1, 2, 2, 3, 3, 3, 3, 4, 4, 4, 4, 4, 4, 4, 4, 5, 5, 5, 5, 5, 5, 5, 5, 5, 5, 5, 5, 5, 5, 5, 5, 6, 6, 6, 6, 6, 6, 6, 6, 6, 6, 6, 6, 6, 6, 6, 6, 6, 6, 6, 6, 6, 6, 6, 6, 6, 6, 6, 6, 6, 6, 6, 6, 7, 7, 7, 7, 7, 7, 7, 7, 7, 7, 7, 7, 7, 7, 7, 7, 7, 7, 7, 7, 7, 7, 7, 7, 7, 7, 7, 7, 7, 7, 7, 7, 7, 7, 7, 7, 7, 7, 7, 7, 7, 7, 7, 7, 7, 7, 7, 7, 7, 7, 7, 7, 7, 7, 7, 7, 7, 7, 7, 7, 7, 7, 7, 7, 8, 8, 8, 8, 8, 8, 8, 8, 8, 8, 8, 8, 8, 8, 8, 8, 8, 8, 8, 8, 8, 8, 8, 8, 8, 8, 8, 8, 8, 8, 8, 8, 8, 8, 8, 8, 8, 8, 8, 8, 8, 8, 8, 8, 8, 8, 8, 8, 8, 8, 8, 8, 8, 8, 8, 8, 8, 8, 8, 8, 8, 8, 8, 8, 8, 8, 8, 8, 8, 8, 8, 8, 8, 8, 8, 8, 8, 8, 8, 8, 8, 8, 8, 8, 8, 8, 8, 8, 8, 8, 8, 8, 8, 8, 8, 8, 8, 8, 8, 8, 8, 8, 8, 8, 8, 8, 8, 8, 8, 8, 8, 8, 8, 8, 8, 8, 8, 8, 8, 8, 8, 8, 8, 8, 8, 8, 8, 8]⟩ : ByteArray)) (wu8 (z1.1))))); some c3) else none)) some

def natural_Bits (a0 : List Int) : Option (Int × Int × Int) :=
  (natural_Valid a0).bind fun t1 => bif (!t1) then ((natural_at 6 (-1)).bind fun t2 => some (0, t2)) else (bif ((a0.length : Int) == 0) then (some (0, (0, 0))) else (bif inR (w64 ((a0.length : Int) - 1)) (a0.length : Int) then ((bits_Len32 (rd a0 (w64 ((a0.length : Int) - 1)))).bind fun t3 => let c4 := w64 ((w64 (32 * (w64 ((a0.length : Int) - 1)))) + t3); some (c4, (0, 0))) else none))

def natural_right.b0 (k : Nat) (rec : List Int → Int → List Int → Int → Option ((List Int) ⊕ (List Int))) (x0 : List Int) (x1 : Int) (x5 : List Int) (x6 : Int) : Option ((List Int) ⊕ (List Int)) :=
  bif decide (x6 < (x0.length : Int)) then (bif inR x6 (x0.length : Int) then (bif decide (w64 (x6 + 1) < (x0.length : Int)) then (bif inR (w64 (x6 + 1)) (x0.length : Int) then (let c1 := bitsOp .or .u64 (wu64 (rd x0 x6)) (shlI .u64 (wu64 (rd x0 (w64 (x6 + 1)))) 32); bif decide (0 ≤ Int.tmod x1 32) then (bif fitsB (x5.length + [wu32 (shrI .u64 c1 (Int.tmod x1 32))].length) 4 then (rec x0 x1 (x5 ++ [wu32 (shrI .u64 c1 (Int.tmod x1 32))]) (w64 (x6 + 1))) else none) else none) else none) else (bif decide (0 ≤ Int.tmod x1 32) then (bif fitsB (x5.length + [wu32 (shrI .u64 (wu64 (rd x0 x6)) (Int.tmod x1 32))].length) 4 then (rec x0 x1 (x5 ++ [wu32 (shrI .u64 (wu64 (rd x0 x6)) (Int.tmod x1 32))]) (w64 (x6 + 1))) else none) else none)) else none) else (some (.inl x5))
def natural_right.l0 (k : Nat) : Nat → List Int → Int → List Int → Int → Option ((List Int) ⊕ (List Int))
  | 0 => fun _ _ _ _ => none
  | n + 1 => natural_right.b0 k (natural_right.l0 k n)
def natural_right (k : Nat) (a0 : List Int) (a1 : Int) : Option (List Int) :=
  joinB (α := List Int) (natural_right.l0 k k a0 a1 [] (w64 (Int.tdiv a1 32))) (fun y2 => (natural_trim_v k y2).bind fun t3 => some (sub y2 t3.1 t3.2)) some

def natural_left.b0 (k : Nat) (rec : Int → List Int → Int → List Int → Int → Int → Option ((List Int × Int) ⊕ (List Int))) (x1 : Int) (x5 : List Int) (x6 : Int) (x19 : List Int) (x20 : Int) (x21 : Int) : Option ((List Int × Int) ⊕ (List Int)) :=
  bif decide (x21 < x20) then (bif inR x21 (x19.length : Int) then (bif decide (0 ≤ Int.tmod x1 32) then (let c1 := shlI .u64 (wu64 (rd x19 x21)) (Int.tmod x1 32); bif fitsB (x5.length + [bitsOp .or .u32 (wu32 (c1)) x6].length) 4 then (rec x1 (x5 ++ [bitsOp .or .u32 (wu32 (c1)) x6]) (wu32 (shrI .u64 c1 32)) x19 x20 (w64 (x21 + 1))) else none) else none) else none) else (some (.inl (x5, x6)))
def natural_left.l0 (k : Nat) : Nat → Int → List Int → Int → List Int → Int → Int → Option ((List Int × Int) ⊕ (List Int))
  | 0 => fun _ _ _ _ _ _ => none
  | n + 1 => natural_left.b0 k (natural_left.l0 k n)
def natural_left (k : Nat) (a0 : List Int) (a1 : Int) : Option (List Int) :=
  bif ((decide (0 ≤ w64 (Int.tdiv a1 32)) && decide (w64 (Int.tdiv a1 32) ≤ w64 ((w64 ((w64 (Int.tdiv a1 32)) + (a0.length : Int))) + 1))) && fitsB (Int.toNat (w64 ((w64 ((w64 (Int.tdiv a1 32)) + (a0.length : Int))) + 1))) 4) then (joinB (α := List Int × Int) (natural_left.l0 k k a1 (List.replicate (Int.toNat (w64 (Int.tdiv a1 32))) (0 : Int)) 0 a0 (a0.length : Int) 0) (fun y2 => bif fitsB (y2.1.length + [y2.2].length) 4 then ((natural_trim_v k (y2.1 ++ [y2.2])).bind fun t3 => some (sub (y2.1 ++ [y2.2]) t3.1 t3.2)) else none) some) else none

def natural_add.b0 (k : Nat) (rec : List Int → List Int → Int → List Int → Int → Int → Option ((List Int × Int) ⊕ (List Int))) (x1 : List Int) (x5 : List Int) (x6 : Int) (x20 : List Int) (x21 : Int) (x22 : Int) : Option ((List Int × Int) ⊕ (List Int)) :=
  bif decide (x22 < x21) then (bif inR x22 (x20.length : Int) then (let c2 := wu64 (x6 + (wu64 (rd x20 x22))); bif decide (x22 < (x1.length : Int)) then (bif inR x22 (x1.length : Int) then (bif fitsB (x5.length + [wu32 (wu64 (c2 + (wu64 (rd x1 x22))))].length) 4 then (let c3 := shrI .u64 (wu64 (c2 + (wu64 (rd x1 x22)))) 32; rec x1 (x5 ++ [wu32 (wu64 (c2 + (wu64 (rd x1 x22))))]) c3 x20 x21 (w64 (x22 + 1))) else none) else none) else (bif fitsB (x5.length + [wu32 (c2)].length) 4 then (rec x1 (x5 ++ [wu32 (c2)]) (shrI .u64 c2 32) x20 x21 (w64 (x22 + 1))) else none)) else none) else (some (.inl (x5, x6)))
def natural_add.l0 (k : Nat) : Nat → List Int → List Int → Int → List Int → Int → Int → Option ((List Int × Int) ⊕ (List Int))
  | 0 => fun _ _ _ _ _ _ => none
  | n + 1 => natural_add.b0 k (natural_add.l0 k n)
def natural_add (k : Nat) (a0 : List Int) (a1 : List Int) : Option (List Int) :=
  joinB (α := List Int × List Int) (bif decide ((a0.length : Int) < (a1.length : Int)) then (some (.inl (a1, a0))) else (some (.inl (a0, a1)))) (fun z1 => bif ((decide (0 ≤ 0) && decide (0 ≤ w64 ((z1.1.length : Int) + 1))) && fitsB (Int.toNat (w64 ((z1.1.length : Int) + 1))) 4) then (joinB (α := List Int × Int) (natural_add.l0 k k z1.2 (List.replicate 0 (0 : Int)) 0 z1.1 (z1.1.length : Int) 0) (fun y4 => bif fitsB (y4.1.length + [wu32 (y4.2)].length) 4 then ((natural_trim_v k (y4.1 ++ [wu32 (y4.2)])).bind fun t5 => some (sub (y4.1 ++ [wu32 (y4.2)]) t5.1 t5.2)) else none) some) else none) some

def natural_trim.b0 (k : Nat) (rec : List Int → Option ((List Int) ⊕ (List Int))) (x0 : List Int) : Option ((List Int) ⊕ (List Int)) :=
  bif decide (0 < (x0.length : Int)) then (bif inR (w64 ((x0.length : Int) - 1)) (x0.length : Int) then (bif ((rd x0 (w64 ((x0.length : Int) - 1))) == 0) then (bif ((decide (0 ≤ 0) && decide (0 ≤ w64 ((x0.length : Int) - 1))) && decide (w64 ((x0.length : Int) - 1) ≤ (x0.length : Int))) then (rec (sub x0 0 ((w64 ((x0.length : Int) - 1)) - 0))) else none) else (some (.inl x0))) else none) else (some (.inl x0))
def natural_trim.l0 (k : Nat) : Nat → List Int → Option ((List Int) ⊕ (List Int))
  | 0 => fun _ => none
  | n + 1 => natural_trim.b0 k (natural_trim.l0 k n)
def natural_trim (k : Nat) (a0 : List Int) : Option (List Int) :=
  joinB (α := List Int) (natural_trim.l0 k k a0) (fun y1 => some y1) some

def natural_fit (k : Nat) (a0 : List Int) : Option (List Int × Int × Int) :=
  (natural_trim k a0).bind fun t1 => bif decide (600 < (t1.length : Int)) then ((natural_at 14 (-1)).bind fun t2 => some ([], t2)) else (some (t1, (0, 0)))

def natural_Add (k : Nat) (a0 : List Int) (a1 : List Int) : Option (List Int × Int × Int) :=
  (natural_check a0 a1).bind fun t1 => bif (t1.1 != 0) then (some ([], t1)) else ((natural_add k a0 a1).bind fun t2 => (natural_fit k t2).bind fun t3 => some (t3.1, t3.2))

def bits_Div32 (a0 : Int) (a1 : Int) (a2 : Int) : Option (Int × Int) :=
  joinB (α := Int × Int × Int) (bif (a2 != 0) then (bif decide (a2 ≤ a0) then none else (some (.inl (a0, a1, a2)))) else (some (.inl (a0, a1, a2)))) (fun z1 => let c2 := bitsOp .or .u64 (shlI .u64 (wu64 (z1.1)) 32) (wu64 (z1.2.1)); bif !decide (wu64 (z1.2.2) = 0) then (bif !decide (wu64 (z1.2.2) = 0) then (let c3 := wu32 (wu64 (Int.tdiv c2 (wu64 (z1.2.2)))); let c4 := wu32 (Int.tmod c2 (wu64 (z1.2.2))); some (c3, c4)) else none) else none) some

def natural_short.b0 (k : Nat) (rec : List Int → Int → List Int → Int → Int → Option ((List Int × Int) ⊕ (List Int × Int))) (x0 : List Int) (x1 : Int) (x6 : List Int) (x7 : Int) (x8 : Int) : Option ((List Int × Int) ⊕ (List Int × Int)) :=
  bif decide (0 ≤ x8) then (bif inR x8 (x0.length : Int) then ((bits_Div32 x7 (rd x0 x8) x1).bind fun t1 => bif inR x8 (x6.length : Int) then (rec x0 x1 (x6.set (Int.toNat x8) t1.1) t1.2 (w64 (x8 - 1))) else none) else none) else (some (.inl (x6, x7)))
def natural_short.l0 (k : Nat) : Nat → List Int → Int → List Int → Int → Int → Option ((List Int × Int) ⊕ (List Int × Int))
  | 0 => fun _ _ _ _ _ => none
  | n + 1 => natural_short.b0 k (natural_short.l0 k n)
def natural_short (k : Nat) (a0 : List Int) (a1 : Int) : Option (List Int × Int) :=
  bif ((decide (0 ≤ (a0.length : Int)) && decide ((a0.length : Int) ≤ (a0.length : Int))) && fitsB (Int.toNat (a0.length : Int)) 4) then (joinB (α := List Int × Int) (natural_short.l0 k k a0 a1 (List.replicate (Int.toNat (a0.length : Int)) (0 : Int)) 0 (w64 ((a0.length : Int) - 1))) (fun y2 => (natural_trim_v k y2.1).bind fun t3 => some (sub y2.1 t3.1 t3.2, y2.2)) some) else none

def bits_LeadingZeros32 (a0 : Int) : Option (Int) :=
  (bits_Len32 a0).bind fun t1 => some (w64 (32 - t1))

def bits_Add32 (a0 : Int) (a1 : Int) (a2 : Int) : Option (Int × Int) :=
  let c1 := wu64 ((wu64 ((wu64 (a0)) + (wu64 (a1)))) + (wu64 (a2))); some (wu32 (c1), wu32 (shrI .u64 c1 32))

def natural_digit_ld.b2 (k : Nat) (rec : List Int → List Int → Int → Int → Int → Int → Int → Option ((List Int × Int × Int × Int) ⊕ (Int × List Int))) (x0 : List Int) (x1 : List Int) (x5 : Int) (x8 : Int) (x13 : Int) (x111 : Int) (x112 : Int) : Option ((List Int × Int × Int × Int) ⊕ (Int × List Int)) :=
  bif decide (x112 < x111) then (bif inR x112 (x0.length : Int) then (bif inR x112 (x1.length : Int) then ((bits_Add32 (rd x0 x112) (rd x1 x112) x13).bind fun t8 => bif inR x112 (x0.length : Int) then (rec (x0.set (Int.toNat x112) t8.1) x1 x5 x8 t8.2 x111 (w64 (x112 + 1))) else none) else none) else none) else (some (.inl (x0, x5, x8, x13)))
def natural_digit_ld.l2 (k : Nat) : Nat → List Int → List Int → Int → Int → Int → Int → Int → Option ((List Int × Int × Int × Int) ⊕ (Int × List Int))
  | 0 => fun _ _ _ _ _ _ _ => none
  | n + 1 => natural_digit_ld.b2 k (natural_digit_ld.l2 k n)
def natural_digit_ld.b1 (k : Nat) (rec : List Int → List Int → Int → Int → Int → Int → Int → Int → Option ((List Int × List Int × Int × Int × Int) ⊕ (Int × List Int))) (x0 : List Int) (x1 : List Int) (x5 : Int) (x8 : Int) (x10 : Int) (x11 : Int) (x74 : Int) (x75 : Int) : Option ((List Int × List Int × Int × Int × Int) ⊕ (Int × List Int)) :=
  bif decide (x75 < x74) then (joinB (α := List Int × List Int × Int × Int × Int × Int × Int × Int × Int) (bif decide (x75 < x5) then (bif inR x75 (x1.length : Int) then (let c4 := wu64 (x10 + (wu64 (x8 * (wu64 (rd x1 x75))))); some (.inl (x0, x1, x5, x8, c4, x11, x75, x74, x75))) else none) else (some (.inl (x0, x1, x5, x8, x10, x11, x75, x74, x75)))) (fun z5 => bif inR z5.2.2.2.2.2.2.1 (z5.1.length : Int) then ((bits_Sub32 (rd z5.1 z5.2.2.2.2.2.2.1) (wu32 (z5.2.2.2.2.1)) z5.2.2.2.2.2.1).bind fun t6 => bif inR z5.2.2.2.2.2.2.1 (z5.1.length : Int) then (rec (z5.1.set (Int.toNat z5.2.2.2.2.2.2.1) t6.1) z5.2.1 z5.2.2.1 z5.2.2.2.1 (shrI .u64 z5.2.2.2.2.1 32) t6.2 z5.2.2.2.2.2.2.2.1 (w64 (z5.2.2.2.2.2.2.2.2 + 1))) else none) else none) (fun r => some (.inr r))) else (some (.inl (x0, x1, x5, x8, x11)))
def natural_digit_ld.l1 (k : Nat) : Nat → List Int → List Int → Int → Int → Int → Int → Int → Int → Option ((List Int × List Int × Int × Int × Int) ⊕ (Int × List Int))
  | 0 => fun _ _ _ _ _ _ _ _ => none
  | n + 1 => natural_digit_ld.b1 k (natural_digit_ld.l1 k n)
def natural_digit_ld.b0 (k : Nat) (rec : List Int → List Int → Int → Int → Int → Int → Option ((List Int × List Int × Int × Int) ⊕ (Int × List Int))) (x0 : List Int) (x1 : List Int) (x5 : Int) (x7 : Int) (x8 : Int) (x9 : Int) : Option ((List Int × List Int × Int × Int) ⊕ (Int × List Int)) :=
  bif ((shrI .u64 x8 32) != 0) then (bif ((shrI .u64 (wu64 (x9 + x7)) 32) != 0) then (some (.inl (x0, x1, x5, wu64 (x8 - 1)))) else (rec x0 x1 x5 x7 (wu64 (x8 - 1)) (wu64 (x9 + x7)))) else (bif inR (w64 (x5 - 2)) (x1.length : Int) then (bif inR (w64 (x5 - 2)) (x0.length : Int) then (bif decide (bitsOp .or .u64 (shlI .u64 x9 32) (wu64 (rd x0 (w64 (x5 - 2)))) < wu64 (x8 * (wu64 (rd x1 (w64 (x5 - 2)))))) then (bif ((shrI .u64 (wu64 (x9 + x7)) 32) != 0) then (some (.inl (x0, x1, x5, wu64 (x8 - 1)))) else (rec x0 x1 x5 x7 (wu64 (x8 - 1)) (wu64 (x9 + x7)))) else (some (.inl (x0, x1, x5, x8)))) else none) else none)
def natural_digit_ld.l0 (k : Nat) : Nat → List Int → List Int → Int → Int → Int → Int → Option ((List Int × List Int × Int × Int) ⊕ (Int × List Int))
  | 0 => fun _ _ _ _ _ _ => none
  | n + 1 => natural_digit_ld.b0 k (natural_digit_ld.l0 k n)
def natural_digit_ld (k : Nat) (a0 : List Int) (a1 : List Int) : Option (Int × List Int) :=
  bif inR (a1.length : Int) (a0.length : Int) then (bif inR (w64 ((a1.length : Int) - 1)) (a0.length : Int) then (bif inR (w64 ((a1.length : Int) - 1)) (a1.length : Int) then (let c1 := bitsOp .or .u64 (shlI .u64 (wu64 (rd a0 (a1.length : Int))) 32) (wu64 (rd a0 (w64 ((a1.length : Int) - 1)))); let c2 := wu64 (rd a1 (w64 ((a1.length : Int) - 1))); bif !decide (c2 = 0) then (bif !decide (c2 = 0) then (joinB (α := List Int × List Int × Int × Int) (natural_digit_ld.l0 k k a0 a1 (a1.length : Int) c2 (wu64 (Int.tdiv c1 c2)) (Int.tmod c1 c2)) (fun y3 => joinB (α := List Int × List Int × Int × Int × Int) (natural_digit_ld.l1 k k y3.1 y3.2.1 y3.2.2.1 y3.2.2.2 0 0 (w64 (y3.2.2.1 + 1)) 0) (fun y7 => bif (y7.2.2.2.2 != 0) then (joinB (α := List Int × Int × Int × Int) (natural_digit_ld.l2 k k y7.1 y7.2.1 y7.2.2.1 (wu64 (y7.2.2.2.1 - 1)) 0 y7.2.2.1 0) (fun y9 => bif inR y9.2.1 (y9.1.length : Int) then (bif inR y9.2.1 (y9.1.length : Int) then (some (wu32 (y9.2.2.1), y9.1.set (Int.toNat y9.2.1) (wu32 ((rd y9.1 y9.2.1) + y9.2.2.2)))) else none) else none) some) else (some (wu32 (y7.2.2.2.1), y7.1))) some) some) else none) else none) else none) else none) else none

def natural_divide.b1 (k : Nat) (rec : Int → Int → List Int → List Int → List Int → Int → Option ((Int × Int × List Int × List Int) ⊕ (List Int × List Int))) (x6 : Int) (x7 : Int) (x8 : List Int) (x9 : List Int) (x10 : List Int) (x11 : Int) : Option ((Int × Int × List Int × List Int) ⊕ (List Int × List Int)) :=
  bif decide (0 ≤ x11) then (bif ((decide (0 ≤ x11) && decide (x11 ≤ w64 ((w64 (x11 + x6)) + 1))) && decide (w64 ((w64 (x11 + x6)) + 1) ≤ (x9.length : Int))) then ((natural_digit_ld k (sub x9 x11 ((w64 ((w64 (x11 + x6)) + 1)) - x11)) x8).bind fun t6 => bif inR x11 (x10.length : Int) then (rec x6 x7 x8 (splice x9 x11 t6.2) (x10.set (Int.toNat x11) t6.1) (w64 (x11 - 1))) else none) else none) else (some (.inl (x6, x7, x9, x10)))
def natural_divide.l1 (k : Nat) : Nat → Int → Int → List Int → List Int → List Int → Int → Option ((Int × Int × List Int × List Int) ⊕ (List Int × List Int))
  | 0 => fun _ _ _ _ _ _ => none
  | n + 1 => natural_divide.b1 k (natural_divide.l1 k n)
def natural_divide.b0 (k : Nat) (rec : List Int → Int → Int → List Int → List Int → Option ((Int × Int × List Int × List Int) ⊕ (List Int × List Int))) (x0 : List Int) (x6 : Int) (x7 : Int) (x8 : List Int) (x9 : List Int) : Option ((Int × Int × List Int × List Int) ⊕ (List Int × List Int)) :=
  bif decide ((x9.length : Int) ≤ (x0.length : Int)) then (bif fitsB (x9.length + [0].length) 4 then (rec x0 x6 x7 x8 (x9 ++ [0])) else none) else (some (.inl (x6, x7, x8, x9)))
def natural_divide.l0 (k : Nat) : Nat → List Int → Int → Int → List Int → List Int → Option ((Int × Int × List Int × List Int) ⊕ (List Int × List Int))
  | 0 => fun _ _ _ _ _ => none
  | n + 1 => natural_divide.b0 k (natural_divide.l0 k n)
def natural_divide (k : Nat) (a0 : List Int) (a1 : List Int) : Option (List Int × List Int) :=
  bif inR (w64 ((a1.length : Int) - 1)) (a1.length : Int) then ((bits_LeadingZeros32 (rd a1 (w64 ((a1.length : Int) - 1)))).bind fun t1 => (natural_left k a1 t1).bind fun t2 => (natural_left k a0 t1).bind fun t3 => joinB (α := Int × Int × List Int × List Int) (natural_divide.l0 k k a0 (a1.length : Int) t1 t2 t3) (fun y4 => bif ((decide (0 ≤ w64 ((y4.2.2.2.length : Int) - y4.1)) && decide (w64 ((y4.2.2.2.length : Int) - y4.1) ≤ w64 ((y4.2.2.2.length : Int) - y4.1))) && fitsB (Int.toNat (w64 ((y4.2.2.2.length : Int) - y4.1))) 4) then (let c5 := w64 ((w64 ((y4.2.2.2.length : Int) - y4.1)) - 1); joinB (α := Int × Int × List Int × List Int) (natural_divide.l1 k k y4.1 y4.2.1 y4.2.2.1 y4.2.2.2 (List.replicate (Int.toNat (w64 ((y4.2.2.2.length : Int) - y4.1))) (0 : Int)) c5) (fun y7 => (natural_trim_v k y7.2.2.2).bind fun t8 => bif ((decide (0 ≤ 0) && decide (0 ≤ y7.1)) && decide (y7.1 ≤ (y7.2.2.1.length : Int))) then ((natural_trim_v k (sub y7.2.2.1 0 (y7.1 - 0))).bind fun t9 => (natural_right k (sub y7.2.2.1 (0 + t9.1) t9.2) y7.2.1).bind fun t10 => some (sub y7.2.2.2 t8.1 t8.2, t10)) else none) some) else none) some) else none

def natural_divMod (k : Nat) (a0 : List Int) (a1 : List Int) : Option (List Int × List Int) :=
  (natural_compare k a0 a1).bind fun t1 => bif decide (t1 < 0) then ((slices_Clone_uint32uint32 a0).bind fun t2 => some ([], t2)) else (bif ((a1.length : Int) == 1) then (bif inR 0 (a1.length : Int) then ((natural_short k a0 (rd a1 0)).bind fun t3 => (natural_trim_v k [t3.2]).bind fun t4 => some (t3.1, sub [t3.2] t4.1 t4.2)) else none) else ((natural_divide k a0 a1).bind fun t5 => some (t5.1, t5.2)))

def natural_DivMod (k : Nat) (a0 : List Int) (a1 : List Int) : Option (List Int × List Int × Int × Int) :=
  (natural_check a0 a1).bind fun t1 => bif (t1.1 != 0) then (some ([], [], t1)) else (bif ((a1.length : Int) == 0) then ((natural_at 22 (-2)).bind fun t2 => some ([], [], t2)) else ((natural_divMod k a0 a1).bind fun t3 => some (t3.1, t3.2, (0, 0))))

def integer_DivMod (k : Nat) (a0 : Bool × List Int) (a1 : Bool × List Int) : Option ((Bool × List Int) × (Bool × List Int) × Int × Int) :=
  (integer_check k [a0, a1]).bind fun t1 => bif (t1.1 != 0) then (some ((false, []), (false, []), t1)) else ((natural_DivMod k a0.2 a1.2).bind fun t2 => bif (t2.2.2.1 != 0) then (some ((false, []), (false, []), t2.2.2)) else (joinB (α := (Bool × List Int) × (Bool × List Int) × (Bool × List Int) × (Bool × List Int) × (Int × Int) × List Int × List Int × Int × Int) (joinB (α := (Bool × List Int) × (Bool × List Int) × (Bool × List Int) × (Bool × List Int) × (Int × Int) × List Int × List Int × (Int × Int) × Bool) (bif (!(a0.1 == a1.1)) then (some (.inl (a0, a1, (false, []), (false, []), (0, 0), t2.1, t2.2.1, t2.2.2, decide (0 < (t2.2.1.length : Int))))) else (some (.inl (a0, a1, (false, []), (false, []), (0, 0), t2.1, t2.2.1, t2.2.2, false)))) (fun z3 => bif z3.2.2.2.2.2.2.2.2 then ((natural_Add k z3.2.2.2.2.2.1 [1]).bind fun t4 => (natural_Sub k z3.2.1.2 z3.2.2.2.2.2.2.1).bind fun t5 => some (.inl (z3.1, z3.2.1, z3.2.2.1, z3.2.2.2.1, z3.2.2.2.2.1, t4.1, t5.1, z3.2.2.2.2.2.2.2.1))) else (some (.inl (z3.1, z3.2.1, z3.2.2.1, z3.2.2.2.1, z3.2.2.2.2.1, z3.2.2.2.2.2.1, z3.2.2.2.2.2.2.1, z3.2.2.2.2.2.2.2.1)))) (fun r => some (.inr r))) (fun z6 => (integer_signed (!(z6.1.1 == z6.2.1.1)) z6.2.2.2.2.2.1).bind fun t7 => bif (t7.2.1 != 0) then (some ((false, []), (false, []), t7.2)) else ((integer_signed z6.2.1.1 z6.2.2.2.2.2.2.1).bind fun t8 => some (t7.1, t8.1, (0, 0)))) some))

def natural_chunk.b0 (k : Nat) (rec : Int → Int → Int → Option ((Int × Int) ⊕ (Int × Int))) (x0 : Int) (x4 : Int) (x5 : Int) : Option ((Int × Int) ⊕ (Int × Int)) :=
  bif decide (wu64 (x4 * (wu64 (x0))) < 4294967296) then (rec x0 (wu64 (x4 * (wu64 (x0)))) (w64 (x5 + 1))) else (some (.inl (x4, x5)))
def natural_chunk.l0 (k : Nat) : Nat → Int → Int → Int → Option ((Int × Int) ⊕ (Int × Int))
  | 0 => fun _ _ _ => none
  | n + 1 => natural_chunk.b0 k (natural_chunk.l0 k n)
def natural_chunk (k : Nat) (a0 : Int) : Option (Int × Int) :=
  joinB (α := Int × Int) (natural_chunk.l0 k k a0 (wu64 (a0)) 1) (fun y1 => some (wu32 (y1.1), y1.2)) some

def slices_Reverse_intint_l.b0 (k : Nat) (rec : List Int → Int → Int → Option ((List Int) ⊕ (List Int))) (x0 : List Int) (x2 : Int) (x3 : Int) : Option ((List Int) ⊕ (List Int)) :=
  bif decide (x2 < x3) then (bif inR x3 (x0.length : Int) then (bif inR x2 (x0.length : Int) then (bif inR x2 (x0.length : Int) then (bif inR x3 ((x0.set (Int.toNat x2) (rd x0 x3)).length : Int) then (rec ((x0.set (Int.toNat x2) (rd x0 x3)).set (Int.toNat x3) (rd x0 x2)) (w64 (x2 + 1)) (w64 (x3 - 1))) else none) else none) else none) else none) else (some (.inl x0))
def slices_Reverse_intint_l.l0 (k : Nat) : Nat → List Int → Int → Int → Option ((List Int) ⊕ (List Int))
  | 0 => fun _ _ _ => none
  | n + 1 => slices_Reverse_intint_l.b0 k (slices_Reverse_intint_l.l0 k n)
def slices_Reverse_intint_l (k : Nat) (a0 : List Int) : Option (List Int) :=
  joinB (α := List Int) (slices_Reverse_intint_l.l0 k k a0 0 (w64 ((a0.length : Int) - 1))) (fun y1 => some y1) some

def natural_Digits.b1 (k : Nat) (rec : List Int → Int → (Int × Int) → Int → Int → List Int → Int → Int → Option ((List Int × Int × (Int × Int) × Int × Int × List Int) ⊕ (List Int × Int × Int))) (x0 : List Int) (x1 : Int) (x72 : Int × Int) (x6 : Int) (x7 : Int) (x8 : List Int) (x9 : Int) (x10 : Int) : Option ((List Int × Int × (Int × Int) × Int × Int × List Int) ⊕ (List Int × Int × Int)) :=
  bif decide (x10 < x7) then (bif decide (0 < (x0.length : Int)) then (bif !decide (x1 = 0) then (bif fitsB (x8.length + [Int.tmod (w64 (x9)) x1].length) 8 then (bif !decide (wu32 (x1) = 0) then (rec x0 x1 x72 x6 x7 (x8 ++ [Int.tmod (w64 (x9)) x1]) (wu32 (Int.tdiv x9 (wu32 (x1)))) (w64 (x10 + 1))) else none) else none) else none) else (bif decide (0 < x9) then (bif !decide (x1 = 0) then (bif fitsB (x8.length + [Int.tmod (w64 (x9)) x1].length) 8 then (bif !decide (wu32 (x1) = 0) then (rec x0 x1 x72 x6 x7 (x8 ++ [Int.tmod (w64 (x9)) x1]) (wu32 (Int.tdiv x9 (wu32 (x1)))) (w64 (x10 + 1))) else none) else none) else none) else (some (.inl (x0, x1, x72, x6, x7, x8))))) else (some (.inl (x0, x1, x72, x6, x7, x8)))
def natural_Digits.l1 (k : Nat) : Nat → List Int → Int → (Int × Int) → Int → Int → List Int → Int → Int → Option ((List Int × Int × (Int × Int) × Int × Int × List Int) ⊕ (List Int × Int × Int))
  | 0 => fun _ _ _ _ _ _ _ _ => none
  | n + 1 => natural_Digits.b1 k (natural_Digits.l1 k n)
def natural_Digits.b0 (k : Nat) (rec : List Int → Int → (Int × Int) → Int → Int → List Int → Option (((Int × Int) × List Int) ⊕ (List Int × Int × Int))) (x0 : List Int) (x1 : Int) (x72 : Int × Int) (x6 : Int) (x7 : Int) (x8 : List Int) : Option (((Int × Int) × List Int) ⊕ (List Int × Int × Int)) :=
  bif decide (0 < (x0.length : Int)) then ((natural_short k x0 x6).bind fun t7 => joinB (α := List Int × Int × (Int × Int) × Int × Int × List Int) (natural_Digits.l1 k k t7.1 x1 x72 x6 x7 x8 t7.2 0) (fun y8 => rec y8.1 y8.2.1 y8.2.2.1 y8.2.2.2.1 y8.2.2.2.2.1 y8.2.2.2.2.2) (fun r => some (.inr r))) else (some (.inl (x72, x8)))
def natural_Digits.l0 (k : Nat) : Nat → List Int → Int → (Int × Int) → Int → Int → List Int → Option (((Int × Int) × List Int) ⊕ (List Int × Int × Int))
  | 0 => fun _ _ _ _ _ _ => none
  | n + 1 => natural_Digits.b0 k (natural_Digits.l0 k n)
def natural_Digits (k : Nat) (a0 : List Int) (a1 : Int) : Option (List Int × Int × Int) :=
  joinB (α := List Int × Int × Int × Int) ((natural_Valid a0).bind fun t1 => bif (!t1) then ((natural_at 6 (-1)).bind fun t2 => some (.inr ([], t2))) else (bif decide (a1 < 2) then ((natural_at 4 (-2)).bind fun t3 => some (.inr ([], t3))) else (bif decide (36 < a1) then ((natural_at 4 (-2)).bind fun t4 => some (.inr ([], t4))) else (some (.inl (a0, a1, (0, 0))))))) (fun z5 => (natural_chunk k z5.2.1).bind fun t6 => joinB (α := (Int × Int) × List Int) (natural_Digits.l0 k k z5.1 z5.2.1 z5.2.2 t6.1 t6.2 []) (fun y9 => (slices_Reverse_intint_l k y9.2).bind fun t10 => some (t10, (0, 0))) some) some

def integer_Text.b0 (k : Nat) (rec : (Int × Int) → List Int → List Int → List Int → Int → Int → Option (((Int × Int) × List Int × List Int) ⊕ (ByteArray × Int × Int))) (x61 : Int × Int) (x7 : List Int) (x9 : List Int) (x35 : List Int) (x36 : Int) (x37 : Int) : Option (((Int × Int) × List Int × List Int) ⊕ (ByteArray × Int × Int)) :=
  bif decide (x37 < x36) then (bif inR x37 (x35.length : Int) then (bif inR (rd x35 x37) ((⟨#[48, 49, 50, 51, 52, 53, 54, 55, 56, 57, 97, 98, 99, 100, 101, 102, 103, 104, 105, 106, 107, 108, 109, 110, 111, 112, 113, 114, 115, 116, 117, 118, 119, 120, 121, 122]⟩ : ByteArray).size : Int) then (bif fitsB (x9.length + [rd (bytesOf (⟨#[48, 49, 50, 51, 52, 53, 54, 55, 56, 57, 97, 98, 99, 100, 101, 102, 103, 104, 105, 106, 107, 108, 109, 110, 111, 112, 113, 114, 115, 116, 117, 118, 119, 120, 121, 122]⟩ : ByteArray)) (rd x35 x37)].length) 1 then (rec x61 x7 (x9 ++ [rd (bytesOf (⟨#[48, 49, 50, 51, 52, 53, 54, 55, 56, 57, 97, 98, 99, 100, 101, 102, 103, 104, 105, 106, 107, 108, 109, 110, 111, 112, 113, 114, 115, 116, 117, 118, 119, 120, 121, 122]⟩ : ByteArray)) (rd x35 x37)]) x35 x36 (w64 (x37 + 1))) else none) else none) else none) else (some (.inl (x61, x7, x9)))
def integer_Text.l0 (k : Nat) : Nat → (Int × Int) → List Int → List Int → List Int → Int → Int → Option (((Int × Int) × List Int × List Int) ⊕ (ByteArray × Int × Int))
  | 0 => fun _ _ _ _ _ _ => none
  | n + 1 => integer_Text.b0 k (integer_Text.l0 k n)
def integer_Text (k : Nat) (a0 : Bool × List Int) (a1 : Int) : Option (ByteArray × Int × Int) :=
  (integer_check k [a0]).bind fun t1 => bif (t1.1 != 0) then (some (ByteArray.empty, t1)) else ((natural_Digits k a0.2 a1).bind fun t2 => bif (t2.2.1 != 0) then (some (ByteArray.empty, t2.2)) else (joinB (α := (Int × Int) × List Int × List Int) (bif a0.1 then (bif fitsB [45].length 1 then (some (.inl ((0, 0), t2.1, [45]))) else none) else (some (.inl ((0, 0), t2.1, [])))) (fun z3 => joinB (α := (Int × Int) × List Int × List Int) (integer_Text.l0 k k z3.1 z3.2.1 z3.2.2 z3.2.1 (z3.2.1.length : Int) 0) (fun y4 => bif ((y4.2.1.length : Int) == 0) then (bif fitsB (y4.2.2.length + [48].length) 1 then (some (ofBytes (y4.2.2 ++ [48]), (0, 0))) else none) else (some (ofBytes y4.2.2, (0, 0)))) some) some))

def brindlewoodref3_Limbs.b0 (k : Nat) (rec : List Int → List Int → Int → Option ((List Int) ⊕ (List Int))) (x0 : List Int) (x3 : List Int) (x4 : Int) : Option ((List Int) ⊕ (List Int)) :=
  bif decide (x4 < (x0.length : Int)) then (bif inR x4 (x0.length : Int) then (bif decide (w64 (x4 + 1) < (x0.length : Int)) then (bif inR (w64 (x4 + 1)) (x0.length : Int) then (let c1 := wu32 ((wu32 (rd x0 x4)) + (wu32 ((wu32 (rd x0 (w64 (x4 + 1)))) * 65536))); bif fitsB (x3.length + [c1].length) 4 then (rec x0 (x3 ++ [c1]) (w64 (x4 + 2))) else none) else none) else (bif fitsB (x3.length + [wu32 (rd x0 x4)].length) 4 then (rec x0 (x3 ++ [wu32 (rd x0 x4)]) (w64 (x4 + 2))) else none)) else none) else (some (.inl x3))
def brindlewoodref3_Limbs.l0 (k : Nat) : Nat → List Int → List Int → Int → Option ((List Int) ⊕ (List Int))
  | 0 => fun _ _ _ => none
  | n + 1 => brindlewoodref3_Limbs.b0 k (brindlewoodref3_Limbs.l0 k n)
def brindlewoodref3_Limbs (k : Nat) (a0 : List Int) : Option (List Int) :=
  joinB (α := List Int) (brindlewoodref3_Limbs.l0 k k a0 [] 0) (fun y2 => some y2) some

def brindlewoodref3_SameLimbs.b0 (k : Nat) (rec : List Int → List Int → Int → Option ((Unit) ⊕ (Bool))) (x0 : List Int) (x1 : List Int) (x5 : Int) : Option ((Unit) ⊕ (Bool)) :=
  bif decide (x5 < (x0.length : Int)) then (bif inR x5 (x0.length : Int) then (bif inR x5 (x1.length : Int) then (bif ((rd x0 x5) != (rd x1 x5)) then (some (.inr false)) else (rec x0 x1 (w64 (x5 + 1)))) else none) else none) else (some (.inl ()))
def brindlewoodref3_SameLimbs.l0 (k : Nat) : Nat → List Int → List Int → Int → Option ((Unit) ⊕ (Bool))
  | 0 => fun _ _ _ => none
  | n + 1 => brindlewoodref3_SameLimbs.b0 k (brindlewoodref3_SameLimbs.l0 k n)
def brindlewoodref3_SameLimbs (k : Nat) (a0 : List Int) (a1 : List Int) : Option (Bool) :=
  bif ((a0.length : Int) != (a1.length : Int)) then (some false) else (joinB (α := Unit) (brindlewoodref3_SameLimbs.l0 k k a0 a1 0) (fun y1 => some true) some)

def brindlewoodref3_SameInt (k : Nat) (a0 : Bool × List Int) (a1 : Bool × List Int) : Option (Bool) :=
  bif a1.1 then (bif (a0.1 == (decide (0 < (a1.2.length : Int)))) then ((brindlewoodref3_Limbs k a1.2).bind fun t1 => (brindlewoodref3_SameLimbs k a0.2 t1).bind fun t2 => some t2) else (some false)) else (bif (a0.1 == false) then ((brindlewoodref3_Limbs k a1.2).bind fun t3 => (brindlewoodref3_SameLimbs k a0.2 t3).bind fun t4 => some t4) else (some false))

def brindlewoodlaw3_counts (k : Nat)  : Option (Bool) :=
  (integer_Of k (-7)).bind fun t1 => (integer_Of k 2).bind fun t2 => (integer_DivMod k t1 t2).bind fun t3 => (integer_Of k 7).bind fun t4 => (integer_Of k (-2)).bind fun t5 => (integer_DivMod k t4 t5).bind fun t6 => (integer_Of k (-255)).bind fun t7 => (integer_Text k t7 16).bind fun t8 => bif (t3.2.2.1 == 0) then (bif (t6.2.2.1 == 0) then (bif (t8.2.1 == 0) then ((brindlewoodref3_Number k (-4)).bind fun t9 => (brindlewoodref3_SameInt k t3.1 t9).bind fun t10 => bif t10 then ((brindlewoodref3_Number k 1).bind fun t11 => (brindlewoodref3_SameInt k t3.2.1 t11).bind fun t12 => bif t12 then ((brindlewoodref3_Number k (-4)).bind fun t13 => (brindlewoodref3_SameInt k t6.1 t13).bind fun t14 => bif t14 then ((brindlewoodref3_Number k (-1)).bind fun t15 => (brindlewoodref3_SameInt k t6.2.1 t15).bind fun t16 => bif t16 then (let c17 := (t8.1.toList == (⟨#[45, 102, 102]⟩ : ByteArray).toList); some c17) else (some false)) else (some false)) else (some false)) else (some false)) else (some false)) else (some false)) else (some false)

def brindlewoodref3_Int_Minus (a0 : Bool × List Int) : Option (Bool × List Int) :=
  bif (!a0.1) then (some (decide (0 < (a0.2.length : Int)), a0.2)) else (some (false, a0.2))

def brindlewoodref3_Int_Fits (a0 : Bool × List Int) (a1 : Int) : Option (Bool) :=
  let c1 := decide ((a0.2.length : Int) ≤ w64 (2 * a1)); some c1

def brindlewoodlaw3_yields (k : Nat) (a0 : Bool × List Int) (a1 : Int × Int) (a2 : Bool × List Int) (a3 : Int × Int) : Option (Bool) :=
  joinB (α := (Bool × List Int) × (Int × Int) × (Bool × List Int) × Int × Int) (bif (a3.1 == 0) then ((brindlewoodref3_Int_Fits a2 128).bind fun t1 => bif (!t1) then ((brindlewoodref3_At 14 (-1)).bind fun t2 => some (.inl (a0, a1, a2, t2))) else (some (.inl (a0, a1, a2, a3)))) else (some (.inl (a0, a1, a2, a3)))) (fun z3 => bif (z3.2.2.2.1 != 0) then (bif ((z3.2.1.1 == z3.2.2.2.1) && ((z3.2.1.2 == z3.2.2.2.2) && true)) then ((brindlewoodref3_NoInt z3.1).bind fun t4 => some t4) else (some false)) else (bif ((z3.2.1.1 == z3.2.2.2.1) && ((z3.2.1.2 == z3.2.2.2.2) && true)) then ((brindlewoodref3_SameInt k z3.1 z3.2.2.1).bind fun t5 => some t5) else (some false))) some

def brindlewoodref3_Ones.b2 (k : Nat) (rec : List Bool → Option ((List Bool) ⊕ (List Bool))) (x3 : List Bool) : Option ((List Bool) ⊕ (List Bool)) :=
  bif decide (0 < (x3.length : Int)) then (bif inR (w64 ((x3.length : Int) - 1)) (x3.length : Int) then (bif (!(rdB x3 (w64 ((x3.length : Int) - 1)))) then (bif ((decide (0 ≤ 0) && decide (0 ≤ w64 ((x3.length : Int) - 1))) && decide (w64 ((x3.length : Int) - 1) ≤ (x3.length : Int))) then (rec (sub x3 0 ((w64 ((x3.length : Int) - 1)) - 0))) else none) else (some (.inl x3))) else none) else (some (.inl x3))
def brindlewoodref3_Ones.l2 (k : Nat) : Nat → List Bool → Option ((List Bool) ⊕ (List Bool))
  | 0 => fun _ => none
  | n + 1 => brindlewoodref3_Ones.b2 k (brindlewoodref3_Ones.l2 k n)
def brindlewoodref3_Ones.b1 (k : Nat) (rec : List Int → List Bool → Int → Int → Int → Option ((List Int × List Bool × Int) ⊕ (List Bool))) (x0 : List Int) (x3 : List Bool) (x4 : Int) (x5 : Int) (x6 : Int) : Option ((List Int × List Bool × Int) ⊕ (List Bool)) :=
  bif decide (x6 < 16) then (bif fitsB (x3.length + [((Int.tmod x5 2) == 1)].length) 1 then (rec x0 (x3 ++ [((Int.tmod x5 2) == 1)]) x4 (w64 (Int.tdiv x5 2)) (w64 (x6 + 1))) else none) else (some (.inl (x0, x3, x4)))
def brindlewoodref3_Ones.l1 (k : Nat) : Nat → List Int → List Bool → Int → Int → Int → Option ((List Int × List Bool × Int) ⊕ (List Bool))
  | 0 => fun _ _ _ _ _ => none
  | n + 1 => brindlewoodref3_Ones.b1 k (brindlewoodref3_Ones.l1 k n)
def brindlewoodref3_Ones.b0 (k : Nat) (rec : List Int → List Bool → Int → Option ((List Bool) ⊕ (List Bool))) (x0 : List Int) (x3 : List Bool) (x4 : Int) : Option ((List Bool) ⊕ (List Bool)) :=
  bif decide (x4 < (x0.length : Int)) then (bif inR x4 (x0.length : Int) then (joinB (α := List Int × List Bool × Int) (brindlewoodref3_Ones.l1 k k x0 x3 x4 (rd x0 x4) 0) (fun y1 => rec y1.1 y1.2.1 (w64 (y1.2.2 + 1))) (fun r => some (.inr r))) else none) else (some (.inl x3))
def brindlewoodref3_Ones.l0 (k : Nat) : Nat → List Int → List Bool → Int → Option ((List Bool) ⊕ (List Bool))
  | 0 => fun _ _ _ => none
  | n + 1 => brindlewoodref3_Ones.b0 k (brindlewoodref3_Ones.l0 k n)
def brindlewoodref3_Ones (k : Nat) (a0 : List Int) : Option (List Bool) :=
  joinB (α := List Bool) (brindlewoodref3_Ones.l0 k k a0 [] 0) (fun y2 => joinB (α := List Bool) (brindlewoodref3_Ones.l2 k k y2) (fun y3 => some y3) some) some

def brindlewoodref3_Moved (k : Nat) (a0 : List Int) (a1 : Int) : Option (List Int) :=
  (brindlewoodref3_Ones k a0).bind fun t1 => bif ((t1.length : Int) == 0) then (some []) else (let c2 := decide (a1 ≤ w64 (0 - (t1.length : Int))); bif c2 then (some []) else (bif decide (a1 < 0) then (bif ((decide (0 ≤ w64 (0 - a1)) && decide (w64 (0 - a1) ≤ (t1.length : Int))) && decide ((t1.length : Int) ≤ (t1.length : Int))) then ((brindlewoodref3_Binary k (sub t1 (w64 (0 - a1)) ((t1.length : Int) - (w64 (0 - a1))))).bind fun t3 => some t3) else none) else (bif ((decide (0 ≤ a1) && decide (a1 ≤ a1)) && fitsB (Int.toNat a1) 1) then (bif fitsB ((List.replicate (Int.toNat a1) (false : Bool)).length + t1.length) 1 then ((brindlewoodref3_Binary k ((List.replicate (Int.toNat a1) (false : Bool)) ++ t1)).bind fun t4 => some t4) else none) else none)))

def brindlewoodref3_Small.b0 (k : Nat) (rec : Int → List Int → Option ((List Int) ⊕ (List Int))) (x0 : Int) (x3 : List Int) : Option ((List Int) ⊕ (List Int)) :=
  bif decide (0 < x0) then (bif fitsB (x3.length + [Int.tmod x0 65536].length) 8 then (rec (w64 (Int.tdiv x0 65536)) (x3 ++ [Int.tmod x0 65536])) else none) else (some (.inl x3))
def brindlewoodref3_Small.l0 (k : Nat) : Nat → Int → List Int → Option ((List Int) ⊕ (List Int))
  | 0 => fun _ _ => none
  | n + 1 => brindlewoodref3_Small.b0 k (brindlewoodref3_Small.l0 k n)
def brindlewoodref3_Small (k : Nat) (a0 : Int) : Option (List Int) :=
  joinB (α := List Int) (brindlewoodref3_Small.l0 k k a0 []) (fun y1 => some y1) some

def natural_Cmp (k : Nat) (a0 : List Int) (a1 : List Int) : Option (Int × Int × Int) :=
  (natural_check a0 a1).bind fun t1 => bif (t1.1 != 0) then (some (0, t1)) else ((natural_compare k a0 a1).bind fun t2 => some (mnI (mxI t2 (-1)) 1, (0, 0)))

def integer_plus (k : Nat) (a0 : Bool × List Int) (a1 : Bool × List Int) : Option ((Bool × List Int) × Int × Int) :=
  bif (a0.1 == a1.1) then ((natural_Add k a0.2 a1.2).bind fun t1 => (integer_signed a0.1 t1.1).bind fun t2 => some (t2.1, t2.2)) else (joinB (α := (Bool × List Int) × (Bool × List Int) × (Bool × List Int) × Int × Int) ((natural_Cmp k a0.2 a1.2).bind fun t3 => bif decide (t3.1 < 0) then (some (.inl (a1, a0, (false, []), (0, 0)))) else (some (.inl (a0, a1, (false, []), (0, 0))))) (fun z4 => (natural_Sub k z4.1.2 z4.2.1.2).bind fun t5 => (integer_signed z4.1.1 t5.1).bind fun t6 => some (t6.1, t6.2)) some)

def integer_Add (k : Nat) (a0 : Bool × List Int) (a1 : Bool × List Int) : Option ((Bool × List Int) × Int × Int) :=
  (integer_check k [a0, a1]).bind fun t1 => bif (t1.1 != 0) then (some ((false, []), t1)) else ((integer_plus k a0 a1).bind fun t2 => some (t2.1, t2.2))

def brindlewoodref3_SameInts (k : Nat) (a0 : Bool × List Int) (a1 : Bool × List Int) : Option (Bool) :=
  bif (a0.1 == a1.1) then ((brindlewoodref3_SameLimbs k a0.2 a1.2).bind fun t1 => some t1) else (some false)

def natural_Gcd.b0 (k : Nat) (rec : List Int → List Int → (Int × Int) → Option ((List Int × Int × Int) ⊕ (List Int × Int × Int))) (x0 : List Int) (x1 : List Int) (x37 : Int × Int) : Option ((List Int × Int × Int) ⊕ (List Int × Int × Int)) :=
  bif decide (0 < (x1.length : Int)) then ((natural_divMod k x0 x1).bind fun t3 => (slices_Clone_uint32uint32 x1).bind fun t4 => rec t4 t3.2 x37) else (some (.inl (x0, x37)))
def natural_Gcd.l0 (k : Nat) : Nat → List Int → List Int → (Int × Int) → Option ((List Int × Int × Int) ⊕ (List Int × Int × Int))
  | 0 => fun _ _ _ => none
  | n + 1 => natural_Gcd.b0 k (natural_Gcd.l0 k n)
def natural_Gcd (k : Nat) (a0 : List Int) (a1 : List Int) : Option (List Int × Int × Int) :=
  (natural_check a0 a1).bind fun t1 => bif (t1.1 != 0) then (some ([], t1)) else ((slices_Clone_uint32uint32 a0).bind fun t2 => joinB (α := List Int × Int × Int) (natural_Gcd.l0 k k t2 a1 (0, 0)) (fun y5 => some (y5.1, (0, 0))) some)

def natural_Sqrt.b0 (k : Nat) (rec : List Int → (Int × Int) → List Int → Option ((Unit) ⊕ (List Int × Int × Int))) (x0 : List Int) (x48 : Int × Int) (x6 : List Int) : Option ((Unit) ⊕ (List Int × Int × Int)) :=
  (natural_divMod k x0 x6).bind fun t4 => (natural_add k x6 t4.1).bind fun t5 => (natural_right k t5 1).bind fun t6 => (natural_compare k t6 x6).bind fun t7 => bif decide (0 ≤ t7) then (some (.inr (x6, (0, 0)))) else (rec x0 x48 t6)
def natural_Sqrt.l0 (k : Nat) : Nat → List Int → (Int × Int) → List Int → Option ((Unit) ⊕ (List Int × Int × Int))
  | 0 => fun _ _ _ => none
  | n + 1 => natural_Sqrt.b0 k (natural_Sqrt.l0 k n)
def natural_Sqrt (k : Nat) (a0 : List Int) : Option (List Int × Int × Int) :=
  (natural_Bits a0).bind fun t1 => joinB (α := List Int × (Int × Int) × Int) (bif (t1.2.1 != 0) then (some (.inr ([], t1.2))) else (bif (t1.1 == 0) then (some (.inr ([], t1.2))) else (some (.inl (a0, (0, 0), t1.1))))) (fun z2 => (natural_left k [1] (w64 (Int.tdiv (w64 (z2.2.2 + 1)) 2))).bind fun t3 => joinB (α := Unit) (natural_Sqrt.l0 k k z2.1 z2.2.1 t3) (fun _ => none) some) some

def brindlewoodref3_Halve.b0 (k : Nat) (rec : List Int → Int → List Int → Int → Int → Option ((List Int × Int) ⊕ (List Int × Int))) (x0 : List Int) (x1 : Int) (x6 : List Int) (x7 : Int) (x8 : Int) : Option ((List Int × Int) ⊕ (List Int × Int)) :=
  bif decide (0 ≤ x8) then (bif inR x8 (x0.length : Int) then (let c1 := w64 ((w64 (x7 * 65536)) + (rd x0 x8)); bif !decide (x1 = 0) then (bif inR x8 (x6.length : Int) then (bif !decide (x1 = 0) then (rec x0 x1 (x6.set (Int.toNat x8) (w64 (Int.tdiv c1 x1))) (Int.tmod c1 x1) (w64 (x8 - 1))) else none) else none) else none) else none) else (some (.inl (x6, x7)))
def brindlewoodref3_Halve.l0 (k : Nat) : Nat → List Int → Int → List Int → Int → Int → Option ((List Int × Int) ⊕ (List Int × Int))
  | 0 => fun _ _ _ _ _ => none
  | n + 1 => brindlewoodref3_Halve.b0 k (brindlewoodref3_Halve.l0 k n)
def brindlewoodref3_Halve (k : Nat) (a0 : List Int) (a1 : Int) : Option (List Int × Int) :=
  bif ((decide (0 ≤ (a0.length : Int)) && decide ((a0.length : Int) ≤ (a0.length : Int))) && fitsB (Int.toNat (a0.length : Int)) 8) then (joinB (α := List Int × Int) (brindlewoodref3_Halve.l0 k k a0 a1 (List.replicate (Int.toNat (a0.length : Int)) 0) 0 (w64 ((a0.length : Int) - 1))) (fun y2 => (brindlewoodref3_trim_v k y2.1).bind fun t3 => some (sub y2.1 t3.1 t3.2, y2.2)) some) else none

def brindlewoodref3_Times.b1 (k : Nat) (rec : List Int → List Int → List Int → Int → Int → Int → Option ((List Int × List Int × List Int × Int × Int × Bool) ⊕ (List Int))) (x0 : List Int) (x1 : List Int) (x5 : List Int) (x6 : Int) (x7 : Int) (x8 : Int) : Option ((List Int × List Int × List Int × Int × Int × Bool) ⊕ (List Int)) :=
  bif decide (x8 < (x1.length : Int)) then (bif inR (w64 (x6 + x8)) (x5.length : Int) then (let c1 := w64 ((rd x5 (w64 (x6 + x8))) + x7); bif decide (x8 < (x1.length : Int)) then (bif inR x6 (x0.length : Int) then (bif inR x8 (x1.length : Int) then (let c2 := w64 (c1 + (w64 ((rd x0 x6) * (rd x1 x8)))); bif inR (w64 (x6 + x8)) (x5.length : Int) then (rec x0 x1 (x5.set (Int.toNat (w64 (x6 + x8))) (Int.tmod c2 65536)) x6 (w64 (Int.tdiv c2 65536)) (w64 (x8 + 1))) else none) else none) else none) else (bif inR (w64 (x6 + x8)) (x5.length : Int) then (rec x0 x1 (x5.set (Int.toNat (w64 (x6 + x8))) (Int.tmod c1 65536)) x6 (w64 (Int.tdiv c1 65536)) (w64 (x8 + 1))) else none)) else none) else (bif decide (0 < x7) then (bif inR (w64 (x6 + x8)) (x5.length : Int) then (let c3 := w64 ((rd x5 (w64 (x6 + x8))) + x7); bif decide (x8 < (x1.length : Int)) then (bif inR x6 (x0.length : Int) then (bif inR x8 (x1.length : Int) then (let c4 := w64 (c3 + (w64 ((rd x0 x6) * (rd x1 x8)))); bif inR (w64 (x6 + x8)) (x5.length : Int) then (rec x0 x1 (x5.set (Int.toNat (w64 (x6 + x8))) (Int.tmod c4 65536)) x6 (w64 (Int.tdiv c4 65536)) (w64 (x8 + 1))) else none) else none) else none) else (bif inR (w64 (x6 + x8)) (x5.length : Int) then (rec x0 x1 (x5.set (Int.toNat (w64 (x6 + x8))) (Int.tmod c3 65536)) x6 (w64 (Int.tdiv c3 65536)) (w64 (x8 + 1))) else none)) else none) else (some (.inl (x0, x1, x5, x6, x7, decide (0 < x7)))))
def brindlewoodref3_Times.l1 (k : Nat) : Nat → List Int → List Int → List Int → Int → Int → Int → Option ((List Int × List Int × List Int × Int × Int × Bool) ⊕ (List Int))
  | 0 => fun _ _ _ _ _ _ => none
  | n + 1 => brindlewoodref3_Times.b1 k (brindlewoodref3_Times.l1 k n)
def brindlewoodref3_Times.b0 (k : Nat) (rec : List Int → List Int → List Int → Int → Option ((List Int) ⊕ (List Int))) (x0 : List Int) (x1 : List Int) (x5 : List Int) (x6 : Int) : Option ((List Int) ⊕ (List Int)) :=
  bif decide (x6 < (x0.length : Int)) then (joinB (α := List Int × List Int × List Int × Int × Int × Bool) (brindlewoodref3_Times.l1 k k x0 x1 x5 x6 0 0) (fun y5 => rec y5.1 y5.2.1 y5.2.2.1 (w64 (y5.2.2.2.1 + 1))) (fun r => some (.inr r))) else (some (.inl x5))
def brindlewoodref3_Times.l0 (k : Nat) : Nat → List Int → List Int → List Int → Int → Option ((List Int) ⊕ (List Int))
  | 0 => fun _ _ _ _ => none
  | n + 1 => brindlewoodref3_Times.b0 k (brindlewoodref3_Times.l0 k n)
def brindlewoodref3_Times (k : Nat) (a0 : List Int) (a1 : List Int) : Option (List Int) :=
  bif ((decide (0 ≤ w64 ((w64 ((a0.length : Int) + (a1.length : Int))) + 1)) && decide (w64 ((w64 ((a0.length : Int) + (a1.length : Int))) + 1) ≤ w64 ((w64 ((a0.length : Int) + (a1.length : Int))) + 1))) && fitsB (Int.toNat (w64 ((w64 ((a0.length : Int) + (a1.length : Int))) + 1))) 8) then (joinB (α := List Int) (brindlewoodref3_Times.l0 k k a0 a1 (List.replicate (Int.toNat (w64 ((w64 ((a0.length : Int) + (a1.length : Int))) + 1))) 0) 0) (fun y6 => (brindlewoodref3_trim_v k y6).bind fun t7 => some (sub y6 t7.1 t7.2)) some) else none

def natural_mul.b1 (k : Nat) (rec : List Int → List Int → Int → Int → Int → List Int → Int → Int → List Int → Int → Int → Option ((List Int × List Int × Int × Int × List Int × Int × Int) ⊕ (List Int))) (x1 : List Int) (x5 : List Int) (x6 : Int) (x7 : Int) (x8 : Int) (x17 : List Int) (x18 : Int) (x19 : Int) (x24 : List Int) (x25 : Int) (x26 : Int) : Option ((List Int × List Int × Int × Int × List Int × Int × Int) ⊕ (List Int)) :=
  bif decide (x26 < x25) then (bif inR x26 (x24.length : Int) then (bif inR (w64 (x6 + x26)) (x5.length : Int) then (let c1 := wu64 (x8 + (wu64 ((wu64 ((wu64 (x7)) * (wu64 (rd x24 x26)))) + (wu64 (rd x5 (w64 (x6 + x26))))))); bif inR (w64 (x6 + x26)) (x5.length : Int) then (rec x1 (x5.set (Int.toNat (w64 (x6 + x26))) (wu32 (c1))) x6 x7 (shrI .u64 c1 32) x17 x18 x19 x24 x25 (w64 (x26 + 1))) else none) else none) else none) else (some (.inl (x1, x5, x6, x8, x17, x18, x19)))
def natural_mul.l1 (k : Nat) : Nat → List Int → List Int → Int → Int → Int → List Int → Int → Int → List Int → Int → Int → Option ((List Int × List Int × Int × Int × List Int × Int × Int) ⊕ (List Int))
  | 0 => fun _ _ _ _ _ _ _ _ _ _ _ => none
  | n + 1 => natural_mul.b1 k (natural_mul.l1 k n)
def natural_mul.b0 (k : Nat) (rec : List Int → List Int → List Int → Int → Int → Option ((List Int) ⊕ (List Int))) (x1 : List Int) (x5 : List Int) (x17 : List Int) (x18 : Int) (x19 : Int) : Option ((List Int) ⊕ (List Int)) :=
  bif decide (x19 < x18) then (bif inR x19 (x17.length : Int) then (joinB (α := List Int × List Int × Int × Int × List Int × Int × Int) (natural_mul.l1 k k x1 x5 x19 (rd x17 x19) 0 x17 x18 x19 x1 (x1.length : Int) 0) (fun y2 => bif inR (w64 (y2.2.2.1 + (y2.1.length : Int))) (y2.2.1.length : Int) then (rec y2.1 (y2.2.1.set (Int.toNat (w64 (y2.2.2.1 + (y2.1.length : Int)))) (wu32 (y2.2.2.2.1))) y2.2.2.2.2.1 y2.2.2.2.2.2.1 (w64 (y2.2.2.2.2.2.2 + 1))) else none) (fun r => some (.inr r))) else none) else (some (.inl x5))
def natural_mul.l0 (k : Nat) : Nat → List Int → List Int → List Int → Int → Int → Option ((List Int) ⊕ (List Int))
  | 0 => fun _ _ _ _ _ => none
  | n + 1 => natural_mul.b0 k (natural_mul.l0 k n)
def natural_mul (k : Nat) (a0 : List Int) (a1 : List Int) : Option (List Int) :=
  bif ((decide (0 ≤ w64 ((a0.length : Int) + (a1.length : Int))) && decide (w64 ((a0.length : Int) + (a1.length : Int)) ≤ w64 ((a0.length : Int) + (a1.length : Int)))) && fitsB (Int.toNat (w64 ((a0.length : Int) + (a1.length : Int)))) 4) then (joinB (α := List Int) (natural_mul.l0 k k a1 (List.replicate (Int.toNat (w64 ((a0.length : Int) + (a1.length : Int)))) 0) a0 (a0.length : Int) 0) (fun y3 => (natural_trim_v k y3).bind fun t4 => some (sub y3 t4.1 t4.2)) some) else none

def natural_Mul (k : Nat) (a0 : List Int) (a1 : List Int) : Option (List Int × Int × Int) :=
  (natural_check a0 a1).bind fun t1 => bif (t1.1 != 0) then (some ([], t1)) else ((natural_mul k a0 a1).bind fun t2 => (natural_fit k t2).bind fun t3 => some (t3.1, t3.2))

def natural_From.b0 (k : Nat) (rec : Int → (Int × Int) → List Int → List Int → Int → Int → Option (((Int × Int) × List Int) ⊕ (List Int × Int × Int))) (x1 : Int) (x55 : Int × Int) (x6 : List Int) (x16 : List Int) (x17 : Int) (x18 : Int) : Option (((Int × Int) × List Int) ⊕ (List Int × Int × Int)) :=
  bif decide (x18 < x17) then (bif inR x18 (x16.length : Int) then (joinB (α := Int × (Int × Int) × List Int × Int × List Int × Int × Int × Int × Int × Bool) (bif decide (rd x16 x18 < 0) then ((natural_at 4 x18).bind fun t4 => some (.inr ([], t4))) else (bif decide (x1 ≤ rd x16 x18) then ((natural_at 4 x18).bind fun t5 => some (.inr ([], t5))) else (some (.inl (x1, x55, x6, rd x16 x18, x16, x17, x18, rd x16 x18, x1, decide (x1 ≤ rd x16 x18)))))) (fun z6 => bif decide (600 < (z6.2.2.1.length : Int)) then (rec z6.1 z6.2.1 z6.2.2.1 z6.2.2.2.2.1 z6.2.2.2.2.2.1 (w64 (z6.2.2.2.2.2.2.1 + 1))) else ((natural_mul k z6.2.2.1 [wu32 (z6.1)]).bind fun t7 => (natural_trim_v k [wu32 (z6.2.2.2.1)]).bind fun t8 => (natural_add k t7 (sub [wu32 (z6.2.2.2.1)] t8.1 t8.2)).bind fun t9 => rec z6.1 z6.2.1 t9 z6.2.2.2.2.1 z6.2.2.2.2.2.1 (w64 (z6.2.2.2.2.2.2.1 + 1)))) (fun r => some (.inr r))) else none) else (some (.inl (x55, x6)))
def natural_From.l0 (k : Nat) : Nat → Int → (Int × Int) → List Int → List Int → Int → Int → Option (((Int × Int) × List Int) ⊕ (List Int × Int × Int))
  | 0 => fun _ _ _ _ _ _ => none
  | n + 1 => natural_From.b0 k (natural_From.l0 k n)
def natural_From (k : Nat) (a0 : List Int) (a1 : Int) : Option (List Int × Int × Int) :=
  joinB (α := List Int × Int × Int × Int) (bif decide (a1 < 2) then ((natural_at 4 (-2)).bind fun t1 => some (.inr ([], t1))) else (bif decide (36 < a1) then ((natural_at 4 (-2)).bind fun t2 => some (.inr ([], t2))) else (some (.inl (a0, a1, (0, 0)))))) (fun z3 => joinB (α := (Int × Int) × List Int) (natural_From.l0 k k z3.2.1 z3.2.2 [] z3.1 (z3.1.length : Int) 0) (fun y10 => (natural_fit k y10.2).bind fun t11 => some (t11.1, t11.2)) some) some

def brindlewoodref3_Figures.b1 (k : Nat) (rec : List Int → List Int → Int → Option ((List Int) ⊕ (List Int))) (x5 : List Int) (x7 : List Int) (x8 : Int) : Option ((List Int) ⊕ (List Int)) :=
  bif decide (0 ≤ x8) then (bif inR x8 (x5.length : Int) then (bif fitsB (x7.length + [rd x5 x8].length) 8 then (rec x5 (x7 ++ [rd x5 x8]) (w64 (x8 - 1))) else none) else none) else (some (.inl x7))
def brindlewoodref3_Figures.l1 (k : Nat) : Nat → List Int → List Int → Int → Option ((List Int) ⊕ (List Int))
  | 0 => fun _ _ _ => none
  | n + 1 => brindlewoodref3_Figures.b1 k (brindlewoodref3_Figures.l1 k n)
def brindlewoodref3_Figures.b0 (k : Nat) (rec : List Int → Int → List Int → Option ((List Int) ⊕ (List Int))) (x0 : List Int) (x1 : Int) (x5 : List Int) : Option ((List Int) ⊕ (List Int)) :=
  bif decide (0 < (x0.length : Int)) then ((brindlewoodref3_Halve k x0 x1).bind fun t1 => bif fitsB (x5.length + [t1.2].length) 8 then (rec t1.1 x1 (x5 ++ [t1.2])) else none) else (some (.inl x5))
def brindlewoodref3_Figures.l0 (k : Nat) : Nat → List Int → Int → List Int → Option ((List Int) ⊕ (List Int))
  | 0 => fun _ _ _ => none
  | n + 1 => brindlewoodref3_Figures.b0 k (brindlewoodref3_Figures.l0 k n)
def brindlewoodref3_Figures (k : Nat) (a0 : List Int) (a1 : Int) : Option (List Int) :=
  joinB (α := List Int) (brindlewoodref3_Figures.l0 k k a0 a1 []) (fun y2 => joinB (α := List Int) (brindlewoodref3_Figures.l1 k k y2 [] (w64 ((y2.length : Int) - 1))) (fun y3 => some y3) some) some

def brindlewoodref3_Read.b0 (k : Nat) (rec : List Int → Int → List Int → Int → Option ((List Int) ⊕ (List Int))) (x0 : List Int) (x1 : Int) (x5 : List Int) (x6 : Int) : Option ((List Int) ⊕ (List Int)) :=
  bif decide (x6 < (x0.length : Int)) then ((brindlewoodref3_Small k x1).bind fun t1 => (brindlewoodref3_Times k x5 t1).bind fun t2 => bif inR x6 (x0.length : Int) then ((brindlewoodref3_Small k (rd x0 x6)).bind fun t3 => (brindlewoodref3_Plus k t2 t3).bind fun t4 => rec x0 x1 t4 (w64 (x6 + 1))) else none) else (some (.inl x5))
def brindlewoodref3_Read.l0 (k : Nat) : Nat → List Int → Int → List Int → Int → Option ((List Int) ⊕ (List Int))
  | 0 => fun _ _ _ _ => none
  | n + 1 => brindlewoodref3_Read.b0 k (brindlewoodref3_Read.l0 k n)
def brindlewoodref3_Read (k : Nat) (a0 : List Int) (a1 : Int) : Option (List Int) :=
  joinB (α := List Int) (brindlewoodref3_Read.l0 k k a0 a1 [] 0) (fun y5 => some y5) some

def integer_Gcd (k : Nat) (a0 : Bool × List Int) (a1 : Bool × List Int) : Option ((Bool × List Int) × Int × Int) :=
  (integer_check k [a0, a1]).bind fun t1 => bif (t1.1 != 0) then (some ((false, []), t1)) else ((natural_Gcd k a0.2 a1.2).bind fun t2 => (integer_signed false t2.1).bind fun t3 => some (t3.1, t3.2))

def integer_Sub (k : Nat) (a0 : Bool × List Int) (a1 : Bool × List Int) : Option ((Bool × List Int) × Int × Int) :=
  (integer_check k [a0, a1]).bind fun t1 => bif (t1.1 != 0) then (some ((false, []), t1)) else ((integer_plus k a0 ((!a1.1), a1.2)).bind fun t2 => some (t2.1, t2.2))

def integer_Mul (k : Nat) (a0 : Bool × List Int) (a1 : Bool × List Int) : Option ((Bool × List Int) × Int × Int) :=
  (integer_check k [a0, a1]).bind fun t1 => bif (t1.1 != 0) then (some ((false, []), t1)) else ((natural_Mul k a0.2 a1.2).bind fun t2 => (integer_signed (!(a0.1 == a1.1)) t2.1).bind fun t3 => some (t3.1, t3.2))

def brindlewoodref3_Int_Times (k : Nat) (a0 : Bool × List Int) (a1 : Bool × List Int) : Option (Bool × List Int) :=
  (brindlewoodref3_Times k a0.2 a1.2).bind fun t1 => bif (!(a0.1 == a1.1)) then (some (decide (0 < (t1.length : Int)), t1)) else (some (false, t1))

def brindlewoodlaw3_IntegerArithmetic (k : Nat) (a0 : Bool × List Int) (a1 : Bool × List Int) : Option (Bool) :=
  (brindlewoodref3_Faults k [a0, a1]).bind fun t1 => (integer_Add k a0 a1).bind fun t2 => (integer_Sub k a0 a1).bind fun t3 => (integer_Mul k a0 a1).bind fun t4 => (brindlewoodlaw3_counts k).bind fun t5 => bif (!t5) then (some false) else (bif (t1.1 != 0) then (bif ((t2.2.1 == t1.1) && ((t2.2.2 == t1.2) && true)) then (bif ((t3.2.1 == t1.1) && ((t3.2.2 == t1.2) && true)) then (bif ((t4.2.1 == t1.1) && ((t4.2.2 == t1.2) && true)) then ((brindlewoodref3_NoInt t2.1).bind fun t6 => bif t6 then ((brindlewoodref3_NoInt t3.1).bind fun t7 => bif t7 then ((brindlewoodref3_NoInt t4.1).bind fun t8 => some t8) else (some false)) else (some false)) else (some false)) else (some false)) else (some false)) else ((brindlewoodref3_IntOf k a0).bind fun t9 => (brindlewoodref3_IntOf k a1).bind fun t10 => (brindlewoodref3_Int_Plus k t9 t10).bind fun t11 => (brindlewoodlaw3_yields k t2.1 t2.2 t11 t1).bind fun t12 => bif t12 then ((brindlewoodref3_Int_Minus t10).bind fun t13 => (brindlewoodref3_Int_Plus k t9 t13).bind fun t14 => (brindlewoodlaw3_yields k t3.1 t3.2 t14 t1).bind fun t15 => bif t15 then ((brindlewoodref3_Int_Times k t9 t10).bind fun t16 => (brindlewoodlaw3_yields k t4.1 t4.2 t16 t1).bind fun t17 => some t17) else (some false)) else (some false)))

def integer_Cmp (k : Nat) (a0 : Bool × List Int) (a1 : Bool × List Int) : Option (Int × Int × Int) :=
  (integer_check k [a0, a1]).bind fun t1 => bif (t1.1 != 0) then (some (0, t1)) else ((natural_Cmp k a0.2 a1.2).bind fun t2 => joinB (α := (Bool × List Int) × (Bool × List Int) × (Int × Int) × Int × Bool) (bif a0.1 then (some (.inl (a0, a1, (0, 0), t2.1, a1.1))) else (some (.inl (a0, a1, (0, 0), t2.1, false)))) (fun z3 => bif z3.2.2.2.2 then (some (w64 (0 - z3.2.2.2.1), (0, 0))) else (bif z3.1.1 then (some ((-1), (0, 0))) else (bif z3.2.1.1 then (some (1, (0, 0))) else (some (z3.2.2.2.1, (0, 0)))))) some)

def integer_Bits (k : Nat) (a0 : Bool × List Int) : Option (Int × Int × Int) :=
  (integer_check k [a0]).bind fun t1 => bif (t1.1 != 0) then (some (0, t1)) else ((natural_Bits a0.2).bind fun t2 => some (t2.1, t2.2))

def integer_Neg (k : Nat) (a0 : Bool × List Int) : Option ((Bool × List Int) × Int × Int) :=
  (integer_check k [a0]).bind fun t1 => bif (t1.1 != 0) then (some ((false, []), t1)) else ((slices_Clone_uint32uint32 a0.2).bind fun t2 => (integer_signed (!a0.1) t2).bind fun t3 => some (t3.1, t3.2))

def integer_Abs (k : Nat) (a0 : Bool × List Int) : Option ((Bool × List Int) × Int × Int) :=
  (integer_check k [a0]).bind fun t1 => bif (t1.1 != 0) then (some ((false, []), t1)) else ((slices_Clone_uint32uint32 a0.2).bind fun t2 => (integer_signed false t2).bind fun t3 => some (t3.1, t3.2))

def brindlewoodlaw3_IntegerRing (k : Nat) (a0 : Bool × List Int) (a1 : Bool × List Int) (a2 : Bool × List Int) : Option (Bool) :=
  (brindlewoodlaw3_counts k).bind fun t1 => bif (!t1) then (some false) else (joinB (α := (Bool × List Int) × (Bool × List Int) × Bool × List Int) ((brindlewoodref3_Faults k [a0, a1, a2]).bind fun t2 => bif (t2.1 != 0) then (some (.inr true)) else (bif decide (60 < (a0.2.length : Int)) then (some (.inr true)) else (bif decide (60 < (a1.2.length : Int)) then (some (.inr true)) else (bif decide (60 < (a2.2.length : Int)) then (some (.inr true)) else (some (.inl (a0, a1, a2))))))) (fun z3 => (integer_Add k z3.1 z3.2.1).bind fun t4 => (integer_Mul k t4.1 z3.2.2).bind fun t5 => (integer_Mul k z3.1 z3.2.2).bind fun t6 => (integer_Mul k z3.2.1 z3.2.2).bind fun t7 => (integer_Add k t6.1 t7.1).bind fun t8 => (integer_Sub k t4.1 z3.2.1).bind fun t9 => joinB (α := (Bool × List Int) × (Bool × List Int) × (Int × Int) × (Int × Int) × (Bool × List Int) × (Int × Int) × (Int × Int) × (Bool × List Int) × (Int × Int) × Int × Int) (bif (t4.2.1 != 0) then (some (.inr false)) else (bif (t5.2.1 != 0) then (some (.inr false)) else (bif (t6.2.1 != 0) then (some (.inr false)) else (bif (t7.2.1 != 0) then (some (.inr false)) else (bif (t8.2.1 != 0) then (some (.inr false)) else (bif (t9.2.1 != 0) then (some (.inr false)) else ((brindlewoodref3_SameInts k t5.1 t8.1).bind fun t10 => bif (!t10) then (some (.inr false)) else ((brindlewoodref3_SameInts k t9.1 z3.1).bind fun t11 => bif (!t11) then (some (.inr false)) else (some (.inl (z3.1, z3.2.1, t4.2, t5.2, t6.1, t6.2, t7.2, t8.1, t8.2, t9.2))))))))))) (fun z12 => (brindlewoodref3_NoInt z12.2.1).bind fun t13 => bif t13 then (some true) else ((integer_DivMod k z12.1 z12.2.1).bind fun t14 => (integer_Mul k t14.1 z12.2.1).bind fun t15 => (integer_Add k t15.1 t14.2.1).bind fun t16 => (integer_Of k 0).bind fun t17 => (integer_Cmp k t17 t14.2.1).bind fun t18 => (integer_Abs k z12.2.1).bind fun t19 => (integer_Abs k t14.2.1).bind fun t20 => (integer_Cmp k t20.1 t19.1).bind fun t21 => bif (t14.2.2.1 == 0) then (bif (t15.2.1 == 0) then (bif (t16.2.1 == 0) then (bif (t18.2.1 == 0) then (bif (t19.2.1 == 0) then (bif (t20.2.1 == 0) then (bif (t21.2.1 == 0) then ((brindlewoodref3_SameInts k t16.1 z12.1).bind fun t22 => bif t22 then (bif decide (t21.1 < 0) then (bif (t18.1 == 0) then (some true) else (let c23 := ((decide (0 < t18.1)) == z12.2.1.1); some c23)) else (some false)) else (some false)) else (some false)) else (some false)) else (some false)) else (some false)) else (some false)) else (some false)) else (some false))) some) some)
end Go.Sh
