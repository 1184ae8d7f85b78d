/- The functions of the program as plain Lean functions, by wip/gen/gen.py.  Conditions: none, these are definitions. -/
import Derived.Test.YtnopjcpoeffoiaaGreatDoorE1
import Derived.Lib.Bytealg
set_option linter.unusedVariables false
namespace Go.Sh
open Go Go.Ev

def brindlewoodref3_ContextOk (a0 : Int × Int × Int × Int) : Option (Bool) :=
  bif decide (1 ≤ a0.1) then (bif decide (a0.1 ≤ 60) then (bif decide (0 ≤ a0.2.1) then (bif decide (a0.2.1 ≤ 6) then (bif decide ((-999) ≤ a0.2.2.1) then (bif decide (a0.2.2.1 ≤ 0) then (bif decide (0 ≤ a0.2.2.2) then (some (decide (a0.2.2.2 ≤ 999))) else (some false)) else (some false)) else (some false)) else (some false)) else (some false)) else (some false)) else (some false)

def brindlewoodref3_At (a0 : Int) (a1 : Int) : Option (Int × Int) :=
  some (a0, a1)

def brindlewoodref3_IntOk (a0 : Bool × List Int) : Option (Bool) :=
  bif decide ((a0.2.length : Int) ≤ 128) then (bif ((a0.2.length : Int) == 0) then (bif (!a0.1) then (some true) else (bif decide (0 < (a0.2.length : Int)) then (bif inR (w64 ((a0.2.length : Int) - 1)) (a0.2.length : Int) then (let c1 := ((rd a0.2 (w64 ((a0.2.length : Int) - 1))) != 0); some c1) else none) else (some false))) else (bif decide (0 < (a0.2.length : Int)) then (bif inR (w64 ((a0.2.length : Int) - 1)) (a0.2.length : Int) then (let c2 := ((rd a0.2 (w64 ((a0.2.length : Int) - 1))) != 0); some c2) else none) else (some false))) else (some false)

def brindlewoodref3_trim_v.b0 (k : Nat) (rec : List Int → (Int × Int) → Option ((List Int × Int × Int) ⊕ (Int × Int))) (x0_0 : List Int) (x0_1 : Int × Int) : Option ((List Int × Int × Int) ⊕ (Int × Int)) :=
  bif decide (0 < x0_1.2) then (bif inR (w64 (x0_1.2 - 1)) x0_1.2 then (bif ((rd x0_0 (x0_1.1 + (w64 (x0_1.2 - 1)))) == 0) then (bif ((decide (0 ≤ 0) && decide (0 ≤ w64 (x0_1.2 - 1))) && decide (w64 (x0_1.2 - 1) ≤ x0_1.2)) then (rec x0_0 ((x0_1.1 + 0), ((w64 (x0_1.2 - 1)) - 0))) else none) else (some (.inl (x0_0, (x0_1.1, x0_1.2))))) else none) else (some (.inl (x0_0, (x0_1.1, x0_1.2))))
def brindlewoodref3_trim_v.l0 (k : Nat) : Nat → List Int → (Int × Int) → Option ((List Int × Int × Int) ⊕ (Int × Int))
  | 0 => fun _ _ => none
  | n + 1 => brindlewoodref3_trim_v.b0 k (brindlewoodref3_trim_v.l0 k n)
def brindlewoodref3_trim_v (k : Nat) (a0 : List Int) : Option (Int × Int) :=
  joinB (α := List Int × Int × Int) (brindlewoodref3_trim_v.l0 k k a0 (0, (a0.length : Int))) (fun y1 => some (y1.2.1, y1.2.2)) some

def brindlewoodref3_Of.b0 (k : Nat) (rec : List Int → List Int → Int → Option ((List Int) ⊕ (List Int))) (x0 : List Int) (x3 : List Int) (x4 : Int) : Option ((List Int) ⊕ (List Int)) :=
  bif decide (x4 < (x0.length : Int)) then (bif inR x4 (x0.length : Int) then (bif inR x4 (x0.length : Int) then (bif fitsB (x3.length + [w64 (Int.tmod (rd x0 x4) 65536), w64 (wu32 (Int.tdiv (rd x0 x4) 65536))].length) 8 then (rec x0 (x3 ++ [w64 (Int.tmod (rd x0 x4) 65536), w64 (wu32 (Int.tdiv (rd x0 x4) 65536))]) (w64 (x4 + 1))) else none) else none) else none) else (some (.inl x3))
def brindlewoodref3_Of.l0 (k : Nat) : Nat → List Int → List Int → Int → Option ((List Int) ⊕ (List Int))
  | 0 => fun _ _ _ => none
  | n + 1 => brindlewoodref3_Of.b0 k (brindlewoodref3_Of.l0 k n)
def brindlewoodref3_Of (k : Nat) (a0 : List Int) : Option (List Int) :=
  joinB (α := List Int) (brindlewoodref3_Of.l0 k k a0 [] 0) (fun y1 => (brindlewoodref3_trim_v k y1).bind fun t2 => some (sub y1 t2.1 t2.2)) some

def brindlewoodref3_Halve.b0 (k : Nat) (rec : List Int → Int → List Int → Int → Int → Option ((List Int × Int) ⊕ (List Int × Int))) (x0 : List Int) (x1 : Int) (x6 : List Int) (x7 : Int) (x8 : Int) : Option ((List Int × Int) ⊕ (List Int × Int)) :=
  bif decide (0 ≤ x8) then (bif inR x8 (x0.length : Int) then (let c1 := w64 ((w64 (x7 * 65536)) + (rd x0 x8)); bif !decide (x1 = 0) then (bif inR x8 (x6.length : Int) then (bif !decide (x1 = 0) then (rec x0 x1 (x6.set (Int.toNat x8) (w64 (Int.tdiv c1 x1))) (Int.tmod c1 x1) (w64 (x8 - 1))) else none) else none) else none) else none) else (some (.inl (x6, x7)))
def brindlewoodref3_Halve.l0 (k : Nat) : Nat → List Int → Int → List Int → Int → Int → Option ((List Int × Int) ⊕ (List Int × Int))
  | 0 => fun _ _ _ _ _ => none
  | n + 1 => brindlewoodref3_Halve.b0 k (brindlewoodref3_Halve.l0 k n)
def brindlewoodref3_Halve (k : Nat) (a0 : List Int) (a1 : Int) : Option (List Int × Int) :=
  bif ((decide (0 ≤ (a0.length : Int)) && decide ((a0.length : Int) ≤ (a0.length : Int))) && fitsB (Int.toNat (a0.length : Int)) 8) then (joinB (α := List Int × Int) (brindlewoodref3_Halve.l0 k k a0 a1 (List.replicate (Int.toNat (a0.length : Int)) (0 : Int)) 0 (w64 ((a0.length : Int) - 1))) (fun y2 => (brindlewoodref3_trim_v k y2.1).bind fun t3 => some (sub y2.1 t3.1 t3.2, y2.2)) some) else none

def brindlewoodref3_Figures.b1 (k : Nat) (rec : List Int → List Int → Int → Option ((List Int) ⊕ (List Int))) (x5 : List Int) (x7 : List Int) (x8 : Int) : Option ((List Int) ⊕ (List Int)) :=
  bif decide (0 ≤ x8) then (bif inR x8 (x5.length : Int) then (bif fitsB (x7.length + [rd x5 x8].length) 8 then (rec x5 (x7 ++ [rd x5 x8]) (w64 (x8 - 1))) else none) else none) else (some (.inl x7))
def brindlewoodref3_Figures.l1 (k : Nat) : Nat → List Int → List Int → Int → Option ((List Int) ⊕ (List Int))
  | 0 => fun _ _ _ => none
  | n + 1 => brindlewoodref3_Figures.b1 k (brindlewoodref3_Figures.l1 k n)
def brindlewoodref3_Figures.b0 (k : Nat) (rec : List Int → Int → List Int → Option ((List Int) ⊕ (List Int))) (x0 : List Int) (x1 : Int) (x5 : List Int) : Option ((List Int) ⊕ (List Int)) :=
  bif decide (0 < (x0.length : Int)) then ((brindlewoodref3_Halve k x0 x1).bind fun t1 => bif fitsB (x5.length + [t1.2].length) 8 then (rec t1.1 x1 (x5 ++ [t1.2])) else none) else (some (.inl x5))
def brindlewoodref3_Figures.l0 (k : Nat) : Nat → List Int → Int → List Int → Option ((List Int) ⊕ (List Int))
  | 0 => fun _ _ _ => none
  | n + 1 => brindlewoodref3_Figures.b0 k (brindlewoodref3_Figures.l0 k n)
def brindlewoodref3_Figures (k : Nat) (a0 : List Int) (a1 : Int) : Option (List Int) :=
  joinB (α := List Int) (brindlewoodref3_Figures.l0 k k a0 a1 []) (fun y2 => joinB (α := List Int) (brindlewoodref3_Figures.l1 k k y2 [] (w64 ((y2.length : Int) - 1))) (fun y3 => some y3) some) some

def brindlewoodref3_NoInt (a0 : Bool × List Int) : Option (Bool) :=
  bif (!a0.1) then (some ((a0.2.length : Int) == 0)) else (some false)

def brindlewoodref3_DecimalOk (k : Nat) (a0 : Int × Bool × (Bool × List Int) × Int) : Option (Bool) :=
  bif (a0.1 == 0) then ((brindlewoodref3_IntOk a0.2.2.1).bind fun t1 => bif t1 then (bif (!a0.2.2.1.1) then (bif decide ((-1200) ≤ a0.2.2.2) then (bif decide (a0.2.2.2 ≤ 1200) then ((brindlewoodref3_Of k a0.2.2.1.2).bind fun t2 => (brindlewoodref3_Figures k t2 10).bind fun t3 => let c4 := decide ((t3.length : Int) ≤ 120); some c4) else (some false)) else (some false)) else (some false)) else (some false)) else (bif (a0.1 == 1) then ((brindlewoodref3_NoInt a0.2.2.1).bind fun t5 => bif t5 then (some (a0.2.2.2 == 0)) else (some false)) else (bif (a0.1 == 2) then ((brindlewoodref3_NoInt a0.2.2.1).bind fun t6 => bif t6 then (bif (a0.2.2.2 == 0) then (some (!a0.2.1)) else (some false)) else (some false)) else (some false)))

def brindlewoodref3_DecimalFaults.b0 (k : Nat) (rec : (List (Int × Bool × (Bool × List Int) × Int)) → (Int × Int) → Int → Option ((Int × Int) ⊕ (Int × Int))) (x1 : List (Int × Bool × (Bool × List Int) × Int)) (x30 : Int × Int) (x5 : Int) : Option ((Int × Int) ⊕ (Int × Int)) :=
  bif decide (x5 < (x1.length : Int)) then (bif inR x5 (x1.length : Int) then ((brindlewoodref3_DecimalOk k ((nth (.st (.pair (.int .i64) (.pair (.bool) (.pair (.st (.pair (.bool) (.list (.int .u32)))) (.int .i64))))) x1 x5).1, ((nth (.st (.pair (.int .i64) (.pair (.bool) (.pair (.st (.pair (.bool) (.list (.int .u32)))) (.int .i64))))) x1 x5).2).1, ((((nth (.st (.pair (.int .i64) (.pair (.bool) (.pair (.st (.pair (.bool) (.list (.int .u32)))) (.int .i64))))) x1 x5).2).2).1), (((nth (.st (.pair (.int .i64) (.pair (.bool) (.pair (.st (.pair (.bool) (.list (.int .u32)))) (.int .i64))))) x1 x5).2).2).2)).bind fun t3 => bif (!t3) then ((brindlewoodref3_At 6 (w64 ((-1) - x5))).bind fun t4 => some (.inr t4)) else (rec x1 x30 (w64 (x5 + 1)))) else none) else (some (.inl x30))
def brindlewoodref3_DecimalFaults.l0 (k : Nat) : Nat → (List (Int × Bool × (Bool × List Int) × Int)) → (Int × Int) → Int → Option ((Int × Int) ⊕ (Int × Int))
  | 0 => fun _ _ _ => none
  | n + 1 => brindlewoodref3_DecimalFaults.b0 k (brindlewoodref3_DecimalFaults.l0 k n)
def brindlewoodref3_DecimalFaults (k : Nat) (a0 : Int × Int × Int × Int) (a1 : List (Int × Bool × (Bool × List Int) × Int)) : Option (Int × Int) :=
  (brindlewoodref3_ContextOk a0).bind fun t1 => bif (!t1) then ((brindlewoodref3_At 4 (-9)).bind fun t2 => some t2) else (joinB (α := Int × Int) (brindlewoodref3_DecimalFaults.l0 k k a1 (0, 0) 0) (fun y5 => some (0, 0)) some)

def decimal_Check (a0 : Int × Int × Int × Int) : Option (Bool) :=
  bif decide (1 ≤ a0.1) then (bif decide (a0.1 ≤ 60) then (bif decide (0 ≤ a0.2.1) then (bif decide (a0.2.1 < 7) then (bif decide ((-999) ≤ a0.2.2.1) then (bif decide (a0.2.2.1 ≤ 0) then (bif decide (0 ≤ a0.2.2.2) then (some (decide (a0.2.2.2 ≤ 999))) else (some false)) else (some false)) else (some false)) else (some false)) else (some false)) else (some false)) else (some false)

def decimal_at (a0 : Int) (a1 : Int) : Option (Int × Int) :=
  some (a0, a1)

def integer_Valid (a0 : Bool × List Int) : Option (Bool) :=
  bif decide ((a0.2.length : Int) ≤ 128) then (bif ((a0.2.length : Int) == 0) then (bif (!a0.1) then (some true) else (bif decide (0 < (a0.2.length : Int)) then (bif inR (w64 ((a0.2.length : Int) - 1)) (a0.2.length : Int) then (let c1 := ((rd a0.2 (w64 ((a0.2.length : Int) - 1))) != 0); some c1) else none) else (some false))) else (bif decide (0 < (a0.2.length : Int)) then (bif inR (w64 ((a0.2.length : Int) - 1)) (a0.2.length : Int) then (let c2 := ((rd a0.2 (w64 ((a0.2.length : Int) - 1))) != 0); some c2) else none) else (some false))) else (some false)

def natural_Valid (a0 : List Int) : Option (Bool) :=
  bif decide ((a0.length : Int) ≤ 600) then (bif ((a0.length : Int) == 0) then (some true) else (bif inR (w64 ((a0.length : Int) - 1)) (a0.length : Int) then (let c1 := ((rd a0 (w64 ((a0.length : Int) - 1))) != 0); some c1) else none)) else (some false)

def natural_at (a0 : Int) (a1 : Int) : Option (Int × Int) :=
  some (a0, a1)

def natural_check (a0 : List Int) (a1 : List Int) : Option (Int × Int) :=
  (natural_Valid a0).bind fun t1 => bif (!t1) then ((natural_at 6 (-1)).bind fun t2 => some t2) else ((natural_Valid a1).bind fun t3 => bif (!t3) then ((natural_at 6 (-2)).bind fun t4 => some t4) else (some (0, 0)))

def natural_trim_v.b0 (k : Nat) (rec : List Int → (Int × Int) → Option ((List Int × Int × Int) ⊕ (Int × Int))) (x0_0 : List Int) (x0_1 : Int × Int) : Option ((List Int × Int × Int) ⊕ (Int × Int)) :=
  bif decide (0 < x0_1.2) then (bif inR (w64 (x0_1.2 - 1)) x0_1.2 then (bif ((rd x0_0 (x0_1.1 + (w64 (x0_1.2 - 1)))) == 0) then (bif ((decide (0 ≤ 0) && decide (0 ≤ w64 (x0_1.2 - 1))) && decide (w64 (x0_1.2 - 1) ≤ x0_1.2)) then (rec x0_0 ((x0_1.1 + 0), ((w64 (x0_1.2 - 1)) - 0))) else none) else (some (.inl (x0_0, (x0_1.1, x0_1.2))))) else none) else (some (.inl (x0_0, (x0_1.1, x0_1.2))))
def natural_trim_v.l0 (k : Nat) : Nat → List Int → (Int × Int) → Option ((List Int × Int × Int) ⊕ (Int × Int))
  | 0 => fun _ _ => none
  | n + 1 => natural_trim_v.b0 k (natural_trim_v.l0 k n)
def natural_trim_v (k : Nat) (a0 : List Int) : Option (Int × Int) :=
  joinB (α := List Int × Int × Int) (natural_trim_v.l0 k k a0 (0, (a0.length : Int))) (fun y1 => some (y1.2.1, y1.2.2)) some

def natural_mul.b1 (k : Nat) (rec : List Int → List Int → Int → Int → Int → List Int → Int → Int → List Int → Int → Int → Option ((List Int × List Int × Int × Int × List Int × Int × Int) ⊕ (List Int))) (x1 : List Int) (x5 : List Int) (x6 : Int) (x7 : Int) (x8 : Int) (x17 : List Int) (x18 : Int) (x19 : Int) (x24 : List Int) (x25 : Int) (x26 : Int) : Option ((List Int × List Int × Int × Int × List Int × Int × Int) ⊕ (List Int)) :=
  bif decide (x26 < x25) then (bif inR x26 (x24.length : Int) then (bif inR (w64 (x6 + x26)) (x5.length : Int) then (let c1 := wu64 (x8 + (wu64 ((wu64 ((wu64 (x7)) * (wu64 (rd x24 x26)))) + (wu64 (rd x5 (w64 (x6 + x26))))))); bif inR (w64 (x6 + x26)) (x5.length : Int) then (rec x1 (x5.set (Int.toNat (w64 (x6 + x26))) (wu32 (c1))) x6 x7 (shrI .u64 c1 32) x17 x18 x19 x24 x25 (w64 (x26 + 1))) else none) else none) else none) else (some (.inl (x1, x5, x6, x8, x17, x18, x19)))
def natural_mul.l1 (k : Nat) : Nat → List Int → List Int → Int → Int → Int → List Int → Int → Int → List Int → Int → Int → Option ((List Int × List Int × Int × Int × List Int × Int × Int) ⊕ (List Int))
  | 0 => fun _ _ _ _ _ _ _ _ _ _ _ => none
  | n + 1 => natural_mul.b1 k (natural_mul.l1 k n)
def natural_mul.b0 (k : Nat) (rec : List Int → List Int → List Int → Int → Int → Option ((List Int) ⊕ (List Int))) (x1 : List Int) (x5 : List Int) (x17 : List Int) (x18 : Int) (x19 : Int) : Option ((List Int) ⊕ (List Int)) :=
  bif decide (x19 < x18) then (bif inR x19 (x17.length : Int) then (joinB (α := List Int × List Int × Int × Int × List Int × Int × Int) (natural_mul.l1 k k x1 x5 x19 (rd x17 x19) 0 x17 x18 x19 x1 (x1.length : Int) 0) (fun y2 => bif inR (w64 (y2.2.2.1 + (y2.1.length : Int))) (y2.2.1.length : Int) then (rec y2.1 (y2.2.1.set (Int.toNat (w64 (y2.2.2.1 + (y2.1.length : Int)))) (wu32 (y2.2.2.2.1))) y2.2.2.2.2.1 y2.2.2.2.2.2.1 (w64 (y2.2.2.2.2.2.2 + 1))) else none) (fun r => some (.inr r))) else none) else (some (.inl x5))
def natural_mul.l0 (k : Nat) : Nat → List Int → List Int → List Int → Int → Int → Option ((List Int) ⊕ (List Int))
  | 0 => fun _ _ _ _ _ => none
  | n + 1 => natural_mul.b0 k (natural_mul.l0 k n)
def natural_mul (k : Nat) (a0 : List Int) (a1 : List Int) : Option (List Int) :=
  bif ((decide (0 ≤ w64 ((a0.length : Int) + (a1.length : Int))) && decide (w64 ((a0.length : Int) + (a1.length : Int)) ≤ w64 ((a0.length : Int) + (a1.length : Int)))) && fitsB (Int.toNat (w64 ((a0.length : Int) + (a1.length : Int)))) 4) then (joinB (α := List Int) (natural_mul.l0 k k a1 (List.replicate (Int.toNat (w64 ((a0.length : Int) + (a1.length : Int)))) (0 : Int)) a0 (a0.length : Int) 0) (fun y3 => (natural_trim_v k y3).bind fun t4 => some (sub y3 t4.1 t4.2)) some) else none

def natural_trim.b0 (k : Nat) (rec : List Int → Option ((List Int) ⊕ (List Int))) (x0 : List Int) : Option ((List Int) ⊕ (List Int)) :=
  bif decide (0 < (x0.length : Int)) then (bif inR (w64 ((x0.length : Int) - 1)) (x0.length : Int) then (bif ((rd x0 (w64 ((x0.length : Int) - 1))) == 0) then (bif ((decide (0 ≤ 0) && decide (0 ≤ w64 ((x0.length : Int) - 1))) && decide (w64 ((x0.length : Int) - 1) ≤ (x0.length : Int))) then (rec (sub x0 0 ((w64 ((x0.length : Int) - 1)) - 0))) else none) else (some (.inl x0))) else none) else (some (.inl x0))
def natural_trim.l0 (k : Nat) : Nat → List Int → Option ((List Int) ⊕ (List Int))
  | 0 => fun _ => none
  | n + 1 => natural_trim.b0 k (natural_trim.l0 k n)
def natural_trim (k : Nat) (a0 : List Int) : Option (List Int) :=
  joinB (α := List Int) (natural_trim.l0 k k a0) (fun y1 => some y1) some

def natural_fit (k : Nat) (a0 : List Int) : Option (List Int × Int × Int) :=
  (natural_trim k a0).bind fun t1 => bif decide (600 < (t1.length : Int)) then ((natural_at 14 (-1)).bind fun t2 => some ([], t2)) else (some (t1, (0, 0)))

def natural_Mul (k : Nat) (a0 : List Int) (a1 : List Int) : Option (List Int × Int × Int) :=
  (natural_check a0 a1).bind fun t1 => bif (t1.1 != 0) then (some ([], t1)) else ((natural_mul k a0 a1).bind fun t2 => (natural_fit k t2).bind fun t3 => some (t3.1, t3.2))

def decimal_power.b0 (k : Nat) (rec : Int → List Int → List Int → Option ((List Int) ⊕ (List Int))) (x0 : Int) (x3 : List Int) (x4 : List Int) : Option ((List Int) ⊕ (List Int)) :=
  bif decide (0 < x0) then (bif ((Int.tmod x0 2) == 1) then ((natural_Mul k x3 x4).bind fun t1 => (natural_Mul k x4 x4).bind fun t2 => rec (w64 (Int.tdiv x0 2)) t1.1 t2.1) else ((natural_Mul k x4 x4).bind fun t3 => rec (w64 (Int.tdiv x0 2)) x3 t3.1)) else (some (.inl x3))
def decimal_power.l0 (k : Nat) : Nat → Int → List Int → List Int → Option ((List Int) ⊕ (List Int))
  | 0 => fun _ _ _ => none
  | n + 1 => decimal_power.b0 k (decimal_power.l0 k n)
def decimal_power (k : Nat) (a0 : Int) : Option (List Int) :=
  joinB (α := List Int) (decimal_power.l0 k k a0 [1] [10]) (fun y4 => some y4) some

def natural_compare.b0 (k : Nat) (rec : List Int → List Int → Int → Option ((Unit) ⊕ (Int))) (x0 : List Int) (x1 : List Int) (x5 : Int) : Option ((Unit) ⊕ (Int)) :=
  bif decide (0 ≤ x5) then (bif inR x5 (x0.length : Int) then (bif inR x5 (x1.length : Int) then (bif ((rd x0 x5) != (rd x1 x5)) then (bif inR x5 (x0.length : Int) then (bif inR x5 (x1.length : Int) then (bif decide (rd x0 x5 < rd x1 x5) then (some (.inr (-1))) else (some (.inr 1))) else none) else none) else (rec x0 x1 (w64 (x5 - 1)))) else none) else none) else (some (.inl ()))
def natural_compare.l0 (k : Nat) : Nat → List Int → List Int → Int → Option ((Unit) ⊕ (Int))
  | 0 => fun _ _ _ => none
  | n + 1 => natural_compare.b0 k (natural_compare.l0 k n)
def natural_compare (k : Nat) (a0 : List Int) (a1 : List Int) : Option (Int) :=
  bif ((a0.length : Int) != (a1.length : Int)) then (let c1 := w64 ((a0.length : Int) - (a1.length : Int)); some c1) else (joinB (α := Unit) (natural_compare.l0 k k a0 a1 (w64 ((a0.length : Int) - 1))) (fun y2 => some 0) some)

def natural_Cmp (k : Nat) (a0 : List Int) (a1 : List Int) : Option (Int × Int × Int) :=
  (natural_check a0 a1).bind fun t1 => bif (t1.1 != 0) then (some (0, t1)) else ((natural_compare k a0 a1).bind fun t2 => some (mnI (mxI t2 (-1)) 1, (0, 0)))

def decimal_less (k : Nat) (a0 : List Int) (a1 : List Int) : Option (Bool) :=
  (natural_Cmp k a0 a1).bind fun t1 => some (decide (t1.1 < 0))

def decimal_Valid (k : Nat) (a0 : Int × Bool × (Bool × List Int) × Int) : Option (Bool) :=
  joinB (α := (Int × Bool × (Bool × List Int) × Int) × Bool) (bif ((a0.2.2.1.2.length : Int) == 0) then (bif (!a0.2.2.1.1) then (some (.inl (a0, (a0.2.2.2 == 0)))) else (some (.inl (a0, false)))) else (some (.inl (a0, false)))) (fun z1 => bif (z1.1.1 == 0) then ((integer_Valid z1.1.2.2.1).bind fun t2 => bif t2 then (bif (!z1.1.2.2.1.1) then (bif decide ((-1200) ≤ z1.1.2.2.2) then (bif decide (z1.1.2.2.2 ≤ 1200) then ((decimal_power k 120).bind fun t3 => (decimal_less k z1.1.2.2.1.2 t3).bind fun t4 => some t4) else (some false)) else (some false)) else (some false)) else (some false)) else (bif (z1.1.1 == 1) then (some z1.2) else (bif (z1.1.1 == 2) then (bif z1.2 then (some (!z1.1.2.1)) else (some false)) else (some false)))) some

def decimal_check.b0 (k : Nat) (rec : (Int × Int) → (List (Int × Bool × (Bool × List Int) × Int)) → Int → Int → Option ((Int × Int) ⊕ (Int × Int))) (x30 : Int × Int) (x11 : List (Int × Bool × (Bool × List Int) × Int)) (x12 : Int) (x13 : Int) : Option ((Int × Int) ⊕ (Int × Int)) :=
  bif decide (x13 < x12) then (bif inR x13 (x11.length : Int) then ((decimal_Valid k ((nth (.st (.pair (.int .i64) (.pair (.bool) (.pair (.st (.pair (.bool) (.list (.int .u32)))) (.int .i64))))) x11 x13).1, ((nth (.st (.pair (.int .i64) (.pair (.bool) (.pair (.st (.pair (.bool) (.list (.int .u32)))) (.int .i64))))) x11 x13).2).1, ((((nth (.st (.pair (.int .i64) (.pair (.bool) (.pair (.st (.pair (.bool) (.list (.int .u32)))) (.int .i64))))) x11 x13).2).2).1), (((nth (.st (.pair (.int .i64) (.pair (.bool) (.pair (.st (.pair (.bool) (.list (.int .u32)))) (.int .i64))))) x11 x13).2).2).2)).bind fun t3 => bif (!t3) then ((decimal_at 6 (w64 ((-1) - x13))).bind fun t4 => some (.inr t4)) else (rec x30 x11 x12 (w64 (x13 + 1)))) else none) else (some (.inl x30))
def decimal_check.l0 (k : Nat) : Nat → (Int × Int) → (List (Int × Bool × (Bool × List Int) × Int)) → Int → Int → Option ((Int × Int) ⊕ (Int × Int))
  | 0 => fun _ _ _ _ => none
  | n + 1 => decimal_check.b0 k (decimal_check.l0 k n)
def decimal_check (k : Nat) (a0 : Int × Int × Int × Int) (a1 : List (Int × Bool × (Bool × List Int) × Int)) : Option (Int × Int) :=
  (decimal_Check a0).bind fun t1 => bif (!t1) then ((decimal_at 4 (-9)).bind fun t2 => some t2) else (joinB (α := Int × Int) (decimal_check.l0 k k (0, 0) a1 (a1.length : Int) 0) (fun y5 => some (0, 0)) some)

def decimal_of (a0 : Int × Bool × (Bool × List Int) × Int) : Option (Bool × List Int × List Int × Int) :=
  some (a0.2.1, a0.2.2.1.2, [1], a0.2.2.2)

def decimal_tiny (a0 : Int × Int × Int × Int) : Option (Int) :=
  let c1 := w64 ((w64 (a0.2.2.1 - a0.1)) + 1); some c1

def decimal_finite (a0 : Bool) (a1 : List Int) (a2 : Int) : Option (Int × Bool × (Bool × List Int) × Int) :=
  some (0, a0, (false, a1), a2)

def natural_chunk.b0 (k : Nat) (rec : Int → Int → Int → Option ((Int × Int) ⊕ (Int × Int))) (x0 : Int) (x4 : Int) (x5 : Int) : Option ((Int × Int) ⊕ (Int × Int)) :=
  bif decide (wu64 (x4 * (wu64 (x0))) < 4294967296) then (rec x0 (wu64 (x4 * (wu64 (x0)))) (w64 (x5 + 1))) else (some (.inl (x4, x5)))
def natural_chunk.l0 (k : Nat) : Nat → Int → Int → Int → Option ((Int × Int) ⊕ (Int × Int))
  | 0 => fun _ _ _ => none
  | n + 1 => natural_chunk.b0 k (natural_chunk.l0 k n)
def natural_chunk (k : Nat) (a0 : Int) : Option (Int × Int) :=
  joinB (α := Int × Int) (natural_chunk.l0 k k a0 (wu64 (a0)) 1) (fun y1 => some (wu32 (y1.1), y1.2)) some

def bits_Div32 (a0 : Int) (a1 : Int) (a2 : Int) : Option (Int × Int) :=
  joinB (α := Int × Int × Int) (bif (a2 != 0) then (bif decide (a2 ≤ a0) then none else (some (.inl (a0, a1, a2)))) else (some (.inl (a0, a1, a2)))) (fun z1 => let c2 := bitsOp .or .u64 (shlI .u64 (wu64 (z1.1)) 32) (wu64 (z1.2.1)); bif !decide (wu64 (z1.2.2) = 0) then (bif !decide (wu64 (z1.2.2) = 0) then (let c3 := wu32 (wu64 (Int.tdiv c2 (wu64 (z1.2.2)))); let c4 := wu32 (Int.tmod c2 (wu64 (z1.2.2))); some (c3, c4)) else none) else none) some

def natural_short.b0 (k : Nat) (rec : List Int → Int → List Int → Int → Int → Option ((List Int × Int) ⊕ (List Int × Int))) (x0 : List Int) (x1 : Int) (x6 : List Int) (x7 : Int) (x8 : Int) : Option ((List Int × Int) ⊕ (List Int × Int)) :=
  bif decide (0 ≤ x8) then (bif inR x8 (x0.length : Int) then ((bits_Div32 x7 (rd x0 x8) x1).bind fun t1 => bif inR x8 (x6.length : Int) then (rec x0 x1 (x6.set (Int.toNat x8) t1.1) t1.2 (w64 (x8 - 1))) else none) else none) else (some (.inl (x6, x7)))
def natural_short.l0 (k : Nat) : Nat → List Int → Int → List Int → Int → Int → Option ((List Int × Int) ⊕ (List Int × Int))
  | 0 => fun _ _ _ _ _ => none
  | n + 1 => natural_short.b0 k (natural_short.l0 k n)
def natural_short (k : Nat) (a0 : List Int) (a1 : Int) : Option (List Int × Int) :=
  bif ((decide (0 ≤ (a0.length : Int)) && decide ((a0.length : Int) ≤ (a0.length : Int))) && fitsB (Int.toNat (a0.length : Int)) 4) then (joinB (α := List Int × Int) (natural_short.l0 k k a0 a1 (List.replicate (Int.toNat (a0.length : Int)) (0 : Int)) 0 (w64 ((a0.length : Int) - 1))) (fun y2 => (natural_trim_v k y2.1).bind fun t3 => some (sub y2.1 t3.1 t3.2, y2.2)) some) else none

def slices_Reverse_intint_l.b0 (k : Nat) (rec : List Int → Int → Int → Option ((List Int) ⊕ (List Int))) (x0 : List Int) (x2 : Int) (x3 : Int) : Option ((List Int) ⊕ (List Int)) :=
  bif decide (x2 < x3) then (bif inR x3 (x0.length : Int) then (bif inR x2 (x0.length : Int) then (bif inR x2 (x0.length : Int) then (bif inR x3 ((x0.set (Int.toNat x2) (rd x0 x3)).length : Int) then (rec ((x0.set (Int.toNat x2) (rd x0 x3)).set (Int.toNat x3) (rd x0 x2)) (w64 (x2 + 1)) (w64 (x3 - 1))) else none) else none) else none) else none) else (some (.inl x0))
def slices_Reverse_intint_l.l0 (k : Nat) : Nat → List Int → Int → Int → Option ((List Int) ⊕ (List Int))
  | 0 => fun _ _ _ => none
  | n + 1 => slices_Reverse_intint_l.b0 k (slices_Reverse_intint_l.l0 k n)
def slices_Reverse_intint_l (k : Nat) (a0 : List Int) : Option (List Int) :=
  joinB (α := List Int) (slices_Reverse_intint_l.l0 k k a0 0 (w64 ((a0.length : Int) - 1))) (fun y1 => some y1) some

def natural_Digits.b1 (k : Nat) (rec : List Int → Int → (Int × Int) → Int → Int → List Int → Int → Int → Option ((List Int × Int × (Int × Int) × Int × Int × List Int) ⊕ (List Int × Int × Int))) (x0 : List Int) (x1 : Int) (x72 : Int × Int) (x6 : Int) (x7 : Int) (x8 : List Int) (x9 : Int) (x10 : Int) : Option ((List Int × Int × (Int × Int) × Int × Int × List Int) ⊕ (List Int × Int × Int)) :=
  bif decide (x10 < x7) then (bif decide (0 < (x0.length : Int)) then (bif !decide (x1 = 0) then (bif fitsB (x8.length + [Int.tmod (w64 (x9)) x1].length) 8 then (bif !decide (wu32 (x1) = 0) then (rec x0 x1 x72 x6 x7 (x8 ++ [Int.tmod (w64 (x9)) x1]) (wu32 (Int.tdiv x9 (wu32 (x1)))) (w64 (x10 + 1))) else none) else none) else none) else (bif decide (0 < x9) then (bif !decide (x1 = 0) then (bif fitsB (x8.length + [Int.tmod (w64 (x9)) x1].length) 8 then (bif !decide (wu32 (x1) = 0) then (rec x0 x1 x72 x6 x7 (x8 ++ [Int.tmod (w64 (x9)) x1]) (wu32 (Int.tdiv x9 (wu32 (x1)))) (w64 (x10 + 1))) else none) else none) else none) else (some (.inl (x0, x1, x72, x6, x7, x8))))) else (some (.inl (x0, x1, x72, x6, x7, x8)))
def natural_Digits.l1 (k : Nat) : Nat → List Int → Int → (Int × Int) → Int → Int → List Int → Int → Int → Option ((List Int × Int × (Int × Int) × Int × Int × List Int) ⊕ (List Int × Int × Int))
  | 0 => fun _ _ _ _ _ _ _ _ => none
  | n + 1 => natural_Digits.b1 k (natural_Digits.l1 k n)
def natural_Digits.b0 (k : Nat) (rec : List Int → Int → (Int × Int) → Int → Int → List Int → Option (((Int × Int) × List Int) ⊕ (List Int × Int × Int))) (x0 : List Int) (x1 : Int) (x72 : Int × Int) (x6 : Int) (x7 : Int) (x8 : List Int) : Option (((Int × Int) × List Int) ⊕ (List Int × Int × Int)) :=
  bif decide (0 < (x0.length : Int)) then ((natural_short k x0 x6).bind fun t7 => joinB (α := List Int × Int × (Int × Int) × Int × Int × List Int) (natural_Digits.l1 k k t7.1 x1 x72 x6 x7 x8 t7.2 0) (fun y8 => rec y8.1 y8.2.1 y8.2.2.1 y8.2.2.2.1 y8.2.2.2.2.1 y8.2.2.2.2.2) (fun r => some (.inr r))) else (some (.inl (x72, x8)))
def natural_Digits.l0 (k : Nat) : Nat → List Int → Int → (Int × Int) → Int → Int → List Int → Option (((Int × Int) × List Int) ⊕ (List Int × Int × Int))
  | 0 => fun _ _ _ _ _ _ => none
  | n + 1 => natural_Digits.b0 k (natural_Digits.l0 k n)
def natural_Digits (k : Nat) (a0 : List Int) (a1 : Int) : Option (List Int × Int × Int) :=
  joinB (α := List Int × Int × Int × Int) ((natural_Valid a0).bind fun t1 => bif (!t1) then ((natural_at 6 (-1)).bind fun t2 => some (.inr ([], t2))) else (bif decide (a1 < 2) then ((natural_at 4 (-2)).bind fun t3 => some (.inr ([], t3))) else (bif decide (36 < a1) then ((natural_at 4 (-2)).bind fun t4 => some (.inr ([], t4))) else (some (.inl (a0, a1, (0, 0))))))) (fun z5 => (natural_chunk k z5.2.1).bind fun t6 => joinB (α := (Int × Int) × List Int) (natural_Digits.l0 k k z5.1 z5.2.1 z5.2.2 t6.1 t6.2 []) (fun y9 => (slices_Reverse_intint_l k y9.2).bind fun t10 => some (t10, (0, 0))) some) some

def decimal_size (k : Nat) (a0 : List Int) : Option (Int) :=
  (natural_Digits k a0 10).bind fun t1 => some (t1.1.length : Int)

def decimal_times (k : Nat) (a0 : List Int) (a1 : Int) : Option (List Int) :=
  (decimal_power k a1).bind fun t1 => (natural_Mul k a0 t1).bind fun t2 => some t2.1

def decimal_exact_first (k : Nat) (a0 : Bool × List Int × List Int × Int) : Option (Int) :=
  (decimal_size k a0.2.1).bind fun t1 => (decimal_size k a0.2.2.1).bind fun t2 => bif decide (0 ≤ w64 (t1 - t2)) then ((decimal_times k a0.2.2.1 (w64 (t1 - t2))).bind fun t3 => (decimal_less k a0.2.1 t3).bind fun t4 => bif t4 then (let c5 := w64 ((w64 ((w64 (t1 - t2)) - 1)) + a0.2.2.2); some c5) else (let c6 := w64 ((w64 (t1 - t2)) + a0.2.2.2); some c6)) else ((decimal_times k a0.2.1 (w64 (0 - (w64 (t1 - t2))))).bind fun t7 => (decimal_less k t7 a0.2.2.1).bind fun t8 => bif t8 then (let c9 := w64 ((w64 ((w64 (t1 - t2)) - 1)) + a0.2.2.2); some c9) else (let c10 := w64 ((w64 (t1 - t2)) + a0.2.2.2); some c10))

def slices_Clone_uint32uint32 (a0 : List Int) : Option (List Int) := bif fitsB (0 + a0.length) 4 then some a0 else none

def bits_Len32 (a0 : Int) : Option (Int) :=
  joinB (α := Int × Int) (bif decide (65536 ≤ a0) then (some (.inl (shrI .u32 a0 16, 16))) else (some (.inl (a0, 0)))) (fun z1 => bif decide (256 ≤ z1.1) then (bif inR (wu8 (shrI .u32 z1.1 8)) ((⟨#[0, 1, 2, 2, 3, 3, 3, 3, 4, 4, 4, 4, 4, 4, 4, 4, 5, 5, 5, 5, 5, 5, 5, 5, 5, 5, 5, 5, 5, 5, 5, 5, 6, 6, 6, 6, 6, 6, 6, 6, 6, 6, 6, 6, 6, 6, 6, 6, 6, 6, 6, 6, 6, 6, 6, 6, 6, 6, 6, 6, 6, 6, 6, 6, 7, 7, 7, 7, 7, 7, 7, 7, 7, 7, 7, 7, 7, 7, 7, 7, 7, 7, 7, 7, 7, 7, 7, 7, 7, 7, 7, 7, 7, 7, 7, 7, 7, 7, 7, 7, 7, 7, 7, 7, 7, 7, 7, 7, 7, 7, 7, 7, 7, 7, 7, 7, 7, 7, 7, 7, 7, 7, 7, 7, 7, 7, 7, 7, 8, 8, 8, 8, 8, 8, 8, 8, 8, 8, 8, 8, 8, 8, 8, 8, 8, 8, 8, 8, 8, 8, 8, 8, 8, 8, 8, 8, 8, 8, 8, 8, 8, 8, 8, 8, 8, 8, 8, 8, 8, 8, 8, 8, 8, 8, 8, 8, 8, 8, 8, 8, 8, 8, 8, 8, 8, 8, 8, 8, 8, 8, 8, 8, 8, 8, 8, 8, 8, 8, 8, 8, 8, 8, 8, 8, 8, 8, 8, 8, 8, 8, 8, 8, 8, 8, 8, 8, 8, 8, 8, 8, 8, 8, 8, 8, 8, 8, 8, 8, 8, 8, 8, 8, 8, 8, 8, 8, 8, 8, 8, 8, 8, 8, 8, 8, 8, 8, 8, 8, 8, 8, 8, 8, 8, 8, 8, 8]⟩ : ByteArray).size : Int) then (let c2 := w64 ((w64 (z1.2 + 8)) + (w64 (rd (bytesOf (⟨#[0, 1, 2, 2, 3, 3, 3, 3, 4, 4, 4, 4, 4, 4, 4, 4, 5, 5, 5, 5, 5, 5, 5, 5, 5, 5, 5, 5, 5, 5, 5, 5, 6, 6, 6, 6, 6, 6, 6, 6, 6, 6, 6, 6, 6, 6, 6, 6, 6, 6, 6, 6, 6, 6, 6, 6, 6, 6, 6, 6, 6, 6, 6, 6, 7, 7, 7, 7, 7, 7, 7, 7, 7, 7, 7, 7, 7, 7, 7, 7, 7, 7, 7, 7, 7, 7, 7, 7, 7, 7, 7, 7, 7, 7, 7, 7, 7, 7, 7, 7, 7, 7, 7, 7, 7, 7, 7, 7, 7, 7, 7, 7, 7, 7, 7, 7, 7, 7, 7, 7, 7, 7, 7, 7, 7, 7, 7, 7, 8, 8, 8, 8, 8, 8, 8, 8, 8, 8, 8, 8, 8, 8, 8, 8, 8, 8, 8, 8, 8, 8, 8, 8, 8, 8, 8, 8, 8, 8, 8, 8, 8, 8, 8, 8, 8, 8, 8, 8, 8, 8, 8, 8, 8, 8, 8, 8, 8, 8, 8, 8, 8, 8, 8, 8, 8, 8, 8, 8, 8, 8, 8, 8, 8, 8, 8, 8, 8, 8, 8, 8, 8, 8, 8, 8, 8, 8, 8, 8, 8, 8, 8, 8, 8, 8, 8, 8, 8, 8, 8, 8, 8, 8, 8, 8, 8, 8, 8, 8, 8, 8, 8, 8, 8, 8, 8, 8, 8, 8, 8, 8, 8, 8, 8, 8, 8, 8, 8, 8, 8, 8, 8, 8, 8, 8, 8, 8]⟩ : ByteArray)) (wu8 (shrI .u32 z1.1 8))))); some c2) else none) else (bif inR (wu8 (z1.1)) ((⟨#[0, 1, 2, 2, 3, 3, 3, 3, 4, 4, 4, 4, 4, 4, 4, 4, 5, 5, 5, 5, 5, 5, 5, 5, 5, 5, 5, 5, 5, 5, 5, 5, 6, 6, 6, 6, 6, 6, 6, 6, 6, 6, 6, 6, 6, 6, 6, 6, 6, 6, 6, 6, 6, 6, 6, 6, 6, 6, 6, 6, 6, 6, 6, 6, 7, 7, 7, 7, 7, 7, 7, 7, 7, 7, 7, 7, 7, 7, 7, 7, 7, 7, 7, 7, 7, 7, 7, 7, 7, 7, 7, 7, 7, 7, 7, 7, 7, 7, 7, 7, 7, 7, 7, 7, 7, 7, 7, 7, 7, 7, 7, 7, 7, 7, 7, 7, 7, 7, 7, 7, 7, 7, 7, 7, 7, 7, 7, 7, 8, 8, 8, 8, 8, 8, 8, 8, 8, 8, 8, 8, 8, 8, 8, 8, 8, 8, 8, 8, 8, 8, 8, 8, 8, 8, 8, 8, 8, 8, 8, 8, 8, 8, 8, 8, 8, 8, 8, 8, 8, 8, 8, 8, 8, 8, 8, 8, 8, 8, 8, 8, 8, 8, 8, 8, 8, 8, 8, 8, 8, 8, 8, 8, 8, 8, 8, 8, 8, 8, 8, 8, 8, 8, 8, 8, 8, 8, 8, 8, 8, 8, 8, 8, 8, 8, 8, 8, 8, 8, 8, 8, 8, 8, 8, 8, 8, 8, 8, 8, 8, 8, 8, 8, 8, 8, 8, 8, 8, 8, 8, 8, 8, 8, 8, 8, 8, 8, 8, 8, 8, 8, 8, 8, 8, 8, 8, 8]⟩ : ByteArray).size : Int) then (let c3 := w64 (z1.2 + (w64 (rd (bytesOf (⟨#[0, 1, 2, 2, 3, 3, 3, 3, 4, 4, 4, 4, 4, 4, 4, 4, 5, 5, 5, 5, 5, 5, 5, 5, 5, 5, 5, 5, 5, 5, 5, 5, 6, 6, 6, 6, 6, 6, 6, 6, 6, 6, 6, 6, 6, 6, 6, 6, 6, 6, 6, 6, 6, 6, 6, 6, 6, 6, 6, 6, 6, 6, 6, 6, 7, 7, 7, 7, 7, 7, 7, 7, 7, 7, 7, 7, 7, 7, 7, 7, 7, 7, 7, 7, 7, 7, 7, 7, 7, 7, 7, 7, 7, 7, 7, 7, 7, 7, 7, 7, 7, 7, 7, 7, 7, 7, 7, 7, 7, 7, 7, 7, 7, 7, 7, 7, 7, 7, 7, 7, 7, 7, 7, 7, 7, 7, 7, 7, 8, 8, 8, 8, 8, 8, 8, 8, 8, 8, 8, 8, 8, 8, 8, 8, 8, 8, 8, 8, 8, 8, 8, 8, 8, 8, 8, 8, 8, 8, 8, 8, 8, 8, 8, 8, 8, 8, 8, 8, 8, 8, 8, 8, 8, 8, 8, 8, 8, 8, 8, 8, 8, 8, 8, 8, 8, 8, 8, 8, 8, 8, 8, 8, 8, 8, 8, 8, 8, 8, 8, 8, 8, 8, 8, 8, 8, 8, 8, 8, 8, 8, 8, 8, 8, 8, 8, 8, 8, 8, 8, 8, 8, 8, 8, 8, 8, 8, 8, 8, 8, 8, 8, 8, 8, 8, 8, 8, 8, 8, 8, 8, 8, 8, 8, 8, 8, 8, 8, 8, 8, 8, 8, 8, 8, 8, 8, 8]⟩ : ByteArray)) (wu8 (z1.1))))); some c3) else none)) some

def bits_LeadingZeros32 (a0 : Int) : Option (Int) :=
  (bits_Len32 a0).bind fun t1 => some (w64 (32 - t1))

def natural_left.b0 (k : Nat) (rec : Int → List Int → Int → List Int → Int → Int → Option ((List Int × Int) ⊕ (List Int))) (x1 : Int) (x5 : List Int) (x6 : Int) (x19 : List Int) (x20 : Int) (x21 : Int) : Option ((List Int × Int) ⊕ (List Int)) :=
  bif decide (x21 < x20) then (bif inR x21 (x19.length : Int) then (bif decide (0 ≤ Int.tmod x1 32) then (let c1 := shlI .u64 (wu64 (rd x19 x21)) (Int.tmod x1 32); bif fitsB (x5.length + [bitsOp .or .u32 (wu32 (c1)) x6].length) 4 then (rec x1 (x5 ++ [bitsOp .or .u32 (wu32 (c1)) x6]) (wu32 (shrI .u64 c1 32)) x19 x20 (w64 (x21 + 1))) else none) else none) else none) else (some (.inl (x5, x6)))
def natural_left.l0 (k : Nat) : Nat → Int → List Int → Int → List Int → Int → Int → Option ((List Int × Int) ⊕ (List Int))
  | 0 => fun _ _ _ _ _ _ => none
  | n + 1 => natural_left.b0 k (natural_left.l0 k n)
def natural_left (k : Nat) (a0 : List Int) (a1 : Int) : Option (List Int) :=
  bif ((decide (0 ≤ w64 (Int.tdiv a1 32)) && decide (w64 (Int.tdiv a1 32) ≤ w64 ((w64 ((w64 (Int.tdiv a1 32)) + (a0.length : Int))) + 1))) && fitsB (Int.toNat (w64 ((w64 ((w64 (Int.tdiv a1 32)) + (a0.length : Int))) + 1))) 4) then (joinB (α := List Int × Int) (natural_left.l0 k k a1 (List.replicate (Int.toNat (w64 (Int.tdiv a1 32))) (0 : Int)) 0 a0 (a0.length : Int) 0) (fun y2 => bif fitsB (y2.1.length + [y2.2].length) 4 then ((natural_trim_v k (y2.1 ++ [y2.2])).bind fun t3 => some (sub (y2.1 ++ [y2.2]) t3.1 t3.2)) else none) some) else none

def bits_Sub32 (a0 : Int) (a1 : Int) (a2 : Int) : Option (Int × Int) :=
  let c1 := shrI .u32 (bitsOp .or .u32 (bitsOp .and .u32 (bitsOp .xor .u32 (IntKind.max .u32) a0) a1) (bitsOp .and .u32 (bitsOp .xor .u32 (IntKind.max .u32) (bitsOp .xor .u32 a0 a1)) (wu32 ((wu32 (a0 - a1)) - a2)))) 31; some (wu32 ((wu32 (a0 - a1)) - a2), c1)

def bits_Add32 (a0 : Int) (a1 : Int) (a2 : Int) : Option (Int × Int) :=
  let c1 := wu64 ((wu64 ((wu64 (a0)) + (wu64 (a1)))) + (wu64 (a2))); some (wu32 (c1), wu32 (shrI .u64 c1 32))

def natural_digit_ld.b2 (k : Nat) (rec : List Int → List Int → Int → Int → Int → Int → Int → Option ((List Int × Int × Int × Int) ⊕ (Int × List Int))) (x0 : List Int) (x1 : List Int) (x5 : Int) (x8 : Int) (x13 : Int) (x111 : Int) (x112 : Int) : Option ((List Int × Int × Int × Int) ⊕ (Int × List Int)) :=
  bif decide (x112 < x111) then (bif inR x112 (x0.length : Int) then (bif inR x112 (x1.length : Int) then ((bits_Add32 (rd x0 x112) (rd x1 x112) x13).bind fun t8 => bif inR x112 (x0.length : Int) then (rec (x0.set (Int.toNat x112) t8.1) x1 x5 x8 t8.2 x111 (w64 (x112 + 1))) else none) else none) else none) else (some (.inl (x0, x5, x8, x13)))
def natural_digit_ld.l2 (k : Nat) : Nat → List Int → List Int → Int → Int → Int → Int → Int → Option ((List Int × Int × Int × Int) ⊕ (Int × List Int))
  | 0 => fun _ _ _ _ _ _ _ => none
  | n + 1 => natural_digit_ld.b2 k (natural_digit_ld.l2 k n)
def natural_digit_ld.b1 (k : Nat) (rec : List Int → List Int → Int → Int → Int → Int → Int → Int → Option ((List Int × List Int × Int × Int × Int) ⊕ (Int × List Int))) (x0 : List Int) (x1 : List Int) (x5 : Int) (x8 : Int) (x10 : Int) (x11 : Int) (x74 : Int) (x75 : Int) : Option ((List Int × List Int × Int × Int × Int) ⊕ (Int × List Int)) :=
  bif decide (x75 < x74) then (joinB (α := List Int × List Int × Int × Int × Int × Int × Int × Int × Int) (bif decide (x75 < x5) then (bif inR x75 (x1.length : Int) then (let c4 := wu64 (x10 + (wu64 (x8 * (wu64 (rd x1 x75))))); some (.inl (x0, x1, x5, x8, c4, x11, x75, x74, x75))) else none) else (some (.inl (x0, x1, x5, x8, x10, x11, x75, x74, x75)))) (fun z5 => bif inR z5.2.2.2.2.2.2.1 (z5.1.length : Int) then ((bits_Sub32 (rd z5.1 z5.2.2.2.2.2.2.1) (wu32 (z5.2.2.2.2.1)) z5.2.2.2.2.2.1).bind fun t6 => bif inR z5.2.2.2.2.2.2.1 (z5.1.length : Int) then (rec (z5.1.set (Int.toNat z5.2.2.2.2.2.2.1) t6.1) z5.2.1 z5.2.2.1 z5.2.2.2.1 (shrI .u64 z5.2.2.2.2.1 32) t6.2 z5.2.2.2.2.2.2.2.1 (w64 (z5.2.2.2.2.2.2.2.2 + 1))) else none) else none) (fun r => some (.inr r))) else (some (.inl (x0, x1, x5, x8, x11)))
def natural_digit_ld.l1 (k : Nat) : Nat → List Int → List Int → Int → Int → Int → Int → Int → Int → Option ((List Int × List Int × Int × Int × Int) ⊕ (Int × List Int))
  | 0 => fun _ _ _ _ _ _ _ _ => none
  | n + 1 => natural_digit_ld.b1 k (natural_digit_ld.l1 k n)
def natural_digit_ld.b0 (k : Nat) (rec : List Int → List Int → Int → Int → Int → Int → Option ((List Int × List Int × Int × Int) ⊕ (Int × List Int))) (x0 : List Int) (x1 : List Int) (x5 : Int) (x7 : Int) (x8 : Int) (x9 : Int) : Option ((List Int × List Int × Int × Int) ⊕ (Int × List Int)) :=
  bif ((shrI .u64 x8 32) != 0) then (bif ((shrI .u64 (wu64 (x9 + x7)) 32) != 0) then (some (.inl (x0, x1, x5, wu64 (x8 - 1)))) else (rec x0 x1 x5 x7 (wu64 (x8 - 1)) (wu64 (x9 + x7)))) else (bif inR (w64 (x5 - 2)) (x1.length : Int) then (bif inR (w64 (x5 - 2)) (x0.length : Int) then (bif decide (bitsOp .or .u64 (shlI .u64 x9 32) (wu64 (rd x0 (w64 (x5 - 2)))) < wu64 (x8 * (wu64 (rd x1 (w64 (x5 - 2)))))) then (bif ((shrI .u64 (wu64 (x9 + x7)) 32) != 0) then (some (.inl (x0, x1, x5, wu64 (x8 - 1)))) else (rec x0 x1 x5 x7 (wu64 (x8 - 1)) (wu64 (x9 + x7)))) else (some (.inl (x0, x1, x5, x8)))) else none) else none)
def natural_digit_ld.l0 (k : Nat) : Nat → List Int → List Int → Int → Int → Int → Int → Option ((List Int × List Int × Int × Int) ⊕ (Int × List Int))
  | 0 => fun _ _ _ _ _ _ => none
  | n + 1 => natural_digit_ld.b0 k (natural_digit_ld.l0 k n)
def natural_digit_ld (k : Nat) (a0 : List Int) (a1 : List Int) : Option (Int × List Int) :=
  bif inR (a1.length : Int) (a0.length : Int) then (bif inR (w64 ((a1.length : Int) - 1)) (a0.length : Int) then (bif inR (w64 ((a1.length : Int) - 1)) (a1.length : Int) then (let c1 := bitsOp .or .u64 (shlI .u64 (wu64 (rd a0 (a1.length : Int))) 32) (wu64 (rd a0 (w64 ((a1.length : Int) - 1)))); let c2 := wu64 (rd a1 (w64 ((a1.length : Int) - 1))); bif !decide (c2 = 0) then (bif !decide (c2 = 0) then (joinB (α := List Int × List Int × Int × Int) (natural_digit_ld.l0 k k a0 a1 (a1.length : Int) c2 (wu64 (Int.tdiv c1 c2)) (Int.tmod c1 c2)) (fun y3 => joinB (α := List Int × List Int × Int × Int × Int) (natural_digit_ld.l1 k k y3.1 y3.2.1 y3.2.2.1 y3.2.2.2 0 0 (w64 (y3.2.2.1 + 1)) 0) (fun y7 => bif (y7.2.2.2.2 != 0) then (joinB (α := List Int × Int × Int × Int) (natural_digit_ld.l2 k k y7.1 y7.2.1 y7.2.2.1 (wu64 (y7.2.2.2.1 - 1)) 0 y7.2.2.1 0) (fun y9 => bif inR y9.2.1 (y9.1.length : Int) then (bif inR y9.2.1 (y9.1.length : Int) then (some (wu32 (y9.2.2.1), y9.1.set (Int.toNat y9.2.1) (wu32 ((rd y9.1 y9.2.1) + y9.2.2.2)))) else none) else none) some) else (some (wu32 (y7.2.2.2.1), y7.1))) some) some) else none) else none) else none) else none) else none

def natural_right.b0 (k : Nat) (rec : List Int → Int → List Int → Int → Option ((List Int) ⊕ (List Int))) (x0 : List Int) (x1 : Int) (x5 : List Int) (x6 : Int) : Option ((List Int) ⊕ (List Int)) :=
  bif decide (x6 < (x0.length : Int)) then (bif inR x6 (x0.length : Int) then (bif decide (w64 (x6 + 1) < (x0.length : Int)) then (bif inR (w64 (x6 + 1)) (x0.length : Int) then (let c1 := bitsOp .or .u64 (wu64 (rd x0 x6)) (shlI .u64 (wu64 (rd x0 (w64 (x6 + 1)))) 32); bif decide (0 ≤ Int.tmod x1 32) then (bif fitsB (x5.length + [wu32 (shrI .u64 c1 (Int.tmod x1 32))].length) 4 then (rec x0 x1 (x5 ++ [wu32 (shrI .u64 c1 (Int.tmod x1 32))]) (w64 (x6 + 1))) else none) else none) else none) else (bif decide (0 ≤ Int.tmod x1 32) then (bif fitsB (x5.length + [wu32 (shrI .u64 (wu64 (rd x0 x6)) (Int.tmod x1 32))].length) 4 then (rec x0 x1 (x5 ++ [wu32 (shrI .u64 (wu64 (rd x0 x6)) (Int.tmod x1 32))]) (w64 (x6 + 1))) else none) else none)) else none) else (some (.inl x5))
def natural_right.l0 (k : Nat) : Nat → List Int → Int → List Int → Int → Option ((List Int) ⊕ (List Int))
  | 0 => fun _ _ _ _ => none
  | n + 1 => natural_right.b0 k (natural_right.l0 k n)
def natural_right (k : Nat) (a0 : List Int) (a1 : Int) : Option (List Int) :=
  joinB (α := List Int) (natural_right.l0 k k a0 a1 [] (w64 (Int.tdiv a1 32))) (fun y2 => (natural_trim_v k y2).bind fun t3 => some (sub y2 t3.1 t3.2)) some

def natural_divide.b1 (k : Nat) (rec : Int → Int → List Int → List Int → List Int → Int → Option ((Int × Int × List Int × List Int) ⊕ (List Int × List Int))) (x6 : Int) (x7 : Int) (x8 : List Int) (x9 : List Int) (x10 : List Int) (x11 : Int) : Option ((Int × Int × List Int × List Int) ⊕ (List Int × List Int)) :=
  bif decide (0 ≤ x11) then (bif ((decide (0 ≤ x11) && decide (x11 ≤ w64 ((w64 (x11 + x6)) + 1))) && decide (w64 ((w64 (x11 + x6)) + 1) ≤ (x9.length : Int))) then ((natural_digit_ld k (sub x9 x11 ((w64 ((w64 (x11 + x6)) + 1)) - x11)) x8).bind fun t6 => bif inR x11 (x10.length : Int) then (rec x6 x7 x8 (splice x9 x11 t6.2) (x10.set (Int.toNat x11) t6.1) (w64 (x11 - 1))) else none) else none) else (some (.inl (x6, x7, x9, x10)))
def natural_divide.l1 (k : Nat) : Nat → Int → Int → List Int → List Int → List Int → Int → Option ((Int × Int × List Int × List Int) ⊕ (List Int × List Int))
  | 0 => fun _ _ _ _ _ _ => none
  | n + 1 => natural_divide.b1 k (natural_divide.l1 k n)
def natural_divide.b0 (k : Nat) (rec : List Int → Int → Int → List Int → List Int → Option ((Int × Int × List Int × List Int) ⊕ (List Int × List Int))) (x0 : List Int) (x6 : Int) (x7 : Int) (x8 : List Int) (x9 : List Int) : Option ((Int × Int × List Int × List Int) ⊕ (List Int × List Int)) :=
  bif decide ((x9.length : Int) ≤ (x0.length : Int)) then (bif fitsB (x9.length + [0].length) 4 then (rec x0 x6 x7 x8 (x9 ++ [0])) else none) else (some (.inl (x6, x7, x8, x9)))
def natural_divide.l0 (k : Nat) : Nat → List Int → Int → Int → List Int → List Int → Option ((Int × Int × List Int × List Int) ⊕ (List Int × List Int))
  | 0 => fun _ _ _ _ _ => none
  | n + 1 => natural_divide.b0 k (natural_divide.l0 k n)
def natural_divide (k : Nat) (a0 : List Int) (a1 : List Int) : Option (List Int × List Int) :=
  bif inR (w64 ((a1.length : Int) - 1)) (a1.length : Int) then ((bits_LeadingZeros32 (rd a1 (w64 ((a1.length : Int) - 1)))).bind fun t1 => (natural_left k a1 t1).bind fun t2 => (natural_left k a0 t1).bind fun t3 => joinB (α := Int × Int × List Int × List Int) (natural_divide.l0 k k a0 (a1.length : Int) t1 t2 t3) (fun y4 => bif ((decide (0 ≤ w64 ((y4.2.2.2.length : Int) - y4.1)) && decide (w64 ((y4.2.2.2.length : Int) - y4.1) ≤ w64 ((y4.2.2.2.length : Int) - y4.1))) && fitsB (Int.toNat (w64 ((y4.2.2.2.length : Int) - y4.1))) 4) then (let c5 := w64 ((w64 ((y4.2.2.2.length : Int) - y4.1)) - 1); joinB (α := Int × Int × List Int × List Int) (natural_divide.l1 k k y4.1 y4.2.1 y4.2.2.1 y4.2.2.2 (List.replicate (Int.toNat (w64 ((y4.2.2.2.length : Int) - y4.1))) (0 : Int)) c5) (fun y7 => (natural_trim_v k y7.2.2.2).bind fun t8 => bif ((decide (0 ≤ 0) && decide (0 ≤ y7.1)) && decide (y7.1 ≤ (y7.2.2.1.length : Int))) then ((natural_trim_v k (sub y7.2.2.1 0 (y7.1 - 0))).bind fun t9 => (natural_right k (sub y7.2.2.1 (0 + t9.1) t9.2) y7.2.1).bind fun t10 => some (sub y7.2.2.2 t8.1 t8.2, t10)) else none) some) else none) some) else none

def natural_divMod (k : Nat) (a0 : List Int) (a1 : List Int) : Option (List Int × List Int) :=
  (natural_compare k a0 a1).bind fun t1 => bif decide (t1 < 0) then ((slices_Clone_uint32uint32 a0).bind fun t2 => some ([], t2)) else (bif ((a1.length : Int) == 1) then (bif inR 0 (a1.length : Int) then ((natural_short k a0 (rd a1 0)).bind fun t3 => (natural_trim_v k [t3.2]).bind fun t4 => some (t3.1, sub [t3.2] t4.1 t4.2)) else none) else ((natural_divide k a0 a1).bind fun t5 => some (t5.1, t5.2)))

def natural_DivMod (k : Nat) (a0 : List Int) (a1 : List Int) : Option (List Int × List Int × Int × Int) :=
  (natural_check a0 a1).bind fun t1 => bif (t1.1 != 0) then (some ([], [], t1)) else (bif ((a1.length : Int) == 0) then ((natural_at 22 (-2)).bind fun t2 => some ([], [], t2)) else ((natural_divMod k a0 a1).bind fun t3 => some (t3.1, t3.2, (0, 0))))

def decimal_exact_at (k : Nat) (a0 : Bool × List Int × List Int × Int) (a1 : Int) : Option (List Int × List Int × List Int) :=
  joinB (α := List Int × List Int) (bif decide (0 ≤ w64 (a0.2.2.2 - a1)) then ((decimal_times k a0.2.1 (w64 (a0.2.2.2 - a1))).bind fun t1 => some (.inl (a0.2.2.1, t1))) else ((decimal_times k a0.2.2.1 (w64 (0 - (w64 (a0.2.2.2 - a1))))).bind fun t2 => some (.inl (t2, a0.2.1)))) (fun z3 => (natural_DivMod k z3.2 z3.1).bind fun t4 => some (t4.1, t4.2.1, z3.1)) some

def natural_add.b0 (k : Nat) (rec : List Int → List Int → Int → List Int → Int → Int → Option ((List Int × Int) ⊕ (List Int))) (x1 : List Int) (x5 : List Int) (x6 : Int) (x20 : List Int) (x21 : Int) (x22 : Int) : Option ((List Int × Int) ⊕ (List Int)) :=
  bif decide (x22 < x21) then (bif inR x22 (x20.length : Int) then (let c2 := wu64 (x6 + (wu64 (rd x20 x22))); bif decide (x22 < (x1.length : Int)) then (bif inR x22 (x1.length : Int) then (bif fitsB (x5.length + [wu32 (wu64 (c2 + (wu64 (rd x1 x22))))].length) 4 then (let c3 := shrI .u64 (wu64 (c2 + (wu64 (rd x1 x22)))) 32; rec x1 (x5 ++ [wu32 (wu64 (c2 + (wu64 (rd x1 x22))))]) c3 x20 x21 (w64 (x22 + 1))) else none) else none) else (bif fitsB (x5.length + [wu32 (c2)].length) 4 then (rec x1 (x5 ++ [wu32 (c2)]) (shrI .u64 c2 32) x20 x21 (w64 (x22 + 1))) else none)) else none) else (some (.inl (x5, x6)))
def natural_add.l0 (k : Nat) : Nat → List Int → List Int → Int → List Int → Int → Int → Option ((List Int × Int) ⊕ (List Int))
  | 0 => fun _ _ _ _ _ _ => none
  | n + 1 => natural_add.b0 k (natural_add.l0 k n)
def natural_add (k : Nat) (a0 : List Int) (a1 : List Int) : Option (List Int) :=
  joinB (α := List Int × List Int) (bif decide ((a0.length : Int) < (a1.length : Int)) then (some (.inl (a1, a0))) else (some (.inl (a0, a1)))) (fun z1 => bif ((decide (0 ≤ 0) && decide (0 ≤ w64 ((z1.1.length : Int) + 1))) && fitsB (Int.toNat (w64 ((z1.1.length : Int) + 1))) 4) then (joinB (α := List Int × Int) (natural_add.l0 k k z1.2 (List.replicate 0 (0 : Int)) 0 z1.1 (z1.1.length : Int) 0) (fun y4 => bif fitsB (y4.1.length + [wu32 (y4.2)].length) 4 then ((natural_trim_v k (y4.1 ++ [wu32 (y4.2)])).bind fun t5 => some (sub (y4.1 ++ [wu32 (y4.2)]) t5.1 t5.2)) else none) some) else none) some

def natural_Add (k : Nat) (a0 : List Int) (a1 : List Int) : Option (List Int × Int × Int) :=
  (natural_check a0 a1).bind fun t1 => bif (t1.1 != 0) then (some ([], t1)) else ((natural_add k a0 a1).bind fun t2 => (natural_fit k t2).bind fun t3 => some (t3.1, t3.2))

def decimal_away (a0 : Int) (a1 : Bool) (a2 : Bool) (a3 : Int) : Option (Bool) :=
  bif (a0 == 1) then (some true) else (bif (a0 == 2) then (some a1) else (bif (a0 == 3) then (some (!a1)) else (bif (a0 == 4) then (some (decide (0 ≤ a3))) else (bif (a0 == 5) then (some (decide (0 < a3))) else (bif (a0 == 6) then (bif decide (0 < a3) then (some true) else (bif (a3 == 0) then (some a2) else (some false))) else (some false))))))

def decimal_exact_rounded (k : Nat) (a0 : Bool × List Int × List Int × Int) (a1 : Int) (a2 : Int) : Option (List Int × Bool) :=
  (decimal_exact_at k a0 a1).bind fun t1 => bif ((t1.2.1.length : Int) == 0) then (some (t1.1, false)) else ((natural_Add k t1.2.1 t1.2.1).bind fun t2 => (natural_Cmp k t2.1 t1.2.2).bind fun t3 => bif decide (0 < (t1.1.length : Int)) then (bif inR 0 (t1.1.length : Int) then ((decimal_away a2 a0.1 ((Int.tmod (rd t1.1 0) 2) == 1) t3.1).bind fun t4 => bif t4 then ((natural_Add k t1.1 [1]).bind fun t5 => some (t5.1, true)) else (some (t1.1, true))) else none) else ((decimal_away a2 a0.1 false t3.1).bind fun t6 => bif t6 then ((natural_Add k t1.1 [1]).bind fun t7 => some (t7.1, true)) else (some (t1.1, true))))

def decimal_toward.b0 (k : Nat) (rec : List Int → Int → Int → Option ((List Int × Int) ⊕ (List Int × Int))) (x0 : List Int) (x1 : Int) (x2 : Int) : Option ((List Int × Int) ⊕ (List Int × Int)) :=
  bif decide (x1 < x2) then ((natural_DivMod k x0 [10]).bind fun t1 => bif decide (0 < (t1.2.1.length : Int)) then (some (.inl (x0, x1))) else (rec t1.1 (w64 (x1 + 1)) x2)) else (some (.inl (x0, x1)))
def decimal_toward.l0 (k : Nat) : Nat → List Int → Int → Int → Option ((List Int × Int) ⊕ (List Int × Int))
  | 0 => fun _ _ _ => none
  | n + 1 => decimal_toward.b0 k (decimal_toward.l0 k n)
def decimal_toward (k : Nat) (a0 : List Int) (a1 : Int) (a2 : Int) : Option (List Int × Int) :=
  joinB (α := List Int × Int) (decimal_toward.l0 k k a0 a1 a2) (fun y2 => some (y2.1, y2.2)) some

def decimal_infinite (a0 : Bool) : Option (Int × Bool × (Bool × List Int) × Int) :=
  some (1, a0, (false, []), 0)

def natural_sub.b0 (k : Nat) (rec : List Int → List Int → Int → Int → Int → Option ((List Int) ⊕ (List Int))) (x1 : List Int) (x5 : List Int) (x6 : Int) (x12 : Int) (x13 : Int) : Option ((List Int) ⊕ (List Int)) :=
  bif decide (x13 < x12) then (joinB (α := List Int × List Int × Int × Int × Int × Int × Int) (bif decide (x13 < (x1.length : Int)) then (bif inR x13 (x1.length : Int) then (some (.inl (x1, x5, x6, x13, rd x1 x13, x12, x13))) else none) else (some (.inl (x1, x5, x6, x13, 0, x12, x13)))) (fun z2 => bif inR z2.2.2.2.1 (z2.2.1.length : Int) then ((bits_Sub32 (rd z2.2.1 z2.2.2.2.1) z2.2.2.2.2.1 z2.2.2.1).bind fun t3 => bif inR z2.2.2.2.1 (z2.2.1.length : Int) then (rec z2.1 (z2.2.1.set (Int.toNat z2.2.2.2.1) t3.1) t3.2 z2.2.2.2.2.2.1 (w64 (z2.2.2.2.2.2.2 + 1))) else none) else none) (fun r => some (.inr r))) else (some (.inl x5))
def natural_sub.l0 (k : Nat) : Nat → List Int → List Int → Int → Int → Int → Option ((List Int) ⊕ (List Int))
  | 0 => fun _ _ _ _ _ => none
  | n + 1 => natural_sub.b0 k (natural_sub.l0 k n)
def natural_sub (k : Nat) (a0 : List Int) (a1 : List Int) : Option (List Int) :=
  (slices_Clone_uint32uint32 a0).bind fun t1 => joinB (α := List Int) (natural_sub.l0 k k a1 t1 0 (t1.length : Int) 0) (fun y4 => (natural_trim_v k y4).bind fun t5 => some (sub y4 t5.1 t5.2)) some

def natural_Sub (k : Nat) (a0 : List Int) (a1 : List Int) : Option (List Int × Int × Int) :=
  (natural_check a0 a1).bind fun t1 => bif (t1.1 != 0) then (some ([], t1)) else ((natural_compare k a0 a1).bind fun t2 => bif decide (t2 < 0) then ((natural_at 4 (-2)).bind fun t3 => some ([], t3)) else ((natural_sub k a0 a1).bind fun t4 => some (t4, (0, 0))))

def decimal_overflow (k : Nat) (a0 : Bool) (a1 : Int × Int × Int × Int) : Option (Int × Bool × (Bool × List Int) × Int) :=
  (decimal_away a1.2.1 a0 true 1).bind fun t1 => bif t1 then ((decimal_infinite a0).bind fun t2 => some t2) else ((decimal_power k a1.1).bind fun t3 => (natural_Sub k t3 [1]).bind fun t4 => (decimal_finite a0 t4.1 (w64 ((w64 (a1.2.2.2 - a1.1)) + 1))).bind fun t5 => some t5)

def decimal_exact_fit (k : Nat) (a0 : Bool × List Int × List Int × Int) (a1 : Int) (a2 : Int × Int × Int × Int) : Option ((Int × Bool × (Bool × List Int) × Int) × Int) :=
  bif ((a0.2.1.length : Int) == 0) then ((decimal_tiny a2).bind fun t1 => (decimal_finite a0.1 [] (mnI (mxI a1 t1) a2.2.2.2)).bind fun t2 => some (t2, 0)) else ((decimal_exact_first k a0).bind fun t3 => (decimal_tiny a2).bind fun t4 => let c5 := mxI (w64 ((w64 (t3 - a2.1)) + 1)) t4; (decimal_exact_rounded k a0 c5 a2.2.1).bind fun t6 => joinB (α := Int × (Bool × List Int × List Int × Int) × (Int × Int × Int × Int) × (Int × Bool × (Bool × List Int) × Int) × Int × Int × List Int × Bool × Int) (bif decide (t3 < a2.2.2.1) then (some (.inl (a1, a0, a2, (0, false, (false, []), 0), t3, c5, t6.1, t6.2, bitsOp .or .i64 0 2))) else (some (.inl (a1, a0, a2, (0, false, (false, []), 0), t3, c5, t6.1, t6.2, 0)))) (fun z7 => joinB (α := (Bool × List Int × List Int × Int) × (Int × Int × Int × Int) × (Int × Bool × (Bool × List Int) × Int) × Int × List Int × Int) (bif z7.2.2.2.2.2.2.2.1 then (let c8 := bitsOp .or .i64 z7.2.2.2.2.2.2.2.2 1; joinB (α := (Bool × List Int × List Int × Int) × (Int × Int × Int × Int) × (Int × Bool × (Bool × List Int) × Int) × Int × List Int × Int) (bif decide (z7.2.2.2.2.1 < z7.2.2.1.2.2.1) then (some (.inl (z7.2.1, z7.2.2.1, z7.2.2.2.1, z7.2.2.2.2.2.1, z7.2.2.2.2.2.2.1, bitsOp .or .i64 c8 4))) else (some (.inl (z7.2.1, z7.2.2.1, z7.2.2.2.1, z7.2.2.2.2.2.1, z7.2.2.2.2.2.2.1, c8)))) (fun z9 => (decimal_size k z9.2.2.2.2.1).bind fun t10 => bif decide (z9.2.1.1 < t10) then ((natural_DivMod k z9.2.2.2.2.1 [10]).bind fun t11 => some (.inl (z9.1, z9.2.1, z9.2.2.1, w64 (z9.2.2.2.1 + 1), t11.1, z9.2.2.2.2.2))) else (some (.inl (z9.1, z9.2.1, z9.2.2.1, z9.2.2.2.1, z9.2.2.2.2.1, z9.2.2.2.2.2)))) (fun r => some (.inr r))) else ((decimal_toward k z7.2.2.2.2.2.2.1 z7.2.2.2.2.2.1 z7.1).bind fun t12 => some (.inl (z7.2.1, z7.2.2.1, z7.2.2.2.1, t12.2, t12.1, z7.2.2.2.2.2.2.2.2)))) (fun z13 => bif decide (0 < (z13.2.2.2.2.1.length : Int)) then ((decimal_size k z13.2.2.2.2.1).bind fun t14 => bif decide (z13.2.1.2.2.2 < w64 ((w64 (t14 - 1)) + z13.2.2.2.1)) then ((decimal_overflow k z13.1.1 z13.2.1).bind fun t15 => some (t15, 9)) else ((decimal_finite z13.1.1 z13.2.2.2.2.1 z13.2.2.2.1).bind fun t16 => some (t16, z13.2.2.2.2.2))) else ((decimal_finite z13.1.1 z13.2.2.2.2.1 z13.2.2.2.1).bind fun t17 => some (t17, z13.2.2.2.2.2))) some) some)

def decimal_Round (k : Nat) (a0 : Int × Bool × (Bool × List Int) × Int) (a1 : Int × Int × Int × Int) : Option ((Int × Bool × (Bool × List Int) × Int) × Int × Int × Int) :=
  (decimal_check k a1 [a0]).bind fun t1 => bif (t1.1 != 0) then (some ((0, false, (false, []), 0), 0, t1)) else (bif (a0.1 != 0) then (some (a0, 0, (0, 0))) else ((decimal_of a0).bind fun t2 => (decimal_exact_fit k t2 a0.2.2.2 a1).bind fun t3 => some (t3.1, t3.2, (0, 0))))

def decimal_isZero (a0 : Int × Bool × (Bool × List Int) × Int) : Option (Bool) :=
  bif (a0.1 == 0) then (let c1 := ((a0.2.2.1.2.length : Int) == 0); some c1) else (some false)

def decimal_Reduce (k : Nat) (a0 : Int × Bool × (Bool × List Int) × Int) (a1 : Int × Int × Int × Int) : Option ((Int × Bool × (Bool × List Int) × Int) × Int × Int × Int) :=
  (decimal_Round k a0 a1).bind fun t1 => joinB (α := (Int × Bool × (Bool × List Int) × Int) × (Int × Int) × (Int × Bool × (Bool × List Int) × Int) × Int) (bif (t1.2.2.1 != 0) then (some (.inr (t1.1, t1.2.1, t1.2.2))) else (bif (t1.1.1 != 0) then (some (.inr (t1.1, t1.2.1, t1.2.2))) else (some (.inl ((0, false, (false, []), 0), (0, 0), t1.1, t1.2.1))))) (fun z2 => (decimal_isZero z2.2.2.1).bind fun t3 => bif t3 then (some ((z2.2.2.1.1, z2.2.2.1.2.1, z2.2.2.1.2.2.1, 0), z2.2.2.2, (0, 0))) else ((decimal_toward k z2.2.2.1.2.2.1.2 z2.2.2.1.2.2.2 1200).bind fun t4 => some ((z2.2.2.1.1, z2.2.2.1.2.1, (z2.2.2.1.2.2.1.1, t4.1), t4.2), z2.2.2.2, (0, 0)))) some

def decimal_none  : Option (Int × Bool × (Bool × List Int) × Int) :=
  some (2, false, (false, []), 0)

def decimal_Quantize (k : Nat) (a0 : Int × Bool × (Bool × List Int) × Int) (a1 : Int) (a2 : Int × Int × Int × Int) : Option ((Int × Bool × (Bool × List Int) × Int) × Int × Int × Int) :=
  (decimal_check k a2 [a0]).bind fun t1 => bif (t1.1 != 0) then (some ((0, false, (false, []), 0), 0, t1)) else (joinB (α := Int × (Int × Bool × (Bool × List Int) × Int) × (Int × Int × Int × Int) × (Int × Bool × (Bool × List Int) × Int) × Int × Int) (bif (a0.1 == 2) then ((decimal_none).bind fun t2 => some (.inr (t2, 0, (0, 0)))) else (bif (a0.1 == 1) then ((decimal_none).bind fun t3 => some (.inr (t3, 32, (0, 0)))) else ((decimal_tiny a2).bind fun t4 => bif decide (a1 < t4) then ((decimal_none).bind fun t5 => some (.inr (t5, 32, (0, 0)))) else (bif decide (a2.2.2.2 < a1) then ((decimal_none).bind fun t6 => some (.inr (t6, 32, (0, 0)))) else (some (.inl (a1, a0, a2, (0, false, (false, []), 0), (0, 0)))))))) (fun z7 => (decimal_of z7.2.1).bind fun t8 => (decimal_exact_rounded k t8 z7.1 z7.2.2.1.2.1).bind fun t9 => joinB (α := Int × (Int × Bool × (Bool × List Int) × Int) × (Int × Bool × (Bool × List Int) × Int) × (Int × Int) × List Int × Bool) ((decimal_size k t9.1).bind fun t10 => bif decide (z7.2.2.1.1 < t10) then ((decimal_none).bind fun t11 => some (.inr (t11, 32, (0, 0)))) else (bif decide (0 < t10) then (bif decide (z7.2.2.1.2.2.2 < w64 ((w64 (t10 - 1)) + z7.1)) then ((decimal_none).bind fun t12 => some (.inr (t12, 32, (0, 0)))) else (some (.inl (z7.1, z7.2.1, z7.2.2.2.1, z7.2.2.2.2, t9.1, t9.2)))) else (some (.inl (z7.1, z7.2.1, z7.2.2.2.1, z7.2.2.2.2, t9.1, t9.2))))) (fun z13 => bif z13.2.2.2.2.2 then ((decimal_finite z13.2.1.2.1 z13.2.2.2.2.1 z13.1).bind fun t14 => some (t14, 1, (0, 0))) else ((decimal_finite z13.2.1.2.1 z13.2.2.2.2.1 z13.1).bind fun t15 => some (t15, 0, (0, 0)))) some) some)

def brindlewoodref3_Small.b0 (k : Nat) (rec : Int → List Int → Option ((List Int) ⊕ (List Int))) (x0 : Int) (x3 : List Int) : Option ((List Int) ⊕ (List Int)) :=
  bif decide (0 < x0) then (bif fitsB (x3.length + [Int.tmod x0 65536].length) 8 then (rec (w64 (Int.tdiv x0 65536)) (x3 ++ [Int.tmod x0 65536])) else none) else (some (.inl x3))
def brindlewoodref3_Small.l0 (k : Nat) : Nat → Int → List Int → Option ((List Int) ⊕ (List Int))
  | 0 => fun _ _ => none
  | n + 1 => brindlewoodref3_Small.b0 k (brindlewoodref3_Small.l0 k n)
def brindlewoodref3_Small (k : Nat) (a0 : Int) : Option (List Int) :=
  joinB (α := List Int) (brindlewoodref3_Small.l0 k k a0 []) (fun y1 => some y1) some

def brindlewoodref3_Value (k : Nat) (a0 : Int × Bool × (Bool × List Int) × Int) : Option (Bool × List Int × List Int × Int) :=
  (brindlewoodref3_Of k a0.2.2.1.2).bind fun t1 => (brindlewoodref3_Small k 1).bind fun t2 => some (a0.2.1, t1, t2, a0.2.2.2)

def brindlewoodref3_Limbs.b0 (k : Nat) (rec : List Int → List Int → Int → Option ((List Int) ⊕ (List Int))) (x0 : List Int) (x3 : List Int) (x4 : Int) : Option ((List Int) ⊕ (List Int)) :=
  bif decide (x4 < (x0.length : Int)) then (bif inR x4 (x0.length : Int) then (bif decide (w64 (x4 + 1) < (x0.length : Int)) then (bif inR (w64 (x4 + 1)) (x0.length : Int) then (let c1 := wu32 ((wu32 (rd x0 x4)) + (wu32 ((wu32 (rd x0 (w64 (x4 + 1)))) * 65536))); bif fitsB (x3.length + [c1].length) 4 then (rec x0 (x3 ++ [c1]) (w64 (x4 + 2))) else none) else none) else (bif fitsB (x3.length + [wu32 (rd x0 x4)].length) 4 then (rec x0 (x3 ++ [wu32 (rd x0 x4)]) (w64 (x4 + 2))) else none)) else none) else (some (.inl x3))
def brindlewoodref3_Limbs.l0 (k : Nat) : Nat → List Int → List Int → Int → Option ((List Int) ⊕ (List Int))
  | 0 => fun _ _ _ => none
  | n + 1 => brindlewoodref3_Limbs.b0 k (brindlewoodref3_Limbs.l0 k n)
def brindlewoodref3_Limbs (k : Nat) (a0 : List Int) : Option (List Int) :=
  joinB (α := List Int) (brindlewoodref3_Limbs.l0 k k a0 [] 0) (fun y2 => some y2) some

def brindlewoodref3_Finite (k : Nat) (a0 : Bool) (a1 : List Int) (a2 : Int) : Option (Int × Bool × (Bool × List Int) × Int) :=
  (brindlewoodref3_Limbs k a1).bind fun t1 => some (0, a0, (false, t1), a2)

def brindlewoodref3_Times.b1 (k : Nat) (rec : List Int → List Int → List Int → Int → Int → Int → Option ((List Int × List Int × List Int × Int × Int × Bool) ⊕ (List Int))) (x0 : List Int) (x1 : List Int) (x5 : List Int) (x6 : Int) (x7 : Int) (x8 : Int) : Option ((List Int × List Int × List Int × Int × Int × Bool) ⊕ (List Int)) :=
  bif decide (x8 < (x1.length : Int)) then (bif inR (w64 (x6 + x8)) (x5.length : Int) then (let c1 := w64 ((rd x5 (w64 (x6 + x8))) + x7); bif decide (x8 < (x1.length : Int)) then (bif inR x6 (x0.length : Int) then (bif inR x8 (x1.length : Int) then (let c2 := w64 (c1 + (w64 ((rd x0 x6) * (rd x1 x8)))); bif inR (w64 (x6 + x8)) (x5.length : Int) then (rec x0 x1 (x5.set (Int.toNat (w64 (x6 + x8))) (Int.tmod c2 65536)) x6 (w64 (Int.tdiv c2 65536)) (w64 (x8 + 1))) else none) else none) else none) else (bif inR (w64 (x6 + x8)) (x5.length : Int) then (rec x0 x1 (x5.set (Int.toNat (w64 (x6 + x8))) (Int.tmod c1 65536)) x6 (w64 (Int.tdiv c1 65536)) (w64 (x8 + 1))) else none)) else none) else (bif decide (0 < x7) then (bif inR (w64 (x6 + x8)) (x5.length : Int) then (let c3 := w64 ((rd x5 (w64 (x6 + x8))) + x7); bif decide (x8 < (x1.length : Int)) then (bif inR x6 (x0.length : Int) then (bif inR x8 (x1.length : Int) then (let c4 := w64 (c3 + (w64 ((rd x0 x6) * (rd x1 x8)))); bif inR (w64 (x6 + x8)) (x5.length : Int) then (rec x0 x1 (x5.set (Int.toNat (w64 (x6 + x8))) (Int.tmod c4 65536)) x6 (w64 (Int.tdiv c4 65536)) (w64 (x8 + 1))) else none) else none) else none) else (bif inR (w64 (x6 + x8)) (x5.length : Int) then (rec x0 x1 (x5.set (Int.toNat (w64 (x6 + x8))) (Int.tmod c3 65536)) x6 (w64 (Int.tdiv c3 65536)) (w64 (x8 + 1))) else none)) else none) else (some (.inl (x0, x1, x5, x6, x7, decide (0 < x7)))))
def brindlewoodref3_Times.l1 (k : Nat) : Nat → List Int → List Int → List Int → Int → Int → Int → Option ((List Int × List Int × List Int × Int × Int × Bool) ⊕ (List Int))
  | 0 => fun _ _ _ _ _ _ => none
  | n + 1 => brindlewoodref3_Times.b1 k (brindlewoodref3_Times.l1 k n)
def brindlewoodref3_Times.b0 (k : Nat) (rec : List Int → List Int → List Int → Int → Option ((List Int) ⊕ (List Int))) (x0 : List Int) (x1 : List Int) (x5 : List Int) (x6 : Int) : Option ((List Int) ⊕ (List Int)) :=
  bif decide (x6 < (x0.length : Int)) then (joinB (α := List Int × List Int × List Int × Int × Int × Bool) (brindlewoodref3_Times.l1 k k x0 x1 x5 x6 0 0) (fun y5 => rec y5.1 y5.2.1 y5.2.2.1 (w64 (y5.2.2.2.1 + 1))) (fun r => some (.inr r))) else (some (.inl x5))
def brindlewoodref3_Times.l0 (k : Nat) : Nat → List Int → List Int → List Int → Int → Option ((List Int) ⊕ (List Int))
  | 0 => fun _ _ _ _ => none
  | n + 1 => brindlewoodref3_Times.b0 k (brindlewoodref3_Times.l0 k n)
def brindlewoodref3_Times (k : Nat) (a0 : List Int) (a1 : List Int) : Option (List Int) :=
  bif ((decide (0 ≤ w64 ((w64 ((a0.length : Int) + (a1.length : Int))) + 1)) && decide (w64 ((w64 ((a0.length : Int) + (a1.length : Int))) + 1) ≤ w64 ((w64 ((a0.length : Int) + (a1.length : Int))) + 1))) && fitsB (Int.toNat (w64 ((w64 ((a0.length : Int) + (a1.length : Int))) + 1))) 8) then (joinB (α := List Int) (brindlewoodref3_Times.l0 k k a0 a1 (List.replicate (Int.toNat (w64 ((w64 ((a0.length : Int) + (a1.length : Int))) + 1))) (0 : Int)) 0) (fun y6 => (brindlewoodref3_trim_v k y6).bind fun t7 => some (sub y6 t7.1 t7.2)) some) else none

def brindlewoodref3_Ten.b1 (k : Nat) (rec : Int → List Int → Option ((List Int) ⊕ (List Int))) (x0 : Int) (x3 : List Int) : Option ((List Int) ⊕ (List Int)) :=
  bif decide (0 < x0) then ((brindlewoodref3_Small k 10).bind fun t5 => (brindlewoodref3_Times k x3 t5).bind fun t6 => rec (w64 (x0 - 1)) t6) else (some (.inl x3))
def brindlewoodref3_Ten.l1 (k : Nat) : Nat → Int → List Int → Option ((List Int) ⊕ (List Int))
  | 0 => fun _ _ => none
  | n + 1 => brindlewoodref3_Ten.b1 k (brindlewoodref3_Ten.l1 k n)
def brindlewoodref3_Ten.b0 (k : Nat) (rec : Int → List Int → Option ((Int × List Int) ⊕ (List Int))) (x0 : Int) (x3 : List Int) : Option ((Int × List Int) ⊕ (List Int)) :=
  bif decide (4 ≤ x0) then ((brindlewoodref3_Small k 10000).bind fun t2 => (brindlewoodref3_Times k x3 t2).bind fun t3 => rec (w64 (x0 - 4)) t3) else (some (.inl (x0, x3)))
def brindlewoodref3_Ten.l0 (k : Nat) : Nat → Int → List Int → Option ((Int × List Int) ⊕ (List Int))
  | 0 => fun _ _ => none
  | n + 1 => brindlewoodref3_Ten.b0 k (brindlewoodref3_Ten.l0 k n)
def brindlewoodref3_Ten (k : Nat) (a0 : Int) : Option (List Int) :=
  (brindlewoodref3_Small k 1).bind fun t1 => joinB (α := Int × List Int) (brindlewoodref3_Ten.l0 k k a0 t1) (fun y4 => joinB (α := List Int) (brindlewoodref3_Ten.l1 k k y4.1 y4.2) (fun y7 => some y7) some) some

def brindlewoodref3_Exact_parts (k : Nat) (a0 : Bool × List Int × List Int × Int) (a1 : Int) : Option (List Int × List Int) :=
  bif decide (0 ≤ w64 (a0.2.2.2 - a1)) then ((brindlewoodref3_Ten k (w64 (a0.2.2.2 - a1))).bind fun t1 => (brindlewoodref3_Times k a0.2.1 t1).bind fun t2 => some (t2, a0.2.2.1)) else ((brindlewoodref3_Ten k (w64 (a1 - a0.2.2.2))).bind fun t3 => (brindlewoodref3_Times k a0.2.2.1 t3).bind fun t4 => some (a0.2.1, t4))

def brindlewoodref3_Compare.b0 (k : Nat) (rec : List Int → List Int → Int → Option ((Unit) ⊕ (Int))) (x0 : List Int) (x1 : List Int) (x5 : Int) : Option ((Unit) ⊕ (Int)) :=
  bif decide (0 ≤ x5) then (bif inR x5 (x0.length : Int) then (bif inR x5 (x1.length : Int) then (bif decide (rd x0 x5 < rd x1 x5) then (some (.inr (-1))) else (bif inR x5 (x0.length : Int) then (bif inR x5 (x1.length : Int) then (bif decide (rd x1 x5 < rd x0 x5) then (some (.inr 1)) else (rec x0 x1 (w64 (x5 - 1)))) else none) else none)) else none) else none) else (some (.inl ()))
def brindlewoodref3_Compare.l0 (k : Nat) : Nat → List Int → List Int → Int → Option ((Unit) ⊕ (Int))
  | 0 => fun _ _ _ => none
  | n + 1 => brindlewoodref3_Compare.b0 k (brindlewoodref3_Compare.l0 k n)
def brindlewoodref3_Compare (k : Nat) (a0 : List Int) (a1 : List Int) : Option (Int) :=
  bif ((a0.length : Int) != (a1.length : Int)) then (bif decide ((a0.length : Int) < (a1.length : Int)) then (some (-1)) else (some 1)) else (joinB (α := Unit) (brindlewoodref3_Compare.l0 k k a0 a1 (w64 ((a0.length : Int) - 1))) (fun y1 => some 0) some)

def brindlewoodref3_Exact_First.b0 (k : Nat) (rec : (Bool × List Int × List Int × Int) → Int → Option ((Unit) ⊕ (Int))) (x33 : Bool × List Int × List Int × Int) (x3 : Int) : Option ((Unit) ⊕ (Int)) :=
  (brindlewoodref3_Exact_parts k x33 x3).bind fun t4 => (brindlewoodref3_Compare k t4.1 t4.2).bind fun t5 => bif decide (0 ≤ t5) then (some (.inr x3)) else (rec x33 (w64 (x3 - 1)))
def brindlewoodref3_Exact_First.l0 (k : Nat) : Nat → (Bool × List Int × List Int × Int) → Int → Option ((Unit) ⊕ (Int))
  | 0 => fun _ _ => none
  | n + 1 => brindlewoodref3_Exact_First.b0 k (brindlewoodref3_Exact_First.l0 k n)
def brindlewoodref3_Exact_First (k : Nat) (a0 : Bool × List Int × List Int × Int) : Option (Int) :=
  (brindlewoodref3_Figures k a0.2.1 10).bind fun t1 => (brindlewoodref3_Figures k a0.2.2.1 10).bind fun t2 => let c3 := w64 ((w64 ((w64 ((t1.length : Int) - (t2.length : Int))) + a0.2.2.2)) + 1); joinB (α := Unit) (brindlewoodref3_Exact_First.l0 k k a0 c3) (fun _ => none) some

def brindlewoodref3_Ones.b2 (k : Nat) (rec : List Bool → Option ((List Bool) ⊕ (List Bool))) (x3 : List Bool) : Option ((List Bool) ⊕ (List Bool)) :=
  bif decide (0 < (x3.length : Int)) then (bif inR (w64 ((x3.length : Int) - 1)) (x3.length : Int) then (bif (!(rdB x3 (w64 ((x3.length : Int) - 1)))) then (bif ((decide (0 ≤ 0) && decide (0 ≤ w64 ((x3.length : Int) - 1))) && decide (w64 ((x3.length : Int) - 1) ≤ (x3.length : Int))) then (rec (sub x3 0 ((w64 ((x3.length : Int) - 1)) - 0))) else none) else (some (.inl x3))) else none) else (some (.inl x3))
def brindlewoodref3_Ones.l2 (k : Nat) : Nat → List Bool → Option ((List Bool) ⊕ (List Bool))
  | 0 => fun _ => none
  | n + 1 => brindlewoodref3_Ones.b2 k (brindlewoodref3_Ones.l2 k n)
def brindlewoodref3_Ones.b1 (k : Nat) (rec : List Int → List Bool → Int → Int → Int → Option ((List Int × List Bool × Int) ⊕ (List Bool))) (x0 : List Int) (x3 : List Bool) (x4 : Int) (x5 : Int) (x6 : Int) : Option ((List Int × List Bool × Int) ⊕ (List Bool)) :=
  bif decide (x6 < 16) then (bif fitsB (x3.length + [((Int.tmod x5 2) == 1)].length) 1 then (rec x0 (x3 ++ [((Int.tmod x5 2) == 1)]) x4 (w64 (Int.tdiv x5 2)) (w64 (x6 + 1))) else none) else (some (.inl (x0, x3, x4)))
def brindlewoodref3_Ones.l1 (k : Nat) : Nat → List Int → List Bool → Int → Int → Int → Option ((List Int × List Bool × Int) ⊕ (List Bool))
  | 0 => fun _ _ _ _ _ => none
  | n + 1 => brindlewoodref3_Ones.b1 k (brindlewoodref3_Ones.l1 k n)
def brindlewoodref3_Ones.b0 (k : Nat) (rec : List Int → List Bool → Int → Option ((List Bool) ⊕ (List Bool))) (x0 : List Int) (x3 : List Bool) (x4 : Int) : Option ((List Bool) ⊕ (List Bool)) :=
  bif decide (x4 < (x0.length : Int)) then (bif inR x4 (x0.length : Int) then (joinB (α := List Int × List Bool × Int) (brindlewoodref3_Ones.l1 k k x0 x3 x4 (rd x0 x4) 0) (fun y1 => rec y1.1 y1.2.1 (w64 (y1.2.2 + 1))) (fun r => some (.inr r))) else none) else (some (.inl x3))
def brindlewoodref3_Ones.l0 (k : Nat) : Nat → List Int → List Bool → Int → Option ((List Bool) ⊕ (List Bool))
  | 0 => fun _ _ _ => none
  | n + 1 => brindlewoodref3_Ones.b0 k (brindlewoodref3_Ones.l0 k n)
def brindlewoodref3_Ones (k : Nat) (a0 : List Int) : Option (List Bool) :=
  joinB (α := List Bool) (brindlewoodref3_Ones.l0 k k a0 [] 0) (fun y2 => joinB (α := List Bool) (brindlewoodref3_Ones.l2 k k y2) (fun y3 => some y3) some) some

def brindlewoodref3_Double.b0 (k : Nat) (rec : List Int → Int → List Int → Int → Option ((Int × List Int) ⊕ (List Int))) (x0 : List Int) (x5 : Int) (x6 : List Int) (x7 : Int) : Option ((Int × List Int) ⊕ (List Int)) :=
  bif decide (x7 < (x0.length : Int)) then (bif inR x7 (x0.length : Int) then (let c2 := w64 ((w64 (2 * (rd x0 x7))) + x5); bif fitsB (x6.length + [Int.tmod c2 65536].length) 8 then (rec x0 (w64 (Int.tdiv c2 65536)) (x6 ++ [Int.tmod c2 65536]) (w64 (x7 + 1))) else none) else none) else (some (.inl (x5, x6)))
def brindlewoodref3_Double.l0 (k : Nat) : Nat → List Int → Int → List Int → Int → Option ((Int × List Int) ⊕ (List Int))
  | 0 => fun _ _ _ _ => none
  | n + 1 => brindlewoodref3_Double.b0 k (brindlewoodref3_Double.l0 k n)
def brindlewoodref3_Double (k : Nat) (a0 : List Int) (a1 : Bool) : Option (List Int) :=
  joinB (α := List Int × Int) (bif a1 then (some (.inl (a0, 1))) else (some (.inl (a0, 0)))) (fun z1 => joinB (α := Int × List Int) (brindlewoodref3_Double.l0 k k z1.1 z1.2 [] 0) (fun y3 => bif decide (0 < y3.1) then (bif fitsB (y3.2.length + [y3.1].length) 8 then ((brindlewoodref3_trim_v k (y3.2 ++ [y3.1])).bind fun t4 => some (sub (y3.2 ++ [y3.1]) t4.1 t4.2)) else none) else ((brindlewoodref3_trim_v k y3.2).bind fun t5 => some (sub y3.2 t5.1 t5.2))) some) some

def brindlewoodref3_Minus.b0 (k : Nat) (rec : List Int → List Int → List Int → Int → Int → Option ((List Int) ⊕ (List Int))) (x0 : List Int) (x1 : List Int) (x5 : List Int) (x6 : Int) (x7 : Int) : Option ((List Int) ⊕ (List Int)) :=
  bif decide (x7 < (x0.length : Int)) then (bif inR x7 (x0.length : Int) then (joinB (α := List Int × List Int × List Int × Int × Int) (bif decide (x7 < (x1.length : Int)) then (bif inR x7 (x1.length : Int) then (let c1 := w64 ((w64 ((rd x0 x7) - x6)) - (rd x1 x7)); some (.inl (x0, x1, x5, x7, c1))) else none) else (some (.inl (x0, x1, x5, x7, w64 ((rd x0 x7) - x6))))) (fun z2 => bif decide (z2.2.2.2.2 < 0) then (bif fitsB (z2.2.2.1.length + [w64 (z2.2.2.2.2 + 65536)].length) 8 then (rec z2.1 z2.2.1 (z2.2.2.1 ++ [w64 (z2.2.2.2.2 + 65536)]) 1 (w64 (z2.2.2.2.1 + 1))) else none) else (bif fitsB (z2.2.2.1.length + [z2.2.2.2.2].length) 8 then (rec z2.1 z2.2.1 (z2.2.2.1 ++ [z2.2.2.2.2]) 0 (w64 (z2.2.2.2.1 + 1))) else none)) (fun r => some (.inr r))) else none) else (some (.inl x5))
def brindlewoodref3_Minus.l0 (k : Nat) : Nat → List Int → List Int → List Int → Int → Int → Option ((List Int) ⊕ (List Int))
  | 0 => fun _ _ _ _ _ => none
  | n + 1 => brindlewoodref3_Minus.b0 k (brindlewoodref3_Minus.l0 k n)
def brindlewoodref3_Minus (k : Nat) (a0 : List Int) (a1 : List Int) : Option (List Int) :=
  joinB (α := List Int) (brindlewoodref3_Minus.l0 k k a0 a1 [] 0 0) (fun y3 => (brindlewoodref3_trim_v k y3).bind fun t4 => some (sub y3 t4.1 t4.2)) some

def brindlewoodref3_Binary.b1 (k : Nat) (rec : List Bool → List Int → Int → Int → Int → Option ((List Bool × List Int × Int × Int) ⊕ (List Int))) (x0 : List Bool) (x3 : List Int) (x4 : Int) (x5 : Int) (x6 : Int) : Option ((List Bool × List Int × Int × Int) ⊕ (List Int)) :=
  bif decide (0 ≤ x6) then (bif decide (w64 (x4 + x6) < (x0.length : Int)) then (bif inR (w64 (x4 + x6)) (x0.length : Int) then (bif rdB x0 (w64 (x4 + x6)) then (rec x0 x3 x4 (w64 ((w64 (x5 * 2)) + 1)) (w64 (x6 - 1))) else (rec x0 x3 x4 (w64 (x5 * 2)) (w64 (x6 - 1)))) else none) else (rec x0 x3 x4 (w64 (x5 * 2)) (w64 (x6 - 1)))) else (some (.inl (x0, x3, x4, x5)))
def brindlewoodref3_Binary.l1 (k : Nat) : Nat → List Bool → List Int → Int → Int → Int → Option ((List Bool × List Int × Int × Int) ⊕ (List Int))
  | 0 => fun _ _ _ _ _ => none
  | n + 1 => brindlewoodref3_Binary.b1 k (brindlewoodref3_Binary.l1 k n)
def brindlewoodref3_Binary.b0 (k : Nat) (rec : List Bool → List Int → Int → Option ((List Int) ⊕ (List Int))) (x0 : List Bool) (x3 : List Int) (x4 : Int) : Option ((List Int) ⊕ (List Int)) :=
  bif decide (x4 < (x0.length : Int)) then (joinB (α := List Bool × List Int × Int × Int) (brindlewoodref3_Binary.l1 k k x0 x3 x4 0 15) (fun y1 => bif fitsB (y1.2.1.length + [y1.2.2.2].length) 8 then (rec y1.1 (y1.2.1 ++ [y1.2.2.2]) (w64 (y1.2.2.1 + 16))) else none) (fun r => some (.inr r))) else (some (.inl x3))
def brindlewoodref3_Binary.l0 (k : Nat) : Nat → List Bool → List Int → Int → Option ((List Int) ⊕ (List Int))
  | 0 => fun _ _ _ => none
  | n + 1 => brindlewoodref3_Binary.b0 k (brindlewoodref3_Binary.l0 k n)
def brindlewoodref3_Binary (k : Nat) (a0 : List Bool) : Option (List Int) :=
  joinB (α := List Int) (brindlewoodref3_Binary.l0 k k a0 [] 0) (fun y2 => (brindlewoodref3_trim_v k y2).bind fun t3 => some (sub y2 t3.1 t3.2)) some

def brindlewoodref3_Divide.b0 (k : Nat) (rec : List Int → List Bool → List Bool → List Int → Int → Option ((List Bool × List Int) ⊕ (List Int × List Int))) (x1 : List Int) (x6 : List Bool) (x7 : List Bool) (x8 : List Int) (x9 : Int) : Option ((List Bool × List Int) ⊕ (List Int × List Int)) :=
  bif decide (0 ≤ x9) then (bif inR x9 (x6.length : Int) then ((brindlewoodref3_Double k x8 (rdB x6 x9)).bind fun t2 => (brindlewoodref3_Compare k t2 x1).bind fun t3 => bif decide (0 ≤ t3) then ((brindlewoodref3_Minus k t2 x1).bind fun t4 => bif inR x9 (x7.length : Int) then (rec x1 x6 (x7.set (Int.toNat x9) true) t4 (w64 (x9 - 1))) else none) else (rec x1 x6 x7 t2 (w64 (x9 - 1)))) else none) else (some (.inl (x7, x8)))
def brindlewoodref3_Divide.l0 (k : Nat) : Nat → List Int → List Bool → List Bool → List Int → Int → Option ((List Bool × List Int) ⊕ (List Int × List Int))
  | 0 => fun _ _ _ _ _ => none
  | n + 1 => brindlewoodref3_Divide.b0 k (brindlewoodref3_Divide.l0 k n)
def brindlewoodref3_Divide (k : Nat) (a0 : List Int) (a1 : List Int) : Option (List Int × List Int) :=
  (brindlewoodref3_Ones k a0).bind fun t1 => bif ((decide (0 ≤ (t1.length : Int)) && decide ((t1.length : Int) ≤ (t1.length : Int))) && fitsB (Int.toNat (t1.length : Int)) 1) then (joinB (α := List Bool × List Int) (brindlewoodref3_Divide.l0 k k a1 t1 (List.replicate (Int.toNat (t1.length : Int)) (false : Bool)) [] (w64 ((t1.length : Int) - 1))) (fun y5 => (brindlewoodref3_Binary k y5.1).bind fun t6 => some (t6, y5.2)) some) else none

def brindlewoodref3_up (a0 : Int) (a1 : Bool) (a2 : Bool) (a3 : Int) : Option (Bool) :=
  bif (a0 == 0) then (some false) else (bif (a0 == 1) then (some true) else (bif (a0 == 2) then (some a1) else (bif (a0 == 3) then (some (!a1)) else (bif (a3 != 0) then (some (decide (0 < a3))) else (bif (a0 == 4) then (some true) else (bif (a0 == 6) then (some a2) else (some false)))))))

def brindlewoodref3_Plus.b0 (k : Nat) (rec : List Int → List Int → List Int → Int → Int → Option ((List Int) ⊕ (List Int))) (x0 : List Int) (x1 : List Int) (x5 : List Int) (x6 : Int) (x7 : Int) : Option ((List Int) ⊕ (List Int)) :=
  bif decide (x7 < (x0.length : Int)) then (joinB (α := List Int × List Int × List Int × Int × Int) (bif decide (x7 < (x0.length : Int)) then (bif inR x7 (x0.length : Int) then (some (.inl (x0, x1, x5, w64 (x6 + (rd x0 x7)), x7))) else none) else (some (.inl (x0, x1, x5, x6, x7)))) (fun z1 => bif decide (z1.2.2.2.2 < (z1.2.1.length : Int)) then (bif inR z1.2.2.2.2 (z1.2.1.length : Int) then (let c2 := w64 (z1.2.2.2.1 + (rd z1.2.1 z1.2.2.2.2)); bif fitsB (z1.2.2.1.length + [Int.tmod c2 65536].length) 8 then (rec z1.1 z1.2.1 (z1.2.2.1 ++ [Int.tmod c2 65536]) (w64 (Int.tdiv c2 65536)) (w64 (z1.2.2.2.2 + 1))) else none) else none) else (bif fitsB (z1.2.2.1.length + [Int.tmod z1.2.2.2.1 65536].length) 8 then (let c3 := w64 (Int.tdiv z1.2.2.2.1 65536); rec z1.1 z1.2.1 (z1.2.2.1 ++ [Int.tmod z1.2.2.2.1 65536]) c3 (w64 (z1.2.2.2.2 + 1))) else none)) (fun r => some (.inr r))) else (bif decide (x7 < (x1.length : Int)) then (joinB (α := List Int × List Int × List Int × Int × Int) (bif decide (x7 < (x0.length : Int)) then (bif inR x7 (x0.length : Int) then (some (.inl (x0, x1, x5, w64 (x6 + (rd x0 x7)), x7))) else none) else (some (.inl (x0, x1, x5, x6, x7)))) (fun z4 => bif decide (z4.2.2.2.2 < (z4.2.1.length : Int)) then (bif inR z4.2.2.2.2 (z4.2.1.length : Int) then (let c5 := w64 (z4.2.2.2.1 + (rd z4.2.1 z4.2.2.2.2)); bif fitsB (z4.2.2.1.length + [Int.tmod c5 65536].length) 8 then (rec z4.1 z4.2.1 (z4.2.2.1 ++ [Int.tmod c5 65536]) (w64 (Int.tdiv c5 65536)) (w64 (z4.2.2.2.2 + 1))) else none) else none) else (bif fitsB (z4.2.2.1.length + [Int.tmod z4.2.2.2.1 65536].length) 8 then (let c6 := w64 (Int.tdiv z4.2.2.2.1 65536); rec z4.1 z4.2.1 (z4.2.2.1 ++ [Int.tmod z4.2.2.2.1 65536]) c6 (w64 (z4.2.2.2.2 + 1))) else none)) (fun r => some (.inr r))) else (bif decide (0 < x6) then (joinB (α := List Int × List Int × List Int × Int × Int) (bif decide (x7 < (x0.length : Int)) then (bif inR x7 (x0.length : Int) then (some (.inl (x0, x1, x5, w64 (x6 + (rd x0 x7)), x7))) else none) else (some (.inl (x0, x1, x5, x6, x7)))) (fun z7 => bif decide (z7.2.2.2.2 < (z7.2.1.length : Int)) then (bif inR z7.2.2.2.2 (z7.2.1.length : Int) then (let c8 := w64 (z7.2.2.2.1 + (rd z7.2.1 z7.2.2.2.2)); bif fitsB (z7.2.2.1.length + [Int.tmod c8 65536].length) 8 then (rec z7.1 z7.2.1 (z7.2.2.1 ++ [Int.tmod c8 65536]) (w64 (Int.tdiv c8 65536)) (w64 (z7.2.2.2.2 + 1))) else none) else none) else (bif fitsB (z7.2.2.1.length + [Int.tmod z7.2.2.2.1 65536].length) 8 then (let c9 := w64 (Int.tdiv z7.2.2.2.1 65536); rec z7.1 z7.2.1 (z7.2.2.1 ++ [Int.tmod z7.2.2.2.1 65536]) c9 (w64 (z7.2.2.2.2 + 1))) else none)) (fun r => some (.inr r))) else (some (.inl x5))))
def brindlewoodref3_Plus.l0 (k : Nat) : Nat → List Int → List Int → List Int → Int → Int → Option ((List Int) ⊕ (List Int))
  | 0 => fun _ _ _ _ _ => none
  | n + 1 => brindlewoodref3_Plus.b0 k (brindlewoodref3_Plus.l0 k n)
def brindlewoodref3_Plus (k : Nat) (a0 : List Int) (a1 : List Int) : Option (List Int) :=
  joinB (α := List Int) (brindlewoodref3_Plus.l0 k k a0 a1 [] 0 0) (fun y10 => (brindlewoodref3_trim_v k y10).bind fun t11 => some (sub y10 t11.1 t11.2)) some

def brindlewoodref3_Exact_Rounded (k : Nat) (a0 : Bool × List Int × List Int × Int) (a1 : Int) (a2 : Int) : Option (List Int × Bool) :=
  (brindlewoodref3_Exact_parts k a0 a1).bind fun t1 => (brindlewoodref3_Divide k t1.1 t1.2).bind fun t2 => bif ((t2.2.length : Int) == 0) then (some (t2.1, false)) else (bif decide (0 < (t2.1.length : Int)) then (bif inR 0 (t2.1.length : Int) then ((brindlewoodref3_Double k t2.2 false).bind fun t3 => (brindlewoodref3_Compare k t3 t1.2).bind fun t4 => (brindlewoodref3_up a2 a0.1 ((Int.tmod (rd t2.1 0) 2) == 1) t4).bind fun t5 => bif t5 then ((brindlewoodref3_Small k 1).bind fun t6 => (brindlewoodref3_Plus k t2.1 t6).bind fun t7 => some (t7, true)) else (some (t2.1, true))) else none) else ((brindlewoodref3_Double k t2.2 false).bind fun t8 => (brindlewoodref3_Compare k t8 t1.2).bind fun t9 => (brindlewoodref3_up a2 a0.1 false t9).bind fun t10 => bif t10 then ((brindlewoodref3_Small k 1).bind fun t11 => (brindlewoodref3_Plus k t2.1 t11).bind fun t12 => some (t12, true)) else (some (t2.1, true))))

def brindlewoodref3_endless (a0 : Bool) : Option (Int × Bool × (Bool × List Int) × Int) :=
  some (1, a0, (false, []), 0)

def brindlewoodref3_settle.b0 (k : Nat) (rec : Bool → List Int → Int → Bool → Int → (Int × Int × Int × Int) → (Int × Bool × (Bool × List Int) × Int) → Int → Option ((Bool × List Int × Int × (Int × Int × Int × Int) × (Int × Bool × (Bool × List Int) × Int) × Int) ⊕ ((Int × Bool × (Bool × List Int) × Int) × Int))) (x0 : Bool) (x1 : List Int) (x2 : Int) (x4 : Bool) (x5 : Int) (x137 : Int × Int × Int × Int) (x138 : Int × Bool × (Bool × List Int) × Int) (x16 : Int) : Option ((Bool × List Int × Int × (Int × Int × Int × Int) × (Int × Bool × (Bool × List Int) × Int) × Int) ⊕ ((Int × Bool × (Bool × List Int) × Int) × Int)) :=
  bif (!x4) then (bif decide (x2 < x5) then ((brindlewoodref3_Halve k x1 10).bind fun t4 => bif (t4.2 != 0) then (some (.inl (x0, x1, x2, x137, x138, x16))) else (rec x0 t4.1 (w64 (x2 + 1)) x4 x5 x137 x138 x16)) else (some (.inl (x0, x1, x2, x137, x138, x16)))) else (some (.inl (x0, x1, x2, x137, x138, x16)))
def brindlewoodref3_settle.l0 (k : Nat) : Nat → Bool → List Int → Int → Bool → Int → (Int × Int × Int × Int) → (Int × Bool × (Bool × List Int) × Int) → Int → Option ((Bool × List Int × Int × (Int × Int × Int × Int) × (Int × Bool × (Bool × List Int) × Int) × Int) ⊕ ((Int × Bool × (Bool × List Int) × Int) × Int))
  | 0 => fun _ _ _ _ _ _ _ _ => none
  | n + 1 => brindlewoodref3_settle.b0 k (brindlewoodref3_settle.l0 k n)
def brindlewoodref3_settle (k : Nat) (a0 : Bool) (a1 : List Int) (a2 : Int) (a3 : Int) (a4 : Bool) (a5 : Int) (a6 : Int × Int × Int × Int) : Option ((Int × Bool × (Bool × List Int) × Int) × Int) :=
  joinB (α := Bool × List Int × Int × Int × Bool × Int × (Int × Int × Int × Int) × (Int × Bool × (Bool × List Int) × Int) × Int) (bif decide (a3 < a6.2.2.1) then (some (.inl (a0, a1, a2, a3, a4, a5, a6, (0, false, (false, []), 0), 2))) else (some (.inl (a0, a1, a2, a3, a4, a5, a6, (0, false, (false, []), 0), 0)))) (fun z1 => joinB (α := Bool × List Int × Int × Bool × Int × (Int × Int × Int × Int) × (Int × Bool × (Bool × List Int) × Int) × Int) (bif z1.2.2.2.2.1 then (bif decide (z1.2.2.2.1 < z1.2.2.2.2.2.2.1.2.2.1) then (let c2 := w64 ((w64 (z1.2.2.2.2.2.2.2.2 + 1)) + 4); some (.inl (z1.1, z1.2.1, z1.2.2.1, z1.2.2.2.2.1, z1.2.2.2.2.2.1, z1.2.2.2.2.2.2.1, z1.2.2.2.2.2.2.2.1, c2))) else (some (.inl (z1.1, z1.2.1, z1.2.2.1, z1.2.2.2.2.1, z1.2.2.2.2.2.1, z1.2.2.2.2.2.2.1, z1.2.2.2.2.2.2.2.1, w64 (z1.2.2.2.2.2.2.2.2 + 1))))) else (some (.inl (z1.1, z1.2.1, z1.2.2.1, z1.2.2.2.2.1, z1.2.2.2.2.2.1, z1.2.2.2.2.2.2.1, z1.2.2.2.2.2.2.2.1, z1.2.2.2.2.2.2.2.2)))) (fun z3 => joinB (α := Bool × List Int × Int × (Int × Int × Int × Int) × (Int × Bool × (Bool × List Int) × Int) × Int) (brindlewoodref3_settle.l0 k k z3.1 z3.2.1 z3.2.2.1 z3.2.2.2.1 z3.2.2.2.2.1 z3.2.2.2.2.2.1 z3.2.2.2.2.2.2.1 z3.2.2.2.2.2.2.2) (fun y5 => joinB (α := Bool × List Int × Int × (Int × Int × Int × Int) × (Int × Bool × (Bool × List Int) × Int) × Int) ((brindlewoodref3_Figures k y5.2.1 10).bind fun t6 => bif decide (y5.2.2.2.1.1 < (t6.length : Int)) then ((brindlewoodref3_Halve k y5.2.1 10).bind fun t7 => some (.inl (y5.1, t7.1, w64 (y5.2.2.1 + 1), y5.2.2.2.1, y5.2.2.2.2.1, y5.2.2.2.2.2))) else (some (.inl (y5.1, y5.2.1, y5.2.2.1, y5.2.2.2.1, y5.2.2.2.2.1, y5.2.2.2.2.2)))) (fun z8 => (brindlewoodref3_Figures k z8.2.1 10).bind fun t9 => joinB (α := Bool × List Int × Int × (Int × Int × Int × Int) × (Int × Bool × (Bool × List Int) × Int) × Int × Bool) (bif decide (0 < (t9.length : Int)) then (some (.inl (z8.1, z8.2.1, z8.2.2.1, z8.2.2.2.1, z8.2.2.2.2.1, z8.2.2.2.2.2, decide (z8.2.2.2.1.2.2.2 < w64 ((w64 ((t9.length : Int) - 1)) + z8.2.2.1))))) else (some (.inl (z8.1, z8.2.1, z8.2.2.1, z8.2.2.2.1, z8.2.2.2.2.1, z8.2.2.2.2.2, false)))) (fun z10 => bif z10.2.2.2.2.2.2 then (joinB (α := Bool × (Int × Int × Int × Int) × (Int × Bool × (Bool × List Int) × Int) × Int) (bif decide (4 ≤ z10.2.2.2.1.2.1) then ((brindlewoodref3_endless z10.1).bind fun t11 => some (.inr (t11, 9))) else (bif (z10.2.2.2.1.2.1 == 1) then ((brindlewoodref3_endless z10.1).bind fun t12 => some (.inr (t12, 9))) else (bif (z10.2.2.2.1.2.1 == 2) then (bif z10.1 then ((brindlewoodref3_endless z10.1).bind fun t13 => some (.inr (t13, 9))) else (bif (z10.2.2.2.1.2.1 == 3) then (bif (!z10.1) then ((brindlewoodref3_endless z10.1).bind fun t14 => some (.inr (t14, 9))) else (some (.inl (z10.1, z10.2.2.2.1, z10.2.2.2.2.1, 9)))) else (some (.inl (z10.1, z10.2.2.2.1, z10.2.2.2.2.1, 9))))) else (bif (z10.2.2.2.1.2.1 == 3) then (bif (!z10.1) then ((brindlewoodref3_endless z10.1).bind fun t15 => some (.inr (t15, 9))) else (some (.inl (z10.1, z10.2.2.2.1, z10.2.2.2.2.1, 9)))) else (some (.inl (z10.1, z10.2.2.2.1, z10.2.2.2.2.1, 9))))))) (fun z16 => (brindlewoodref3_Ten k z16.2.1.1).bind fun t17 => (brindlewoodref3_Small k 1).bind fun t18 => (brindlewoodref3_Minus k t17 t18).bind fun t19 => (brindlewoodref3_Finite k z16.1 t19 (w64 ((w64 (z16.2.1.2.2.2 - z16.2.1.1)) + 1))).bind fun t20 => some (t20, z16.2.2.2)) some) else ((brindlewoodref3_Finite k z10.1 z10.2.1 z10.2.2.1).bind fun t21 => some (t21, z10.2.2.2.2.2.1))) some) some) some) some) some

def brindlewoodref3_Exact_Fit (k : Nat) (a0 : Bool × List Int × List Int × Int) (a1 : Int) (a2 : Int × Int × Int × Int) : Option ((Int × Bool × (Bool × List Int) × Int) × Int) :=
  let c1 := w64 ((w64 (a2.2.2.1 - a2.1)) + 1); bif ((a0.2.1.length : Int) == 0) then (bif decide (a2.2.2.2 < a1) then (bif decide (a2.2.2.2 < c1) then ((brindlewoodref3_Finite k a0.1 [] c1).bind fun t2 => some (t2, 0)) else ((brindlewoodref3_Finite k a0.1 [] a2.2.2.2).bind fun t3 => some (t3, 0))) else (bif decide (a1 < c1) then ((brindlewoodref3_Finite k a0.1 [] c1).bind fun t4 => some (t4, 0)) else ((brindlewoodref3_Finite k a0.1 [] a1).bind fun t5 => some (t5, 0)))) else ((brindlewoodref3_Exact_First k a0).bind fun t6 => joinB (α := Int × (Bool × List Int × List Int × Int) × (Int × Int × Int × Int) × (Int × Bool × (Bool × List Int) × Int) × Int × Int) (bif decide (w64 ((w64 (t6 - a2.1)) + 1) < c1) then (some (.inl (a1, a0, a2, (0, false, (false, []), 0), t6, c1))) else (some (.inl (a1, a0, a2, (0, false, (false, []), 0), t6, w64 ((w64 (t6 - a2.1)) + 1))))) (fun z7 => (brindlewoodref3_Exact_Rounded k z7.2.1 z7.2.2.2.2.2 z7.2.2.1.2.1).bind fun t8 => (brindlewoodref3_settle k z7.2.1.1 t8.1 z7.2.2.2.2.2 z7.2.2.2.2.1 t8.2 z7.1 z7.2.2.1).bind fun t9 => some (t9.1, t9.2)) some)

def brindlewoodref3_Fitted (k : Nat) (a0 : Int × Bool × (Bool × List Int) × Int) (a1 : Int × Int × Int × Int) : Option ((Int × Bool × (Bool × List Int) × Int) × Int) :=
  bif (a0.1 != 0) then (some (a0, 0)) else ((brindlewoodref3_Value k a0).bind fun t1 => (brindlewoodref3_Exact_Fit k t1 a0.2.2.2 a1).bind fun t2 => some (t2.1, t2.2))

def brindlewoodref3_Reduced.b0 (k : Nat) (rec : (Int × Bool × (Bool × List Int) × Int) → (Int × Bool × (Bool × List Int) × Int) → Int → List Int → Int → Option (((Int × Bool × (Bool × List Int) × Int) × (Int × Bool × (Bool × List Int) × Int) × Int × List Int × Int) ⊕ ((Int × Bool × (Bool × List Int) × Int) × Int))) (x58 : Int × Bool × (Bool × List Int) × Int) (x60 : Int × Bool × (Bool × List Int) × Int) (x7 : Int) (x8 : List Int) (x9 : Int) : Option (((Int × Bool × (Bool × List Int) × Int) × (Int × Bool × (Bool × List Int) × Int) × Int × List Int × Int) ⊕ ((Int × Bool × (Bool × List Int) × Int) × Int)) :=
  bif decide (x9 < 1200) then ((brindlewoodref3_Halve k x8 10).bind fun t4 => bif (t4.2 != 0) then (some (.inl (x58, x60, x7, x8, x9))) else (rec x58 x60 x7 t4.1 (w64 (x9 + 1)))) else (some (.inl (x58, x60, x7, x8, x9)))
def brindlewoodref3_Reduced.l0 (k : Nat) : Nat → (Int × Bool × (Bool × List Int) × Int) → (Int × Bool × (Bool × List Int) × Int) → Int → List Int → Int → Option (((Int × Bool × (Bool × List Int) × Int) × (Int × Bool × (Bool × List Int) × Int) × Int × List Int × Int) ⊕ ((Int × Bool × (Bool × List Int) × Int) × Int))
  | 0 => fun _ _ _ _ _ => none
  | n + 1 => brindlewoodref3_Reduced.b0 k (brindlewoodref3_Reduced.l0 k n)
def brindlewoodref3_Reduced (k : Nat) (a0 : Int × Bool × (Bool × List Int) × Int) (a1 : Int × Int × Int × Int) : Option ((Int × Bool × (Bool × List Int) × Int) × Int) :=
  (brindlewoodref3_Fitted k a0 a1).bind fun t1 => bif (t1.1.1 != 0) then (some (t1.1, t1.2)) else ((brindlewoodref3_Of k t1.1.2.2.1.2).bind fun t2 => bif ((t2.length : Int) == 0) then ((brindlewoodref3_Finite k t1.1.2.1 [] 0).bind fun t3 => some (t3, t1.2)) else (joinB (α := (Int × Bool × (Bool × List Int) × Int) × (Int × Bool × (Bool × List Int) × Int) × Int × List Int × Int) (brindlewoodref3_Reduced.l0 k k (0, false, (false, []), 0) t1.1 t1.2 t2 t1.1.2.2.2) (fun y5 => (brindlewoodref3_Finite k y5.2.1.2.1 y5.2.2.2.1 y5.2.2.2.2).bind fun t6 => some (t6, y5.2.2.1)) some))

def brindlewoodref3_nothing  : Option (Int × Bool × (Bool × List Int) × Int) :=
  some (2, false, (false, []), 0)

def brindlewoodref3_Quantized (k : Nat) (a0 : Int × Bool × (Bool × List Int) × Int) (a1 : Int) (a2 : Int × Int × Int × Int) : Option ((Int × Bool × (Bool × List Int) × Int) × Int) :=
  joinB (α := Int × (Int × Bool × (Bool × List Int) × Int) × (Int × Int × Int × Int) × Int × Bool × (Bool × List Int) × Int) (bif (a0.1 == 2) then ((brindlewoodref3_nothing).bind fun t1 => some (.inr (t1, 0))) else (bif (a0.1 == 1) then ((brindlewoodref3_nothing).bind fun t2 => some (.inr (t2, 32))) else (bif decide (a1 < w64 ((w64 (a2.2.2.1 - a2.1)) + 1)) then ((brindlewoodref3_nothing).bind fun t3 => some (.inr (t3, 32))) else (bif decide (a2.2.2.2 < a1) then ((brindlewoodref3_nothing).bind fun t4 => some (.inr (t4, 32))) else (some (.inl (a1, a0, a2, (0, false, (false, []), 0)))))))) (fun z5 => (brindlewoodref3_Value k z5.2.1).bind fun t6 => (brindlewoodref3_Exact_Rounded k t6 z5.1 z5.2.2.1.2.1).bind fun t7 => (brindlewoodref3_Figures k t7.1 10).bind fun t8 => joinB (α := Int × (Int × Bool × (Bool × List Int) × Int) × (Int × Bool × (Bool × List Int) × Int) × List Int × Bool × Bool) (bif decide (z5.2.2.1.1 < (t8.length : Int)) then (some (.inl (z5.1, z5.2.1, z5.2.2.2, t7.1, t7.2, true))) else (bif decide (0 < (t8.length : Int)) then (let c9 := decide (z5.2.2.1.2.2.2 < w64 ((w64 ((t8.length : Int) - 1)) + z5.1)); some (.inl (z5.1, z5.2.1, z5.2.2.2, t7.1, t7.2, c9))) else (some (.inl (z5.1, z5.2.1, z5.2.2.2, t7.1, t7.2, false))))) (fun z10 => bif z10.2.2.2.2.2 then ((brindlewoodref3_nothing).bind fun t11 => some (t11, 32)) else (bif z10.2.2.2.2.1 then ((brindlewoodref3_Finite k z10.2.1.2.1 z10.2.2.2.1 z10.1).bind fun t12 => some (t12, 1)) else ((brindlewoodref3_Finite k z10.2.1.2.1 z10.2.2.2.1 z10.1).bind fun t13 => some (t13, 0)))) some) some

def stringslite_HasPrefix (a0 : ByteArray) (a1 : ByteArray) : Option (Bool) :=
  bif decide ((a1.size : Int) ≤ (a0.size : Int)) then (bif ((decide (0 ≤ 0) && decide (0 ≤ (a1.size : Int))) && decide ((a1.size : Int) ≤ (a0.size : Int))) then (let c1 := ((a0.extract 0 (Int.toNat (a1.size : Int))).toList == a1.toList); some c1) else none) else (some false)

def stringslite_CutPrefix (a0 : ByteArray) (a1 : ByteArray) : Option (ByteArray × Bool) :=
  (stringslite_HasPrefix a0 a1).bind fun t1 => bif (!t1) then (some (a0, false)) else (bif ((decide (0 ≤ (a1.size : Int)) && decide ((a1.size : Int) ≤ (a0.size : Int))) && decide ((a0.size : Int) ≤ (a0.size : Int))) then (some (a0.extract (Int.toNat (a1.size : Int)) (Int.toNat (a0.size : Int)), true)) else none)

def strings_CutPrefix (a0 : ByteArray) (a1 : ByteArray) : Option (ByteArray × Bool) :=
  (stringslite_CutPrefix a0 a1).bind fun t1 => some (t1.1, t1.2)

def stringslite_IndexByte (a0 : ByteArray) (a1 : Int) : Option (Int) := some (Go.Lib.indexByte a0.data.toList a1.toNat.toUInt8)

def stringslite_Index (a0 : ByteArray) (a1 : ByteArray) : Option (Int) :=
  joinB (α := ByteArray × ByteArray × Int × Bool) (bif ((a1.size : Int) == 0) then (some (.inl (a0, a1, (a1.size : Int), true))) else (some (.inl (a0, a1, (a1.size : Int), (a1.toList == a0.toList))))) (fun z1 => bif z1.2.2.2 then (some 0) else (bif (z1.2.2.1 == 1) then (bif inR 0 (z1.2.1.size : Int) then ((stringslite_IndexByte z1.1 (rd (bytesOf z1.2.1) 0)).bind fun t2 => some t2) else none) else (let c3 := decide ((z1.1.size : Int) ≤ z1.2.2.1); bif c3 then (some (-1)) else none))) some

def stringslite_Cut (a0 : ByteArray) (a1 : ByteArray) : Option (ByteArray × ByteArray × Bool) :=
  (stringslite_Index a0 a1).bind fun t1 => bif decide (0 ≤ t1) then (bif ((decide (0 ≤ 0) && decide (0 ≤ t1)) && decide (t1 ≤ (a0.size : Int))) then (bif ((decide (0 ≤ w64 (t1 + (a1.size : Int))) && decide (w64 (t1 + (a1.size : Int)) ≤ (a0.size : Int))) && decide ((a0.size : Int) ≤ (a0.size : Int))) then (some (a0.extract 0 (Int.toNat t1), a0.extract (Int.toNat (w64 (t1 + (a1.size : Int)))) (Int.toNat (a0.size : Int)), true)) else none) else none) else (some (a0, ByteArray.empty, false))

def strings_Cut (a0 : ByteArray) (a1 : ByteArray) : Option (ByteArray × ByteArray × Bool) :=
  (stringslite_Cut a0 a1).bind fun t1 => some (t1.1, t1.2.1, t1.2.2)

def strings_HasPrefix (a0 : ByteArray) (a1 : ByteArray) : Option (Bool) :=
  (stringslite_HasPrefix a0 a1).bind fun t1 => some t1

def decimal_allDigits.b0 (k : Nat) (rec : ByteArray → Int → Int → Option ((ByteArray) ⊕ (Bool))) (x0 : ByteArray) (x5 : Int) (x6 : Int) : Option ((ByteArray) ⊕ (Bool)) :=
  bif decide (x6 < x5) then (bif inR x6 (x0.size : Int) then (bif decide (rd (bytesOf x0) x6 < 48) then (some (.inr false)) else (bif inR x6 (x0.size : Int) then (bif decide (57 < rd (bytesOf x0) x6) then (some (.inr false)) else (rec x0 x5 (w64 (x6 + 1)))) else none)) else none) else (some (.inl x0))
def decimal_allDigits.l0 (k : Nat) : Nat → ByteArray → Int → Int → Option ((ByteArray) ⊕ (Bool))
  | 0 => fun _ _ _ => none
  | n + 1 => decimal_allDigits.b0 k (decimal_allDigits.l0 k n)
def decimal_allDigits (k : Nat) (a0 : ByteArray) : Option (Bool) :=
  joinB (α := ByteArray) (decimal_allDigits.l0 k k a0 (a0.size : Int) 0) (fun y1 => let c2 := (!(y1.toList == ByteArray.empty.toList)); some c2) some

def decimal_exponent (k : Nat) (a0 : ByteArray) : Option (Int × Bool) :=
  (strings_HasPrefix a0 (⟨#[45]⟩ : ByteArray)).bind fun t1 => joinB (α := ByteArray × Bool) (bif t1 then (bif ((decide (0 ≤ 1) && decide (1 ≤ (a0.size : Int))) && decide ((a0.size : Int) ≤ (a0.size : Int))) then (some (.inl (a0.extract 1 (Int.toNat (a0.size : Int)), t1))) else none) else ((strings_HasPrefix a0 (⟨#[43]⟩ : ByteArray)).bind fun t2 => bif t2 then (bif ((decide (0 ≤ 1) && decide (1 ≤ (a0.size : Int))) && decide ((a0.size : Int) ≤ (a0.size : Int))) then (some (.inl (a0.extract 1 (Int.toNat (a0.size : Int)), t1))) else none) else (some (.inl (a0, t1))))) (fun z3 => joinB (α := ByteArray × Bool) ((decimal_allDigits k z3.1).bind fun t4 => bif (!t4) then (some (.inr (0, false))) else (bif decide (4 < (z3.1.size : Int)) then (some (.inr (0, false))) else (bif decide (1 < (z3.1.size : Int)) then (bif inR 0 (z3.1.size : Int) then (bif ((rd (bytesOf z3.1) 0) == 48) then (some (.inr (0, false))) else (some (.inl (z3.1, z3.2)))) else none) else (some (.inl (z3.1, z3.2)))))) (fun z5 => none) some) some

def strings_trimLeftByte.b0 (k : Nat) (rec : ByteArray → Int → Option ((ByteArray) ⊕ (ByteArray))) (x0 : ByteArray) (x1 : Int) : Option ((ByteArray) ⊕ (ByteArray)) :=
  bif decide (0 < (x0.size : Int)) then (bif inR 0 (x0.size : Int) then (bif ((rd (bytesOf x0) 0) == x1) then (bif ((decide (0 ≤ 1) && decide (1 ≤ (x0.size : Int))) && decide ((x0.size : Int) ≤ (x0.size : Int))) then (rec (x0.extract 1 (Int.toNat (x0.size : Int))) x1) else none) else (some (.inl x0))) else none) else (some (.inl x0))
def strings_trimLeftByte.l0 (k : Nat) : Nat → ByteArray → Int → Option ((ByteArray) ⊕ (ByteArray))
  | 0 => fun _ _ => none
  | n + 1 => strings_trimLeftByte.b0 k (strings_trimLeftByte.l0 k n)
def strings_trimLeftByte (k : Nat) (a0 : ByteArray) (a1 : Int) : Option (ByteArray) :=
  joinB (α := ByteArray) (strings_trimLeftByte.l0 k k a0 a1) (fun y1 => some y1) some

def strings_TrimLeft (k : Nat) (a0 : ByteArray) (a1 : ByteArray) : Option (ByteArray) :=
  joinB (α := ByteArray × ByteArray) (bif (a0.toList == ByteArray.empty.toList) then (some (.inr a0)) else (bif (a1.toList == ByteArray.empty.toList) then (some (.inr a0)) else (some (.inl (a0, a1))))) (fun z1 => joinB (α := ByteArray × ByteArray) (bif ((z1.2.size : Int) == 1) then (bif inR 0 (z1.2.size : Int) then (bif decide (rd (bytesOf z1.2) 0 < 128) then (bif inR 0 (z1.2.size : Int) then ((strings_trimLeftByte k z1.1 (rd (bytesOf z1.2) 0)).bind fun t2 => some (.inr t2)) else none) else (some (.inl (z1.1, z1.2)))) else none) else (some (.inl (z1.1, z1.2)))) (fun z3 => none) some) some

def integer_at (a0 : Int) (a1 : Int) : Option (Int × Int) :=
  some (a0, a1)

def slices_Index_bytebyte.b0 (k : Nat) (rec : List Int → Int → Int → Int → Option ((Unit) ⊕ (Int))) (x0 : List Int) (x1 : Int) (x7 : Int) (x8 : Int) : Option ((Unit) ⊕ (Int)) :=
  bif decide (x8 < x7) then (bif inR x8 (x0.length : Int) then (bif (x1 == (rd x0 x8)) then (some (.inr x8)) else (rec x0 x1 x7 (w64 (x8 + 1)))) else none) else (some (.inl ()))
def slices_Index_bytebyte.l0 (k : Nat) : Nat → List Int → Int → Int → Int → Option ((Unit) ⊕ (Int))
  | 0 => fun _ _ _ _ => none
  | n + 1 => slices_Index_bytebyte.b0 k (slices_Index_bytebyte.l0 k n)
def slices_Index_bytebyte (k : Nat) (a0 : List Int) (a1 : Int) : Option (Int) :=
  joinB (α := Unit) (slices_Index_bytebyte.l0 k k a0 a1 (a0.length : Int) 0) (fun y1 => some (-1)) some

def natural_From.b0 (k : Nat) (rec : Int → (Int × Int) → List Int → List Int → Int → Int → Option (((Int × Int) × List Int) ⊕ (List Int × Int × Int))) (x1 : Int) (x55 : Int × Int) (x6 : List Int) (x16 : List Int) (x17 : Int) (x18 : Int) : Option (((Int × Int) × List Int) ⊕ (List Int × Int × Int)) :=
  bif decide (x18 < x17) then (bif inR x18 (x16.length : Int) then (joinB (α := Int × (Int × Int) × List Int × Int × List Int × Int × Int × Int × Int × Bool) (bif decide (rd x16 x18 < 0) then ((natural_at 4 x18).bind fun t4 => some (.inr ([], t4))) else (bif decide (x1 ≤ rd x16 x18) then ((natural_at 4 x18).bind fun t5 => some (.inr ([], t5))) else (some (.inl (x1, x55, x6, rd x16 x18, x16, x17, x18, rd x16 x18, x1, decide (x1 ≤ rd x16 x18)))))) (fun z6 => bif decide (600 < (z6.2.2.1.length : Int)) then (rec z6.1 z6.2.1 z6.2.2.1 z6.2.2.2.2.1 z6.2.2.2.2.2.1 (w64 (z6.2.2.2.2.2.2.1 + 1))) else ((natural_mul k z6.2.2.1 [wu32 (z6.1)]).bind fun t7 => (natural_trim_v k [wu32 (z6.2.2.2.1)]).bind fun t8 => (natural_add k t7 (sub [wu32 (z6.2.2.2.1)] t8.1 t8.2)).bind fun t9 => rec z6.1 z6.2.1 t9 z6.2.2.2.2.1 z6.2.2.2.2.2.1 (w64 (z6.2.2.2.2.2.2.1 + 1)))) (fun r => some (.inr r))) else none) else (some (.inl (x55, x6)))
def natural_From.l0 (k : Nat) : Nat → Int → (Int × Int) → List Int → List Int → Int → Int → Option (((Int × Int) × List Int) ⊕ (List Int × Int × Int))
  | 0 => fun _ _ _ _ _ _ => none
  | n + 1 => natural_From.b0 k (natural_From.l0 k n)
def natural_From (k : Nat) (a0 : List Int) (a1 : Int) : Option (List Int × Int × Int) :=
  joinB (α := List Int × Int × Int × Int) (bif decide (a1 < 2) then ((natural_at 4 (-2)).bind fun t1 => some (.inr ([], t1))) else (bif decide (36 < a1) then ((natural_at 4 (-2)).bind fun t2 => some (.inr ([], t2))) else (some (.inl (a0, a1, (0, 0)))))) (fun z3 => joinB (α := (Int × Int) × List Int) (natural_From.l0 k k z3.2.1 z3.2.2 [] z3.1 (z3.1.length : Int) 0) (fun y10 => (natural_fit k y10.2).bind fun t11 => some (t11.1, t11.2)) some) some

def integer_signed (a0 : Bool) (a1 : List Int) : Option ((Bool × List Int) × Int × Int) :=
  bif decide (128 < (a1.length : Int)) then ((integer_at 14 (-1)).bind fun t1 => some ((false, []), t1)) else (bif a0 then (some ((decide (0 < (a1.length : Int)), a1), (0, 0))) else (some ((false, a1), (0, 0))))

def integer_Parse.b0 (k : Nat) (rec : Int → (Bool × List Int) → (Int × Int) → ByteArray → Bool → List Int → Int → Int → Option ((Int × (Bool × List Int) × (Int × Int) × Bool × List Int) ⊕ ((Bool × List Int) × Int × Int))) (x1 : Int) (x93 : Bool × List Int) (x94 : Int × Int) (x6 : ByteArray) (x7 : Bool) (x8 : List Int) (x53 : Int) (x54 : Int) : Option ((Int × (Bool × List Int) × (Int × Int) × Bool × List Int) ⊕ ((Bool × List Int) × Int × Int)) :=
  bif decide (x54 < x53) then (bif ((decide (0 ≤ 0) && decide (0 ≤ x1)) && decide (x1 ≤ ((⟨#[48, 49, 50, 51, 52, 53, 54, 55, 56, 57, 97, 98, 99, 100, 101, 102, 103, 104, 105, 106, 107, 108, 109, 110, 111, 112, 113, 114, 115, 116, 117, 118, 119, 120, 121, 122]⟩ : ByteArray).size : Int))) then (bif fitsB ((⟨#[48, 49, 50, 51, 52, 53, 54, 55, 56, 57, 97, 98, 99, 100, 101, 102, 103, 104, 105, 106, 107, 108, 109, 110, 111, 112, 113, 114, 115, 116, 117, 118, 119, 120, 121, 122]⟩ : ByteArray).extract 0 (Int.toNat x1)).size 1 then (bif inR x54 (x6.size : Int) then ((slices_Index_bytebyte k (bytesOf ((⟨#[48, 49, 50, 51, 52, 53, 54, 55, 56, 57, 97, 98, 99, 100, 101, 102, 103, 104, 105, 106, 107, 108, 109, 110, 111, 112, 113, 114, 115, 116, 117, 118, 119, 120, 121, 122]⟩ : ByteArray).extract 0 (Int.toNat x1))) (rd (bytesOf x6) x54)).bind fun t9 => bif decide (t9 < 0) then ((integer_at 1 (-1)).bind fun t10 => some (.inr ((false, []), t10))) else (bif fitsB (x8.length + [t9].length) 8 then (rec x1 x93 x94 x6 x7 (x8 ++ [t9]) x53 (w64 (x54 + 1))) else none)) else none) else none) else none) else (some (.inl (x1, x93, x94, x7, x8)))
def integer_Parse.l0 (k : Nat) : Nat → Int → (Bool × List Int) → (Int × Int) → ByteArray → Bool → List Int → Int → Int → Option ((Int × (Bool × List Int) × (Int × Int) × Bool × List Int) ⊕ ((Bool × List Int) × Int × Int))
  | 0 => fun _ _ _ _ _ _ _ _ => none
  | n + 1 => integer_Parse.b0 k (integer_Parse.l0 k n)
def integer_Parse (k : Nat) (a0 : ByteArray) (a1 : Int) : Option ((Bool × List Int) × Int × Int) :=
  joinB (α := ByteArray × Int × (Bool × List Int) × (Int × Int) × Bool) (bif decide (a1 < 2) then (some (.inl (a0, a1, (false, []), (0, 0), true))) else (some (.inl (a0, a1, (false, []), (0, 0), decide (36 < a1))))) (fun z1 => bif z1.2.2.2.2 then ((integer_at 4 (-2)).bind fun t2 => some ((false, []), t2)) else (let c3 := decide (4097 < (z1.1.size : Int)); bif c3 then ((integer_at 3 (-1)).bind fun t4 => some ((false, []), t4)) else (joinB (α := ByteArray × Int × (Bool × List Int) × (Int × Int) × ByteArray × Bool) (bif decide (0 < (z1.1.size : Int)) then (bif inR 0 (z1.1.size : Int) then (bif ((rd (bytesOf z1.1) 0) == 45) then (bif ((decide (0 ≤ 1) && decide (1 ≤ (z1.1.size : Int))) && decide ((z1.1.size : Int) ≤ (z1.1.size : Int))) then (some (.inl (z1.1, z1.2.1, z1.2.2.1, z1.2.2.2.1, z1.1.extract 1 (Int.toNat (z1.1.size : Int)), true))) else none) else (some (.inl (z1.1, z1.2.1, z1.2.2.1, z1.2.2.2.1, z1.1, false)))) else none) else (some (.inl (z1.1, z1.2.1, z1.2.2.1, z1.2.2.2.1, z1.1, false)))) (fun z5 => joinB (α := Int × (Bool × List Int) × (Int × Int) × ByteArray × Bool) (bif (z5.2.2.2.2.1.toList == ByteArray.empty.toList) then ((integer_at 1 (-1)).bind fun t6 => some (.inr ((false, []), t6))) else (bif inR 0 (z5.2.2.2.2.1.size : Int) then (bif ((rd (bytesOf z5.2.2.2.2.1) 0) == 48) then (bif (!(z5.1.toList == (⟨#[48]⟩ : ByteArray).toList)) then ((integer_at 1 (-1)).bind fun t7 => some (.inr ((false, []), t7))) else (some (.inl (z5.2.1, z5.2.2.1, z5.2.2.2.1, z5.2.2.2.2.1, z5.2.2.2.2.2)))) else (some (.inl (z5.2.1, z5.2.2.1, z5.2.2.2.1, z5.2.2.2.2.1, z5.2.2.2.2.2)))) else none)) (fun z8 => joinB (α := Int × (Bool × List Int) × (Int × Int) × Bool × List Int) (integer_Parse.l0 k k z8.1 z8.2.1 z8.2.2.1 z8.2.2.2.1 z8.2.2.2.2 [] (z8.2.2.2.1.size : Int) 0) (fun y11 => (natural_From k y11.2.2.2.2 y11.1).bind fun t12 => bif (t12.2.1 != 0) then ((integer_at 14 (-1)).bind fun t13 => some ((false, []), t13)) else ((integer_signed y11.2.2.2.1 t12.1).bind fun t14 => some (t14.1, t14.2))) some) some) some))) some

def decimal_Parse (k : Nat) (a0 : ByteArray) : Option ((Int × Bool × (Bool × List Int) × Int) × Int × Int) :=
  bif decide (400 < (a0.size : Int)) then ((decimal_at 3 (-1)).bind fun t1 => some ((0, false, (false, []), 0), t1)) else ((strings_CutPrefix a0 (⟨#[45]⟩ : ByteArray)).bind fun t2 => let c3 := (t2.1.toList == (⟨#[105, 110, 102, 105, 110, 105, 116, 101]⟩ : ByteArray).toList); bif c3 then ((decimal_infinite t2.2).bind fun t4 => some (t4, (0, 0))) else (let c5 := (a0.toList == (⟨#[110, 111, 110, 101]⟩ : ByteArray).toList); bif c5 then ((decimal_none).bind fun t6 => some (t6, (0, 0))) else ((strings_Cut t2.1 (⟨#[69]⟩ : ByteArray)).bind fun t7 => joinB (α := (Int × Bool × (Bool × List Int) × Int) × (Int × Int) × Bool × ByteArray × Int × Bool) (bif t7.2.2 then ((decimal_exponent k t7.2.1).bind fun t8 => some (.inl ((0, false, (false, []), 0), (0, 0), t2.2, t7.1, t8.1, t8.2))) else (some (.inl ((0, false, (false, []), 0), (0, 0), t2.2, t7.1, 0, true)))) (fun z9 => (strings_Cut z9.2.2.2.1 (⟨#[46]⟩ : ByteArray)).bind fun t10 => joinB (α := (Int × Bool × (Bool × List Int) × Int) × (Int × Int) × Bool × Int × ByteArray × ByteArray) (bif (!z9.2.2.2.2.2) then ((decimal_at 1 (-1)).bind fun t11 => some (.inr ((0, false, (false, []), 0), t11))) else ((decimal_allDigits k t10.1).bind fun t12 => bif (!t12) then ((decimal_at 1 (-1)).bind fun t13 => some (.inr ((0, false, (false, []), 0), t13))) else (bif t10.2.2 then ((decimal_allDigits k t10.2.1).bind fun t14 => bif (!t14) then ((decimal_at 1 (-1)).bind fun t15 => some (.inr ((0, false, (false, []), 0), t15))) else (some (.inl (z9.1, z9.2.1, z9.2.2.1, z9.2.2.2.2.1, t10.1, t10.2.1)))) else (some (.inl (z9.1, z9.2.1, z9.2.2.1, z9.2.2.2.2.1, t10.1, t10.2.1)))))) (fun z16 => bif Nat.ble (z16.2.2.2.2.1.size + z16.2.2.2.2.2.size) 9223372036854775807 then ((strings_TrimLeft k (z16.2.2.2.2.1 ++ z16.2.2.2.2.2) (⟨#[48]⟩ : ByteArray)).bind fun t17 => bif decide (120 < (t17.size : Int)) then ((decimal_at 14 (-1)).bind fun t18 => some ((0, false, (false, []), 0), t18)) else (joinB (α := (Int × Bool × (Bool × List Int) × Int) × (Int × Int) × Bool × Int × ByteArray) (let c19 := w64 (z16.2.2.2.1 - (z16.2.2.2.2.2.size : Int)); bif decide (c19 < (-1200)) then ((decimal_at 4 (-1)).bind fun t20 => some (.inr ((0, false, (false, []), 0), t20))) else (bif decide (1200 < c19) then ((decimal_at 4 (-1)).bind fun t21 => some (.inr ((0, false, (false, []), 0), t21))) else (some (.inl (z16.1, z16.2.1, z16.2.2.1, c19, t17))))) (fun z22 => joinB (α := (Int × Bool × (Bool × List Int) × Int) × (Int × Int) × Bool × Int × ByteArray) (bif (z22.2.2.2.2.toList == ByteArray.empty.toList) then (some (.inl (z22.1, z22.2.1, z22.2.2.1, z22.2.2.2.1, (⟨#[48]⟩ : ByteArray)))) else (some (.inl (z22.1, z22.2.1, z22.2.2.1, z22.2.2.2.1, z22.2.2.2.2)))) (fun z23 => (integer_Parse k z23.2.2.2.2 10).bind fun t24 => some ((0, z23.2.2.1, t24.1, z23.2.2.2.1), (0, 0))) some) some)) else none) some) some)))

def decimal_special (a0 : Int × Bool × (Bool × List Int) × Int) (a1 : Int × Bool × (Bool × List Int) × Int) : Option ((Int × Bool × (Bool × List Int) × Int) × Int) :=
  joinB (α := (Int × Bool × (Bool × List Int) × Int) × (Int × Bool × (Bool × List Int) × Int) × (Int × Bool × (Bool × List Int) × Int) × Bool) (bif (a0.1 == 2) then (some (.inl (a0, a1, (0, false, (false, []), 0), true))) else (some (.inl (a0, a1, (0, false, (false, []), 0), (a1.1 == 2))))) (fun z1 => bif z1.2.2.2 then ((decimal_none).bind fun t2 => some (t2, 0)) else (joinB (α := (Int × Bool × (Bool × List Int) × Int) × (Int × Bool × (Bool × List Int) × Int) × (Int × Bool × (Bool × List Int) × Int) × Bool) (bif (z1.1.1 == 1) then (bif (z1.2.1.1 == 1) then (some (.inl (z1.1, z1.2.1, z1.2.2.1, (!(z1.1.2.1 == z1.2.1.2.1))))) else (some (.inl (z1.1, z1.2.1, z1.2.2.1, false)))) else (some (.inl (z1.1, z1.2.1, z1.2.2.1, false)))) (fun z3 => bif z3.2.2.2 then ((decimal_none).bind fun t4 => some (t4, 32)) else (bif (z3.1.1 == 1) then ((decimal_infinite z3.1.2.1).bind fun t5 => some (t5, 0)) else ((decimal_infinite z3.2.1.2.1).bind fun t6 => some (t6, 0)))) some)) some

def decimal_plus (k : Nat) (a0 : Bool × List Int × List Int × Int) (a1 : Bool × List Int × List Int × Int) (a2 : Int × Int × Int × Int) : Option (Bool × List Int × List Int × Int) :=
  (decimal_times k a0.2.1 (w64 (a0.2.2.2 - (mnI a0.2.2.2 a1.2.2.2)))).bind fun t1 => (decimal_times k a1.2.1 (w64 (a1.2.2.2 - (mnI a0.2.2.2 a1.2.2.2)))).bind fun t2 => bif (a0.1 == a1.1) then ((natural_Add k t1 t2).bind fun t3 => some (a0.1, t3.1, [1], mnI a0.2.2.2 a1.2.2.2)) else (joinB (α := (Int × Int × Int × Int) × (Bool × List Int × List Int × Int) × List Int × List Int × Bool × List Int × List Int × Int) ((decimal_less k t1 t2).bind fun t4 => bif t4 then (some (.inl (a2, (false, [], [], 0), t2, t1, (a1.1, [], [1], mnI a0.2.2.2 a1.2.2.2)))) else (some (.inl (a2, (false, [], [], 0), t1, t2, (a0.1, [], [1], mnI a0.2.2.2 a1.2.2.2))))) (fun z5 => (natural_Sub k z5.2.2.1 z5.2.2.2.1).bind fun t6 => bif ((t6.1.length : Int) == 0) then (some ((z5.1.2.1 == 2), t6.1, z5.2.2.2.2.2.2)) else (some (z5.2.2.2.2.1, t6.1, z5.2.2.2.2.2.2))) some)

def decimal_Add (k : Nat) (a0 : Int × Bool × (Bool × List Int) × Int) (a1 : Int × Bool × (Bool × List Int) × Int) (a2 : Int × Int × Int × Int) : Option ((Int × Bool × (Bool × List Int) × Int) × Int × Int × Int) :=
  (decimal_check k a2 [a0, a1]).bind fun t1 => bif (t1.1 != 0) then (some ((0, false, (false, []), 0), 0, t1)) else (joinB (α := (Int × Bool × (Bool × List Int) × Int) × (Int × Bool × (Bool × List Int) × Int) × (Int × Int × Int × Int) × (Int × Bool × (Bool × List Int) × Int) × (Int × Int) × Bool) (bif (a0.1 != 0) then (some (.inl (a0, a1, a2, (0, false, (false, []), 0), (0, 0), true))) else (some (.inl (a0, a1, a2, (0, false, (false, []), 0), (0, 0), (a1.1 != 0))))) (fun z2 => bif z2.2.2.2.2.2 then ((decimal_special z2.1 z2.2.1).bind fun t3 => some (t3.1, t3.2, (0, 0))) else ((decimal_of z2.1).bind fun t4 => (decimal_of z2.2.1).bind fun t5 => (decimal_plus k t4 t5 z2.2.2.1).bind fun t6 => (decimal_exact_fit k t6 (mnI z2.1.2.2.2 z2.2.1.2.2.2) z2.2.2.1).bind fun t7 => some (t7.1, t7.2, (0, 0)))) some)

def integer_check.b0 (k : Nat) (rec : (Int × Int) → (List (Bool × List Int)) → Int → Int → Option ((Int × Int) ⊕ (Int × Int))) (x22 : Int × Int) (x5 : List (Bool × List Int)) (x6 : Int) (x7 : Int) : Option ((Int × Int) ⊕ (Int × Int)) :=
  bif decide (x7 < x6) then (bif inR x7 (x5.length : Int) then ((integer_Valid (nth (.st (.pair (.bool) (.list (.int .u32)))) x5 x7)).bind fun t1 => bif (!t1) then ((integer_at 6 (w64 ((-1) - x7))).bind fun t2 => some (.inr t2)) else (rec x22 x5 x6 (w64 (x7 + 1)))) else none) else (some (.inl x22))
def integer_check.l0 (k : Nat) : Nat → (Int × Int) → (List (Bool × List Int)) → Int → Int → Option ((Int × Int) ⊕ (Int × Int))
  | 0 => fun _ _ _ _ => none
  | n + 1 => integer_check.b0 k (integer_check.l0 k n)
def integer_check (k : Nat) (a0 : List (Bool × List Int)) : Option (Int × Int) :=
  joinB (α := Int × Int) (integer_check.l0 k k (0, 0) a0 (a0.length : Int) 0) (fun y3 => some (0, 0)) some

def integer_Text.b0 (k : Nat) (rec : (Int × Int) → List Int → List Int → List Int → Int → Int → Option (((Int × Int) × List Int × List Int) ⊕ (ByteArray × Int × Int))) (x61 : Int × Int) (x7 : List Int) (x9 : List Int) (x35 : List Int) (x36 : Int) (x37 : Int) : Option (((Int × Int) × List Int × List Int) ⊕ (ByteArray × Int × Int)) :=
  bif decide (x37 < x36) then (bif inR x37 (x35.length : Int) then (bif inR (rd x35 x37) ((⟨#[48, 49, 50, 51, 52, 53, 54, 55, 56, 57, 97, 98, 99, 100, 101, 102, 103, 104, 105, 106, 107, 108, 109, 110, 111, 112, 113, 114, 115, 116, 117, 118, 119, 120, 121, 122]⟩ : ByteArray).size : Int) then (bif fitsB (x9.length + [rd (bytesOf (⟨#[48, 49, 50, 51, 52, 53, 54, 55, 56, 57, 97, 98, 99, 100, 101, 102, 103, 104, 105, 106, 107, 108, 109, 110, 111, 112, 113, 114, 115, 116, 117, 118, 119, 120, 121, 122]⟩ : ByteArray)) (rd x35 x37)].length) 1 then (rec x61 x7 (x9 ++ [rd (bytesOf (⟨#[48, 49, 50, 51, 52, 53, 54, 55, 56, 57, 97, 98, 99, 100, 101, 102, 103, 104, 105, 106, 107, 108, 109, 110, 111, 112, 113, 114, 115, 116, 117, 118, 119, 120, 121, 122]⟩ : ByteArray)) (rd x35 x37)]) x35 x36 (w64 (x37 + 1))) else none) else none) else none) else (some (.inl (x61, x7, x9)))
def integer_Text.l0 (k : Nat) : Nat → (Int × Int) → List Int → List Int → List Int → Int → Int → Option (((Int × Int) × List Int × List Int) ⊕ (ByteArray × Int × Int))
  | 0 => fun _ _ _ _ _ _ => none
  | n + 1 => integer_Text.b0 k (integer_Text.l0 k n)
def integer_Text (k : Nat) (a0 : Bool × List Int) (a1 : Int) : Option (ByteArray × Int × Int) :=
  (integer_check k [a0]).bind fun t1 => bif (t1.1 != 0) then (some (ByteArray.empty, t1)) else ((natural_Digits k a0.2 a1).bind fun t2 => bif (t2.2.1 != 0) then (some (ByteArray.empty, t2.2)) else (joinB (α := (Int × Int) × List Int × List Int) (bif a0.1 then (bif fitsB [45].length 1 then (some (.inl ((0, 0), t2.1, [45]))) else none) else (some (.inl ((0, 0), t2.1, [])))) (fun z3 => joinB (α := (Int × Int) × List Int × List Int) (integer_Text.l0 k k z3.1 z3.2.1 z3.2.2 z3.2.1 (z3.2.1.length : Int) 0) (fun y4 => bif ((y4.2.1.length : Int) == 0) then (bif fitsB (y4.2.2.length + [48].length) 1 then (some (ofBytes (y4.2.2 ++ [48]), (0, 0))) else none) else (some (ofBytes y4.2.2, (0, 0)))) some) some))

def decimal_Text (k : Nat) (a0 : Int × Bool × (Bool × List Int) × Int) : Option (ByteArray × Int × Int) :=
  (decimal_Valid k a0).bind fun t1 => bif (!t1) then ((decimal_at 6 (-1)).bind fun t2 => some (ByteArray.empty, t2)) else (joinB (α := (Int × Bool × (Bool × List Int) × Int) × (Int × Int) × ByteArray) (bif a0.2.1 then (some (.inl (a0, (0, 0), (⟨#[45]⟩ : ByteArray)))) else (some (.inl (a0, (0, 0), ByteArray.empty)))) (fun z3 => bif (z3.1.1 == 1) then (bif Nat.ble (z3.2.2.size + (⟨#[105, 110, 102, 105, 110, 105, 116, 101]⟩ : ByteArray).size) 9223372036854775807 then (some (z3.2.2 ++ (⟨#[105, 110, 102, 105, 110, 105, 116, 101]⟩ : ByteArray), (0, 0))) else none) else (bif (z3.1.1 == 2) then (some ((⟨#[110, 111, 110, 101]⟩ : ByteArray), (0, 0))) else ((integer_Text k z3.1.2.2.1 10).bind fun t4 => let c5 := w64 ((w64 (z3.1.2.2.2 + (t4.1.size : Int))) - 1); joinB (α := (Int × Bool × (Bool × List Int) × Int) × (Int × Int) × ByteArray × ByteArray) (joinB (α := (Int × Bool × (Bool × List Int) × Int) × (Int × Int) × ByteArray × ByteArray × Int × Bool) (bif decide (0 < z3.1.2.2.2) then (some (.inl (z3.1, z3.2.1, z3.2.2, t4.1, c5, true))) else (some (.inl (z3.1, z3.2.1, z3.2.2, t4.1, c5, decide (c5 < (-6)))))) (fun z6 => bif z6.2.2.2.2.2 then (joinB (α := (Int × Int) × ByteArray × ByteArray × Int) (bif decide (1 < (z6.2.2.2.1.size : Int)) then (bif ((decide (0 ≤ 0) && decide (0 ≤ 1)) && decide (1 ≤ (z6.2.2.2.1.size : Int))) then (bif Nat.ble ((z6.2.2.2.1.extract 0 1).size + (⟨#[46]⟩ : ByteArray).size) 9223372036854775807 then (bif ((decide (0 ≤ 1) && decide (1 ≤ (z6.2.2.2.1.size : Int))) && decide ((z6.2.2.2.1.size : Int) ≤ (z6.2.2.2.1.size : Int))) then (bif Nat.ble (((z6.2.2.2.1.extract 0 1) ++ (⟨#[46]⟩ : ByteArray)).size + (z6.2.2.2.1.extract 1 (Int.toNat (z6.2.2.2.1.size : Int))).size) 9223372036854775807 then (some (.inl (z6.2.1, z6.2.2.1, ((z6.2.2.2.1.extract 0 1) ++ (⟨#[46]⟩ : ByteArray)) ++ (z6.2.2.2.1.extract 1 (Int.toNat (z6.2.2.2.1.size : Int))), z6.2.2.2.2.1))) else none) else none) else none) else none) else (some (.inl (z6.2.1, z6.2.2.1, z6.2.2.2.1, z6.2.2.2.2.1)))) (fun z7 => none) (fun r => some (.inr r))) else (bif (z6.1.2.2.2 == 0) then (bif Nat.ble (z6.2.2.1.size + z6.2.2.2.1.size) 9223372036854775807 then (some (.inr (z6.2.2.1 ++ z6.2.2.2.1, (0, 0)))) else none) else (bif decide (z6.2.2.2.2.1 < 0) then none else (some (.inl (z6.1, z6.2.1, z6.2.2.1, z6.2.2.2.1)))))) (fun r => some (.inr r))) (fun z8 => let c9 := w64 ((z8.2.2.2.size : Int) + z8.1.2.2.2); bif ((decide (0 ≤ 0) && decide (0 ≤ c9)) && decide (c9 ≤ (z8.2.2.2.size : Int))) then (bif Nat.ble (z8.2.2.1.size + (z8.2.2.2.extract 0 (Int.toNat c9)).size) 9223372036854775807 then (bif Nat.ble ((z8.2.2.1 ++ (z8.2.2.2.extract 0 (Int.toNat c9))).size + (⟨#[46]⟩ : ByteArray).size) 9223372036854775807 then (bif ((decide (0 ≤ c9) && decide (c9 ≤ (z8.2.2.2.size : Int))) && decide ((z8.2.2.2.size : Int) ≤ (z8.2.2.2.size : Int))) then (bif Nat.ble (((z8.2.2.1 ++ (z8.2.2.2.extract 0 (Int.toNat c9))) ++ (⟨#[46]⟩ : ByteArray)).size + (z8.2.2.2.extract (Int.toNat c9) (Int.toNat (z8.2.2.2.size : Int))).size) 9223372036854775807 then (some (((z8.2.2.1 ++ (z8.2.2.2.extract 0 (Int.toNat c9))) ++ (⟨#[46]⟩ : ByteArray)) ++ (z8.2.2.2.extract (Int.toNat c9) (Int.toNat (z8.2.2.2.size : Int))), (0, 0))) else none) else none) else none) else none) else none) some))) some)

def brindlewoodlaw3_tenths (k : Nat)  : Option (Bool) :=
  (decimal_Parse k (⟨#[49, 46, 50, 48]⟩ : ByteArray)).bind fun t1 => (decimal_Parse k (⟨#[48, 46, 48, 48, 53]⟩ : ByteArray)).bind fun t2 => (decimal_Add k t1.1 t2.1 (3, 6, (-99), 99)).bind fun t3 => (decimal_Add k t1.1 t2.1 (3, 1, (-99), 99)).bind fun t4 => (decimal_Text k t3.1).bind fun t5 => (decimal_Text k t4.1).bind fun t6 => bif (t1.2.1 == 0) then (bif (t2.2.1 == 0) then (bif (t3.2.2.1 == 0) then (bif (t4.2.2.1 == 0) then (bif (t5.2.1 == 0) then (bif (t6.2.1 == 0) then (bif (t5.1.toList == (⟨#[49, 46, 50, 48]⟩ : ByteArray).toList) then (bif (t6.1.toList == (⟨#[49, 46, 50, 49]⟩ : ByteArray).toList) then (bif (t3.2.1 == 1) then (some (t4.2.1 == t3.2.1)) else (some false)) else (some false)) else (some false)) else (some false)) else (some false)) else (some false)) else (some false)) else (some false)) else (some false)

def brindlewoodref3_SameLimbs.b0 (k : Nat) (rec : List Int → List Int → Int → Option ((Unit) ⊕ (Bool))) (x0 : List Int) (x1 : List Int) (x5 : Int) : Option ((Unit) ⊕ (Bool)) :=
  bif decide (x5 < (x0.length : Int)) then (bif inR x5 (x0.length : Int) then (bif inR x5 (x1.length : Int) then (bif ((rd x0 x5) != (rd x1 x5)) then (some (.inr false)) else (rec x0 x1 (w64 (x5 + 1)))) else none) else none) else (some (.inl ()))
def brindlewoodref3_SameLimbs.l0 (k : Nat) : Nat → List Int → List Int → Int → Option ((Unit) ⊕ (Bool))
  | 0 => fun _ _ _ => none
  | n + 1 => brindlewoodref3_SameLimbs.b0 k (brindlewoodref3_SameLimbs.l0 k n)
def brindlewoodref3_SameLimbs (k : Nat) (a0 : List Int) (a1 : List Int) : Option (Bool) :=
  bif ((a0.length : Int) != (a1.length : Int)) then (some false) else (joinB (α := Unit) (brindlewoodref3_SameLimbs.l0 k k a0 a1 0) (fun y1 => some true) some)

def brindlewoodref3_SameInts (k : Nat) (a0 : Bool × List Int) (a1 : Bool × List Int) : Option (Bool) :=
  bif (a0.1 == a1.1) then ((brindlewoodref3_SameLimbs k a0.2 a1.2).bind fun t1 => some t1) else (some false)

def brindlewoodref3_SameDecimal (k : Nat) (a0 : Int × Bool × (Bool × List Int) × Int) (a1 : Int × Bool × (Bool × List Int) × Int) : Option (Bool) :=
  bif (a0.1 == a1.1) then (bif (a0.2.1 == a1.2.1) then ((brindlewoodref3_SameInts k a0.2.2.1 a1.2.2.1).bind fun t1 => bif t1 then (some (a0.2.2.2 == a1.2.2.2)) else (some false)) else (some false)) else (some false)

def brindlewoodlaw3_comes (k : Nat) (a0 : Int × Bool × (Bool × List Int) × Int) (a1 : Int) (a2 : Int × Int) (a3 : Int × Bool × (Bool × List Int) × Int) (a4 : Int) (a5 : Int × Int) : Option (Bool) :=
  bif (a5.1 != 0) then (bif ((a2.1 == a5.1) && ((a2.2 == a5.2) && true)) then (bif (a1 == 0) then ((brindlewoodref3_SameDecimal k a0 (0, false, (false, []), 0)).bind fun t1 => some t1) else (some false)) else (some false)) else (bif ((a2.1 == a5.1) && ((a2.2 == a5.2) && true)) then (bif (a1 == a4) then ((brindlewoodref3_SameDecimal k a0 a3).bind fun t2 => some t2) else (some false)) else (some false))

def brindlewoodlaw3_DecimalRounds (k : Nat) (a0 : Int × Bool × (Bool × List Int) × Int) (a1 : Int) (a2 : Int × Int × Int × Int) : Option (Bool) :=
  (brindlewoodref3_DecimalFaults k a2 [a0]).bind fun t1 => (decimal_Round k a0 a2).bind fun t2 => (decimal_Reduce k a0 a2).bind fun t3 => (decimal_Quantize k a0 a1 a2).bind fun t4 => joinB (α := (Int × Int) × (Int × Bool × (Bool × List Int) × Int) × Int × (Int × Int) × (Int × Bool × (Bool × List Int) × Int) × Int × (Int × Int) × (Int × Bool × (Bool × List Int) × Int) × Int × (Int × Int) × (Int × Bool × (Bool × List Int) × Int) × (Int × Bool × (Bool × List Int) × Int) × (Int × Bool × (Bool × List Int) × Int) × Int × Int × Int) (bif (t1.1 == 0) then ((brindlewoodref3_Fitted k a0 a2).bind fun t5 => (brindlewoodref3_Reduced k a0 a2).bind fun t6 => (brindlewoodref3_Quantized k a0 a1 a2).bind fun t7 => some (.inl (t1, t2.1, t2.2.1, t2.2.2, t3.1, t3.2.1, t3.2.2, t4.1, t4.2.1, t4.2.2, t5.1, t6.1, t7.1, t5.2, t6.2, t7.2))) else (some (.inl (t1, t2.1, t2.2.1, t2.2.2, t3.1, t3.2.1, t3.2.2, t4.1, t4.2.1, t4.2.2, (0, false, (false, []), 0), (0, false, (false, []), 0), (0, false, (false, []), 0), 0, 0, 0)))) (fun z8 => (brindlewoodlaw3_tenths k).bind fun t9 => bif t9 then ((brindlewoodlaw3_comes k z8.2.1 z8.2.2.1 z8.2.2.2.1 z8.2.2.2.2.2.2.2.2.2.2.1 z8.2.2.2.2.2.2.2.2.2.2.2.2.2.1 z8.1).bind fun t10 => bif t10 then ((brindlewoodlaw3_comes k z8.2.2.2.2.1 z8.2.2.2.2.2.1 z8.2.2.2.2.2.2.1 z8.2.2.2.2.2.2.2.2.2.2.2.1 z8.2.2.2.2.2.2.2.2.2.2.2.2.2.2.1 z8.1).bind fun t11 => bif t11 then ((brindlewoodlaw3_comes k z8.2.2.2.2.2.2.2.1 z8.2.2.2.2.2.2.2.2.1 z8.2.2.2.2.2.2.2.2.2.1 z8.2.2.2.2.2.2.2.2.2.2.2.2.1 z8.2.2.2.2.2.2.2.2.2.2.2.2.2.2.2 z8.1).bind fun t12 => some t12) else (some false)) else (some false)) else (some false)) some
end Go.Sh
