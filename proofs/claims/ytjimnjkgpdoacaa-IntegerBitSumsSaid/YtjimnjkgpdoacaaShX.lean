/- Functions that the general texts name and this law's program does not reach.  Conditions: none, these are definitions. -/
import Derived.Test.YtjimnjkgpdoacaaSh
set_option linter.unusedVariables false
namespace Go.Sh
open Go Go.Ev

def integer_Small.b0 (k : Nat) (rec : (Bool × List Int) → (Int × Int) → Int → List Int → Int → Int → Option (((Bool × List Int) × (Int × Int) × Int) ⊕ (Int × Int × Int))) (x50 : Bool × List Int) (x52 : Int × Int) (x5 : Int) (x17 : List Int) (x18 : Int) (x19 : Int) : Option (((Bool × List Int) × (Int × Int) × Int) ⊕ (Int × Int × Int)) :=
  bif decide (x19 < x18) then (bif inR x19 (x17.length : Int) then (bif decide (1 < x19) then ((integer_at 14 (-1)).bind fun t2 => some (.inr (0, t2))) else (bif decide (0 ≤ w64 (32 * x19)) then (let c3 := bitsOp .or .u64 x5 (shlI .u64 (wu64 (rd x17 x19)) (w64 (32 * x19))); rec x50 x52 c3 x17 x18 (w64 (x19 + 1))) else none)) else none) else (some (.inl (x50, x52, x5)))
def integer_Small.l0 (k : Nat) : Nat → (Bool × List Int) → (Int × Int) → Int → List Int → Int → Int → Option (((Bool × List Int) × (Int × Int) × Int) ⊕ (Int × Int × Int))
  | 0 => fun _ _ _ _ _ _ => none
  | n + 1 => integer_Small.b0 k (integer_Small.l0 k n)
def integer_Small (k : Nat) (a0 : Bool × List Int) : Option (Int × Int × Int) :=
  (integer_check k [a0]).bind fun t1 => bif (t1.1 != 0) then (some (0, t1)) else (joinB (α := (Bool × List Int) × (Int × Int) × Int) (integer_Small.l0 k k a0 (0, 0) 0 a0.2 (a0.2.length : Int) 0) (fun y4 => joinB (α := (Bool × List Int) × (Int × Int) × Int) (bif y4.1.1 then (some (.inl (y4.1, y4.2.1, w64 (0 - (w64 (y4.2.2)))))) else (some (.inl (y4.1, y4.2.1, w64 (y4.2.2))))) (fun z5 => bif (!((decide (z5.2.2 < 0)) == z5.1.1)) then ((integer_at 14 (-1)).bind fun t6 => some (0, t6)) else (some (z5.2.2, (0, 0)))) some) some)

def brindlewoodref3_NoInt (a0 : Bool × List Int) : Option (Bool) :=
  bif (!a0.1) then (some ((a0.2.length : Int) == 0)) else (some false)

def brindlewoodref3_Of.b0 (k : Nat) (rec : List Int → List Int → Int → Option ((List Int) ⊕ (List Int))) (x0 : List Int) (x3 : List Int) (x4 : Int) : Option ((List Int) ⊕ (List Int)) :=
  bif decide (x4 < (x0.length : Int)) then (bif inR x4 (x0.length : Int) then (bif inR x4 (x0.length : Int) then (bif fitsB (x3.length + [w64 (Int.tmod (rd x0 x4) 65536), w64 (wu32 (Int.tdiv (rd x0 x4) 65536))].length) 8 then (rec x0 (x3 ++ [w64 (Int.tmod (rd x0 x4) 65536), w64 (wu32 (Int.tdiv (rd x0 x4) 65536))]) (w64 (x4 + 1))) else none) else none) else none) else (some (.inl x3))
def brindlewoodref3_Of.l0 (k : Nat) : Nat → List Int → List Int → Int → Option ((List Int) ⊕ (List Int))
  | 0 => fun _ _ _ => none
  | n + 1 => brindlewoodref3_Of.b0 k (brindlewoodref3_Of.l0 k n)
def brindlewoodref3_Of (k : Nat) (a0 : List Int) : Option (List Int) :=
  joinB (α := List Int) (brindlewoodref3_Of.l0 k k a0 [] 0) (fun y1 => (brindlewoodref3_trim_v k y1).bind fun t2 => some (sub y1 t2.1 t2.2)) some

def brindlewoodref3_IntOf (k : Nat) (a0 : Bool × List Int) : Option (Bool × List Int) :=
  (brindlewoodref3_Of k a0.2).bind fun t1 => some (a0.1, t1)

def brindlewoodref3_Plus.b0 (k : Nat) (rec : List Int → List Int → List Int → Int → Int → Option ((List Int) ⊕ (List Int))) (x0 : List Int) (x1 : List Int) (x5 : List Int) (x6 : Int) (x7 : Int) : Option ((List Int) ⊕ (List Int)) :=
  bif decide (x7 < (x0.length : Int)) then (joinB (α := List Int × List Int × List Int × Int × Int) (bif decide (x7 < (x0.length : Int)) then (bif inR x7 (x0.length : Int) then (some (.inl (x0, x1, x5, w64 (x6 + (rd x0 x7)), x7))) else none) else (some (.inl (x0, x1, x5, x6, x7)))) (fun z1 => bif decide (z1.2.2.2.2 < (z1.2.1.length : Int)) then (bif inR z1.2.2.2.2 (z1.2.1.length : Int) then (let c2 := w64 (z1.2.2.2.1 + (rd z1.2.1 z1.2.2.2.2)); bif fitsB (z1.2.2.1.length + [Int.tmod c2 65536].length) 8 then (rec z1.1 z1.2.1 (z1.2.2.1 ++ [Int.tmod c2 65536]) (w64 (Int.tdiv c2 65536)) (w64 (z1.2.2.2.2 + 1))) else none) else none) else (bif fitsB (z1.2.2.1.length + [Int.tmod z1.2.2.2.1 65536].length) 8 then (let c3 := w64 (Int.tdiv z1.2.2.2.1 65536); rec z1.1 z1.2.1 (z1.2.2.1 ++ [Int.tmod z1.2.2.2.1 65536]) c3 (w64 (z1.2.2.2.2 + 1))) else none)) (fun r => some (.inr r))) else (bif decide (x7 < (x1.length : Int)) then (joinB (α := List Int × List Int × List Int × Int × Int) (bif decide (x7 < (x0.length : Int)) then (bif inR x7 (x0.length : Int) then (some (.inl (x0, x1, x5, w64 (x6 + (rd x0 x7)), x7))) else none) else (some (.inl (x0, x1, x5, x6, x7)))) (fun z4 => bif decide (z4.2.2.2.2 < (z4.2.1.length : Int)) then (bif inR z4.2.2.2.2 (z4.2.1.length : Int) then (let c5 := w64 (z4.2.2.2.1 + (rd z4.2.1 z4.2.2.2.2)); bif fitsB (z4.2.2.1.length + [Int.tmod c5 65536].length) 8 then (rec z4.1 z4.2.1 (z4.2.2.1 ++ [Int.tmod c5 65536]) (w64 (Int.tdiv c5 65536)) (w64 (z4.2.2.2.2 + 1))) else none) else none) else (bif fitsB (z4.2.2.1.length + [Int.tmod z4.2.2.2.1 65536].length) 8 then (let c6 := w64 (Int.tdiv z4.2.2.2.1 65536); rec z4.1 z4.2.1 (z4.2.2.1 ++ [Int.tmod z4.2.2.2.1 65536]) c6 (w64 (z4.2.2.2.2 + 1))) else none)) (fun r => some (.inr r))) else (bif decide (0 < x6) then (joinB (α := List Int × List Int × List Int × Int × Int) (bif decide (x7 < (x0.length : Int)) then (bif inR x7 (x0.length : Int) then (some (.inl (x0, x1, x5, w64 (x6 + (rd x0 x7)), x7))) else none) else (some (.inl (x0, x1, x5, x6, x7)))) (fun z7 => bif decide (z7.2.2.2.2 < (z7.2.1.length : Int)) then (bif inR z7.2.2.2.2 (z7.2.1.length : Int) then (let c8 := w64 (z7.2.2.2.1 + (rd z7.2.1 z7.2.2.2.2)); bif fitsB (z7.2.2.1.length + [Int.tmod c8 65536].length) 8 then (rec z7.1 z7.2.1 (z7.2.2.1 ++ [Int.tmod c8 65536]) (w64 (Int.tdiv c8 65536)) (w64 (z7.2.2.2.2 + 1))) else none) else none) else (bif fitsB (z7.2.2.1.length + [Int.tmod z7.2.2.2.1 65536].length) 8 then (let c9 := w64 (Int.tdiv z7.2.2.2.1 65536); rec z7.1 z7.2.1 (z7.2.2.1 ++ [Int.tmod z7.2.2.2.1 65536]) c9 (w64 (z7.2.2.2.2 + 1))) else none)) (fun r => some (.inr r))) else (some (.inl x5))))
def brindlewoodref3_Plus.l0 (k : Nat) : Nat → List Int → List Int → List Int → Int → Int → Option ((List Int) ⊕ (List Int))
  | 0 => fun _ _ _ _ _ => none
  | n + 1 => brindlewoodref3_Plus.b0 k (brindlewoodref3_Plus.l0 k n)
def brindlewoodref3_Plus (k : Nat) (a0 : List Int) (a1 : List Int) : Option (List Int) :=
  joinB (α := List Int) (brindlewoodref3_Plus.l0 k k a0 a1 [] 0 0) (fun y10 => (brindlewoodref3_trim_v k y10).bind fun t11 => some (sub y10 t11.1 t11.2)) some

def brindlewoodref3_Compare.b0 (k : Nat) (rec : List Int → List Int → Int → Option ((Unit) ⊕ (Int))) (x0 : List Int) (x1 : List Int) (x5 : Int) : Option ((Unit) ⊕ (Int)) :=
  bif decide (0 ≤ x5) then (bif inR x5 (x0.length : Int) then (bif inR x5 (x1.length : Int) then (bif decide (rd x0 x5 < rd x1 x5) then (some (.inr (-1))) else (bif inR x5 (x0.length : Int) then (bif inR x5 (x1.length : Int) then (bif decide (rd x1 x5 < rd x0 x5) then (some (.inr 1)) else (rec x0 x1 (w64 (x5 - 1)))) else none) else none)) else none) else none) else (some (.inl ()))
def brindlewoodref3_Compare.l0 (k : Nat) : Nat → List Int → List Int → Int → Option ((Unit) ⊕ (Int))
  | 0 => fun _ _ _ => none
  | n + 1 => brindlewoodref3_Compare.b0 k (brindlewoodref3_Compare.l0 k n)
def brindlewoodref3_Compare (k : Nat) (a0 : List Int) (a1 : List Int) : Option (Int) :=
  bif ((a0.length : Int) != (a1.length : Int)) then (bif decide ((a0.length : Int) < (a1.length : Int)) then (some (-1)) else (some 1)) else (joinB (α := Unit) (brindlewoodref3_Compare.l0 k k a0 a1 (w64 ((a0.length : Int) - 1))) (fun y1 => some 0) some)

def brindlewoodref3_Minus.b0 (k : Nat) (rec : List Int → List Int → List Int → Int → Int → Option ((List Int) ⊕ (List Int))) (x0 : List Int) (x1 : List Int) (x5 : List Int) (x6 : Int) (x7 : Int) : Option ((List Int) ⊕ (List Int)) :=
  bif decide (x7 < (x0.length : Int)) then (bif inR x7 (x0.length : Int) then (joinB (α := List Int × List Int × List Int × Int × Int) (bif decide (x7 < (x1.length : Int)) then (bif inR x7 (x1.length : Int) then (let c1 := w64 ((w64 ((rd x0 x7) - x6)) - (rd x1 x7)); some (.inl (x0, x1, x5, x7, c1))) else none) else (some (.inl (x0, x1, x5, x7, w64 ((rd x0 x7) - x6))))) (fun z2 => bif decide (z2.2.2.2.2 < 0) then (bif fitsB (z2.2.2.1.length + [w64 (z2.2.2.2.2 + 65536)].length) 8 then (rec z2.1 z2.2.1 (z2.2.2.1 ++ [w64 (z2.2.2.2.2 + 65536)]) 1 (w64 (z2.2.2.2.1 + 1))) else none) else (bif fitsB (z2.2.2.1.length + [z2.2.2.2.2].length) 8 then (rec z2.1 z2.2.1 (z2.2.2.1 ++ [z2.2.2.2.2]) 0 (w64 (z2.2.2.2.1 + 1))) else none)) (fun r => some (.inr r))) else none) else (some (.inl x5))
def brindlewoodref3_Minus.l0 (k : Nat) : Nat → List Int → List Int → List Int → Int → Int → Option ((List Int) ⊕ (List Int))
  | 0 => fun _ _ _ _ _ => none
  | n + 1 => brindlewoodref3_Minus.b0 k (brindlewoodref3_Minus.l0 k n)
def brindlewoodref3_Minus (k : Nat) (a0 : List Int) (a1 : List Int) : Option (List Int) :=
  joinB (α := List Int) (brindlewoodref3_Minus.l0 k k a0 a1 [] 0 0) (fun y3 => (brindlewoodref3_trim_v k y3).bind fun t4 => some (sub y3 t4.1 t4.2)) some

def brindlewoodref3_Int_Plus (k : Nat) (a0 : Bool × List Int) (a1 : Bool × List Int) : Option (Bool × List Int) :=
  bif (a0.1 == a1.1) then ((brindlewoodref3_Plus k a0.2 a1.2).bind fun t1 => some (a0.1, t1)) else ((brindlewoodref3_Compare k a0.2 a1.2).bind fun t2 => bif decide (0 ≤ t2) then ((brindlewoodref3_Minus k a0.2 a1.2).bind fun t3 => some (a0.1, t3)) else ((brindlewoodref3_Minus k a1.2 a0.2).bind fun t4 => some (a1.1, t4)))

def brindlewoodref3_Int_Order (k : Nat) (a0 : Bool × List Int) (a1 : Bool × List Int) : Option (Int) :=
  joinB (α := (Bool × List Int) × (Bool × List Int) × Bool × Bool) (bif a0.1 then (bif a1.1 then (let c1 := decide (0 < (a0.2.length : Int)); let c2 := decide (0 < (a1.2.length : Int)); some (.inl (a0, a1, c1, c2))) else (let c3 := decide (0 < (a0.2.length : Int)); some (.inl (a0, a1, c3, false)))) else (bif a1.1 then (let c4 := decide (0 < (a1.2.length : Int)); some (.inl (a0, a1, false, c4))) else (some (.inl (a0, a1, false, false))))) (fun z5 => joinB (α := (Bool × List Int) × (Bool × List Int) × Bool × Bool × Bool) (bif z5.2.2.1 then (some (.inl (z5.1, z5.2.1, z5.2.2.1, z5.2.2.2, z5.2.2.2))) else (some (.inl (z5.1, z5.2.1, z5.2.2.1, z5.2.2.2, false)))) (fun z6 => bif z6.2.2.2.2 then ((brindlewoodref3_Compare k z6.2.1.2 z6.1.2).bind fun t7 => some t7) else (bif z6.2.2.1 then (some (-1)) else (bif z6.2.2.2.1 then (some 1) else ((brindlewoodref3_Compare k z6.1.2 z6.2.1.2).bind fun t8 => some t8)))) some) some

def brindlewoodref3_Int_Minus (a0 : Bool × List Int) : Option (Bool × List Int) :=
  bif (!a0.1) then (some (decide (0 < (a0.2.length : Int)), a0.2)) else (some (false, a0.2))

def brindlewoodref3_Int_Fits (a0 : Bool × List Int) (a1 : Int) : Option (Bool) :=
  let c1 := decide ((a0.2.length : Int) ≤ w64 (2 * a1)); some c1

def brindlewoodlaw3_yields (k : Nat) (a0 : Bool × List Int) (a1 : Int × Int) (a2 : Bool × List Int) (a3 : Int × Int) : Option (Bool) :=
  joinB (α := (Bool × List Int) × (Int × Int) × (Bool × List Int) × Int × Int) (bif (a3.1 == 0) then ((brindlewoodref3_Int_Fits a2 128).bind fun t1 => bif (!t1) then ((brindlewoodref3_At 14 (-1)).bind fun t2 => some (.inl (a0, a1, a2, t2))) else (some (.inl (a0, a1, a2, a3)))) else (some (.inl (a0, a1, a2, a3)))) (fun z3 => bif (z3.2.2.2.1 != 0) then (bif ((z3.2.1.1 == z3.2.2.2.1) && ((z3.2.1.2 == z3.2.2.2.2) && true)) then ((brindlewoodref3_NoInt z3.1).bind fun t4 => some t4) else (some false)) else (bif ((z3.2.1.1 == z3.2.2.2.1) && ((z3.2.1.2 == z3.2.2.2.2) && true)) then ((brindlewoodref3_SameInt k z3.1 z3.2.2.1).bind fun t5 => some t5) else (some false))) some

def brindlewoodref3_Ones.b2 (k : Nat) (rec : List Bool → Option ((List Bool) ⊕ (List Bool))) (x3 : List Bool) : Option ((List Bool) ⊕ (List Bool)) :=
  bif decide (0 < (x3.length : Int)) then (bif inR (w64 ((x3.length : Int) - 1)) (x3.length : Int) then (bif (!(rdB x3 (w64 ((x3.length : Int) - 1)))) then (bif ((decide (0 ≤ 0) && decide (0 ≤ w64 ((x3.length : Int) - 1))) && decide (w64 ((x3.length : Int) - 1) ≤ (x3.length : Int))) then (rec (sub x3 0 ((w64 ((x3.length : Int) - 1)) - 0))) else none) else (some (.inl x3))) else none) else (some (.inl x3))
def brindlewoodref3_Ones.l2 (k : Nat) : Nat → List Bool → Option ((List Bool) ⊕ (List Bool))
  | 0 => fun _ => none
  | n + 1 => brindlewoodref3_Ones.b2 k (brindlewoodref3_Ones.l2 k n)
def brindlewoodref3_Ones.b1 (k : Nat) (rec : List Int → List Bool → Int → Int → Int → Option ((List Int × List Bool × Int) ⊕ (List Bool))) (x0 : List Int) (x3 : List Bool) (x4 : Int) (x5 : Int) (x6 : Int) : Option ((List Int × List Bool × Int) ⊕ (List Bool)) :=
  bif decide (x6 < 16) then (bif fitsB (x3.length + [((Int.tmod x5 2) == 1)].length) 1 then (rec x0 (x3 ++ [((Int.tmod x5 2) == 1)]) x4 (w64 (Int.tdiv x5 2)) (w64 (x6 + 1))) else none) else (some (.inl (x0, x3, x4)))
def brindlewoodref3_Ones.l1 (k : Nat) : Nat → List Int → List Bool → Int → Int → Int → Option ((List Int × List Bool × Int) ⊕ (List Bool))
  | 0 => fun _ _ _ _ _ => none
  | n + 1 => brindlewoodref3_Ones.b1 k (brindlewoodref3_Ones.l1 k n)
def brindlewoodref3_Ones.b0 (k : Nat) (rec : List Int → List Bool → Int → Option ((List Bool) ⊕ (List Bool))) (x0 : List Int) (x3 : List Bool) (x4 : Int) : Option ((List Bool) ⊕ (List Bool)) :=
  bif decide (x4 < (x0.length : Int)) then (bif inR x4 (x0.length : Int) then (joinB (α := List Int × List Bool × Int) (brindlewoodref3_Ones.l1 k k x0 x3 x4 (rd x0 x4) 0) (fun y1 => rec y1.1 y1.2.1 (w64 (y1.2.2 + 1))) (fun r => some (.inr r))) else none) else (some (.inl x3))
def brindlewoodref3_Ones.l0 (k : Nat) : Nat → List Int → List Bool → Int → Option ((List Bool) ⊕ (List Bool))
  | 0 => fun _ _ _ => none
  | n + 1 => brindlewoodref3_Ones.b0 k (brindlewoodref3_Ones.l0 k n)
def brindlewoodref3_Ones (k : Nat) (a0 : List Int) : Option (List Bool) :=
  joinB (α := List Bool) (brindlewoodref3_Ones.l0 k k a0 [] 0) (fun y2 => joinB (α := List Bool) (brindlewoodref3_Ones.l2 k k y2) (fun y3 => some y3) some) some

def brindlewoodref3_Moved (k : Nat) (a0 : List Int) (a1 : Int) : Option (List Int) :=
  (brindlewoodref3_Ones k a0).bind fun t1 => bif ((t1.length : Int) == 0) then (some []) else (let c2 := decide (a1 ≤ w64 (0 - (t1.length : Int))); bif c2 then (some []) else (bif decide (a1 < 0) then (bif ((decide (0 ≤ w64 (0 - a1)) && decide (w64 (0 - a1) ≤ (t1.length : Int))) && decide ((t1.length : Int) ≤ (t1.length : Int))) then ((brindlewoodref3_Binary k (sub t1 (w64 (0 - a1)) ((t1.length : Int) - (w64 (0 - a1))))).bind fun t3 => some t3) else none) else (bif ((decide (0 ≤ a1) && decide (a1 ≤ a1)) && fitsB (Int.toNat a1) 1) then (bif fitsB ((List.replicate (Int.toNat a1) (false : Bool)).length + t1.length) 1 then ((brindlewoodref3_Binary k ((List.replicate (Int.toNat a1) (false : Bool)) ++ t1)).bind fun t4 => some t4) else none) else none)))

def brindlewoodref3_Small.b0 (k : Nat) (rec : Int → List Int → Option ((List Int) ⊕ (List Int))) (x0 : Int) (x3 : List Int) : Option ((List Int) ⊕ (List Int)) :=
  bif decide (0 < x0) then (bif fitsB (x3.length + [Int.tmod x0 65536].length) 8 then (rec (w64 (Int.tdiv x0 65536)) (x3 ++ [Int.tmod x0 65536])) else none) else (some (.inl x3))
def brindlewoodref3_Small.l0 (k : Nat) : Nat → Int → List Int → Option ((List Int) ⊕ (List Int))
  | 0 => fun _ _ => none
  | n + 1 => brindlewoodref3_Small.b0 k (brindlewoodref3_Small.l0 k n)
def brindlewoodref3_Small (k : Nat) (a0 : Int) : Option (List Int) :=
  joinB (α := List Int) (brindlewoodref3_Small.l0 k k a0 []) (fun y1 => some y1) some

def brindlewoodref3_Int_Moved (k : Nat) (a0 : Bool × List Int) (a1 : Int) : Option (Bool × List Int) :=
  bif (!a0.1) then ((brindlewoodref3_Moved k a0.2 a1).bind fun t1 => some (a0.1, t1)) else (bif decide (0 ≤ a1) then ((brindlewoodref3_Moved k a0.2 a1).bind fun t2 => some (a0.1, t2)) else ((brindlewoodref3_Small k 1).bind fun t3 => (brindlewoodref3_Minus k a0.2 t3).bind fun t4 => (brindlewoodref3_Moved k t4 a1).bind fun t5 => (brindlewoodref3_Small k 1).bind fun t6 => (brindlewoodref3_Plus k t5 t6).bind fun t7 => some (true, t7)))

def brindlewoodref3_Int_twos.b0 (k : Nat) (rec : Int → (Bool × List Int) → List Bool → Int → Option ((List Bool) ⊕ (List Bool))) (x1 : Int) (x53 : Bool × List Int) (x6 : List Bool) (x7 : Int) : Option ((List Bool) ⊕ (List Bool)) :=
  bif decide (x7 < x1) then (bif inR x7 (x6.length : Int) then (bif x53.1 then (bif inR x7 (x6.length : Int) then (rec x1 x53 (x6.set (Int.toNat x7) (!((rdB x6 x7) == (decide (0 < (x53.2.length : Int)))))) (w64 (x7 + 1))) else none) else (bif inR x7 (x6.length : Int) then (rec x1 x53 (x6.set (Int.toNat x7) (!((rdB x6 x7) == false))) (w64 (x7 + 1))) else none)) else none) else (some (.inl x6))
def brindlewoodref3_Int_twos.l0 (k : Nat) : Nat → Int → (Bool × List Int) → List Bool → Int → Option ((List Bool) ⊕ (List Bool))
  | 0 => fun _ _ _ _ => none
  | n + 1 => brindlewoodref3_Int_twos.b0 k (brindlewoodref3_Int_twos.l0 k n)
def brindlewoodref3_Int_twos (k : Nat) (a0 : Bool × List Int) (a1 : Int) : Option (List Bool) :=
  joinB (α := Int × (Bool × List Int) × Bool × List Int) (bif a0.1 then (bif decide (0 < (a0.2.length : Int)) then ((brindlewoodref3_Small k 1).bind fun t1 => (brindlewoodref3_Minus k a0.2 t1).bind fun t2 => some (.inl (a1, a0, (true, t2)))) else (some (.inl (a1, a0, a0)))) else (some (.inl (a1, a0, a0)))) (fun z3 => (brindlewoodref3_Ones k z3.2.2.2).bind fun t4 => bif (decide (0 ≤ z3.1) && fitsB (t4.length + (List.replicate (Int.toNat z3.1) (false : Bool)).length) 1) then (bif ((decide (0 ≤ 0) && decide (0 ≤ z3.1)) && decide (z3.1 ≤ ((t4 ++ (List.replicate (Int.toNat z3.1) (false : Bool))).length : Int))) then (joinB (α := List Bool) (brindlewoodref3_Int_twos.l0 k k z3.1 z3.2.1 (sub (t4 ++ (List.replicate (Int.toNat z3.1) (false : Bool))) 0 (z3.1 - 0)) 0) (fun y5 => some y5) some) else none) else none) some

def brindlewoodref3_Int_Bitwise.b1 (k : Nat) (rec : (Bool × List Int) → Int → List Bool → Int → Option (((Bool × List Int) × List Bool) ⊕ (Bool × List Int))) (x109 : Bool × List Int) (x7 : Int) (x8 : List Bool) (x11 : Int) : Option (((Bool × List Int) × List Bool) ⊕ (Bool × List Int)) :=
  bif decide (x11 < x7) then (bif inR x11 (x8.length : Int) then (bif inR x11 (x8.length : Int) then (rec x109 x7 (x8.set (Int.toNat x11) (!(rdB x8 x11))) (w64 (x11 + 1))) else none) else none) else (some (.inl (x109, x8)))
def brindlewoodref3_Int_Bitwise.l1 (k : Nat) : Nat → (Bool × List Int) → Int → List Bool → Int → Option (((Bool × List Int) × List Bool) ⊕ (Bool × List Int))
  | 0 => fun _ _ _ _ => none
  | n + 1 => brindlewoodref3_Int_Bitwise.b1 k (brindlewoodref3_Int_Bitwise.l1 k n)
def brindlewoodref3_Int_Bitwise.b0 (k : Nat) (rec : Int → (Bool × List Int) → Int → List Bool → List Bool → Int → Option (((Bool × List Int) × Int × List Bool) ⊕ (Bool × List Int))) (x2 : Int) (x109 : Bool × List Int) (x7 : Int) (x8 : List Bool) (x9 : List Bool) (x10 : Int) : Option (((Bool × List Int) × Int × List Bool) ⊕ (Bool × List Int)) :=
  bif decide (x10 < x7) then (bif (x2 == 0) then (bif inR x10 (x8.length : Int) then (bif rdB x8 x10 then (bif inR x10 (x9.length : Int) then (bif inR x10 (x8.length : Int) then (rec x2 x109 x7 (x8.set (Int.toNat x10) (rdB x9 x10)) x9 (w64 (x10 + 1))) else none) else none) else (bif inR x10 (x8.length : Int) then (rec x2 x109 x7 (x8.set (Int.toNat x10) false) x9 (w64 (x10 + 1))) else none)) else none) else (bif (x2 == 1) then (bif inR x10 (x8.length : Int) then (bif rdB x8 x10 then (bif inR x10 (x8.length : Int) then (rec x2 x109 x7 (x8.set (Int.toNat x10) true) x9 (w64 (x10 + 1))) else none) else (bif inR x10 (x9.length : Int) then (bif inR x10 (x8.length : Int) then (rec x2 x109 x7 (x8.set (Int.toNat x10) (rdB x9 x10)) x9 (w64 (x10 + 1))) else none) else none)) else none) else (bif inR x10 (x8.length : Int) then (bif inR x10 (x9.length : Int) then (bif inR x10 (x8.length : Int) then (rec x2 x109 x7 (x8.set (Int.toNat x10) (!((rdB x8 x10) == (rdB x9 x10)))) x9 (w64 (x10 + 1))) else none) else none) else none))) else (some (.inl (x109, x7, x8)))
def brindlewoodref3_Int_Bitwise.l0 (k : Nat) : Nat → Int → (Bool × List Int) → Int → List Bool → List Bool → Int → Option (((Bool × List Int) × Int × List Bool) ⊕ (Bool × List Int))
  | 0 => fun _ _ _ _ _ _ => none
  | n + 1 => brindlewoodref3_Int_Bitwise.b0 k (brindlewoodref3_Int_Bitwise.l0 k n)
def brindlewoodref3_Int_Bitwise (k : Nat) (a0 : Bool × List Int) (a1 : Bool × List Int) (a2 : Int) : Option (Bool × List Int) :=
  (brindlewoodref3_Ones k a0.2).bind fun t1 => (brindlewoodref3_Ones k a1.2).bind fun t2 => let c3 := w64 ((w64 ((t1.length : Int) + (t2.length : Int))) + 2); (brindlewoodref3_Int_twos k a0 c3).bind fun t4 => (brindlewoodref3_Int_twos k a1 c3).bind fun t5 => joinB (α := (Bool × List Int) × Int × List Bool) (brindlewoodref3_Int_Bitwise.l0 k k a2 (false, []) c3 t4 t5 0) (fun y6 => bif inR (w64 (y6.2.1 - 1)) (y6.2.2.length : Int) then (bif (!(rdB y6.2.2 (w64 (y6.2.1 - 1)))) then ((brindlewoodref3_Binary k y6.2.2).bind fun t7 => some (false, t7)) else (joinB (α := (Bool × List Int) × List Bool) (brindlewoodref3_Int_Bitwise.l1 k k y6.1 y6.2.1 y6.2.2 0) (fun y8 => (brindlewoodref3_Binary k y8.2).bind fun t9 => (brindlewoodref3_Small k 1).bind fun t10 => (brindlewoodref3_Plus k t9 t10).bind fun t11 => some (true, t11)) some)) else none) some

def brindlewoodlaw3_IntegerBits (k : Nat) (a0 : Bool × List Int) (a1 : Bool × List Int) (a2 : Int) : Option (Bool) :=
  (brindlewoodref3_Faults k [a0, a1]).bind fun t1 => (integer_And k a0 a1).bind fun t2 => (integer_Or k a0 a1).bind fun t3 => (integer_Xor k a0 a1).bind fun t4 => (integer_Not k a0).bind fun t5 => (integer_Shift k a0 a2).bind fun t6 => (brindlewoodlaw3_counts k).bind fun t7 => bif (!t7) then (some false) else ((brindlewoodref3_IntOk a0).bind fun t8 => bif (!t8) then ((brindlewoodref3_At 6 (-1)).bind fun t9 => bif ((t2.2.1 == t9.1) && ((t2.2.2 == t9.2) && true)) then (bif ((t3.2.1 == t9.1) && ((t3.2.2 == t9.2) && true)) then (bif ((t4.2.1 == t9.1) && ((t4.2.2 == t9.2) && true)) then (bif ((t5.2.1 == t9.1) && ((t5.2.2 == t9.2) && true)) then (bif ((t6.2.1 == t9.1) && ((t6.2.2 == t9.2) && true)) then ((brindlewoodref3_NoInt t2.1).bind fun t10 => bif t10 then ((brindlewoodref3_NoInt t3.1).bind fun t11 => bif t11 then ((brindlewoodref3_NoInt t4.1).bind fun t12 => bif t12 then ((brindlewoodref3_NoInt t5.1).bind fun t13 => bif t13 then ((brindlewoodref3_NoInt t6.1).bind fun t14 => some t14) else (some false)) else (some false)) else (some false)) else (some false)) else (some false)) else (some false)) else (some false)) else (some false)) else (some false)) else ((brindlewoodref3_IntOf k a0).bind fun t15 => (brindlewoodref3_Int_Minus t15).bind fun t16 => (brindlewoodref3_Number k (-1)).bind fun t17 => (brindlewoodref3_Int_Plus k t16 t17).bind fun t18 => (brindlewoodlaw3_yields k t5.1 t5.2 t18 (0, 0)).bind fun t19 => bif (!t19) then (some false) else ((brindlewoodref3_Ones k t15.2).bind fun t20 => joinB (α := (Bool × List Int) × (Int × Int) × (Bool × List Int) × (Int × Int) × (Bool × List Int) × (Int × Int) × (Bool × List Int) × (Int × Int) × Bool × List Int) (joinB (α := Int × (Bool × List Int) × (Int × Int) × (Bool × List Int) × (Int × Int) × (Bool × List Int) × (Int × Int) × (Bool × List Int) × (Int × Int) × (Bool × List Int) × (Int × Int) × (Bool × List Int) × Bool) (bif decide (0 < (t20.length : Int)) then (some (.inl (a2, a1, t1, t2.1, t2.2, t3.1, t3.2, t4.1, t4.2, t6.1, t6.2, t15, decide (4096 < a2)))) else (some (.inl (a2, a1, t1, t2.1, t2.2, t3.1, t3.2, t4.1, t4.2, t6.1, t6.2, t15, false)))) (fun z21 => bif z21.2.2.2.2.2.2.2.2.2.2.2.2 then ((brindlewoodref3_At 14 (-1)).bind fun t22 => bif (!((z21.2.2.2.2.2.2.2.2.2.2.1.1 == t22.1) && ((z21.2.2.2.2.2.2.2.2.2.2.1.2 == t22.2) && true))) then (some (.inr false)) else ((brindlewoodref3_NoInt z21.2.2.2.2.2.2.2.2.2.1).bind fun t23 => bif (!t23) then (some (.inr false)) else (some (.inl (z21.2.1, z21.2.2.1, z21.2.2.2.1, z21.2.2.2.2.1, z21.2.2.2.2.2.1, z21.2.2.2.2.2.2.1, z21.2.2.2.2.2.2.2.1, z21.2.2.2.2.2.2.2.2.1, z21.2.2.2.2.2.2.2.2.2.2.2.1))))) else ((brindlewoodref3_Int_Moved k z21.2.2.2.2.2.2.2.2.2.2.2.1 z21.1).bind fun t24 => (brindlewoodlaw3_yields k z21.2.2.2.2.2.2.2.2.2.1 z21.2.2.2.2.2.2.2.2.2.2.1 t24 (0, 0)).bind fun t25 => bif (!t25) then (some (.inr false)) else (some (.inl (z21.2.1, z21.2.2.1, z21.2.2.2.1, z21.2.2.2.2.1, z21.2.2.2.2.2.1, z21.2.2.2.2.2.2.1, z21.2.2.2.2.2.2.2.1, z21.2.2.2.2.2.2.2.2.1, z21.2.2.2.2.2.2.2.2.2.2.2.1))))) (fun r => some (.inr r))) (fun z26 => bif (z26.2.1.1 != 0) then (bif ((z26.2.2.2.1.1 == z26.2.1.1) && ((z26.2.2.2.1.2 == z26.2.1.2) && true)) then (bif ((z26.2.2.2.2.2.1.1 == z26.2.1.1) && ((z26.2.2.2.2.2.1.2 == z26.2.1.2) && true)) then (bif ((z26.2.2.2.2.2.2.2.1.1 == z26.2.1.1) && ((z26.2.2.2.2.2.2.2.1.2 == z26.2.1.2) && true)) then ((brindlewoodref3_NoInt z26.2.2.1).bind fun t27 => bif t27 then ((brindlewoodref3_NoInt z26.2.2.2.2.1).bind fun t28 => bif t28 then ((brindlewoodref3_NoInt z26.2.2.2.2.2.2.1).bind fun t29 => some t29) else (some false)) else (some false)) else (some false)) else (some false)) else (some false)) else ((brindlewoodref3_IntOf k z26.1).bind fun t30 => (brindlewoodref3_Int_Bitwise k z26.2.2.2.2.2.2.2.2 t30 0).bind fun t31 => (brindlewoodlaw3_yields k z26.2.2.1 z26.2.2.2.1 t31 z26.2.1).bind fun t32 => bif t32 then ((brindlewoodref3_Int_Bitwise k z26.2.2.2.2.2.2.2.2 t30 1).bind fun t33 => (brindlewoodlaw3_yields k z26.2.2.2.2.1 z26.2.2.2.2.2.1 t33 z26.2.1).bind fun t34 => bif t34 then ((brindlewoodref3_Int_Bitwise k z26.2.2.2.2.2.2.2.2 t30 2).bind fun t35 => (brindlewoodlaw3_yields k z26.2.2.2.2.2.2.1 z26.2.2.2.2.2.2.2.1 t35 z26.2.1).bind fun t36 => some t36) else (some false)) else (some false))) some)))

def natural_Gcd.b0 (k : Nat) (rec : List Int → List Int → (Int × Int) → Option ((List Int × Int × Int) ⊕ (List Int × Int × Int))) (x0 : List Int) (x1 : List Int) (x37 : Int × Int) : Option ((List Int × Int × Int) ⊕ (List Int × Int × Int)) :=
  bif decide (0 < (x1.length : Int)) then ((natural_divMod k x0 x1).bind fun t3 => (slices_Clone_uint32uint32 x1).bind fun t4 => rec t4 t3.2 x37) else (some (.inl (x0, x37)))
def natural_Gcd.l0 (k : Nat) : Nat → List Int → List Int → (Int × Int) → Option ((List Int × Int × Int) ⊕ (List Int × Int × Int))
  | 0 => fun _ _ _ => none
  | n + 1 => natural_Gcd.b0 k (natural_Gcd.l0 k n)
def natural_Gcd (k : Nat) (a0 : List Int) (a1 : List Int) : Option (List Int × Int × Int) :=
  (natural_check a0 a1).bind fun t1 => bif (t1.1 != 0) then (some ([], t1)) else ((slices_Clone_uint32uint32 a0).bind fun t2 => joinB (α := List Int × Int × Int) (natural_Gcd.l0 k k t2 a1 (0, 0)) (fun y5 => some (y5.1, (0, 0))) some)

def natural_Sqrt.b0 (k : Nat) (rec : List Int → (Int × Int) → List Int → Option ((Unit) ⊕ (List Int × Int × Int))) (x0 : List Int) (x48 : Int × Int) (x6 : List Int) : Option ((Unit) ⊕ (List Int × Int × Int)) :=
  (natural_divMod k x0 x6).bind fun t4 => (natural_add k x6 t4.1).bind fun t5 => (natural_right k t5 1).bind fun t6 => (natural_compare k t6 x6).bind fun t7 => bif decide (0 ≤ t7) then (some (.inr (x6, (0, 0)))) else (rec x0 x48 t6)
def natural_Sqrt.l0 (k : Nat) : Nat → List Int → (Int × Int) → List Int → Option ((Unit) ⊕ (List Int × Int × Int))
  | 0 => fun _ _ _ => none
  | n + 1 => natural_Sqrt.b0 k (natural_Sqrt.l0 k n)
def natural_Sqrt (k : Nat) (a0 : List Int) : Option (List Int × Int × Int) :=
  (natural_Bits a0).bind fun t1 => joinB (α := List Int × (Int × Int) × Int) (bif (t1.2.1 != 0) then (some (.inr ([], t1.2))) else (bif (t1.1 == 0) then (some (.inr ([], t1.2))) else (some (.inl (a0, (0, 0), t1.1))))) (fun z2 => (natural_left k [1] (w64 (Int.tdiv (w64 (z2.2.2 + 1)) 2))).bind fun t3 => joinB (α := Unit) (natural_Sqrt.l0 k k z2.1 z2.2.1 t3) (fun _ => none) some) some

def brindlewoodref3_Halve.b0 (k : Nat) (rec : List Int → Int → List Int → Int → Int → Option ((List Int × Int) ⊕ (List Int × Int))) (x0 : List Int) (x1 : Int) (x6 : List Int) (x7 : Int) (x8 : Int) : Option ((List Int × Int) ⊕ (List Int × Int)) :=
  bif decide (0 ≤ x8) then (bif inR x8 (x0.length : Int) then (let c1 := w64 ((w64 (x7 * 65536)) + (rd x0 x8)); bif !decide (x1 = 0) then (bif inR x8 (x6.length : Int) then (bif !decide (x1 = 0) then (rec x0 x1 (x6.set (Int.toNat x8) (w64 (Int.tdiv c1 x1))) (Int.tmod c1 x1) (w64 (x8 - 1))) else none) else none) else none) else none) else (some (.inl (x6, x7)))
def brindlewoodref3_Halve.l0 (k : Nat) : Nat → List Int → Int → List Int → Int → Int → Option ((List Int × Int) ⊕ (List Int × Int))
  | 0 => fun _ _ _ _ _ => none
  | n + 1 => brindlewoodref3_Halve.b0 k (brindlewoodref3_Halve.l0 k n)
def brindlewoodref3_Halve (k : Nat) (a0 : List Int) (a1 : Int) : Option (List Int × Int) :=
  bif ((decide (0 ≤ (a0.length : Int)) && decide ((a0.length : Int) ≤ (a0.length : Int))) && fitsB (Int.toNat (a0.length : Int)) 8) then (joinB (α := List Int × Int) (brindlewoodref3_Halve.l0 k k a0 a1 (List.replicate (Int.toNat (a0.length : Int)) 0) 0 (w64 ((a0.length : Int) - 1))) (fun y2 => (brindlewoodref3_trim_v k y2.1).bind fun t3 => some (sub y2.1 t3.1 t3.2, y2.2)) some) else none

def brindlewoodref3_Times.b1 (k : Nat) (rec : List Int → List Int → List Int → Int → Int → Int → Option ((List Int × List Int × List Int × Int × Int × Bool) ⊕ (List Int))) (x0 : List Int) (x1 : List Int) (x5 : List Int) (x6 : Int) (x7 : Int) (x8 : Int) : Option ((List Int × List Int × List Int × Int × Int × Bool) ⊕ (List Int)) :=
  bif decide (x8 < (x1.length : Int)) then (bif inR (w64 (x6 + x8)) (x5.length : Int) then (let c1 := w64 ((rd x5 (w64 (x6 + x8))) + x7); bif decide (x8 < (x1.length : Int)) then (bif inR x6 (x0.length : Int) then (bif inR x8 (x1.length : Int) then (let c2 := w64 (c1 + (w64 ((rd x0 x6) * (rd x1 x8)))); bif inR (w64 (x6 + x8)) (x5.length : Int) then (rec x0 x1 (x5.set (Int.toNat (w64 (x6 + x8))) (Int.tmod c2 65536)) x6 (w64 (Int.tdiv c2 65536)) (w64 (x8 + 1))) else none) else none) else none) else (bif inR (w64 (x6 + x8)) (x5.length : Int) then (rec x0 x1 (x5.set (Int.toNat (w64 (x6 + x8))) (Int.tmod c1 65536)) x6 (w64 (Int.tdiv c1 65536)) (w64 (x8 + 1))) else none)) else none) else (bif decide (0 < x7) then (bif inR (w64 (x6 + x8)) (x5.length : Int) then (let c3 := w64 ((rd x5 (w64 (x6 + x8))) + x7); bif decide (x8 < (x1.length : Int)) then (bif inR x6 (x0.length : Int) then (bif inR x8 (x1.length : Int) then (let c4 := w64 (c3 + (w64 ((rd x0 x6) * (rd x1 x8)))); bif inR (w64 (x6 + x8)) (x5.length : Int) then (rec x0 x1 (x5.set (Int.toNat (w64 (x6 + x8))) (Int.tmod c4 65536)) x6 (w64 (Int.tdiv c4 65536)) (w64 (x8 + 1))) else none) else none) else none) else (bif inR (w64 (x6 + x8)) (x5.length : Int) then (rec x0 x1 (x5.set (Int.toNat (w64 (x6 + x8))) (Int.tmod c3 65536)) x6 (w64 (Int.tdiv c3 65536)) (w64 (x8 + 1))) else none)) else none) else (some (.inl (x0, x1, x5, x6, x7, decide (0 < x7)))))
def brindlewoodref3_Times.l1 (k : Nat) : Nat → List Int → List Int → List Int → Int → Int → Int → Option ((List Int × List Int × List Int × Int × Int × Bool) ⊕ (List Int))
  | 0 => fun _ _ _ _ _ _ => none
  | n + 1 => brindlewoodref3_Times.b1 k (brindlewoodref3_Times.l1 k n)
def brindlewoodref3_Times.b0 (k : Nat) (rec : List Int → List Int → List Int → Int → Option ((List Int) ⊕ (List Int))) (x0 : List Int) (x1 : List Int) (x5 : List Int) (x6 : Int) : Option ((List Int) ⊕ (List Int)) :=
  bif decide (x6 < (x0.length : Int)) then (joinB (α := List Int × List Int × List Int × Int × Int × Bool) (brindlewoodref3_Times.l1 k k x0 x1 x5 x6 0 0) (fun y5 => rec y5.1 y5.2.1 y5.2.2.1 (w64 (y5.2.2.2.1 + 1))) (fun r => some (.inr r))) else (some (.inl x5))
def brindlewoodref3_Times.l0 (k : Nat) : Nat → List Int → List Int → List Int → Int → Option ((List Int) ⊕ (List Int))
  | 0 => fun _ _ _ _ => none
  | n + 1 => brindlewoodref3_Times.b0 k (brindlewoodref3_Times.l0 k n)
def brindlewoodref3_Times (k : Nat) (a0 : List Int) (a1 : List Int) : Option (List Int) :=
  bif ((decide (0 ≤ w64 ((w64 ((a0.length : Int) + (a1.length : Int))) + 1)) && decide (w64 ((w64 ((a0.length : Int) + (a1.length : Int))) + 1) ≤ w64 ((w64 ((a0.length : Int) + (a1.length : Int))) + 1))) && fitsB (Int.toNat (w64 ((w64 ((a0.length : Int) + (a1.length : Int))) + 1))) 8) then (joinB (α := List Int) (brindlewoodref3_Times.l0 k k a0 a1 (List.replicate (Int.toNat (w64 ((w64 ((a0.length : Int) + (a1.length : Int))) + 1))) 0) 0) (fun y6 => (brindlewoodref3_trim_v k y6).bind fun t7 => some (sub y6 t7.1 t7.2)) some) else none

def natural_mul.b1 (k : Nat) (rec : List Int → List Int → Int → Int → Int → List Int → Int → Int → List Int → Int → Int → Option ((List Int × List Int × Int × Int × List Int × Int × Int) ⊕ (List Int))) (x1 : List Int) (x5 : List Int) (x6 : Int) (x7 : Int) (x8 : Int) (x17 : List Int) (x18 : Int) (x19 : Int) (x24 : List Int) (x25 : Int) (x26 : Int) : Option ((List Int × List Int × Int × Int × List Int × Int × Int) ⊕ (List Int)) :=
  bif decide (x26 < x25) then (bif inR x26 (x24.length : Int) then (bif inR (w64 (x6 + x26)) (x5.length : Int) then (let c1 := wu64 (x8 + (wu64 ((wu64 ((wu64 (x7)) * (wu64 (rd x24 x26)))) + (wu64 (rd x5 (w64 (x6 + x26))))))); bif inR (w64 (x6 + x26)) (x5.length : Int) then (rec x1 (x5.set (Int.toNat (w64 (x6 + x26))) (wu32 (c1))) x6 x7 (shrI .u64 c1 32) x17 x18 x19 x24 x25 (w64 (x26 + 1))) else none) else none) else none) else (some (.inl (x1, x5, x6, x8, x17, x18, x19)))
def natural_mul.l1 (k : Nat) : Nat → List Int → List Int → Int → Int → Int → List Int → Int → Int → List Int → Int → Int → Option ((List Int × List Int × Int × Int × List Int × Int × Int) ⊕ (List Int))
  | 0 => fun _ _ _ _ _ _ _ _ _ _ _ => none
  | n + 1 => natural_mul.b1 k (natural_mul.l1 k n)
def natural_mul.b0 (k : Nat) (rec : List Int → List Int → List Int → Int → Int → Option ((List Int) ⊕ (List Int))) (x1 : List Int) (x5 : List Int) (x17 : List Int) (x18 : Int) (x19 : Int) : Option ((List Int) ⊕ (List Int)) :=
  bif decide (x19 < x18) then (bif inR x19 (x17.length : Int) then (joinB (α := List Int × List Int × Int × Int × List Int × Int × Int) (natural_mul.l1 k k x1 x5 x19 (rd x17 x19) 0 x17 x18 x19 x1 (x1.length : Int) 0) (fun y2 => bif inR (w64 (y2.2.2.1 + (y2.1.length : Int))) (y2.2.1.length : Int) then (rec y2.1 (y2.2.1.set (Int.toNat (w64 (y2.2.2.1 + (y2.1.length : Int)))) (wu32 (y2.2.2.2.1))) y2.2.2.2.2.1 y2.2.2.2.2.2.1 (w64 (y2.2.2.2.2.2.2 + 1))) else none) (fun r => some (.inr r))) else none) else (some (.inl x5))
def natural_mul.l0 (k : Nat) : Nat → List Int → List Int → List Int → Int → Int → Option ((List Int) ⊕ (List Int))
  | 0 => fun _ _ _ _ _ => none
  | n + 1 => natural_mul.b0 k (natural_mul.l0 k n)
def natural_mul (k : Nat) (a0 : List Int) (a1 : List Int) : Option (List Int) :=
  bif ((decide (0 ≤ w64 ((a0.length : Int) + (a1.length : Int))) && decide (w64 ((a0.length : Int) + (a1.length : Int)) ≤ w64 ((a0.length : Int) + (a1.length : Int)))) && fitsB (Int.toNat (w64 ((a0.length : Int) + (a1.length : Int)))) 4) then (joinB (α := List Int) (natural_mul.l0 k k a1 (List.replicate (Int.toNat (w64 ((a0.length : Int) + (a1.length : Int)))) 0) a0 (a0.length : Int) 0) (fun y3 => (natural_trim_v k y3).bind fun t4 => some (sub y3 t4.1 t4.2)) some) else none

def natural_Mul (k : Nat) (a0 : List Int) (a1 : List Int) : Option (List Int × Int × Int) :=
  (natural_check a0 a1).bind fun t1 => bif (t1.1 != 0) then (some ([], t1)) else ((natural_mul k a0 a1).bind fun t2 => (natural_fit k t2).bind fun t3 => some (t3.1, t3.2))

def natural_From.b0 (k : Nat) (rec : Int → (Int × Int) → List Int → List Int → Int → Int → Option (((Int × Int) × List Int) ⊕ (List Int × Int × Int))) (x1 : Int) (x55 : Int × Int) (x6 : List Int) (x16 : List Int) (x17 : Int) (x18 : Int) : Option (((Int × Int) × List Int) ⊕ (List Int × Int × Int)) :=
  bif decide (x18 < x17) then (bif inR x18 (x16.length : Int) then (joinB (α := Int × (Int × Int) × List Int × Int × List Int × Int × Int × Int × Int × Bool) (bif decide (rd x16 x18 < 0) then ((natural_at 4 x18).bind fun t4 => some (.inr ([], t4))) else (bif decide (x1 ≤ rd x16 x18) then ((natural_at 4 x18).bind fun t5 => some (.inr ([], t5))) else (some (.inl (x1, x55, x6, rd x16 x18, x16, x17, x18, rd x16 x18, x1, decide (x1 ≤ rd x16 x18)))))) (fun z6 => bif decide (600 < (z6.2.2.1.length : Int)) then (rec z6.1 z6.2.1 z6.2.2.1 z6.2.2.2.2.1 z6.2.2.2.2.2.1 (w64 (z6.2.2.2.2.2.2.1 + 1))) else ((natural_mul k z6.2.2.1 [wu32 (z6.1)]).bind fun t7 => (natural_trim_v k [wu32 (z6.2.2.2.1)]).bind fun t8 => (natural_add k t7 (sub [wu32 (z6.2.2.2.1)] t8.1 t8.2)).bind fun t9 => rec z6.1 z6.2.1 t9 z6.2.2.2.2.1 z6.2.2.2.2.2.1 (w64 (z6.2.2.2.2.2.2.1 + 1)))) (fun r => some (.inr r))) else none) else (some (.inl (x55, x6)))
def natural_From.l0 (k : Nat) : Nat → Int → (Int × Int) → List Int → List Int → Int → Int → Option (((Int × Int) × List Int) ⊕ (List Int × Int × Int))
  | 0 => fun _ _ _ _ _ _ => none
  | n + 1 => natural_From.b0 k (natural_From.l0 k n)
def natural_From (k : Nat) (a0 : List Int) (a1 : Int) : Option (List Int × Int × Int) :=
  joinB (α := List Int × Int × Int × Int) (bif decide (a1 < 2) then ((natural_at 4 (-2)).bind fun t1 => some (.inr ([], t1))) else (bif decide (36 < a1) then ((natural_at 4 (-2)).bind fun t2 => some (.inr ([], t2))) else (some (.inl (a0, a1, (0, 0)))))) (fun z3 => joinB (α := (Int × Int) × List Int) (natural_From.l0 k k z3.2.1 z3.2.2 [] z3.1 (z3.1.length : Int) 0) (fun y10 => (natural_fit k y10.2).bind fun t11 => some (t11.1, t11.2)) some) some

def brindlewoodref3_Figures.b1 (k : Nat) (rec : List Int → List Int → Int → Option ((List Int) ⊕ (List Int))) (x5 : List Int) (x7 : List Int) (x8 : Int) : Option ((List Int) ⊕ (List Int)) :=
  bif decide (0 ≤ x8) then (bif inR x8 (x5.length : Int) then (bif fitsB (x7.length + [rd x5 x8].length) 8 then (rec x5 (x7 ++ [rd x5 x8]) (w64 (x8 - 1))) else none) else none) else (some (.inl x7))
def brindlewoodref3_Figures.l1 (k : Nat) : Nat → List Int → List Int → Int → Option ((List Int) ⊕ (List Int))
  | 0 => fun _ _ _ => none
  | n + 1 => brindlewoodref3_Figures.b1 k (brindlewoodref3_Figures.l1 k n)
def brindlewoodref3_Figures.b0 (k : Nat) (rec : List Int → Int → List Int → Option ((List Int) ⊕ (List Int))) (x0 : List Int) (x1 : Int) (x5 : List Int) : Option ((List Int) ⊕ (List Int)) :=
  bif decide (0 < (x0.length : Int)) then ((brindlewoodref3_Halve k x0 x1).bind fun t1 => bif fitsB (x5.length + [t1.2].length) 8 then (rec t1.1 x1 (x5 ++ [t1.2])) else none) else (some (.inl x5))
def brindlewoodref3_Figures.l0 (k : Nat) : Nat → List Int → Int → List Int → Option ((List Int) ⊕ (List Int))
  | 0 => fun _ _ _ => none
  | n + 1 => brindlewoodref3_Figures.b0 k (brindlewoodref3_Figures.l0 k n)
def brindlewoodref3_Figures (k : Nat) (a0 : List Int) (a1 : Int) : Option (List Int) :=
  joinB (α := List Int) (brindlewoodref3_Figures.l0 k k a0 a1 []) (fun y2 => joinB (α := List Int) (brindlewoodref3_Figures.l1 k k y2 [] (w64 ((y2.length : Int) - 1))) (fun y3 => some y3) some) some

def brindlewoodref3_Read.b0 (k : Nat) (rec : List Int → Int → List Int → Int → Option ((List Int) ⊕ (List Int))) (x0 : List Int) (x1 : Int) (x5 : List Int) (x6 : Int) : Option ((List Int) ⊕ (List Int)) :=
  bif decide (x6 < (x0.length : Int)) then ((brindlewoodref3_Small k x1).bind fun t1 => (brindlewoodref3_Times k x5 t1).bind fun t2 => bif inR x6 (x0.length : Int) then ((brindlewoodref3_Small k (rd x0 x6)).bind fun t3 => (brindlewoodref3_Plus k t2 t3).bind fun t4 => rec x0 x1 t4 (w64 (x6 + 1))) else none) else (some (.inl x5))
def brindlewoodref3_Read.l0 (k : Nat) : Nat → List Int → Int → List Int → Int → Option ((List Int) ⊕ (List Int))
  | 0 => fun _ _ _ _ => none
  | n + 1 => brindlewoodref3_Read.b0 k (brindlewoodref3_Read.l0 k n)
def brindlewoodref3_Read (k : Nat) (a0 : List Int) (a1 : Int) : Option (List Int) :=
  joinB (α := List Int) (brindlewoodref3_Read.l0 k k a0 a1 [] 0) (fun y5 => some y5) some

def integer_Gcd (k : Nat) (a0 : Bool × List Int) (a1 : Bool × List Int) : Option ((Bool × List Int) × Int × Int) :=
  (integer_check k [a0, a1]).bind fun t1 => bif (t1.1 != 0) then (some ((false, []), t1)) else ((natural_Gcd k a0.2 a1.2).bind fun t2 => (integer_signed false t2.1).bind fun t3 => some (t3.1, t3.2))

def integer_Sub (k : Nat) (a0 : Bool × List Int) (a1 : Bool × List Int) : Option ((Bool × List Int) × Int × Int) :=
  (integer_check k [a0, a1]).bind fun t1 => bif (t1.1 != 0) then (some ((false, []), t1)) else ((integer_plus k a0 ((!a1.1), a1.2)).bind fun t2 => some (t2.1, t2.2))

def integer_Mul (k : Nat) (a0 : Bool × List Int) (a1 : Bool × List Int) : Option ((Bool × List Int) × Int × Int) :=
  (integer_check k [a0, a1]).bind fun t1 => bif (t1.1 != 0) then (some ((false, []), t1)) else ((natural_Mul k a0.2 a1.2).bind fun t2 => (integer_signed (!(a0.1 == a1.1)) t2.1).bind fun t3 => some (t3.1, t3.2))

def brindlewoodref3_Int_Times (k : Nat) (a0 : Bool × List Int) (a1 : Bool × List Int) : Option (Bool × List Int) :=
  (brindlewoodref3_Times k a0.2 a1.2).bind fun t1 => bif (!(a0.1 == a1.1)) then (some (decide (0 < (t1.length : Int)), t1)) else (some (false, t1))

def brindlewoodlaw3_IntegerArithmetic (k : Nat) (a0 : Bool × List Int) (a1 : Bool × List Int) : Option (Bool) :=
  (brindlewoodref3_Faults k [a0, a1]).bind fun t1 => (integer_Add k a0 a1).bind fun t2 => (integer_Sub k a0 a1).bind fun t3 => (integer_Mul k a0 a1).bind fun t4 => (brindlewoodlaw3_counts k).bind fun t5 => bif (!t5) then (some false) else (bif (t1.1 != 0) then (bif ((t2.2.1 == t1.1) && ((t2.2.2 == t1.2) && true)) then (bif ((t3.2.1 == t1.1) && ((t3.2.2 == t1.2) && true)) then (bif ((t4.2.1 == t1.1) && ((t4.2.2 == t1.2) && true)) then ((brindlewoodref3_NoInt t2.1).bind fun t6 => bif t6 then ((brindlewoodref3_NoInt t3.1).bind fun t7 => bif t7 then ((brindlewoodref3_NoInt t4.1).bind fun t8 => some t8) else (some false)) else (some false)) else (some false)) else (some false)) else (some false)) else ((brindlewoodref3_IntOf k a0).bind fun t9 => (brindlewoodref3_IntOf k a1).bind fun t10 => (brindlewoodref3_Int_Plus k t9 t10).bind fun t11 => (brindlewoodlaw3_yields k t2.1 t2.2 t11 t1).bind fun t12 => bif t12 then ((brindlewoodref3_Int_Minus t10).bind fun t13 => (brindlewoodref3_Int_Plus k t9 t13).bind fun t14 => (brindlewoodlaw3_yields k t3.1 t3.2 t14 t1).bind fun t15 => bif t15 then ((brindlewoodref3_Int_Times k t9 t10).bind fun t16 => (brindlewoodlaw3_yields k t4.1 t4.2 t16 t1).bind fun t17 => some t17) else (some false)) else (some false)))

def integer_Cmp (k : Nat) (a0 : Bool × List Int) (a1 : Bool × List Int) : Option (Int × Int × Int) :=
  (integer_check k [a0, a1]).bind fun t1 => bif (t1.1 != 0) then (some (0, t1)) else ((natural_Cmp k a0.2 a1.2).bind fun t2 => joinB (α := (Bool × List Int) × (Bool × List Int) × (Int × Int) × Int × Bool) (bif a0.1 then (some (.inl (a0, a1, (0, 0), t2.1, a1.1))) else (some (.inl (a0, a1, (0, 0), t2.1, false)))) (fun z3 => bif z3.2.2.2.2 then (some (w64 (0 - z3.2.2.2.1), (0, 0))) else (bif z3.1.1 then (some ((-1), (0, 0))) else (bif z3.2.1.1 then (some (1, (0, 0))) else (some (z3.2.2.2.1, (0, 0)))))) some)

def integer_Bits (k : Nat) (a0 : Bool × List Int) : Option (Int × Int × Int) :=
  (integer_check k [a0]).bind fun t1 => bif (t1.1 != 0) then (some (0, t1)) else ((natural_Bits a0.2).bind fun t2 => some (t2.1, t2.2))

def integer_Neg (k : Nat) (a0 : Bool × List Int) : Option ((Bool × List Int) × Int × Int) :=
  (integer_check k [a0]).bind fun t1 => bif (t1.1 != 0) then (some ((false, []), t1)) else ((slices_Clone_uint32uint32 a0.2).bind fun t2 => (integer_signed (!a0.1) t2).bind fun t3 => some (t3.1, t3.2))

def integer_Abs (k : Nat) (a0 : Bool × List Int) : Option ((Bool × List Int) × Int × Int) :=
  (integer_check k [a0]).bind fun t1 => bif (t1.1 != 0) then (some ((false, []), t1)) else ((slices_Clone_uint32uint32 a0.2).bind fun t2 => (integer_signed false t2).bind fun t3 => some (t3.1, t3.2))

def brindlewoodlaw3_IntegerRing (k : Nat) (a0 : Bool × List Int) (a1 : Bool × List Int) (a2 : Bool × List Int) : Option (Bool) :=
  (brindlewoodlaw3_counts k).bind fun t1 => bif (!t1) then (some false) else (joinB (α := (Bool × List Int) × (Bool × List Int) × Bool × List Int) ((brindlewoodref3_Faults k [a0, a1, a2]).bind fun t2 => bif (t2.1 != 0) then (some (.inr true)) else (bif decide (60 < (a0.2.length : Int)) then (some (.inr true)) else (bif decide (60 < (a1.2.length : Int)) then (some (.inr true)) else (bif decide (60 < (a2.2.length : Int)) then (some (.inr true)) else (some (.inl (a0, a1, a2))))))) (fun z3 => (integer_Add k z3.1 z3.2.1).bind fun t4 => (integer_Mul k t4.1 z3.2.2).bind fun t5 => (integer_Mul k z3.1 z3.2.2).bind fun t6 => (integer_Mul k z3.2.1 z3.2.2).bind fun t7 => (integer_Add k t6.1 t7.1).bind fun t8 => (integer_Sub k t4.1 z3.2.1).bind fun t9 => joinB (α := (Bool × List Int) × (Bool × List Int) × (Int × Int) × (Int × Int) × (Bool × List Int) × (Int × Int) × (Int × Int) × (Bool × List Int) × (Int × Int) × Int × Int) (bif (t4.2.1 != 0) then (some (.inr false)) else (bif (t5.2.1 != 0) then (some (.inr false)) else (bif (t6.2.1 != 0) then (some (.inr false)) else (bif (t7.2.1 != 0) then (some (.inr false)) else (bif (t8.2.1 != 0) then (some (.inr false)) else (bif (t9.2.1 != 0) then (some (.inr false)) else ((brindlewoodref3_SameInts k t5.1 t8.1).bind fun t10 => bif (!t10) then (some (.inr false)) else ((brindlewoodref3_SameInts k t9.1 z3.1).bind fun t11 => bif (!t11) then (some (.inr false)) else (some (.inl (z3.1, z3.2.1, t4.2, t5.2, t6.1, t6.2, t7.2, t8.1, t8.2, t9.2))))))))))) (fun z12 => (brindlewoodref3_NoInt z12.2.1).bind fun t13 => bif t13 then (some true) else ((integer_DivMod k z12.1 z12.2.1).bind fun t14 => (integer_Mul k t14.1 z12.2.1).bind fun t15 => (integer_Add k t15.1 t14.2.1).bind fun t16 => (integer_Of k 0).bind fun t17 => (integer_Cmp k t17 t14.2.1).bind fun t18 => (integer_Abs k z12.2.1).bind fun t19 => (integer_Abs k t14.2.1).bind fun t20 => (integer_Cmp k t20.1 t19.1).bind fun t21 => bif (t14.2.2.1 == 0) then (bif (t15.2.1 == 0) then (bif (t16.2.1 == 0) then (bif (t18.2.1 == 0) then (bif (t19.2.1 == 0) then (bif (t20.2.1 == 0) then (bif (t21.2.1 == 0) then ((brindlewoodref3_SameInts k t16.1 z12.1).bind fun t22 => bif t22 then (bif decide (t21.1 < 0) then (bif (t18.1 == 0) then (some true) else (let c23 := ((decide (0 < t18.1)) == z12.2.1.1); some c23)) else (some false)) else (some false)) else (some false)) else (some false)) else (some false)) else (some false)) else (some false)) else (some false)) else (some false))) some) some)
end Go.Sh
