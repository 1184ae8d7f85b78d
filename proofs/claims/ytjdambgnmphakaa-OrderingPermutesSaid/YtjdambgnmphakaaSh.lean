/- The functions of the program as plain Lean functions, by wip/gen/gen.py.  Conditions: none, these are definitions. -/
import Derived.Test.YtjdambgnmphakaaE1
set_option linter.unusedVariables false
namespace Go.Sh
open Go Go.Ev

def ordering_at (a0 : Int) (a1 : Int) : Option (Int × Int) :=
  some (a0, a1)

def ordering_Inverse.b0 (k : Nat) (rec : List Int → (Int × Int) → List Int → List Int → List Int → Int → Int → Option (((Int × Int) × List Int) ⊕ (List Int × Int × Int))) (x0 : List Int) (x46 : Int × Int) (x4 : List Int) (x5 : List Int) (x12 : List Int) (x13 : Int) (x14 : Int) : Option (((Int × Int) × List Int) ⊕ (List Int × Int × Int)) :=
  bif decide (x14 < x13) then (bif inR x14 (x12.length : Int) then (joinB (α := List Int × (Int × Int) × List Int × List Int × Int × Int × List Int × Int × Int × Int × List Int × Int × Bool) (bif decide (rd x12 x14 < 0) then ((ordering_at 4 x14).bind fun t1 => some (.inr ([], t1))) else (bif decide ((x0.length : Int) ≤ rd x12 x14) then ((ordering_at 4 x14).bind fun t2 => some (.inr ([], t2))) else (some (.inl (x0, x46, x4, x5, x14, rd x12 x14, x12, x13, x14, rd x12 x14, x0, (x0.length : Int), decide ((x0.length : Int) ≤ rd x12 x14)))))) (fun z3 => bif hasK z3.2.2.2.1 z3.2.2.2.2.2.1 then ((ordering_at 8 z3.2.2.2.2.1).bind fun t4 => some (.inr ([], t4))) else (bif inR z3.2.2.2.2.2.1 (z3.2.2.1.length : Int) then (rec z3.1 z3.2.1 (z3.2.2.1.set (Int.toNat z3.2.2.2.2.2.1) z3.2.2.2.2.1) (addK z3.2.2.2.1 z3.2.2.2.2.2.1) z3.2.2.2.2.2.2.1 z3.2.2.2.2.2.2.2.1 (w64 (z3.2.2.2.2.2.2.2.2.1 + 1))) else none)) (fun r => some (.inr r))) else none) else (some (.inl (x46, x4)))
def ordering_Inverse.l0 (k : Nat) : Nat → List Int → (Int × Int) → List Int → List Int → List Int → Int → Int → Option (((Int × Int) × List Int) ⊕ (List Int × Int × Int))
  | 0 => fun _ _ _ _ _ _ _ => none
  | n + 1 => ordering_Inverse.b0 k (ordering_Inverse.l0 k n)
def ordering_Inverse (k : Nat) (a0 : List Int) : Option (List Int × Int × Int) :=
  bif ((decide (0 ≤ (a0.length : Int)) && decide ((a0.length : Int) ≤ (a0.length : Int))) && fitsB (Int.toNat (a0.length : Int)) 8) then (joinB (α := (Int × Int) × List Int) (ordering_Inverse.l0 k k a0 (0, 0) (List.replicate (Int.toNat (a0.length : Int)) (0 : Int)) [] a0 (a0.length : Int) 0) (fun y5 => some (y5.2, (0, 0))) some) else none

def ordering_Permute_int.b0 (k : Nat) (rec : List Int → (Int × Int) → List Int → List Int → Int → Int → Option (((Int × Int) × List Int) ⊕ (List Int × Int × Int))) (x0 : List Int) (x47 : Int × Int) (x8 : List Int) (x26 : List Int) (x27 : Int) (x28 : Int) : Option (((Int × Int) × List Int) ⊕ (List Int × Int × Int)) :=
  bif decide (x28 < x27) then (bif inR x28 (x26.length : Int) then (bif inR (rd x26 x28) (x0.length : Int) then (bif fitsB (x8.length + [rd x0 (rd x26 x28)].length) 8 then (rec x0 x47 (x8 ++ [rd x0 (rd x26 x28)]) x26 x27 (w64 (x28 + 1))) else none) else none) else none) else (some (.inl (x47, x8)))
def ordering_Permute_int.l0 (k : Nat) : Nat → List Int → (Int × Int) → List Int → List Int → Int → Int → Option (((Int × Int) × List Int) ⊕ (List Int × Int × Int))
  | 0 => fun _ _ _ _ _ _ => none
  | n + 1 => ordering_Permute_int.b0 k (ordering_Permute_int.l0 k n)
def ordering_Permute_int (k : Nat) (a0 : List Int) (a1 : List Int) : Option (List Int × Int × Int) :=
  bif ((a1.length : Int) != (a0.length : Int)) then ((ordering_at 9 (-2)).bind fun t1 => some ([], t1)) else ((ordering_Inverse k a1).bind fun t2 => bif (t2.2.1 != 0) then (some ([], t2.2)) else (joinB (α := (Int × Int) × List Int) (ordering_Permute_int.l0 k k a0 (0, 0) [] a1 (a1.length : Int) 0) (fun y3 => some (y3.2, (0, 0))) some))

def brindlewoodref3_At (a0 : Int) (a1 : Int) : Option (Int × Int) :=
  some (a0, a1)

def brindlewoodref3_In.b0 (k : Nat) (rec : List Int → Int → Int → Option ((Unit) ⊕ (Bool))) (x0 : List Int) (x1 : Int) (x5 : Int) : Option ((Unit) ⊕ (Bool)) :=
  bif decide (x5 < (x0.length : Int)) then (bif inR x5 (x0.length : Int) then (bif ((rd x0 x5) == x1) then (some (.inr true)) else (rec x0 x1 (w64 (x5 + 1)))) else none) else (some (.inl ()))
def brindlewoodref3_In.l0 (k : Nat) : Nat → List Int → Int → Int → Option ((Unit) ⊕ (Bool))
  | 0 => fun _ _ _ => none
  | n + 1 => brindlewoodref3_In.b0 k (brindlewoodref3_In.l0 k n)
def brindlewoodref3_In (k : Nat) (a0 : List Int) (a1 : Int) : Option (Bool) :=
  joinB (α := Unit) (brindlewoodref3_In.l0 k k a0 a1 0) (fun y1 => some false) some

def slices_Clone_intint (a0 : List Int) : Option (List Int) := bif fitsB (0 + a0.length) 8 then some a0 else none

def ordering_Plan_runs (a0 : List Int × Int × Int × Int × Int × List Int) : Option (Int × Int) :=
  let c1 := mnI (a0.1.length : Int) (w64 (a0.2.2.1 + a0.2.1)); let c2 := mnI (a0.1.length : Int) (w64 (a0.2.2.1 + (w64 (2 * a0.2.1)))); some (c1, c2)

def slices_Grow_intint_nd (a0 : Unit) (a1 : Int) : Option (List Int) :=
  bif decide (a1 < 0) then none else (bif decide (0 < w64 (a1 - 0)) then (bif ((decide (0 ≤ 0) && decide (0 ≤ 0)) && decide (0 ≤ 0)) then (bif (decide (0 ≤ w64 (a1 - 0)) && fitsB (List.replicate (Int.toNat (w64 (a1 - 0))) (0 : Int)).length 8) then (bif ((decide (0 ≤ 0) && decide (0 ≤ 0)) && decide (0 ≤ ((List.replicate (Int.toNat (w64 (a1 - 0))) (0 : Int)).length : Int))) then (some (sub (List.replicate (Int.toNat (w64 (a1 - 0))) (0 : Int)) 0 (0 - 0))) else none) else none) else none) else (some []))

def slices_Concat_intint.b1 (k : Nat) (rec : List Int → List (List Int) → Int → Int → Option ((List Int) ⊕ (List Int))) (x6 : List Int) (x25 : List (List Int)) (x26 : Int) (x27 : Int) : Option ((List Int) ⊕ (List Int)) :=
  bif decide (x27 < x26) then (bif inR x27 (x25.length : Int) then (bif fitsB (x6.length + (nth (.list (.int .i64)) x25 x27).length) 8 then (rec (x6 ++ (nth (.list (.int .i64)) x25 x27)) x25 x26 (w64 (x27 + 1))) else none) else none) else (some (.inl x6))
def slices_Concat_intint.l1 (k : Nat) : Nat → List Int → List (List Int) → Int → Int → Option ((List Int) ⊕ (List Int))
  | 0 => fun _ _ _ _ => none
  | n + 1 => slices_Concat_intint.b1 k (slices_Concat_intint.l1 k n)
def slices_Concat_intint.b0 (k : Nat) (rec : List (List Int) → Int → List (List Int) → Int → Int → Option ((List (List Int) × Int) ⊕ (List Int))) (x0 : List (List Int)) (x3 : Int) (x9 : List (List Int)) (x10 : Int) (x11 : Int) : Option ((List (List Int) × Int) ⊕ (List Int)) :=
  bif decide (x11 < x10) then (bif inR x11 (x9.length : Int) then (let c1 := w64 (x3 + ((nth (.list (.int .i64)) x9 x11).length : Int)); bif decide (c1 < 0) then none else (rec x0 c1 x9 x10 (w64 (x11 + 1)))) else none) else (some (.inl (x0, x3)))
def slices_Concat_intint.l0 (k : Nat) : Nat → List (List Int) → Int → List (List Int) → Int → Int → Option ((List (List Int) × Int) ⊕ (List Int))
  | 0 => fun _ _ _ _ _ => none
  | n + 1 => slices_Concat_intint.b0 k (slices_Concat_intint.l0 k n)
def slices_Concat_intint (k : Nat) (a0 : List (List Int)) : Option (List Int) :=
  joinB (α := List (List Int) × Int) (slices_Concat_intint.l0 k k a0 0 a0 (a0.length : Int) 0) (fun y2 => (slices_Grow_intint_nd () y2.2).bind fun t3 => joinB (α := List Int) (slices_Concat_intint.l1 k k t3 y2.1 (y2.1.length : Int) 0) (fun y4 => some y4) some) some

def ordering_Plan_settle.b0 (k : Nat) (rec : (List Int × Int × Int × Int × Int × List Int) → (List Int × Int × Int × Int × Int × List Int) → Option (((List Int × Int × Int × Int × Int × List Int) × List Int × Int × Int × Int × Int × List Int) ⊕ (List Int × Int × Int × Int × Int × List Int))) (x1 : List Int × Int × Int × Int × Int × List Int) (x2 : List Int × Int × Int × Int × Int × List Int) : Option (((List Int × Int × Int × Int × Int × List Int) × List Int × Int × Int × Int × Int × List Int) ⊕ (List Int × Int × Int × Int × Int × List Int)) :=
  bif decide (x1.2.1 < (x1.1.length : Int)) then ((ordering_Plan_runs x1).bind fun t2 => joinB (α := (List Int × Int × Int × Int × Int × List Int) × (List Int × Int × Int × Int × Int × List Int) × Int × Int) (bif decide (w64 (x1.2.2.1 + x1.2.2.2.1) < t2.1) then (bif decide (w64 (t2.1 + x1.2.2.2.2.1) < t2.2) then (some (.inr x1)) else (some (.inl (x1, x2, t2.1, t2.2)))) else (some (.inl (x1, x2, t2.1, t2.2)))) (fun z3 => bif ((decide (0 ≤ w64 (z3.1.2.2.1 + z3.1.2.2.2.1)) && decide (w64 (z3.1.2.2.1 + z3.1.2.2.2.1) ≤ z3.2.2.1)) && decide (z3.2.2.1 ≤ (z3.1.1.length : Int))) then (bif ((decide (0 ≤ w64 (z3.2.2.1 + z3.1.2.2.2.2.1)) && decide (w64 (z3.2.2.1 + z3.1.2.2.2.2.1) ≤ z3.2.2.2)) && decide (z3.2.2.2 ≤ (z3.1.1.length : Int))) then ((slices_Concat_intint k [z3.1.2.2.2.2.2, sub z3.1.1 (w64 (z3.1.2.2.1 + z3.1.2.2.2.1)) (z3.2.2.1 - (w64 (z3.1.2.2.1 + z3.1.2.2.2.1))), sub z3.1.1 (w64 (z3.2.2.1 + z3.1.2.2.2.2.1)) (z3.2.2.2 - (w64 (z3.2.2.1 + z3.1.2.2.2.2.1)))]).bind fun t4 => bif ((decide (0 ≤ z3.1.2.2.1) && decide (z3.1.2.2.1 ≤ z3.2.2.2)) && decide (z3.2.2.2 ≤ (z3.1.1.length : Int))) then (bif decide (((splice z3.1.1 z3.1.2.2.1 (t4.take (Int.toNat (z3.2.2.2 - z3.1.2.2.1)))).length : Int) ≤ z3.2.2.2) then (rec (splice z3.1.1 z3.1.2.2.1 (t4.take (Int.toNat (z3.2.2.2 - z3.1.2.2.1))), w64 (2 * z3.1.2.1), 0, 0, 0, []) z3.2.1) else (rec (splice z3.1.1 z3.1.2.2.1 (t4.take (Int.toNat (z3.2.2.2 - z3.1.2.2.1))), z3.1.2.1, z3.2.2.2, 0, 0, []) z3.2.1)) else none) else none) else none) (fun r => some (.inr r))) else (some (.inl (x1, x2)))
def ordering_Plan_settle.l0 (k : Nat) : Nat → (List Int × Int × Int × Int × Int × List Int) → (List Int × Int × Int × Int × Int × List Int) → Option (((List Int × Int × Int × Int × Int × List Int) × List Int × Int × Int × Int × Int × List Int) ⊕ (List Int × Int × Int × Int × Int × List Int))
  | 0 => fun _ _ => none
  | n + 1 => ordering_Plan_settle.b0 k (ordering_Plan_settle.l0 k n)
def ordering_Plan_settle (k : Nat) (a0 : List Int × Int × Int × Int × Int × List Int) : Option (List Int × Int × Int × Int × Int × List Int) :=
  (slices_Clone_intint a0.1).bind fun t1 => joinB (α := (List Int × Int × Int × Int × Int × List Int) × List Int × Int × Int × Int × Int × List Int) (ordering_Plan_settle.l0 k k (t1, a0.2) ([], 0, 0, 0, 0, [])) (fun y5 => some y5.1) some

def ordering_Start.b0 (k : Nat) (rec : (List Int × Int × Int × Int × Int × List Int) → (Int × Int) → (List Int × Int × Int × Int × Int × List Int) → Int → Int → Option (((List Int × Int × Int × Int × Int × List Int) × (Int × Int) × List Int × Int × Int × Int × Int × List Int) ⊕ ((List Int × Int × Int × Int × Int × List Int) × Int × Int))) (x2 : List Int × Int × Int × Int × Int × List Int) (x3 : Int × Int) (x4 : List Int × Int × Int × Int × Int × List Int) (x15 : Int) (x16 : Int) : Option (((List Int × Int × Int × Int × Int × List Int) × (Int × Int) × List Int × Int × Int × Int × Int × List Int) ⊕ ((List Int × Int × Int × Int × Int × List Int) × Int × Int)) :=
  bif decide (x16 < x15) then (bif fitsB (x4.1.length + [x16].length) 8 then (rec x2 x3 (x4.1 ++ [x16], x4.2) x15 (w64 (x16 + 1))) else none) else (some (.inl (x2, x3, x4)))
def ordering_Start.l0 (k : Nat) : Nat → (List Int × Int × Int × Int × Int × List Int) → (Int × Int) → (List Int × Int × Int × Int × Int × List Int) → Int → Int → Option (((List Int × Int × Int × Int × Int × List Int) × (Int × Int) × List Int × Int × Int × Int × Int × List Int) ⊕ ((List Int × Int × Int × Int × Int × List Int) × Int × Int))
  | 0 => fun _ _ _ _ _ => none
  | n + 1 => ordering_Start.b0 k (ordering_Start.l0 k n)
def ordering_Start (k : Nat) (a0 : Int) : Option ((List Int × Int × Int × Int × Int × List Int) × Int × Int) :=
  joinB (α := Int × (List Int × Int × Int × Int × Int × List Int) × Int × Int) (bif decide (a0 < 0) then ((ordering_at 4 (-1)).bind fun t1 => some (.inr (([], 0, 0, 0, 0, []), t1))) else (bif decide (1000 < a0) then ((ordering_at 4 (-1)).bind fun t2 => some (.inr (([], 0, 0, 0, 0, []), t2))) else (some (.inl (a0, ([], 0, 0, 0, 0, []), (0, 0)))))) (fun z3 => joinB (α := (List Int × Int × Int × Int × Int × List Int) × (Int × Int) × List Int × Int × Int × Int × Int × List Int) (ordering_Start.l0 k k z3.2.1 z3.2.2 ([], 1, 0, 0, 0, []) z3.1 0) (fun y4 => (ordering_Plan_settle k y4.2.2).bind fun t5 => some (t5, (0, 0))) some) some

def ordering_Plan_Ask (a0 : List Int × Int × Int × Int × Int × List Int) : Option (Int × Int × Bool) :=
  bif decide ((a0.1.length : Int) ≤ a0.2.1) then (some (0, 0, false)) else ((ordering_Plan_runs a0).bind fun t1 => bif inR (w64 (t1.1 + a0.2.2.2.2.1)) (a0.1.length : Int) then (bif inR (w64 (a0.2.2.1 + a0.2.2.2.1)) (a0.1.length : Int) then (let c2 := rd a0.1 (w64 (t1.1 + a0.2.2.2.2.1)); let c3 := rd a0.1 (w64 (a0.2.2.1 + a0.2.2.2.1)); some (c2, c3, true)) else none) else none)

def ordering_Plan_Tell (k : Nat) (a0 : List Int × Int × Int × Int × Int × List Int) (a1 : Bool) : Option (List Int × Int × Int × Int × Int × List Int) :=
  (ordering_Plan_Ask a0).bind fun t1 => bif (!t1.2.2) then (some a0) else (bif a1 then ((slices_Clone_intint a0.2.2.2.2.2).bind fun t2 => bif fitsB (t2.length + [t1.1].length) 8 then ((ordering_Plan_settle k (a0.1, a0.2.1, a0.2.2.1, a0.2.2.2.1, w64 (a0.2.2.2.2.1 + 1), t2 ++ [t1.1])).bind fun t3 => some t3) else none) else ((slices_Clone_intint a0.2.2.2.2.2).bind fun t4 => bif fitsB (t4.length + [t1.2.1].length) 8 then ((ordering_Plan_settle k (a0.1, a0.2.1, a0.2.2.1, w64 (a0.2.2.2.1 + 1), a0.2.2.2.2.1, t4 ++ [t1.2.1])).bind fun t5 => some t5) else none))

def ordering_Plan_Order (a0 : List Int × Int × Int × Int × Int × List Int) : Option (List Int × Int × Int) :=
  (ordering_Plan_Ask a0).bind fun t1 => bif t1.2.2 then ((ordering_at 20 (-1)).bind fun t2 => some ([], t2)) else ((slices_Clone_intint a0.1).bind fun t3 => some (t3, (0, 0)))

def brindlewoodlaw3_sorts (k : Nat)  : Option (Bool) :=
  (ordering_Start k 3).bind fun t1 => (ordering_Plan_Ask t1.1).bind fun t2 => (ordering_Plan_Tell k t1.1 true).bind fun t3 => (ordering_Plan_Ask t3).bind fun t4 => (ordering_Plan_Order t1.1).bind fun t5 => bif (t1.2.1 == 0) then (bif t2.2.2 then (bif (t2.1 == 1) then (bif (t2.2.1 == 0) then (bif t4.2.2 then (bif (t4.1 == 2) then (bif (t4.2.1 == 1) then ((brindlewoodref3_At 20 (-1)).bind fun t6 => let c7 := ((t5.2.1 == t6.1) && ((t5.2.2 == t6.2) && true)); some c7) else (some false)) else (some false)) else (some false)) else (some false)) else (some false)) else (some false)) else (some false)

def brindlewoodref3_Numbers.b0 (k : Nat) (rec : List Int → List Int → Int → Option ((Unit) ⊕ (Bool))) (x0 : List Int) (x1 : List Int) (x5 : Int) : Option ((Unit) ⊕ (Bool)) :=
  bif decide (x5 < (x0.length : Int)) then (bif inR x5 (x0.length : Int) then (bif inR x5 (x1.length : Int) then (bif ((rd x0 x5) != (rd x1 x5)) then (some (.inr false)) else (rec x0 x1 (w64 (x5 + 1)))) else none) else none) else (some (.inl ()))
def brindlewoodref3_Numbers.l0 (k : Nat) : Nat → List Int → List Int → Int → Option ((Unit) ⊕ (Bool))
  | 0 => fun _ _ _ => none
  | n + 1 => brindlewoodref3_Numbers.b0 k (brindlewoodref3_Numbers.l0 k n)
def brindlewoodref3_Numbers (k : Nat) (a0 : List Int) (a1 : List Int) : Option (Bool) :=
  bif ((a0.length : Int) != (a1.length : Int)) then (some false) else (joinB (α := Unit) (brindlewoodref3_Numbers.l0 k k a0 a1 0) (fun y1 => some true) some)

def brindlewoodlaw3_OrderingPermutes.b1 (k : Nat) (rec : List Int → List Int → List Int → List Int → Int → Option ((List Int × List Int × List Int) ⊕ (Bool))) (x0 : List Int) (x1 : List Int) (x5 : List Int) (x7 : List Int) (x11 : Int) : Option ((List Int × List Int × List Int) ⊕ (Bool)) :=
  bif decide (x11 < (x1.length : Int)) then (bif inR x11 (x5.length : Int) then (bif inR x11 (x1.length : Int) then (bif inR (rd x1 x11) (x0.length : Int) then (bif ((rd x5 x11) != (rd x0 (rd x1 x11))) then (some (.inr false)) else (bif inR x11 (x1.length : Int) then (bif inR (rd x1 x11) (x7.length : Int) then (bif ((rd x7 (rd x1 x11)) != x11) then (some (.inr false)) else (rec x0 x1 x5 x7 (w64 (x11 + 1)))) else none) else none)) else none) else none) else none) else (some (.inl (x0, x5, x7)))
def brindlewoodlaw3_OrderingPermutes.l1 (k : Nat) : Nat → List Int → List Int → List Int → List Int → Int → Option ((List Int × List Int × List Int) ⊕ (Bool))
  | 0 => fun _ _ _ _ _ => none
  | n + 1 => brindlewoodlaw3_OrderingPermutes.b1 k (brindlewoodlaw3_OrderingPermutes.l1 k n)
def brindlewoodlaw3_OrderingPermutes.b0 (k : Nat) (rec : List Int → List Int → List Int → (Int × Int) → List Int → (Int × Int) → (Int × Int) → Int → Option ((List Int × List Int × List Int × (Int × Int) × List Int × (Int × Int) × Int × Int) ⊕ (Bool))) (x0 : List Int) (x1 : List Int) (x5 : List Int) (x175 : Int × Int) (x7 : List Int) (x177 : Int × Int) (x178 : Int × Int) (x10 : Int) : Option ((List Int × List Int × List Int × (Int × Int) × List Int × (Int × Int) × Int × Int) ⊕ (Bool)) :=
  bif decide (x10 < (x1.length : Int)) then (bif (x178.1 == 0) then (joinB (α := List Int × List Int × List Int × (Int × Int) × List Int × (Int × Int) × (Int × Int) × Int × Int × Bool × Bool) (bif inR x10 (x1.length : Int) then (bif decide (rd x1 x10 < 0) then (some (.inl (x0, x1, x5, x175, x7, x177, x178, x10, x178.1, (x178.1 == 0), true))) else (bif inR x10 (x1.length : Int) then (some (.inl (x0, x1, x5, x175, x7, x177, x178, x10, x178.1, (x178.1 == 0), decide ((x1.length : Int) ≤ rd x1 x10)))) else none)) else none) (fun z3 => bif z3.2.2.2.2.2.2.2.2.2.2 then ((brindlewoodref3_At 4 z3.2.2.2.2.2.2.2.1).bind fun t4 => rec z3.1 z3.2.1 z3.2.2.1 z3.2.2.2.1 z3.2.2.2.2.1 z3.2.2.2.2.2.1 t4 (w64 (z3.2.2.2.2.2.2.2.1 + 1))) else (bif ((decide (0 ≤ 0) && decide (0 ≤ z3.2.2.2.2.2.2.2.1)) && decide (z3.2.2.2.2.2.2.2.1 ≤ (z3.2.1.length : Int))) then (bif inR z3.2.2.2.2.2.2.2.1 (z3.2.1.length : Int) then ((brindlewoodref3_In k (sub z3.2.1 0 (z3.2.2.2.2.2.2.2.1 - 0)) (rd z3.2.1 z3.2.2.2.2.2.2.2.1)).bind fun t5 => bif t5 then ((brindlewoodref3_At 8 z3.2.2.2.2.2.2.2.1).bind fun t6 => rec z3.1 z3.2.1 z3.2.2.1 z3.2.2.2.1 z3.2.2.2.2.1 z3.2.2.2.2.2.1 t6 (w64 (z3.2.2.2.2.2.2.2.1 + 1))) else (rec z3.1 z3.2.1 z3.2.2.1 z3.2.2.2.1 z3.2.2.2.2.1 z3.2.2.2.2.2.1 z3.2.2.2.2.2.2.1 (w64 (z3.2.2.2.2.2.2.2.1 + 1)))) else none) else none)) (fun r => some (.inr r))) else (some (.inl (x0, x1, x5, x175, x7, x177, x178)))) else (some (.inl (x0, x1, x5, x175, x7, x177, x178)))
def brindlewoodlaw3_OrderingPermutes.l0 (k : Nat) : Nat → List Int → List Int → List Int → (Int × Int) → List Int → (Int × Int) → (Int × Int) → Int → Option ((List Int × List Int × List Int × (Int × Int) × List Int × (Int × Int) × Int × Int) ⊕ (Bool))
  | 0 => fun _ _ _ _ _ _ _ _ => none
  | n + 1 => brindlewoodlaw3_OrderingPermutes.b0 k (brindlewoodlaw3_OrderingPermutes.l0 k n)
def brindlewoodlaw3_OrderingPermutes (k : Nat) (a0 : List Int) (a1 : List Int) : Option (Bool) :=
  (ordering_Permute_int k a0 a1).bind fun t1 => (ordering_Inverse k a1).bind fun t2 => joinB (α := List Int × List Int × List Int × (Int × Int) × List Int × (Int × Int) × Int × Int) (brindlewoodlaw3_OrderingPermutes.l0 k k a0 a1 t1.1 t1.2 t2.1 t2.2 (0, 0) 0) (fun y7 => joinB (α := List Int × List Int × List Int × (Int × Int) × List Int × (Int × Int) × Int × Int) ((brindlewoodlaw3_sorts k).bind fun t8 => bif (!t8) then (some (.inr false)) else (bif (!((y7.2.2.2.2.2.1.1 == y7.2.2.2.2.2.2.1) && ((y7.2.2.2.2.2.1.2 == y7.2.2.2.2.2.2.2) && true))) then (some (.inr false)) else (bif (y7.2.2.2.2.2.2.1 != 0) then (bif decide (0 < (y7.2.2.2.2.1.length : Int)) then (some (.inr false)) else (some (.inl (y7.1, y7.2.1, y7.2.2.1, y7.2.2.2.1, y7.2.2.2.2.1, y7.2.2.2.2.2.1, y7.2.2.2.2.2.2)))) else (some (.inl (y7.1, y7.2.1, y7.2.2.1, y7.2.2.2.1, y7.2.2.2.2.1, y7.2.2.2.2.2.1, y7.2.2.2.2.2.2)))))) (fun z9 => joinB (α := List Int × List Int × List Int × (Int × Int) × List Int × (Int × Int) × Int × Int) (bif ((z9.2.1.length : Int) != (z9.1.length : Int)) then ((brindlewoodref3_At 9 (-2)).bind fun t10 => some (.inl (z9.1, z9.2.1, z9.2.2.1, z9.2.2.2.1, z9.2.2.2.2.1, z9.2.2.2.2.2.1, t10))) else (some (.inl (z9.1, z9.2.1, z9.2.2.1, z9.2.2.2.1, z9.2.2.2.2.1, z9.2.2.2.2.2.1, z9.2.2.2.2.2.2)))) (fun z11 => bif (z11.2.2.2.2.2.2.1 != 0) then (bif ((z11.2.2.2.1.1 == z11.2.2.2.2.2.2.1) && ((z11.2.2.2.1.2 == z11.2.2.2.2.2.2.2) && true)) then (bif ((z11.2.2.1.length : Int) == 0) then (bif (z11.2.2.2.2.2.1.1 != 0) then (some true) else (let c12 := ((z11.2.2.2.2.1.length : Int) == (z11.2.1.length : Int)); some c12)) else (some false)) else (some false)) else (joinB (α := List Int × List Int × List Int × List Int) (bif (z11.2.2.2.1.1 != 0) then (some (.inr false)) else (bif ((z11.2.2.1.length : Int) != (z11.1.length : Int)) then (some (.inr false)) else (bif ((z11.2.2.2.2.1.length : Int) != (z11.1.length : Int)) then (some (.inr false)) else (some (.inl (z11.1, z11.2.1, z11.2.2.1, z11.2.2.2.2.1)))))) (fun z13 => joinB (α := List Int × List Int × List Int) (brindlewoodlaw3_OrderingPermutes.l1 k k z13.1 z13.2.1 z13.2.2.1 z13.2.2.2 0) (fun y14 => (ordering_Permute_int k y14.2.1 y14.2.2).bind fun t15 => bif (t15.2.1 == 0) then ((brindlewoodref3_Numbers k t15.1 y14.1).bind fun t16 => some t16) else (some false)) some) some)) some) some) some
end Go.Sh
