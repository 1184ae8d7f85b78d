/- The functions' shapes and annotations, by wip/gen/gen.py.  Conditions: none, these are definitions. -/
import Derived.Test.YtnopjcpoeffoiaaGreatDoorSh
import Derived.Test.YtnopjcpoeffoiaaGreatDoorProg
set_option linter.unusedVariables false
namespace Go.Sh
open Go Go.Ev

def ttRows : List (Nat × TI) := [(3, ⟨.int .i64, 0, [], false, true⟩),
  (4, ⟨.bool, 0, [], false, true⟩),
  (5, ⟨.int .u8, 0, [], false, true⟩),
  (9, ⟨.str, 0, [], false, true⟩),
  (22, ⟨.list (.int .u32), 4, [], false, true⟩),
  (24, ⟨.st (.pair (.bool) (.list (.int .u32))), 0, [(0, .bool), (1, .list (.int .u32))], false, true⟩),
  (26, ⟨.st (.pair (.int .i64) (.pair (.bool) (.pair (.st (.pair (.bool) (.list (.int .u32)))) (.int .i64)))), 0, [(0, .int .i64), (1, .bool), (2, .st (.pair (.bool) (.list (.int .u32)))), (4, .int .i64)], false, true⟩),
  (28, ⟨.st (.pair (.int .i64) (.int .i64)), 0, [(0, .int .i64), (1, .int .i64)], true, true⟩),
  (40, ⟨.st (.pair (.int .i64) (.pair (.int .i64) (.pair (.int .i64) (.int .i64)))), 0, [(0, .int .i64), (1, .int .i64), (2, .int .i64), (3, .int .i64)], false, true⟩),
  (66, ⟨.list (.int .i64), 8, [], false, true⟩),
  (67, ⟨.list (.int .i64), 8, [], false, true⟩),
  (82, ⟨.st (.pair (.bool) (.pair (.list (.int .i64)) (.pair (.list (.int .i64)) (.int .i64)))), 0, [(0, .bool), (1, .list (.int .i64)), (2, .list (.int .i64)), (3, .int .i64)], false, true⟩),
  (84, ⟨.list (.st (.pair (.int .i64) (.pair (.bool) (.pair (.st (.pair (.bool) (.list (.int .u32)))) (.int .i64))))), 56, [], false, true⟩),
  (116, ⟨.st (.pair (.bool) (.pair (.list (.int .u32)) (.pair (.list (.int .u32)) (.int .i64)))), 0, [(0, .bool), (1, .list (.int .u32)), (2, .list (.int .u32)), (3, .int .i64)], false, true⟩),
  (121, ⟨.int .u32, 0, [], false, true⟩),
  (153, ⟨.list (.bool), 1, [], false, true⟩),
  (163, ⟨.list (.int .u8), 1, [], false, true⟩),
  (202, ⟨.list (.st (.pair (.bool) (.list (.int .u32)))), 32, [], false, true⟩),
  (212, ⟨.int .u64, 0, [], false, true⟩)]
def tt : TypeId → TI := tiOf ttRows

def brindlewoodref3_ContextOk.tab  : List Entry := []
def brindlewoodref3_ContextOk.A : List PSh := [.dat (.st (.pair (.int .i64) (.pair (.int .i64) (.pair (.int .i64) (.int .i64)))))]
def brindlewoodref3_ContextOk.B : List RSh := [.dat (.bool)]
def brindlewoodref3_ContextOk.E  : Entry := { f := 41, A := brindlewoodref3_ContextOk.A, B := brindlewoodref3_ContextOk.B, run := fun x => brindlewoodref3_ContextOk x }

def brindlewoodref3_At.tab  : List Entry := []
def brindlewoodref3_At.A : List PSh := [.dat (.int .i64), .dat (.int .i64)]
def brindlewoodref3_At.B : List RSh := [.dat (.st (.pair (.int .i64) (.int .i64)))]
def brindlewoodref3_At.E  : Entry := { f := 17, A := brindlewoodref3_At.A, B := brindlewoodref3_At.B, run := fun x => brindlewoodref3_At x.1 x.2 }

def brindlewoodref3_IntOk.tab  : List Entry := []
def brindlewoodref3_IntOk.A : List PSh := [.dat (.st (.pair (.bool) (.list (.int .u32))))]
def brindlewoodref3_IntOk.B : List RSh := [.dat (.bool)]
def brindlewoodref3_IntOk.E  : Entry := { f := 76, A := brindlewoodref3_IntOk.A, B := brindlewoodref3_IntOk.B, run := fun x => brindlewoodref3_IntOk x }

def brindlewoodref3_trim_v.tab (k : Nat) : List Entry := []
def brindlewoodref3_trim_v.A : List PSh := [.view (.int .i64)]
def brindlewoodref3_trim_v.B : List RSh := [.cut 0 (.int .i64)]
def brindlewoodref3_trim_v.M0 : Mrk := ⟨[.blk 0 (.int .i64) 0, .part 0 0 (.int .i64)], []⟩
def brindlewoodref3_trim_v.O0 : Mrk := ⟨[.blk 0 (.int .i64) 0, .part 0 0 (.int .i64)], []⟩
def brindlewoodref3_trim_v.an0 (k : Nat) : Ann (denB brindlewoodref3_trim_v.B) := .loop brindlewoodref3_trim_v.M0 brindlewoodref3_trim_v.O0 0 fun x => brindlewoodref3_trim_v.l0 k k x.1 x.2
def brindlewoodref3_trim_v.E (k : Nat) : Entry := { f := 138, A := brindlewoodref3_trim_v.A, B := brindlewoodref3_trim_v.B, run := fun x => brindlewoodref3_trim_v k x }

def brindlewoodref3_Of.tab (k : Nat) : List Entry := [brindlewoodref3_trim_v.E k]
def brindlewoodref3_Of.A : List PSh := [.dat (.list (.int .u32))]
def brindlewoodref3_Of.B : List RSh := [.own (.int .i64)]
def brindlewoodref3_Of.M0 : Mrk := ⟨[.dat 0 (.list (.int .u32)), .own 3 (.int .i64), .dat 4 (.int .i64)], []⟩
def brindlewoodref3_Of.O0 : Mrk := ⟨[.own 3 (.int .i64)], []⟩
def brindlewoodref3_Of.an0 (k : Nat) : Ann (denB brindlewoodref3_Of.B) := .loop brindlewoodref3_Of.M0 brindlewoodref3_Of.O0 0 fun x => brindlewoodref3_Of.l0 k k x.1 x.2.1 x.2.2
def brindlewoodref3_Of.E (k : Nat) : Entry := { f := 78, A := brindlewoodref3_Of.A, B := brindlewoodref3_Of.B, run := fun x => brindlewoodref3_Of k x }

def brindlewoodref3_Halve.tab (k : Nat) : List Entry := [brindlewoodref3_trim_v.E k]
def brindlewoodref3_Halve.A : List PSh := [.dat (.list (.int .i64)), .dat (.int .i64)]
def brindlewoodref3_Halve.B : List RSh := [.dat (.list (.int .i64)), .dat (.int .i64)]
def brindlewoodref3_Halve.M0 : Mrk := ⟨[.dat 0 (.list (.int .i64)), .dat 1 (.int .i64), .own 6 (.int .i64), .dat 7 (.int .i64), .dat 8 (.int .i64)], []⟩
def brindlewoodref3_Halve.O0 : Mrk := ⟨[.own 6 (.int .i64), .dat 7 (.int .i64)], []⟩
def brindlewoodref3_Halve.an0 (k : Nat) : Ann (denB brindlewoodref3_Halve.B) := .loop brindlewoodref3_Halve.M0 brindlewoodref3_Halve.O0 0 fun x => brindlewoodref3_Halve.l0 k k x.1 x.2.1 x.2.2.1 x.2.2.2.1 x.2.2.2.2
def brindlewoodref3_Halve.E (k : Nat) : Entry := { f := 102, A := brindlewoodref3_Halve.A, B := brindlewoodref3_Halve.B, run := fun x => brindlewoodref3_Halve k x.1 x.2 }

def brindlewoodref3_Figures.tab (k : Nat) : List Entry := [brindlewoodref3_Halve.E k]
def brindlewoodref3_Figures.A : List PSh := [.dat (.list (.int .i64)), .dat (.int .i64)]
def brindlewoodref3_Figures.B : List RSh := [.own (.int .i64)]
def brindlewoodref3_Figures.M1 : Mrk := ⟨[.own 5 (.int .i64), .own 7 (.int .i64), .dat 8 (.int .i64)], []⟩
def brindlewoodref3_Figures.O1 : Mrk := ⟨[.own 7 (.int .i64)], []⟩
def brindlewoodref3_Figures.an1 (k : Nat) : Ann (denB brindlewoodref3_Figures.B) := .loop brindlewoodref3_Figures.M1 brindlewoodref3_Figures.O1 2 fun x => brindlewoodref3_Figures.l1 k k x.1 x.2.1 x.2.2
def brindlewoodref3_Figures.M0 : Mrk := ⟨[.dat 0 (.list (.int .i64)), .dat 1 (.int .i64), .own 5 (.int .i64)], []⟩
def brindlewoodref3_Figures.O0 : Mrk := ⟨[.own 5 (.int .i64)], []⟩
def brindlewoodref3_Figures.an0 (k : Nat) : Ann (denB brindlewoodref3_Figures.B) := .loop brindlewoodref3_Figures.M0 brindlewoodref3_Figures.O0 0 fun x => brindlewoodref3_Figures.l0 k k x.1 x.2.1 x.2.2
def brindlewoodref3_Figures.E (k : Nat) : Entry := { f := 77, A := brindlewoodref3_Figures.A, B := brindlewoodref3_Figures.B, run := fun x => brindlewoodref3_Figures k x.1 x.2 }

def brindlewoodref3_NoInt.tab  : List Entry := []
def brindlewoodref3_NoInt.A : List PSh := [.dat (.st (.pair (.bool) (.list (.int .u32))))]
def brindlewoodref3_NoInt.B : List RSh := [.dat (.bool)]
def brindlewoodref3_NoInt.E  : Entry := { f := 36, A := brindlewoodref3_NoInt.A, B := brindlewoodref3_NoInt.B, run := fun x => brindlewoodref3_NoInt x }

def brindlewoodref3_DecimalOk.tab (k : Nat) : List Entry := [brindlewoodref3_IntOk.E, brindlewoodref3_Of.E k, brindlewoodref3_Figures.E k, brindlewoodref3_NoInt.E]
def brindlewoodref3_DecimalOk.A : List PSh := [.dat (.st (.pair (.int .i64) (.pair (.bool) (.pair (.st (.pair (.bool) (.list (.int .u32)))) (.int .i64)))))]
def brindlewoodref3_DecimalOk.B : List RSh := [.dat (.bool)]
def brindlewoodref3_DecimalOk.E (k : Nat) : Entry := { f := 16, A := brindlewoodref3_DecimalOk.A, B := brindlewoodref3_DecimalOk.B, run := fun x => brindlewoodref3_DecimalOk k x }

def brindlewoodref3_DecimalFaults.tab (k : Nat) : List Entry := [brindlewoodref3_ContextOk.E, brindlewoodref3_At.E, brindlewoodref3_DecimalOk.E k]
def brindlewoodref3_DecimalFaults.A : List PSh := [.dat (.st (.pair (.int .i64) (.pair (.int .i64) (.pair (.int .i64) (.int .i64))))), .dat (.list (.st (.pair (.int .i64) (.pair (.bool) (.pair (.st (.pair (.bool) (.list (.int .u32)))) (.int .i64))))))]
def brindlewoodref3_DecimalFaults.B : List RSh := [.dat (.st (.pair (.int .i64) (.int .i64)))]
def brindlewoodref3_DecimalFaults.M0 : Mrk := ⟨[.dat 1 (.list (.st (.pair (.int .i64) (.pair (.bool) (.pair (.st (.pair (.bool) (.list (.int .u32)))) (.int .i64)))))), .box 30 [.st (.pair (.int .i64) (.int .i64))], .dat 5 (.int .i64)], [.ptr 4 30 0]⟩
def brindlewoodref3_DecimalFaults.O0 : Mrk := ⟨[.box 30 [.st (.pair (.int .i64) (.int .i64))]], [.ptr 4 30 0]⟩
def brindlewoodref3_DecimalFaults.an0 (k : Nat) : Ann (denB brindlewoodref3_DecimalFaults.B) := .loop brindlewoodref3_DecimalFaults.M0 brindlewoodref3_DecimalFaults.O0 0 fun x => brindlewoodref3_DecimalFaults.l0 k k x.1 x.2.1 x.2.2
def brindlewoodref3_DecimalFaults.E (k : Nat) : Entry := { f := 21, A := brindlewoodref3_DecimalFaults.A, B := brindlewoodref3_DecimalFaults.B, run := fun x => brindlewoodref3_DecimalFaults k x.1 x.2 }

def decimal_Check.tab  : List Entry := []
def decimal_Check.A : List PSh := [.dat (.st (.pair (.int .i64) (.pair (.int .i64) (.pair (.int .i64) (.int .i64)))))]
def decimal_Check.B : List RSh := [.dat (.bool)]
def decimal_Check.E  : Entry := { f := 57, A := decimal_Check.A, B := decimal_Check.B, run := fun x => decimal_Check x }

def decimal_at.tab  : List Entry := []
def decimal_at.A : List PSh := [.dat (.int .i64), .dat (.int .i64)]
def decimal_at.B : List RSh := [.dat (.st (.pair (.int .i64) (.int .i64)))]
def decimal_at.E  : Entry := { f := 64, A := decimal_at.A, B := decimal_at.B, run := fun x => decimal_at x.1 x.2 }

def integer_Valid.tab  : List Entry := []
def integer_Valid.A : List PSh := [.dat (.st (.pair (.bool) (.list (.int .u32))))]
def integer_Valid.B : List RSh := [.dat (.bool)]
def integer_Valid.E  : Entry := { f := 133, A := integer_Valid.A, B := integer_Valid.B, run := fun x => integer_Valid x }

def natural_Valid.tab  : List Entry := []
def natural_Valid.A : List PSh := [.dat (.list (.int .u32))]
def natural_Valid.B : List RSh := [.dat (.bool)]
def natural_Valid.E  : Entry := { f := 183, A := natural_Valid.A, B := natural_Valid.B, run := fun x => natural_Valid x }

def natural_at.tab  : List Entry := []
def natural_at.A : List PSh := [.dat (.int .i64), .dat (.int .i64)]
def natural_at.B : List RSh := [.dat (.st (.pair (.int .i64) (.int .i64)))]
def natural_at.E  : Entry := { f := 164, A := natural_at.A, B := natural_at.B, run := fun x => natural_at x.1 x.2 }

def natural_check.tab  : List Entry := [natural_Valid.E, natural_at.E]
def natural_check.A : List PSh := [.dat (.list (.int .u32)), .dat (.list (.int .u32))]
def natural_check.B : List RSh := [.dat (.st (.pair (.int .i64) (.int .i64)))]
def natural_check.E  : Entry := { f := 163, A := natural_check.A, B := natural_check.B, run := fun x => natural_check x.1 x.2 }

def natural_trim_v.tab (k : Nat) : List Entry := []
def natural_trim_v.A : List PSh := [.view (.int .u32)]
def natural_trim_v.B : List RSh := [.cut 0 (.int .u32)]
def natural_trim_v.M0 : Mrk := ⟨[.blk 0 (.int .u32) 0, .part 0 0 (.int .u32)], []⟩
def natural_trim_v.O0 : Mrk := ⟨[.blk 0 (.int .u32) 0, .part 0 0 (.int .u32)], []⟩
def natural_trim_v.an0 (k : Nat) : Ann (denB natural_trim_v.B) := .loop natural_trim_v.M0 natural_trim_v.O0 0 fun x => natural_trim_v.l0 k k x.1 x.2
def natural_trim_v.E (k : Nat) : Entry := { f := 199, A := natural_trim_v.A, B := natural_trim_v.B, run := fun x => natural_trim_v k x }

def natural_mul.tab (k : Nat) : List Entry := [natural_trim_v.E k]
def natural_mul.A : List PSh := [.dat (.list (.int .u32)), .dat (.list (.int .u32))]
def natural_mul.B : List RSh := [.own (.int .u32)]
def natural_mul.M1 : Mrk := ⟨[.dat 1 (.list (.int .u32)), .own 5 (.int .u32), .dat 6 (.int .i64), .dat 7 (.int .u32), .dat 8 (.int .u64), .dat 17 (.list (.int .u32)), .dat 18 (.int .i64), .dat 19 (.int .i64), .dat 24 (.list (.int .u32)), .dat 25 (.int .i64), .dat 26 (.int .i64)], []⟩
def natural_mul.O1 : Mrk := ⟨[.dat 1 (.list (.int .u32)), .own 5 (.int .u32), .dat 6 (.int .i64), .dat 8 (.int .u64), .dat 17 (.list (.int .u32)), .dat 18 (.int .i64), .dat 19 (.int .i64)], []⟩
def natural_mul.an1 (k : Nat) : Ann (denB natural_mul.B) := .loop natural_mul.M1 natural_mul.O1 2 fun x => natural_mul.l1 k k x.1 x.2.1 x.2.2.1 x.2.2.2.1 x.2.2.2.2.1 x.2.2.2.2.2.1 x.2.2.2.2.2.2.1 x.2.2.2.2.2.2.2.1 x.2.2.2.2.2.2.2.2.1 x.2.2.2.2.2.2.2.2.2.1 x.2.2.2.2.2.2.2.2.2.2
def natural_mul.M0 : Mrk := ⟨[.dat 1 (.list (.int .u32)), .own 5 (.int .u32), .dat 17 (.list (.int .u32)), .dat 18 (.int .i64), .dat 19 (.int .i64)], []⟩
def natural_mul.O0 : Mrk := ⟨[.own 5 (.int .u32)], []⟩
def natural_mul.an0 (k : Nat) : Ann (denB natural_mul.B) := .loop natural_mul.M0 natural_mul.O0 0 fun x => natural_mul.l0 k k x.1 x.2.1 x.2.2.1 x.2.2.2.1 x.2.2.2.2
def natural_mul.E (k : Nat) : Entry := { f := 178, A := natural_mul.A, B := natural_mul.B, run := fun x => natural_mul k x.1 x.2 }

def natural_trim.tab (k : Nat) : List Entry := []
def natural_trim.A : List PSh := [.dat (.list (.int .u32))]
def natural_trim.B : List RSh := [.dat (.list (.int .u32))]
def natural_trim.M0 : Mrk := ⟨[.dat 0 (.list (.int .u32))], []⟩
def natural_trim.O0 : Mrk := ⟨[.dat 0 (.list (.int .u32))], []⟩
def natural_trim.an0 (k : Nat) : Ann (denB natural_trim.B) := .loop natural_trim.M0 natural_trim.O0 0 fun x => natural_trim.l0 k k x
def natural_trim.E (k : Nat) : Entry := { f := 199, A := natural_trim.A, B := natural_trim.B, run := fun x => natural_trim k x }

def natural_fit.tab (k : Nat) : List Entry := [natural_trim.E k, natural_at.E]
def natural_fit.A : List PSh := [.dat (.list (.int .u32))]
def natural_fit.B : List RSh := [.dat (.list (.int .u32)), .dat (.st (.pair (.int .i64) (.int .i64)))]
def natural_fit.E (k : Nat) : Entry := { f := 177, A := natural_fit.A, B := natural_fit.B, run := fun x => natural_fit k x }

def natural_Mul.tab (k : Nat) : List Entry := [natural_check.E, natural_mul.E k, natural_fit.E k]
def natural_Mul.A : List PSh := [.dat (.list (.int .u32)), .dat (.list (.int .u32))]
def natural_Mul.B : List RSh := [.dat (.list (.int .u32)), .dat (.st (.pair (.int .i64) (.int .i64)))]
def natural_Mul.E (k : Nat) : Entry := { f := 110, A := natural_Mul.A, B := natural_Mul.B, run := fun x => natural_Mul k x.1 x.2 }

def decimal_power.tab (k : Nat) : List Entry := [natural_Mul.E k]
def decimal_power.A : List PSh := [.dat (.int .i64)]
def decimal_power.B : List RSh := [.dat (.list (.int .u32))]
def decimal_power.M0 : Mrk := ⟨[.dat 0 (.int .i64), .dat 3 (.list (.int .u32)), .dat 4 (.list (.int .u32))], []⟩
def decimal_power.O0 : Mrk := ⟨[.dat 3 (.list (.int .u32))], []⟩
def decimal_power.an0 (k : Nat) : Ann (denB decimal_power.B) := .loop decimal_power.M0 decimal_power.O0 0 fun x => decimal_power.l0 k k x.1 x.2.1 x.2.2
def decimal_power.E (k : Nat) : Entry := { f := 122, A := decimal_power.A, B := decimal_power.B, run := fun x => decimal_power k x }

def natural_compare.tab (k : Nat) : List Entry := []
def natural_compare.A : List PSh := [.dat (.list (.int .u32)), .dat (.list (.int .u32))]
def natural_compare.B : List RSh := [.dat (.int .i64)]
def natural_compare.M0 : Mrk := ⟨[.dat 0 (.list (.int .u32)), .dat 1 (.list (.int .u32)), .dat 5 (.int .i64)], []⟩
def natural_compare.O0 : Mrk := ⟨[], []⟩
def natural_compare.an0 (k : Nat) : Ann (denB natural_compare.B) := .loop natural_compare.M0 natural_compare.O0 0 fun x => natural_compare.l0 k k x.1 x.2.1 x.2.2
def natural_compare.E (k : Nat) : Entry := { f := 176, A := natural_compare.A, B := natural_compare.B, run := fun x => natural_compare k x.1 x.2 }

def natural_Cmp.tab (k : Nat) : List Entry := [natural_check.E, natural_compare.E k]
def natural_Cmp.A : List PSh := [.dat (.list (.int .u32)), .dat (.list (.int .u32))]
def natural_Cmp.B : List RSh := [.dat (.int .i64), .dat (.st (.pair (.int .i64) (.int .i64)))]
def natural_Cmp.E (k : Nat) : Entry := { f := 169, A := natural_Cmp.A, B := natural_Cmp.B, run := fun x => natural_Cmp k x.1 x.2 }

def decimal_less.tab (k : Nat) : List Entry := [natural_Cmp.E k]
def decimal_less.A : List PSh := [.dat (.list (.int .u32)), .dat (.list (.int .u32))]
def decimal_less.B : List RSh := [.dat (.bool)]
def decimal_less.E (k : Nat) : Entry := { f := 111, A := decimal_less.A, B := decimal_less.B, run := fun x => decimal_less k x.1 x.2 }

def decimal_Valid.tab (k : Nat) : List Entry := [integer_Valid.E, decimal_power.E k, decimal_less.E k]
def decimal_Valid.A : List PSh := [.dat (.st (.pair (.int .i64) (.pair (.bool) (.pair (.st (.pair (.bool) (.list (.int .u32)))) (.int .i64)))))]
def decimal_Valid.B : List RSh := [.dat (.bool)]
def decimal_Valid.E (k : Nat) : Entry := { f := 56, A := decimal_Valid.A, B := decimal_Valid.B, run := fun x => decimal_Valid k x }

def decimal_check.tab (k : Nat) : List Entry := [decimal_Check.E, decimal_at.E, decimal_Valid.E k]
def decimal_check.A : List PSh := [.dat (.st (.pair (.int .i64) (.pair (.int .i64) (.pair (.int .i64) (.int .i64))))), .dat (.list (.st (.pair (.int .i64) (.pair (.bool) (.pair (.st (.pair (.bool) (.list (.int .u32)))) (.int .i64))))))]
def decimal_check.B : List RSh := [.dat (.st (.pair (.int .i64) (.int .i64)))]
def decimal_check.M0 : Mrk := ⟨[.box 30 [.st (.pair (.int .i64) (.int .i64))], .dat 11 (.list (.st (.pair (.int .i64) (.pair (.bool) (.pair (.st (.pair (.bool) (.list (.int .u32)))) (.int .i64)))))), .dat 12 (.int .i64), .dat 13 (.int .i64)], [.ptr 4 30 0]⟩
def decimal_check.O0 : Mrk := ⟨[.box 30 [.st (.pair (.int .i64) (.int .i64))]], [.ptr 4 30 0]⟩
def decimal_check.an0 (k : Nat) : Ann (denB decimal_check.B) := .loop decimal_check.M0 decimal_check.O0 0 fun x => decimal_check.l0 k k x.1 x.2.1 x.2.2.1 x.2.2.2
def decimal_check.E (k : Nat) : Entry := { f := 87, A := decimal_check.A, B := decimal_check.B, run := fun x => decimal_check k x.1 x.2 }

def decimal_of.tab  : List Entry := []
def decimal_of.A : List PSh := [.dat (.st (.pair (.int .i64) (.pair (.bool) (.pair (.st (.pair (.bool) (.list (.int .u32)))) (.int .i64)))))]
def decimal_of.B : List RSh := [.dat (.st (.pair (.bool) (.pair (.list (.int .u32)) (.pair (.list (.int .u32)) (.int .i64)))))]
def decimal_of.E  : Entry := { f := 92, A := decimal_of.A, B := decimal_of.B, run := fun x => decimal_of x }

def decimal_tiny.tab  : List Entry := []
def decimal_tiny.A : List PSh := [.dat (.st (.pair (.int .i64) (.pair (.int .i64) (.pair (.int .i64) (.int .i64)))))]
def decimal_tiny.B : List RSh := [.dat (.int .i64)]
def decimal_tiny.E  : Entry := { f := 90, A := decimal_tiny.A, B := decimal_tiny.B, run := fun x => decimal_tiny x }

def decimal_finite.tab  : List Entry := []
def decimal_finite.A : List PSh := [.dat (.bool), .dat (.list (.int .u32)), .dat (.int .i64)]
def decimal_finite.B : List RSh := [.dat (.st (.pair (.int .i64) (.pair (.bool) (.pair (.st (.pair (.bool) (.list (.int .u32)))) (.int .i64)))))]
def decimal_finite.E  : Entry := { f := 89, A := decimal_finite.A, B := decimal_finite.B, run := fun x => decimal_finite x.1 x.2.1 x.2.2 }

def natural_chunk.tab (k : Nat) : List Entry := []
def natural_chunk.A : List PSh := [.dat (.int .i64)]
def natural_chunk.B : List RSh := [.dat (.int .u32), .dat (.int .i64)]
def natural_chunk.M0 : Mrk := ⟨[.dat 0 (.int .i64), .dat 4 (.int .u64), .dat 5 (.int .i64)], []⟩
def natural_chunk.O0 : Mrk := ⟨[.dat 4 (.int .u64), .dat 5 (.int .i64)], []⟩
def natural_chunk.an0 (k : Nat) : Ann (denB natural_chunk.B) := .loop natural_chunk.M0 natural_chunk.O0 0 fun x => natural_chunk.l0 k k x.1 x.2.1 x.2.2
def natural_chunk.E (k : Nat) : Entry := { f := 184, A := natural_chunk.A, B := natural_chunk.B, run := fun x => natural_chunk k x }

def bits_Div32.tab  : List Entry := []
def bits_Div32.A : List PSh := [.dat (.int .u32), .dat (.int .u32), .dat (.int .u32)]
def bits_Div32.B : List RSh := [.dat (.int .u32), .dat (.int .u32)]
def bits_Div32.E  : Entry := { f := 203, A := bits_Div32.A, B := bits_Div32.B, run := fun x => bits_Div32 x.1 x.2.1 x.2.2 }

def natural_short.tab (k : Nat) : List Entry := [bits_Div32.E, natural_trim_v.E k]
def natural_short.A : List PSh := [.dat (.list (.int .u32)), .dat (.int .u32)]
def natural_short.B : List RSh := [.dat (.list (.int .u32)), .dat (.int .u32)]
def natural_short.M0 : Mrk := ⟨[.dat 0 (.list (.int .u32)), .dat 1 (.int .u32), .own 6 (.int .u32), .dat 7 (.int .u32), .dat 8 (.int .i64)], []⟩
def natural_short.O0 : Mrk := ⟨[.own 6 (.int .u32), .dat 7 (.int .u32)], []⟩
def natural_short.an0 (k : Nat) : Ann (denB natural_short.B) := .loop natural_short.M0 natural_short.O0 0 fun x => natural_short.l0 k k x.1 x.2.1 x.2.2.1 x.2.2.2.1 x.2.2.2.2
def natural_short.E (k : Nat) : Entry := { f := 185, A := natural_short.A, B := natural_short.B, run := fun x => natural_short k x.1 x.2 }

def slices_Reverse_intint_l.tab (k : Nat) : List Entry := []
def slices_Reverse_intint_l.A : List PSh := [.lent (.int .i64)]
def slices_Reverse_intint_l.B : List RSh := [.fin 0 (.int .i64)]
def slices_Reverse_intint_l.M0 : Mrk := ⟨[.blk 0 (.int .i64) 1, .dat 2 (.int .i64), .dat 3 (.int .i64)], [.ref 0 0]⟩
def slices_Reverse_intint_l.O0 : Mrk := ⟨[.blk 0 (.int .i64) 1], [.ref 0 0]⟩
def slices_Reverse_intint_l.an0 (k : Nat) : Ann (denB slices_Reverse_intint_l.B) := .loop slices_Reverse_intint_l.M0 slices_Reverse_intint_l.O0 0 fun x => slices_Reverse_intint_l.l0 k k x.1 x.2.1 x.2.2
def slices_Reverse_intint_l.E (k : Nat) : Entry := { f := 186, A := slices_Reverse_intint_l.A, B := slices_Reverse_intint_l.B, run := fun x => slices_Reverse_intint_l k x }

def natural_Digits.tab (k : Nat) : List Entry := [natural_Valid.E, natural_at.E, natural_chunk.E k, natural_short.E k, slices_Reverse_intint_l.E k]
def natural_Digits.A : List PSh := [.dat (.list (.int .u32)), .dat (.int .i64)]
def natural_Digits.B : List RSh := [.dat (.list (.int .i64)), .dat (.st (.pair (.int .i64) (.int .i64)))]
def natural_Digits.M1 : Mrk := ⟨[.dat 0 (.list (.int .u32)), .dat 1 (.int .i64), .box 72 [.st (.pair (.int .i64) (.int .i64))], .dat 6 (.int .u32), .dat 7 (.int .i64), .own 8 (.int .i64), .dat 9 (.int .u32), .dat 10 (.int .i64)], [.ptr 5 72 0]⟩
def natural_Digits.O1 : Mrk := ⟨[.dat 0 (.list (.int .u32)), .dat 1 (.int .i64), .box 72 [.st (.pair (.int .i64) (.int .i64))], .dat 6 (.int .u32), .dat 7 (.int .i64), .own 8 (.int .i64)], [.ptr 5 72 0]⟩
def natural_Digits.an1 (k : Nat) : Ann (denB natural_Digits.B) := .loop natural_Digits.M1 natural_Digits.O1 3 fun x => natural_Digits.l1 k k x.1 x.2.1 x.2.2.1 x.2.2.2.1 x.2.2.2.2.1 x.2.2.2.2.2.1 x.2.2.2.2.2.2.1 x.2.2.2.2.2.2.2
def natural_Digits.M0 : Mrk := ⟨[.dat 0 (.list (.int .u32)), .dat 1 (.int .i64), .box 72 [.st (.pair (.int .i64) (.int .i64))], .dat 6 (.int .u32), .dat 7 (.int .i64), .own 8 (.int .i64)], [.ptr 5 72 0]⟩
def natural_Digits.O0 : Mrk := ⟨[.box 72 [.st (.pair (.int .i64) (.int .i64))], .own 8 (.int .i64)], [.ptr 5 72 0]⟩
def natural_Digits.an0 (k : Nat) : Ann (denB natural_Digits.B) := .loop natural_Digits.M0 natural_Digits.O0 1 fun x => natural_Digits.l0 k k x.1 x.2.1 x.2.2.1 x.2.2.2.1 x.2.2.2.2.1 x.2.2.2.2.2
def natural_Digits.E (k : Nat) : Entry := { f := 140, A := natural_Digits.A, B := natural_Digits.B, run := fun x => natural_Digits k x.1 x.2 }

def decimal_size.tab (k : Nat) : List Entry := [natural_Digits.E k]
def decimal_size.A : List PSh := [.dat (.list (.int .u32))]
def decimal_size.B : List RSh := [.dat (.int .i64)]
def decimal_size.E (k : Nat) : Entry := { f := 101, A := decimal_size.A, B := decimal_size.B, run := fun x => decimal_size k x }

def decimal_times.tab (k : Nat) : List Entry := [decimal_power.E k, natural_Mul.E k]
def decimal_times.A : List PSh := [.dat (.list (.int .u32)), .dat (.int .i64)]
def decimal_times.B : List RSh := [.dat (.list (.int .u32))]
def decimal_times.E (k : Nat) : Entry := { f := 94, A := decimal_times.A, B := decimal_times.B, run := fun x => decimal_times k x.1 x.2 }

def decimal_exact_first.tab (k : Nat) : List Entry := [decimal_size.E k, decimal_times.E k, decimal_less.E k]
def decimal_exact_first.A : List PSh := [.dat (.st (.pair (.bool) (.pair (.list (.int .u32)) (.pair (.list (.int .u32)) (.int .i64)))))]
def decimal_exact_first.B : List RSh := [.dat (.int .i64)]
def decimal_exact_first.E (k : Nat) : Entry := { f := 161, A := decimal_exact_first.A, B := decimal_exact_first.B, run := fun x => decimal_exact_first k x }

def slices_Clone_uint32uint32.A : List PSh := [.dat (.list (.int .u32))]
def slices_Clone_uint32uint32.B : List RSh := [.own (.int .u32)]
def slices_Clone_uint32uint32.E : Entry := { f := 179, A := slices_Clone_uint32uint32.A, B := slices_Clone_uint32uint32.B, run := fun x => slices_Clone_uint32uint32 x }

def bits_Len32.tab  : List Entry := []
def bits_Len32.A : List PSh := [.dat (.int .u32)]
def bits_Len32.B : List RSh := [.dat (.int .i64)]
def bits_Len32.E  : Entry := { f := 202, A := bits_Len32.A, B := bits_Len32.B, run := fun x => bits_Len32 x }

def bits_LeadingZeros32.tab  : List Entry := [bits_Len32.E]
def bits_LeadingZeros32.A : List PSh := [.dat (.int .u32)]
def bits_LeadingZeros32.B : List RSh := [.dat (.int .i64)]
def bits_LeadingZeros32.E  : Entry := { f := 221, A := bits_LeadingZeros32.A, B := bits_LeadingZeros32.B, run := fun x => bits_LeadingZeros32 x }

def natural_left.tab (k : Nat) : List Entry := [natural_trim_v.E k]
def natural_left.A : List PSh := [.dat (.list (.int .u32)), .dat (.int .i64)]
def natural_left.B : List RSh := [.own (.int .u32)]
def natural_left.M0 : Mrk := ⟨[.dat 1 (.int .i64), .own 5 (.int .u32), .dat 6 (.int .u32), .dat 19 (.list (.int .u32)), .dat 20 (.int .i64), .dat 21 (.int .i64)], []⟩
def natural_left.O0 : Mrk := ⟨[.own 5 (.int .u32), .dat 6 (.int .u32)], []⟩
def natural_left.an0 (k : Nat) : Ann (denB natural_left.B) := .loop natural_left.M0 natural_left.O0 0 fun x => natural_left.l0 k k x.1 x.2.1 x.2.2.1 x.2.2.2.1 x.2.2.2.2.1 x.2.2.2.2.2
def natural_left.E (k : Nat) : Entry := { f := 173, A := natural_left.A, B := natural_left.B, run := fun x => natural_left k x.1 x.2 }

def bits_Sub32.tab  : List Entry := []
def bits_Sub32.A : List PSh := [.dat (.int .u32), .dat (.int .u32), .dat (.int .u32)]
def bits_Sub32.B : List RSh := [.dat (.int .u32), .dat (.int .u32)]
def bits_Sub32.E  : Entry := { f := 223, A := bits_Sub32.A, B := bits_Sub32.B, run := fun x => bits_Sub32 x.1 x.2.1 x.2.2 }

def bits_Add32.tab  : List Entry := []
def bits_Add32.A : List PSh := [.dat (.int .u32), .dat (.int .u32), .dat (.int .u32)]
def bits_Add32.B : List RSh := [.dat (.int .u32), .dat (.int .u32)]
def bits_Add32.E  : Entry := { f := 236, A := bits_Add32.A, B := bits_Add32.B, run := fun x => bits_Add32 x.1 x.2.1 x.2.2 }

def natural_digit_ld.tab (k : Nat) : List Entry := [bits_Sub32.E, bits_Add32.E]
def natural_digit_ld.A : List PSh := [.lent (.int .u32), .dat (.list (.int .u32))]
def natural_digit_ld.B : List RSh := [.dat (.int .u32), .fin 0 (.int .u32)]
def natural_digit_ld.M2 : Mrk := ⟨[.blk 0 (.int .u32) 1, .dat 1 (.list (.int .u32)), .dat 5 (.int .i64), .dat 8 (.int .u64), .dat 13 (.int .u32), .dat 111 (.int .i64), .dat 112 (.int .i64)], [.ref 0 0]⟩
def natural_digit_ld.O2 : Mrk := ⟨[.blk 0 (.int .u32) 1, .dat 5 (.int .i64), .dat 8 (.int .u64), .dat 13 (.int .u32)], [.ref 0 0]⟩
def natural_digit_ld.an2 (k : Nat) : Ann (denB natural_digit_ld.B) := .loop natural_digit_ld.M2 natural_digit_ld.O2 4 fun x => natural_digit_ld.l2 k k x.1 x.2.1 x.2.2.1 x.2.2.2.1 x.2.2.2.2.1 x.2.2.2.2.2.1 x.2.2.2.2.2.2
def natural_digit_ld.M1 : Mrk := ⟨[.blk 0 (.int .u32) 1, .dat 1 (.list (.int .u32)), .dat 5 (.int .i64), .dat 8 (.int .u64), .dat 10 (.int .u64), .dat 11 (.int .u32), .dat 74 (.int .i64), .dat 75 (.int .i64)], [.ref 0 0]⟩
def natural_digit_ld.O1 : Mrk := ⟨[.blk 0 (.int .u32) 1, .dat 1 (.list (.int .u32)), .dat 5 (.int .i64), .dat 8 (.int .u64), .dat 11 (.int .u32)], [.ref 0 0]⟩
def natural_digit_ld.an1 (k : Nat) : Ann (denB natural_digit_ld.B) := .loop natural_digit_ld.M1 natural_digit_ld.O1 2 fun x => natural_digit_ld.l1 k k x.1 x.2.1 x.2.2.1 x.2.2.2.1 x.2.2.2.2.1 x.2.2.2.2.2.1 x.2.2.2.2.2.2.1 x.2.2.2.2.2.2.2
def natural_digit_ld.M0 : Mrk := ⟨[.blk 0 (.int .u32) 1, .dat 1 (.list (.int .u32)), .dat 5 (.int .i64), .dat 7 (.int .u64), .dat 8 (.int .u64), .dat 9 (.int .u64)], [.ref 0 0]⟩
def natural_digit_ld.O0 : Mrk := ⟨[.blk 0 (.int .u32) 1, .dat 1 (.list (.int .u32)), .dat 5 (.int .i64), .dat 8 (.int .u64)], [.ref 0 0]⟩
def natural_digit_ld.an0 (k : Nat) : Ann (denB natural_digit_ld.B) := .loop natural_digit_ld.M0 natural_digit_ld.O0 0 fun x => natural_digit_ld.l0 k k x.1 x.2.1 x.2.2.1 x.2.2.2.1 x.2.2.2.2.1 x.2.2.2.2.2
def natural_digit_ld.E (k : Nat) : Entry := { f := 222, A := natural_digit_ld.A, B := natural_digit_ld.B, run := fun x => natural_digit_ld k x.1 x.2 }

def natural_right.tab (k : Nat) : List Entry := [natural_trim_v.E k]
def natural_right.A : List PSh := [.dat (.list (.int .u32)), .dat (.int .i64)]
def natural_right.B : List RSh := [.own (.int .u32)]
def natural_right.M0 : Mrk := ⟨[.dat 0 (.list (.int .u32)), .dat 1 (.int .i64), .own 5 (.int .u32), .dat 6 (.int .i64)], []⟩
def natural_right.O0 : Mrk := ⟨[.own 5 (.int .u32)], []⟩
def natural_right.an0 (k : Nat) : Ann (denB natural_right.B) := .loop natural_right.M0 natural_right.O0 0 fun x => natural_right.l0 k k x.1 x.2.1 x.2.2.1 x.2.2.2
def natural_right.E (k : Nat) : Entry := { f := 174, A := natural_right.A, B := natural_right.B, run := fun x => natural_right k x.1 x.2 }

def natural_divide.tab (k : Nat) : List Entry := [bits_LeadingZeros32.E, natural_left.E k, natural_digit_ld.E k, natural_trim_v.E k, natural_right.E k]
def natural_divide.A : List PSh := [.dat (.list (.int .u32)), .dat (.list (.int .u32))]
def natural_divide.B : List RSh := [.dat (.list (.int .u32)), .dat (.list (.int .u32))]
def natural_divide.M1 : Mrk := ⟨[.dat 6 (.int .i64), .dat 7 (.int .i64), .own 8 (.int .u32), .own 9 (.int .u32), .own 10 (.int .u32), .dat 11 (.int .i64)], []⟩
def natural_divide.O1 : Mrk := ⟨[.dat 6 (.int .i64), .dat 7 (.int .i64), .own 9 (.int .u32), .own 10 (.int .u32)], []⟩
def natural_divide.an1 (k : Nat) : Ann (denB natural_divide.B) := .loop natural_divide.M1 natural_divide.O1 2 fun x => natural_divide.l1 k k x.1 x.2.1 x.2.2.1 x.2.2.2.1 x.2.2.2.2.1 x.2.2.2.2.2
def natural_divide.M0 : Mrk := ⟨[.dat 0 (.list (.int .u32)), .dat 6 (.int .i64), .dat 7 (.int .i64), .own 8 (.int .u32), .own 9 (.int .u32)], []⟩
def natural_divide.O0 : Mrk := ⟨[.dat 6 (.int .i64), .dat 7 (.int .i64), .own 8 (.int .u32), .own 9 (.int .u32)], []⟩
def natural_divide.an0 (k : Nat) : Ann (denB natural_divide.B) := .loop natural_divide.M0 natural_divide.O0 0 fun x => natural_divide.l0 k k x.1 x.2.1 x.2.2.1 x.2.2.2.1 x.2.2.2.2
def natural_divide.E (k : Nat) : Entry := { f := 200, A := natural_divide.A, B := natural_divide.B, run := fun x => natural_divide k x.1 x.2 }

def natural_divMod.tab (k : Nat) : List Entry := [natural_compare.E k, slices_Clone_uint32uint32.E, natural_short.E k, natural_trim_v.E k, natural_divide.E k]
def natural_divMod.A : List PSh := [.dat (.list (.int .u32)), .dat (.list (.int .u32))]
def natural_divMod.B : List RSh := [.dat (.list (.int .u32)), .dat (.list (.int .u32))]
def natural_divMod.E (k : Nat) : Entry := { f := 165, A := natural_divMod.A, B := natural_divMod.B, run := fun x => natural_divMod k x.1 x.2 }

def natural_DivMod.tab (k : Nat) : List Entry := [natural_check.E, natural_at.E, natural_divMod.E k]
def natural_DivMod.A : List PSh := [.dat (.list (.int .u32)), .dat (.list (.int .u32))]
def natural_DivMod.B : List RSh := [.dat (.list (.int .u32)), .dat (.list (.int .u32)), .dat (.st (.pair (.int .i64) (.int .i64)))]
def natural_DivMod.E (k : Nat) : Entry := { f := 93, A := natural_DivMod.A, B := natural_DivMod.B, run := fun x => natural_DivMod k x.1 x.2 }

def decimal_exact_at.tab (k : Nat) : List Entry := [decimal_times.E k, natural_DivMod.E k]
def decimal_exact_at.A : List PSh := [.dat (.st (.pair (.bool) (.pair (.list (.int .u32)) (.pair (.list (.int .u32)) (.int .i64))))), .dat (.int .i64)]
def decimal_exact_at.B : List RSh := [.dat (.list (.int .u32)), .dat (.list (.int .u32)), .dat (.list (.int .u32))]
def decimal_exact_at.E (k : Nat) : Entry := { f := 168, A := decimal_exact_at.A, B := decimal_exact_at.B, run := fun x => decimal_exact_at k x.1 x.2 }

def natural_add.tab (k : Nat) : List Entry := [natural_trim_v.E k]
def natural_add.A : List PSh := [.dat (.list (.int .u32)), .dat (.list (.int .u32))]
def natural_add.B : List RSh := [.own (.int .u32)]
def natural_add.M0 : Mrk := ⟨[.dat 1 (.list (.int .u32)), .own 5 (.int .u32), .dat 6 (.int .u64), .dat 20 (.list (.int .u32)), .dat 21 (.int .i64), .dat 22 (.int .i64)], []⟩
def natural_add.O0 : Mrk := ⟨[.own 5 (.int .u32), .dat 6 (.int .u64)], []⟩
def natural_add.an0 (k : Nat) : Ann (denB natural_add.B) := .loop natural_add.M0 natural_add.O0 0 fun x => natural_add.l0 k k x.1 x.2.1 x.2.2.1 x.2.2.2.1 x.2.2.2.2.1 x.2.2.2.2.2
def natural_add.E (k : Nat) : Entry := { f := 175, A := natural_add.A, B := natural_add.B, run := fun x => natural_add k x.1 x.2 }

def natural_Add.tab (k : Nat) : List Entry := [natural_check.E, natural_add.E k, natural_fit.E k]
def natural_Add.A : List PSh := [.dat (.list (.int .u32)), .dat (.list (.int .u32))]
def natural_Add.B : List RSh := [.dat (.list (.int .u32)), .dat (.st (.pair (.int .i64) (.int .i64)))]
def natural_Add.E (k : Nat) : Entry := { f := 112, A := natural_Add.A, B := natural_Add.B, run := fun x => natural_Add k x.1 x.2 }

def decimal_away.tab  : List Entry := []
def decimal_away.A : List PSh := [.dat (.int .i64), .dat (.bool), .dat (.bool), .dat (.int .i64)]
def decimal_away.B : List RSh := [.dat (.bool)]
def decimal_away.E  : Entry := { f := 170, A := decimal_away.A, B := decimal_away.B, run := fun x => decimal_away x.1 x.2.1 x.2.2.1 x.2.2.2 }

def decimal_exact_rounded.tab (k : Nat) : List Entry := [decimal_exact_at.E k, natural_Add.E k, natural_Cmp.E k, decimal_away.E]
def decimal_exact_rounded.A : List PSh := [.dat (.st (.pair (.bool) (.pair (.list (.int .u32)) (.pair (.list (.int .u32)) (.int .i64))))), .dat (.int .i64), .dat (.int .i64)]
def decimal_exact_rounded.B : List RSh := [.dat (.list (.int .u32)), .dat (.bool)]
def decimal_exact_rounded.E (k : Nat) : Entry := { f := 100, A := decimal_exact_rounded.A, B := decimal_exact_rounded.B, run := fun x => decimal_exact_rounded k x.1 x.2.1 x.2.2 }

def decimal_toward.tab (k : Nat) : List Entry := [natural_DivMod.E k]
def decimal_toward.A : List PSh := [.dat (.list (.int .u32)), .dat (.int .i64), .dat (.int .i64)]
def decimal_toward.B : List RSh := [.dat (.list (.int .u32)), .dat (.int .i64)]
def decimal_toward.M0 : Mrk := ⟨[.dat 0 (.list (.int .u32)), .dat 1 (.int .i64), .dat 2 (.int .i64)], []⟩
def decimal_toward.O0 : Mrk := ⟨[.dat 0 (.list (.int .u32)), .dat 1 (.int .i64)], []⟩
def decimal_toward.an0 (k : Nat) : Ann (denB decimal_toward.B) := .loop decimal_toward.M0 decimal_toward.O0 0 fun x => decimal_toward.l0 k k x.1 x.2.1 x.2.2
def decimal_toward.E (k : Nat) : Entry := { f := 99, A := decimal_toward.A, B := decimal_toward.B, run := fun x => decimal_toward k x.1 x.2.1 x.2.2 }

def decimal_infinite.tab  : List Entry := []
def decimal_infinite.A : List PSh := [.dat (.bool)]
def decimal_infinite.B : List RSh := [.dat (.st (.pair (.int .i64) (.pair (.bool) (.pair (.st (.pair (.bool) (.list (.int .u32)))) (.int .i64)))))]
def decimal_infinite.E  : Entry := { f := 69, A := decimal_infinite.A, B := decimal_infinite.B, run := fun x => decimal_infinite x }

def natural_sub.tab (k : Nat) : List Entry := [slices_Clone_uint32uint32.E, bits_Sub32.E, natural_trim_v.E k]
def natural_sub.A : List PSh := [.dat (.list (.int .u32)), .dat (.list (.int .u32))]
def natural_sub.B : List RSh := [.own (.int .u32)]
def natural_sub.M0 : Mrk := ⟨[.dat 1 (.list (.int .u32)), .own 5 (.int .u32), .dat 6 (.int .u32), .dat 12 (.int .i64), .dat 13 (.int .i64)], []⟩
def natural_sub.O0 : Mrk := ⟨[.own 5 (.int .u32)], []⟩
def natural_sub.an0 (k : Nat) : Ann (denB natural_sub.B) := .loop natural_sub.M0 natural_sub.O0 0 fun x => natural_sub.l0 k k x.1 x.2.1 x.2.2.1 x.2.2.2.1 x.2.2.2.2
def natural_sub.E (k : Nat) : Entry := { f := 201, A := natural_sub.A, B := natural_sub.B, run := fun x => natural_sub k x.1 x.2 }

def natural_Sub.tab (k : Nat) : List Entry := [natural_check.E, natural_compare.E k, natural_at.E, natural_sub.E k]
def natural_Sub.A : List PSh := [.dat (.list (.int .u32)), .dat (.list (.int .u32))]
def natural_Sub.B : List RSh := [.dat (.list (.int .u32)), .dat (.st (.pair (.int .i64) (.int .i64)))]
def natural_Sub.E (k : Nat) : Entry := { f := 171, A := natural_Sub.A, B := natural_Sub.B, run := fun x => natural_Sub k x.1 x.2 }

def decimal_overflow.tab (k : Nat) : List Entry := [decimal_away.E, decimal_infinite.E, decimal_power.E k, natural_Sub.E k, decimal_finite.E]
def decimal_overflow.A : List PSh := [.dat (.bool), .dat (.st (.pair (.int .i64) (.pair (.int .i64) (.pair (.int .i64) (.int .i64)))))]
def decimal_overflow.B : List RSh := [.dat (.st (.pair (.int .i64) (.pair (.bool) (.pair (.st (.pair (.bool) (.list (.int .u32)))) (.int .i64)))))]
def decimal_overflow.E (k : Nat) : Entry := { f := 162, A := decimal_overflow.A, B := decimal_overflow.B, run := fun x => decimal_overflow k x.1 x.2 }

def decimal_exact_fit.tab (k : Nat) : List Entry := [decimal_tiny.E, decimal_finite.E, decimal_exact_first.E k, decimal_exact_rounded.E k, decimal_size.E k, natural_DivMod.E k, decimal_toward.E k, decimal_overflow.E k]
def decimal_exact_fit.A : List PSh := [.dat (.st (.pair (.bool) (.pair (.list (.int .u32)) (.pair (.list (.int .u32)) (.int .i64))))), .dat (.int .i64), .dat (.st (.pair (.int .i64) (.pair (.int .i64) (.pair (.int .i64) (.int .i64)))))]
def decimal_exact_fit.B : List RSh := [.dat (.st (.pair (.int .i64) (.pair (.bool) (.pair (.st (.pair (.bool) (.list (.int .u32)))) (.int .i64))))), .dat (.int .i64)]
def decimal_exact_fit.E (k : Nat) : Entry := { f := 91, A := decimal_exact_fit.A, B := decimal_exact_fit.B, run := fun x => decimal_exact_fit k x.1 x.2.1 x.2.2 }

def decimal_Round.tab (k : Nat) : List Entry := [decimal_check.E k, decimal_of.E, decimal_exact_fit.E k]
def decimal_Round.A : List PSh := [.dat (.st (.pair (.int .i64) (.pair (.bool) (.pair (.st (.pair (.bool) (.list (.int .u32)))) (.int .i64))))), .dat (.st (.pair (.int .i64) (.pair (.int .i64) (.pair (.int .i64) (.int .i64)))))]
def decimal_Round.B : List RSh := [.dat (.st (.pair (.int .i64) (.pair (.bool) (.pair (.st (.pair (.bool) (.list (.int .u32)))) (.int .i64))))), .dat (.int .i64), .dat (.st (.pair (.int .i64) (.int .i64)))]
def decimal_Round.E (k : Nat) : Entry := { f := 27, A := decimal_Round.A, B := decimal_Round.B, run := fun x => decimal_Round k x.1 x.2 }

def decimal_isZero.tab  : List Entry := []
def decimal_isZero.A : List PSh := [.dat (.st (.pair (.int .i64) (.pair (.bool) (.pair (.st (.pair (.bool) (.list (.int .u32)))) (.int .i64)))))]
def decimal_isZero.B : List RSh := [.dat (.bool)]
def decimal_isZero.E  : Entry := { f := 88, A := decimal_isZero.A, B := decimal_isZero.B, run := fun x => decimal_isZero x }

def decimal_Reduce.tab (k : Nat) : List Entry := [decimal_Round.E k, decimal_isZero.E, decimal_toward.E k]
def decimal_Reduce.A : List PSh := [.dat (.st (.pair (.int .i64) (.pair (.bool) (.pair (.st (.pair (.bool) (.list (.int .u32)))) (.int .i64))))), .dat (.st (.pair (.int .i64) (.pair (.int .i64) (.pair (.int .i64) (.int .i64)))))]
def decimal_Reduce.B : List RSh := [.dat (.st (.pair (.int .i64) (.pair (.bool) (.pair (.st (.pair (.bool) (.list (.int .u32)))) (.int .i64))))), .dat (.int .i64), .dat (.st (.pair (.int .i64) (.int .i64)))]
def decimal_Reduce.E (k : Nat) : Entry := { f := 28, A := decimal_Reduce.A, B := decimal_Reduce.B, run := fun x => decimal_Reduce k x.1 x.2 }

def decimal_none.tab  : List Entry := []
def decimal_none.A : List PSh := []
def decimal_none.B : List RSh := [.dat (.st (.pair (.int .i64) (.pair (.bool) (.pair (.st (.pair (.bool) (.list (.int .u32)))) (.int .i64)))))]
def decimal_none.E  : Entry := { f := 70, A := decimal_none.A, B := decimal_none.B, run := fun x => decimal_none  }

def decimal_Quantize.tab (k : Nat) : List Entry := [decimal_check.E k, decimal_none.E, decimal_tiny.E, decimal_of.E, decimal_exact_rounded.E k, decimal_size.E k, decimal_finite.E]
def decimal_Quantize.A : List PSh := [.dat (.st (.pair (.int .i64) (.pair (.bool) (.pair (.st (.pair (.bool) (.list (.int .u32)))) (.int .i64))))), .dat (.int .i64), .dat (.st (.pair (.int .i64) (.pair (.int .i64) (.pair (.int .i64) (.int .i64)))))]
def decimal_Quantize.B : List RSh := [.dat (.st (.pair (.int .i64) (.pair (.bool) (.pair (.st (.pair (.bool) (.list (.int .u32)))) (.int .i64))))), .dat (.int .i64), .dat (.st (.pair (.int .i64) (.int .i64)))]
def decimal_Quantize.E (k : Nat) : Entry := { f := 29, A := decimal_Quantize.A, B := decimal_Quantize.B, run := fun x => decimal_Quantize k x.1 x.2.1 x.2.2 }

def brindlewoodref3_Small.tab (k : Nat) : List Entry := []
def brindlewoodref3_Small.A : List PSh := [.dat (.int .i64)]
def brindlewoodref3_Small.B : List RSh := [.own (.int .i64)]
def brindlewoodref3_Small.M0 : Mrk := ⟨[.dat 0 (.int .i64), .own 3 (.int .i64)], []⟩
def brindlewoodref3_Small.O0 : Mrk := ⟨[.own 3 (.int .i64)], []⟩
def brindlewoodref3_Small.an0 (k : Nat) : Ann (denB brindlewoodref3_Small.B) := .loop brindlewoodref3_Small.M0 brindlewoodref3_Small.O0 0 fun x => brindlewoodref3_Small.l0 k k x.1 x.2
def brindlewoodref3_Small.E (k : Nat) : Entry := { f := 48, A := brindlewoodref3_Small.A, B := brindlewoodref3_Small.B, run := fun x => brindlewoodref3_Small k x }

def brindlewoodref3_Value.tab (k : Nat) : List Entry := [brindlewoodref3_Of.E k, brindlewoodref3_Small.E k]
def brindlewoodref3_Value.A : List PSh := [.dat (.st (.pair (.int .i64) (.pair (.bool) (.pair (.st (.pair (.bool) (.list (.int .u32)))) (.int .i64)))))]
def brindlewoodref3_Value.B : List RSh := [.dat (.st (.pair (.bool) (.pair (.list (.int .i64)) (.pair (.list (.int .i64)) (.int .i64)))))]
def brindlewoodref3_Value.E (k : Nat) : Entry := { f := 61, A := brindlewoodref3_Value.A, B := brindlewoodref3_Value.B, run := fun x => brindlewoodref3_Value k x }

def brindlewoodref3_Limbs.tab (k : Nat) : List Entry := []
def brindlewoodref3_Limbs.A : List PSh := [.dat (.list (.int .i64))]
def brindlewoodref3_Limbs.B : List RSh := [.own (.int .u32)]
def brindlewoodref3_Limbs.M0 : Mrk := ⟨[.dat 0 (.list (.int .i64)), .own 3 (.int .u32), .dat 4 (.int .i64)], []⟩
def brindlewoodref3_Limbs.O0 : Mrk := ⟨[.own 3 (.int .u32)], []⟩
def brindlewoodref3_Limbs.an0 (k : Nat) : Ann (denB brindlewoodref3_Limbs.B) := .loop brindlewoodref3_Limbs.M0 brindlewoodref3_Limbs.O0 0 fun x => brindlewoodref3_Limbs.l0 k k x.1 x.2.1 x.2.2
def brindlewoodref3_Limbs.E (k : Nat) : Entry := { f := 160, A := brindlewoodref3_Limbs.A, B := brindlewoodref3_Limbs.B, run := fun x => brindlewoodref3_Limbs k x }

def brindlewoodref3_Finite.tab (k : Nat) : List Entry := [brindlewoodref3_Limbs.E k]
def brindlewoodref3_Finite.A : List PSh := [.dat (.bool), .dat (.list (.int .i64)), .dat (.int .i64)]
def brindlewoodref3_Finite.B : List RSh := [.dat (.st (.pair (.int .i64) (.pair (.bool) (.pair (.st (.pair (.bool) (.list (.int .u32)))) (.int .i64)))))]
def brindlewoodref3_Finite.E (k : Nat) : Entry := { f := 85, A := brindlewoodref3_Finite.A, B := brindlewoodref3_Finite.B, run := fun x => brindlewoodref3_Finite k x.1 x.2.1 x.2.2 }

def brindlewoodref3_Times.tab (k : Nat) : List Entry := [brindlewoodref3_trim_v.E k]
def brindlewoodref3_Times.A : List PSh := [.dat (.list (.int .i64)), .dat (.list (.int .i64))]
def brindlewoodref3_Times.B : List RSh := [.own (.int .i64)]
def brindlewoodref3_Times.M1 : Mrk := ⟨[.dat 0 (.list (.int .i64)), .dat 1 (.list (.int .i64)), .own 5 (.int .i64), .dat 6 (.int .i64), .dat 7 (.int .i64), .dat 8 (.int .i64)], []⟩
def brindlewoodref3_Times.O1 : Mrk := ⟨[.dat 0 (.list (.int .i64)), .dat 1 (.list (.int .i64)), .own 5 (.int .i64), .dat 6 (.int .i64), .dat 28 (.int .i64), .dat 29 (.bool)], []⟩
def brindlewoodref3_Times.an1 (k : Nat) : Ann (denB brindlewoodref3_Times.B) := .loop brindlewoodref3_Times.M1 brindlewoodref3_Times.O1 2 fun x => brindlewoodref3_Times.l1 k k x.1 x.2.1 x.2.2.1 x.2.2.2.1 x.2.2.2.2.1 x.2.2.2.2.2
def brindlewoodref3_Times.M0 : Mrk := ⟨[.dat 0 (.list (.int .i64)), .dat 1 (.list (.int .i64)), .own 5 (.int .i64), .dat 6 (.int .i64)], []⟩
def brindlewoodref3_Times.O0 : Mrk := ⟨[.own 5 (.int .i64)], []⟩
def brindlewoodref3_Times.an0 (k : Nat) : Ann (denB brindlewoodref3_Times.B) := .loop brindlewoodref3_Times.M0 brindlewoodref3_Times.O0 0 fun x => brindlewoodref3_Times.l0 k k x.1 x.2.1 x.2.2.1 x.2.2.2
def brindlewoodref3_Times.E (k : Nat) : Entry := { f := 62, A := brindlewoodref3_Times.A, B := brindlewoodref3_Times.B, run := fun x => brindlewoodref3_Times k x.1 x.2 }

def brindlewoodref3_Ten.tab (k : Nat) : List Entry := [brindlewoodref3_Small.E k, brindlewoodref3_Times.E k]
def brindlewoodref3_Ten.A : List PSh := [.dat (.int .i64)]
def brindlewoodref3_Ten.B : List RSh := [.own (.int .i64)]
def brindlewoodref3_Ten.M1 : Mrk := ⟨[.dat 0 (.int .i64), .own 3 (.int .i64)], []⟩
def brindlewoodref3_Ten.O1 : Mrk := ⟨[.own 3 (.int .i64)], []⟩
def brindlewoodref3_Ten.an1 (k : Nat) : Ann (denB brindlewoodref3_Ten.B) := .loop brindlewoodref3_Ten.M1 brindlewoodref3_Ten.O1 2 fun x => brindlewoodref3_Ten.l1 k k x.1 x.2
def brindlewoodref3_Ten.M0 : Mrk := ⟨[.dat 0 (.int .i64), .own 3 (.int .i64)], []⟩
def brindlewoodref3_Ten.O0 : Mrk := ⟨[.dat 0 (.int .i64), .own 3 (.int .i64)], []⟩
def brindlewoodref3_Ten.an0 (k : Nat) : Ann (denB brindlewoodref3_Ten.B) := .loop brindlewoodref3_Ten.M0 brindlewoodref3_Ten.O0 0 fun x => brindlewoodref3_Ten.l0 k k x.1 x.2
def brindlewoodref3_Ten.E (k : Nat) : Entry := { f := 49, A := brindlewoodref3_Ten.A, B := brindlewoodref3_Ten.B, run := fun x => brindlewoodref3_Ten k x }

def brindlewoodref3_Exact_parts.tab (k : Nat) : List Entry := [brindlewoodref3_Ten.E k, brindlewoodref3_Times.E k]
def brindlewoodref3_Exact_parts.A : List PSh := [.dat (.st (.pair (.bool) (.pair (.list (.int .i64)) (.pair (.list (.int .i64)) (.int .i64))))), .dat (.int .i64)]
def brindlewoodref3_Exact_parts.B : List RSh := [.dat (.list (.int .i64)), .dat (.list (.int .i64))]
def brindlewoodref3_Exact_parts.E (k : Nat) : Entry := { f := 97, A := brindlewoodref3_Exact_parts.A, B := brindlewoodref3_Exact_parts.B, run := fun x => brindlewoodref3_Exact_parts k x.1 x.2 }

def brindlewoodref3_Compare.tab (k : Nat) : List Entry := []
def brindlewoodref3_Compare.A : List PSh := [.dat (.list (.int .i64)), .dat (.list (.int .i64))]
def brindlewoodref3_Compare.B : List RSh := [.dat (.int .i64)]
def brindlewoodref3_Compare.M0 : Mrk := ⟨[.dat 0 (.list (.int .i64)), .dat 1 (.list (.int .i64)), .dat 5 (.int .i64)], []⟩
def brindlewoodref3_Compare.O0 : Mrk := ⟨[], []⟩
def brindlewoodref3_Compare.an0 (k : Nat) : Ann (denB brindlewoodref3_Compare.B) := .loop brindlewoodref3_Compare.M0 brindlewoodref3_Compare.O0 0 fun x => brindlewoodref3_Compare.l0 k k x.1 x.2.1 x.2.2
def brindlewoodref3_Compare.E (k : Nat) : Entry := { f := 115, A := brindlewoodref3_Compare.A, B := brindlewoodref3_Compare.B, run := fun x => brindlewoodref3_Compare k x.1 x.2 }

def brindlewoodref3_Exact_First.tab (k : Nat) : List Entry := [brindlewoodref3_Figures.E k, brindlewoodref3_Exact_parts.E k, brindlewoodref3_Compare.E k]
def brindlewoodref3_Exact_First.A : List PSh := [.dat (.st (.pair (.bool) (.pair (.list (.int .i64)) (.pair (.list (.int .i64)) (.int .i64)))))]
def brindlewoodref3_Exact_First.B : List RSh := [.dat (.int .i64)]
def brindlewoodref3_Exact_First.M0 : Mrk := ⟨[.box 33 [.st (.pair (.bool) (.pair (.list (.int .i64)) (.pair (.list (.int .i64)) (.int .i64))))], .dat 3 (.int .i64)], [.ptr 1 33 0]⟩
def brindlewoodref3_Exact_First.O0 : Mrk := ⟨[], []⟩
def brindlewoodref3_Exact_First.an0 (k : Nat) : Ann (denB brindlewoodref3_Exact_First.B) := .loop brindlewoodref3_Exact_First.M0 brindlewoodref3_Exact_First.O0 0 fun x => brindlewoodref3_Exact_First.l0 k k x.1 x.2
def brindlewoodref3_Exact_First.E (k : Nat) : Entry := { f := 113, A := brindlewoodref3_Exact_First.A, B := brindlewoodref3_Exact_First.B, run := fun x => brindlewoodref3_Exact_First k x }

def brindlewoodref3_Ones.tab (k : Nat) : List Entry := []
def brindlewoodref3_Ones.A : List PSh := [.dat (.list (.int .i64))]
def brindlewoodref3_Ones.B : List RSh := [.own (.bool)]
def brindlewoodref3_Ones.M2 : Mrk := ⟨[.own 3 (.bool)], []⟩
def brindlewoodref3_Ones.O2 : Mrk := ⟨[.own 3 (.bool)], []⟩
def brindlewoodref3_Ones.an2 (k : Nat) : Ann (denB brindlewoodref3_Ones.B) := .loop brindlewoodref3_Ones.M2 brindlewoodref3_Ones.O2 4 fun x => brindlewoodref3_Ones.l2 k k x
def brindlewoodref3_Ones.M1 : Mrk := ⟨[.dat 0 (.list (.int .i64)), .own 3 (.bool), .dat 4 (.int .i64), .dat 5 (.int .i64), .dat 6 (.int .i64)], []⟩
def brindlewoodref3_Ones.O1 : Mrk := ⟨[.dat 0 (.list (.int .i64)), .own 3 (.bool), .dat 4 (.int .i64)], []⟩
def brindlewoodref3_Ones.an1 (k : Nat) : Ann (denB brindlewoodref3_Ones.B) := .loop brindlewoodref3_Ones.M1 brindlewoodref3_Ones.O1 2 fun x => brindlewoodref3_Ones.l1 k k x.1 x.2.1 x.2.2.1 x.2.2.2.1 x.2.2.2.2
def brindlewoodref3_Ones.M0 : Mrk := ⟨[.dat 0 (.list (.int .i64)), .own 3 (.bool), .dat 4 (.int .i64)], []⟩
def brindlewoodref3_Ones.O0 : Mrk := ⟨[.own 3 (.bool)], []⟩
def brindlewoodref3_Ones.an0 (k : Nat) : Ann (denB brindlewoodref3_Ones.B) := .loop brindlewoodref3_Ones.M0 brindlewoodref3_Ones.O0 0 fun x => brindlewoodref3_Ones.l0 k k x.1 x.2.1 x.2.2
def brindlewoodref3_Ones.E (k : Nat) : Entry := { f := 166, A := brindlewoodref3_Ones.A, B := brindlewoodref3_Ones.B, run := fun x => brindlewoodref3_Ones k x }

def brindlewoodref3_Double.tab (k : Nat) : List Entry := [brindlewoodref3_trim_v.E k]
def brindlewoodref3_Double.A : List PSh := [.dat (.list (.int .i64)), .dat (.bool)]
def brindlewoodref3_Double.B : List RSh := [.own (.int .i64)]
def brindlewoodref3_Double.M0 : Mrk := ⟨[.dat 0 (.list (.int .i64)), .dat 5 (.int .i64), .own 6 (.int .i64), .dat 7 (.int .i64)], []⟩
def brindlewoodref3_Double.O0 : Mrk := ⟨[.dat 5 (.int .i64), .own 6 (.int .i64)], []⟩
def brindlewoodref3_Double.an0 (k : Nat) : Ann (denB brindlewoodref3_Double.B) := .loop brindlewoodref3_Double.M0 brindlewoodref3_Double.O0 0 fun x => brindlewoodref3_Double.l0 k k x.1 x.2.1 x.2.2.1 x.2.2.2
def brindlewoodref3_Double.E (k : Nat) : Entry := { f := 116, A := brindlewoodref3_Double.A, B := brindlewoodref3_Double.B, run := fun x => brindlewoodref3_Double k x.1 x.2 }

def brindlewoodref3_Minus.tab (k : Nat) : List Entry := [brindlewoodref3_trim_v.E k]
def brindlewoodref3_Minus.A : List PSh := [.dat (.list (.int .i64)), .dat (.list (.int .i64))]
def brindlewoodref3_Minus.B : List RSh := [.own (.int .i64)]
def brindlewoodref3_Minus.M0 : Mrk := ⟨[.dat 0 (.list (.int .i64)), .dat 1 (.list (.int .i64)), .own 5 (.int .i64), .dat 6 (.int .i64), .dat 7 (.int .i64)], []⟩
def brindlewoodref3_Minus.O0 : Mrk := ⟨[.own 5 (.int .i64)], []⟩
def brindlewoodref3_Minus.an0 (k : Nat) : Ann (denB brindlewoodref3_Minus.B) := .loop brindlewoodref3_Minus.M0 brindlewoodref3_Minus.O0 0 fun x => brindlewoodref3_Minus.l0 k k x.1 x.2.1 x.2.2.1 x.2.2.2.1 x.2.2.2.2
def brindlewoodref3_Minus.E (k : Nat) : Entry := { f := 167, A := brindlewoodref3_Minus.A, B := brindlewoodref3_Minus.B, run := fun x => brindlewoodref3_Minus k x.1 x.2 }

def brindlewoodref3_Binary.tab (k : Nat) : List Entry := [brindlewoodref3_trim_v.E k]
def brindlewoodref3_Binary.A : List PSh := [.dat (.list (.bool))]
def brindlewoodref3_Binary.B : List RSh := [.own (.int .i64)]
def brindlewoodref3_Binary.M1 : Mrk := ⟨[.dat 0 (.list (.bool)), .own 3 (.int .i64), .dat 4 (.int .i64), .dat 5 (.int .i64), .dat 6 (.int .i64)], []⟩
def brindlewoodref3_Binary.O1 : Mrk := ⟨[.dat 0 (.list (.bool)), .own 3 (.int .i64), .dat 4 (.int .i64), .dat 5 (.int .i64)], []⟩
def brindlewoodref3_Binary.an1 (k : Nat) : Ann (denB brindlewoodref3_Binary.B) := .loop brindlewoodref3_Binary.M1 brindlewoodref3_Binary.O1 2 fun x => brindlewoodref3_Binary.l1 k k x.1 x.2.1 x.2.2.1 x.2.2.2.1 x.2.2.2.2
def brindlewoodref3_Binary.M0 : Mrk := ⟨[.dat 0 (.list (.bool)), .own 3 (.int .i64), .dat 4 (.int .i64)], []⟩
def brindlewoodref3_Binary.O0 : Mrk := ⟨[.own 3 (.int .i64)], []⟩
def brindlewoodref3_Binary.an0 (k : Nat) : Ann (denB brindlewoodref3_Binary.B) := .loop brindlewoodref3_Binary.M0 brindlewoodref3_Binary.O0 0 fun x => brindlewoodref3_Binary.l0 k k x.1 x.2.1 x.2.2
def brindlewoodref3_Binary.E (k : Nat) : Entry := { f := 127, A := brindlewoodref3_Binary.A, B := brindlewoodref3_Binary.B, run := fun x => brindlewoodref3_Binary k x }

def brindlewoodref3_Divide.tab (k : Nat) : List Entry := [brindlewoodref3_Ones.E k, brindlewoodref3_Double.E k, brindlewoodref3_Compare.E k, brindlewoodref3_Minus.E k, brindlewoodref3_Binary.E k]
def brindlewoodref3_Divide.A : List PSh := [.dat (.list (.int .i64)), .dat (.list (.int .i64))]
def brindlewoodref3_Divide.B : List RSh := [.dat (.list (.int .i64)), .dat (.list (.int .i64))]
def brindlewoodref3_Divide.M0 : Mrk := ⟨[.dat 1 (.list (.int .i64)), .own 6 (.bool), .own 7 (.bool), .own 8 (.int .i64), .dat 9 (.int .i64)], []⟩
def brindlewoodref3_Divide.O0 : Mrk := ⟨[.own 7 (.bool), .own 8 (.int .i64)], []⟩
def brindlewoodref3_Divide.an0 (k : Nat) : Ann (denB brindlewoodref3_Divide.B) := .loop brindlewoodref3_Divide.M0 brindlewoodref3_Divide.O0 0 fun x => brindlewoodref3_Divide.l0 k k x.1 x.2.1 x.2.2.1 x.2.2.2.1 x.2.2.2.2
def brindlewoodref3_Divide.E (k : Nat) : Entry := { f := 98, A := brindlewoodref3_Divide.A, B := brindlewoodref3_Divide.B, run := fun x => brindlewoodref3_Divide k x.1 x.2 }

def brindlewoodref3_up.tab  : List Entry := []
def brindlewoodref3_up.A : List PSh := [.dat (.int .i64), .dat (.bool), .dat (.bool), .dat (.int .i64)]
def brindlewoodref3_up.B : List RSh := [.dat (.bool)]
def brindlewoodref3_up.E  : Entry := { f := 117, A := brindlewoodref3_up.A, B := brindlewoodref3_up.B, run := fun x => brindlewoodref3_up x.1 x.2.1 x.2.2.1 x.2.2.2 }

def brindlewoodref3_Plus.tab (k : Nat) : List Entry := [brindlewoodref3_trim_v.E k]
def brindlewoodref3_Plus.A : List PSh := [.dat (.list (.int .i64)), .dat (.list (.int .i64))]
def brindlewoodref3_Plus.B : List RSh := [.own (.int .i64)]
def brindlewoodref3_Plus.M0 : Mrk := ⟨[.dat 0 (.list (.int .i64)), .dat 1 (.list (.int .i64)), .own 5 (.int .i64), .dat 6 (.int .i64), .dat 7 (.int .i64)], []⟩
def brindlewoodref3_Plus.O0 : Mrk := ⟨[.own 5 (.int .i64)], []⟩
def brindlewoodref3_Plus.an0 (k : Nat) : Ann (denB brindlewoodref3_Plus.B) := .loop brindlewoodref3_Plus.M0 brindlewoodref3_Plus.O0 0 fun x => brindlewoodref3_Plus.l0 k k x.1 x.2.1 x.2.2.1 x.2.2.2.1 x.2.2.2.2
def brindlewoodref3_Plus.E (k : Nat) : Entry := { f := 118, A := brindlewoodref3_Plus.A, B := brindlewoodref3_Plus.B, run := fun x => brindlewoodref3_Plus k x.1 x.2 }

def brindlewoodref3_Exact_Rounded.tab (k : Nat) : List Entry := [brindlewoodref3_Exact_parts.E k, brindlewoodref3_Divide.E k, brindlewoodref3_Double.E k, brindlewoodref3_Compare.E k, brindlewoodref3_up.E, brindlewoodref3_Small.E k, brindlewoodref3_Plus.E k]
def brindlewoodref3_Exact_Rounded.A : List PSh := [.dat (.st (.pair (.bool) (.pair (.list (.int .i64)) (.pair (.list (.int .i64)) (.int .i64))))), .dat (.int .i64), .dat (.int .i64)]
def brindlewoodref3_Exact_Rounded.B : List RSh := [.dat (.list (.int .i64)), .dat (.bool)]
def brindlewoodref3_Exact_Rounded.E (k : Nat) : Entry := { f := 103, A := brindlewoodref3_Exact_Rounded.A, B := brindlewoodref3_Exact_Rounded.B, run := fun x => brindlewoodref3_Exact_Rounded k x.1 x.2.1 x.2.2 }

def brindlewoodref3_endless.tab  : List Entry := []
def brindlewoodref3_endless.A : List PSh := [.dat (.bool)]
def brindlewoodref3_endless.B : List RSh := [.dat (.st (.pair (.int .i64) (.pair (.bool) (.pair (.st (.pair (.bool) (.list (.int .u32)))) (.int .i64)))))]
def brindlewoodref3_endless.E  : Entry := { f := 83, A := brindlewoodref3_endless.A, B := brindlewoodref3_endless.B, run := fun x => brindlewoodref3_endless x }

def brindlewoodref3_settle.tab (k : Nat) : List Entry := [brindlewoodref3_Halve.E k, brindlewoodref3_Figures.E k, brindlewoodref3_endless.E, brindlewoodref3_Ten.E k, brindlewoodref3_Small.E k, brindlewoodref3_Minus.E k, brindlewoodref3_Finite.E k]
def brindlewoodref3_settle.A : List PSh := [.dat (.bool), .dat (.list (.int .i64)), .dat (.int .i64), .dat (.int .i64), .dat (.bool), .dat (.int .i64), .dat (.st (.pair (.int .i64) (.pair (.int .i64) (.pair (.int .i64) (.int .i64)))))]
def brindlewoodref3_settle.B : List RSh := [.dat (.st (.pair (.int .i64) (.pair (.bool) (.pair (.st (.pair (.bool) (.list (.int .u32)))) (.int .i64))))), .dat (.int .i64)]
def brindlewoodref3_settle.M0 : Mrk := ⟨[.dat 0 (.bool), .dat 1 (.list (.int .i64)), .dat 2 (.int .i64), .dat 4 (.bool), .dat 5 (.int .i64), .box 137 [.st (.pair (.int .i64) (.pair (.int .i64) (.pair (.int .i64) (.int .i64))))], .box 138 [.st (.pair (.int .i64) (.pair (.bool) (.pair (.st (.pair (.bool) (.list (.int .u32)))) (.int .i64))))], .dat 16 (.int .i64)], [.ptr 13 137 0, .ptr 14 138 0]⟩
def brindlewoodref3_settle.O0 : Mrk := ⟨[.dat 0 (.bool), .dat 1 (.list (.int .i64)), .dat 2 (.int .i64), .box 137 [.st (.pair (.int .i64) (.pair (.int .i64) (.pair (.int .i64) (.int .i64))))], .box 138 [.st (.pair (.int .i64) (.pair (.bool) (.pair (.st (.pair (.bool) (.list (.int .u32)))) (.int .i64))))], .dat 16 (.int .i64)], [.ptr 13 137 0, .ptr 14 138 0]⟩
def brindlewoodref3_settle.an0 (k : Nat) : Ann (denB brindlewoodref3_settle.B) := .loop brindlewoodref3_settle.M0 brindlewoodref3_settle.O0 0 fun x => brindlewoodref3_settle.l0 k k x.1 x.2.1 x.2.2.1 x.2.2.2.1 x.2.2.2.2.1 x.2.2.2.2.2.1 x.2.2.2.2.2.2.1 x.2.2.2.2.2.2.2
def brindlewoodref3_settle.E (k : Nat) : Entry := { f := 119, A := brindlewoodref3_settle.A, B := brindlewoodref3_settle.B, run := fun x => brindlewoodref3_settle k x.1 x.2.1 x.2.2.1 x.2.2.2.1 x.2.2.2.2.1 x.2.2.2.2.2.1 x.2.2.2.2.2.2 }

def brindlewoodref3_Exact_Fit.tab (k : Nat) : List Entry := [brindlewoodref3_Finite.E k, brindlewoodref3_Exact_First.E k, brindlewoodref3_Exact_Rounded.E k, brindlewoodref3_settle.E k]
def brindlewoodref3_Exact_Fit.A : List PSh := [.dat (.st (.pair (.bool) (.pair (.list (.int .i64)) (.pair (.list (.int .i64)) (.int .i64))))), .dat (.int .i64), .dat (.st (.pair (.int .i64) (.pair (.int .i64) (.pair (.int .i64) (.int .i64)))))]
def brindlewoodref3_Exact_Fit.B : List RSh := [.dat (.st (.pair (.int .i64) (.pair (.bool) (.pair (.st (.pair (.bool) (.list (.int .u32)))) (.int .i64))))), .dat (.int .i64)]
def brindlewoodref3_Exact_Fit.E (k : Nat) : Entry := { f := 58, A := brindlewoodref3_Exact_Fit.A, B := brindlewoodref3_Exact_Fit.B, run := fun x => brindlewoodref3_Exact_Fit k x.1 x.2.1 x.2.2 }

def brindlewoodref3_Fitted.tab (k : Nat) : List Entry := [brindlewoodref3_Value.E k, brindlewoodref3_Exact_Fit.E k]
def brindlewoodref3_Fitted.A : List PSh := [.dat (.st (.pair (.int .i64) (.pair (.bool) (.pair (.st (.pair (.bool) (.list (.int .u32)))) (.int .i64))))), .dat (.st (.pair (.int .i64) (.pair (.int .i64) (.pair (.int .i64) (.int .i64)))))]
def brindlewoodref3_Fitted.B : List RSh := [.dat (.st (.pair (.int .i64) (.pair (.bool) (.pair (.st (.pair (.bool) (.list (.int .u32)))) (.int .i64))))), .dat (.int .i64)]
def brindlewoodref3_Fitted.E (k : Nat) : Entry := { f := 30, A := brindlewoodref3_Fitted.A, B := brindlewoodref3_Fitted.B, run := fun x => brindlewoodref3_Fitted k x.1 x.2 }

def brindlewoodref3_Reduced.tab (k : Nat) : List Entry := [brindlewoodref3_Fitted.E k, brindlewoodref3_Of.E k, brindlewoodref3_Finite.E k, brindlewoodref3_Halve.E k]
def brindlewoodref3_Reduced.A : List PSh := [.dat (.st (.pair (.int .i64) (.pair (.bool) (.pair (.st (.pair (.bool) (.list (.int .u32)))) (.int .i64))))), .dat (.st (.pair (.int .i64) (.pair (.int .i64) (.pair (.int .i64) (.int .i64)))))]
def brindlewoodref3_Reduced.B : List RSh := [.dat (.st (.pair (.int .i64) (.pair (.bool) (.pair (.st (.pair (.bool) (.list (.int .u32)))) (.int .i64))))), .dat (.int .i64)]
def brindlewoodref3_Reduced.M0 : Mrk := ⟨[.box 58 [.st (.pair (.int .i64) (.pair (.bool) (.pair (.st (.pair (.bool) (.list (.int .u32)))) (.int .i64))))], .box 60 [.st (.pair (.int .i64) (.pair (.bool) (.pair (.st (.pair (.bool) (.list (.int .u32)))) (.int .i64))))], .dat 7 (.int .i64), .dat 8 (.list (.int .i64)), .dat 9 (.int .i64)], [.ptr 4 58 0, .ptr 6 60 0]⟩
def brindlewoodref3_Reduced.O0 : Mrk := ⟨[.box 58 [.st (.pair (.int .i64) (.pair (.bool) (.pair (.st (.pair (.bool) (.list (.int .u32)))) (.int .i64))))], .box 60 [.st (.pair (.int .i64) (.pair (.bool) (.pair (.st (.pair (.bool) (.list (.int .u32)))) (.int .i64))))], .dat 7 (.int .i64), .dat 8 (.list (.int .i64)), .dat 9 (.int .i64)], [.ptr 4 58 0, .ptr 6 60 0]⟩
def brindlewoodref3_Reduced.an0 (k : Nat) : Ann (denB brindlewoodref3_Reduced.B) := .loop brindlewoodref3_Reduced.M0 brindlewoodref3_Reduced.O0 0 fun x => brindlewoodref3_Reduced.l0 k k x.1 x.2.1 x.2.2.1 x.2.2.2.1 x.2.2.2.2
def brindlewoodref3_Reduced.E (k : Nat) : Entry := { f := 31, A := brindlewoodref3_Reduced.A, B := brindlewoodref3_Reduced.B, run := fun x => brindlewoodref3_Reduced k x.1 x.2 }

def brindlewoodref3_nothing.tab  : List Entry := []
def brindlewoodref3_nothing.A : List PSh := []
def brindlewoodref3_nothing.B : List RSh := [.dat (.st (.pair (.int .i64) (.pair (.bool) (.pair (.st (.pair (.bool) (.list (.int .u32)))) (.int .i64)))))]
def brindlewoodref3_nothing.E  : Entry := { f := 82, A := brindlewoodref3_nothing.A, B := brindlewoodref3_nothing.B, run := fun x => brindlewoodref3_nothing  }

def brindlewoodref3_Quantized.tab (k : Nat) : List Entry := [brindlewoodref3_nothing.E, brindlewoodref3_Value.E k, brindlewoodref3_Exact_Rounded.E k, brindlewoodref3_Figures.E k, brindlewoodref3_Finite.E k]
def brindlewoodref3_Quantized.A : List PSh := [.dat (.st (.pair (.int .i64) (.pair (.bool) (.pair (.st (.pair (.bool) (.list (.int .u32)))) (.int .i64))))), .dat (.int .i64), .dat (.st (.pair (.int .i64) (.pair (.int .i64) (.pair (.int .i64) (.int .i64)))))]
def brindlewoodref3_Quantized.B : List RSh := [.dat (.st (.pair (.int .i64) (.pair (.bool) (.pair (.st (.pair (.bool) (.list (.int .u32)))) (.int .i64))))), .dat (.int .i64)]
def brindlewoodref3_Quantized.E (k : Nat) : Entry := { f := 32, A := brindlewoodref3_Quantized.A, B := brindlewoodref3_Quantized.B, run := fun x => brindlewoodref3_Quantized k x.1 x.2.1 x.2.2 }

def stringslite_HasPrefix.tab  : List Entry := []
def stringslite_HasPrefix.A : List PSh := [.dat (.str), .dat (.str)]
def stringslite_HasPrefix.B : List RSh := [.dat (.bool)]
def stringslite_HasPrefix.E  : Entry := { f := 190, A := stringslite_HasPrefix.A, B := stringslite_HasPrefix.B, run := fun x => stringslite_HasPrefix x.1 x.2 }

def stringslite_CutPrefix.tab  : List Entry := [stringslite_HasPrefix.E]
def stringslite_CutPrefix.A : List PSh := [.dat (.str), .dat (.str)]
def stringslite_CutPrefix.B : List RSh := [.dat (.str), .dat (.bool)]
def stringslite_CutPrefix.E  : Entry := { f := 148, A := stringslite_CutPrefix.A, B := stringslite_CutPrefix.B, run := fun x => stringslite_CutPrefix x.1 x.2 }

def strings_CutPrefix.tab  : List Entry := [stringslite_CutPrefix.E]
def strings_CutPrefix.A : List PSh := [.dat (.str), .dat (.str)]
def strings_CutPrefix.B : List RSh := [.dat (.str), .dat (.bool)]
def strings_CutPrefix.E  : Entry := { f := 68, A := strings_CutPrefix.A, B := strings_CutPrefix.B, run := fun x => strings_CutPrefix x.1 x.2 }

def stringslite_IndexByte.A : List PSh := [.dat (.str), .dat (.int .u8)]
def stringslite_IndexByte.B : List RSh := [.dat (.int .i64)]
def stringslite_IndexByte.E : Entry := { f := 210, A := stringslite_IndexByte.A, B := stringslite_IndexByte.B, run := fun x => stringslite_IndexByte x.1 x.2 }

def stringslite_Index.tab  : List Entry := [stringslite_IndexByte.E]
def stringslite_Index.A : List PSh := [.dat (.str), .dat (.str)]
def stringslite_Index.B : List RSh := [.dat (.int .i64)]
def stringslite_Index.E  : Entry := { f := 193, A := stringslite_Index.A, B := stringslite_Index.B, run := fun x => stringslite_Index x.1 x.2 }

def stringslite_Cut.tab  : List Entry := [stringslite_Index.E]
def stringslite_Cut.A : List PSh := [.dat (.str), .dat (.str)]
def stringslite_Cut.B : List RSh := [.dat (.str), .dat (.str), .dat (.bool)]
def stringslite_Cut.E  : Entry := { f := 149, A := stringslite_Cut.A, B := stringslite_Cut.B, run := fun x => stringslite_Cut x.1 x.2 }

def strings_Cut.tab  : List Entry := [stringslite_Cut.E]
def strings_Cut.A : List PSh := [.dat (.str), .dat (.str)]
def strings_Cut.B : List RSh := [.dat (.str), .dat (.str), .dat (.bool)]
def strings_Cut.E  : Entry := { f := 71, A := strings_Cut.A, B := strings_Cut.B, run := fun x => strings_Cut x.1 x.2 }

def strings_HasPrefix.tab  : List Entry := [stringslite_HasPrefix.E]
def strings_HasPrefix.A : List PSh := [.dat (.str), .dat (.str)]
def strings_HasPrefix.B : List RSh := [.dat (.bool)]
def strings_HasPrefix.E  : Entry := { f := 143, A := strings_HasPrefix.A, B := strings_HasPrefix.B, run := fun x => strings_HasPrefix x.1 x.2 }

def decimal_allDigits.tab (k : Nat) : List Entry := []
def decimal_allDigits.A : List PSh := [.dat (.str)]
def decimal_allDigits.B : List RSh := [.dat (.bool)]
def decimal_allDigits.M0 : Mrk := ⟨[.dat 0 (.str), .dat 5 (.int .i64), .dat 6 (.int .i64)], []⟩
def decimal_allDigits.O0 : Mrk := ⟨[.dat 0 (.str)], []⟩
def decimal_allDigits.an0 (k : Nat) : Ann (denB decimal_allDigits.B) := .loop decimal_allDigits.M0 decimal_allDigits.O0 0 fun x => decimal_allDigits.l0 k k x.1 x.2.1 x.2.2
def decimal_allDigits.E (k : Nat) : Entry := { f := 73, A := decimal_allDigits.A, B := decimal_allDigits.B, run := fun x => decimal_allDigits k x }

def decimal_exponent.tab (k : Nat) : List Entry := [strings_HasPrefix.E, decimal_allDigits.E k]
def decimal_exponent.A : List PSh := [.dat (.str)]
def decimal_exponent.B : List RSh := [.dat (.int .i64), .dat (.bool)]
def decimal_exponent.E (k : Nat) : Entry := { f := 72, A := decimal_exponent.A, B := decimal_exponent.B, run := fun x => decimal_exponent k x }

def strings_trimLeftByte.tab (k : Nat) : List Entry := []
def strings_trimLeftByte.A : List PSh := [.dat (.str), .dat (.int .u8)]
def strings_trimLeftByte.B : List RSh := [.dat (.str)]
def strings_trimLeftByte.M0 : Mrk := ⟨[.dat 0 (.str), .dat 1 (.int .u8)], []⟩
def strings_trimLeftByte.O0 : Mrk := ⟨[.dat 0 (.str)], []⟩
def strings_trimLeftByte.an0 (k : Nat) : Ann (denB strings_trimLeftByte.B) := .loop strings_trimLeftByte.M0 strings_trimLeftByte.O0 0 fun x => strings_trimLeftByte.l0 k k x.1 x.2
def strings_trimLeftByte.E (k : Nat) : Entry := { f := 151, A := strings_trimLeftByte.A, B := strings_trimLeftByte.B, run := fun x => strings_trimLeftByte k x.1 x.2 }

def strings_TrimLeft.tab (k : Nat) : List Entry := [strings_trimLeftByte.E k]
def strings_TrimLeft.A : List PSh := [.dat (.str), .dat (.str)]
def strings_TrimLeft.B : List RSh := [.dat (.str)]
def strings_TrimLeft.E (k : Nat) : Entry := { f := 74, A := strings_TrimLeft.A, B := strings_TrimLeft.B, run := fun x => strings_TrimLeft k x.1 x.2 }

def integer_at.tab  : List Entry := []
def integer_at.A : List PSh := [.dat (.int .i64), .dat (.int .i64)]
def integer_at.B : List RSh := [.dat (.st (.pair (.int .i64) (.int .i64)))]
def integer_at.E  : Entry := { f := 155, A := integer_at.A, B := integer_at.B, run := fun x => integer_at x.1 x.2 }

def slices_Index_bytebyte.tab (k : Nat) : List Entry := []
def slices_Index_bytebyte.A : List PSh := [.dat (.list (.int .u8)), .dat (.int .u8)]
def slices_Index_bytebyte.B : List RSh := [.dat (.int .i64)]
def slices_Index_bytebyte.M0 : Mrk := ⟨[.dat 0 (.list (.int .u8)), .dat 1 (.int .u8), .dat 7 (.int .i64), .dat 8 (.int .i64)], []⟩
def slices_Index_bytebyte.O0 : Mrk := ⟨[], []⟩
def slices_Index_bytebyte.an0 (k : Nat) : Ann (denB slices_Index_bytebyte.B) := .loop slices_Index_bytebyte.M0 slices_Index_bytebyte.O0 0 fun x => slices_Index_bytebyte.l0 k k x.1 x.2.1 x.2.2.1 x.2.2.2
def slices_Index_bytebyte.E (k : Nat) : Entry := { f := 156, A := slices_Index_bytebyte.A, B := slices_Index_bytebyte.B, run := fun x => slices_Index_bytebyte k x.1 x.2 }

def natural_From.tab (k : Nat) : List Entry := [natural_at.E, natural_mul.E k, natural_trim_v.E k, natural_add.E k, natural_fit.E k]
def natural_From.A : List PSh := [.dat (.list (.int .i64)), .dat (.int .i64)]
def natural_From.B : List RSh := [.dat (.list (.int .u32)), .dat (.st (.pair (.int .i64) (.int .i64)))]
def natural_From.M0 : Mrk := ⟨[.dat 1 (.int .i64), .box 55 [.st (.pair (.int .i64) (.int .i64))], .own 6 (.int .u32), .dat 16 (.list (.int .i64)), .dat 17 (.int .i64), .dat 18 (.int .i64)], [.ptr 5 55 0]⟩
def natural_From.O0 : Mrk := ⟨[.box 55 [.st (.pair (.int .i64) (.int .i64))], .own 6 (.int .u32)], [.ptr 5 55 0]⟩
def natural_From.an0 (k : Nat) : Ann (denB natural_From.B) := .loop natural_From.M0 natural_From.O0 0 fun x => natural_From.l0 k k x.1 x.2.1 x.2.2.1 x.2.2.2.1 x.2.2.2.2.1 x.2.2.2.2.2
def natural_From.E (k : Nat) : Entry := { f := 157, A := natural_From.A, B := natural_From.B, run := fun x => natural_From k x.1 x.2 }

def integer_signed.tab  : List Entry := [integer_at.E]
def integer_signed.A : List PSh := [.dat (.bool), .dat (.list (.int .u32))]
def integer_signed.B : List RSh := [.dat (.st (.pair (.bool) (.list (.int .u32)))), .dat (.st (.pair (.int .i64) (.int .i64)))]
def integer_signed.E  : Entry := { f := 158, A := integer_signed.A, B := integer_signed.B, run := fun x => integer_signed x.1 x.2 }

def integer_Parse.tab (k : Nat) : List Entry := [integer_at.E, slices_Index_bytebyte.E k, natural_From.E k, integer_signed.E]
def integer_Parse.A : List PSh := [.dat (.str), .dat (.int .i64)]
def integer_Parse.B : List RSh := [.dat (.st (.pair (.bool) (.list (.int .u32)))), .dat (.st (.pair (.int .i64) (.int .i64)))]
def integer_Parse.M0 : Mrk := ⟨[.dat 1 (.int .i64), .box 93 [.st (.pair (.bool) (.list (.int .u32)))], .box 94 [.st (.pair (.int .i64) (.int .i64))], .dat 6 (.str), .dat 7 (.bool), .own 8 (.int .i64), .dat 53 (.int .i64), .dat 54 (.int .i64)], [.ptr 4 93 0, .ptr 5 94 0]⟩
def integer_Parse.O0 : Mrk := ⟨[.dat 1 (.int .i64), .box 93 [.st (.pair (.bool) (.list (.int .u32)))], .box 94 [.st (.pair (.int .i64) (.int .i64))], .dat 7 (.bool), .own 8 (.int .i64)], [.ptr 4 93 0, .ptr 5 94 0]⟩
def integer_Parse.an0 (k : Nat) : Ann (denB integer_Parse.B) := .loop integer_Parse.M0 integer_Parse.O0 1 fun x => integer_Parse.l0 k k x.1 x.2.1 x.2.2.1 x.2.2.2.1 x.2.2.2.2.1 x.2.2.2.2.2.1 x.2.2.2.2.2.2.1 x.2.2.2.2.2.2.2
def integer_Parse.E (k : Nat) : Entry := { f := 75, A := integer_Parse.A, B := integer_Parse.B, run := fun x => integer_Parse k x.1 x.2 }

def decimal_Parse.tab (k : Nat) : List Entry := [decimal_at.E, strings_CutPrefix.E, decimal_infinite.E, decimal_none.E, strings_Cut.E, decimal_exponent.E k, decimal_allDigits.E k, strings_TrimLeft.E k, integer_Parse.E k]
def decimal_Parse.A : List PSh := [.dat (.str)]
def decimal_Parse.B : List RSh := [.dat (.st (.pair (.int .i64) (.pair (.bool) (.pair (.st (.pair (.bool) (.list (.int .u32)))) (.int .i64))))), .dat (.st (.pair (.int .i64) (.int .i64)))]
def decimal_Parse.E (k : Nat) : Entry := { f := 14, A := decimal_Parse.A, B := decimal_Parse.B, run := fun x => decimal_Parse k x }

def decimal_special.tab  : List Entry := [decimal_none.E, decimal_infinite.E]
def decimal_special.A : List PSh := [.dat (.st (.pair (.int .i64) (.pair (.bool) (.pair (.st (.pair (.bool) (.list (.int .u32)))) (.int .i64))))), .dat (.st (.pair (.int .i64) (.pair (.bool) (.pair (.st (.pair (.bool) (.list (.int .u32)))) (.int .i64)))))]
def decimal_special.B : List RSh := [.dat (.st (.pair (.int .i64) (.pair (.bool) (.pair (.st (.pair (.bool) (.list (.int .u32)))) (.int .i64))))), .dat (.int .i64)]
def decimal_special.E  : Entry := { f := 106, A := decimal_special.A, B := decimal_special.B, run := fun x => decimal_special x.1 x.2 }

def decimal_plus.tab (k : Nat) : List Entry := [decimal_times.E k, natural_Add.E k, decimal_less.E k, natural_Sub.E k]
def decimal_plus.A : List PSh := [.dat (.st (.pair (.bool) (.pair (.list (.int .u32)) (.pair (.list (.int .u32)) (.int .i64))))), .dat (.st (.pair (.bool) (.pair (.list (.int .u32)) (.pair (.list (.int .u32)) (.int .i64))))), .dat (.st (.pair (.int .i64) (.pair (.int .i64) (.pair (.int .i64) (.int .i64)))))]
def decimal_plus.B : List RSh := [.dat (.st (.pair (.bool) (.pair (.list (.int .u32)) (.pair (.list (.int .u32)) (.int .i64)))))]
def decimal_plus.E (k : Nat) : Entry := { f := 105, A := decimal_plus.A, B := decimal_plus.B, run := fun x => decimal_plus k x.1 x.2.1 x.2.2 }

def decimal_Add.tab (k : Nat) : List Entry := [decimal_check.E k, decimal_special.E, decimal_of.E, decimal_plus.E k, decimal_exact_fit.E k]
def decimal_Add.A : List PSh := [.dat (.st (.pair (.int .i64) (.pair (.bool) (.pair (.st (.pair (.bool) (.list (.int .u32)))) (.int .i64))))), .dat (.st (.pair (.int .i64) (.pair (.bool) (.pair (.st (.pair (.bool) (.list (.int .u32)))) (.int .i64))))), .dat (.st (.pair (.int .i64) (.pair (.int .i64) (.pair (.int .i64) (.int .i64)))))]
def decimal_Add.B : List RSh := [.dat (.st (.pair (.int .i64) (.pair (.bool) (.pair (.st (.pair (.bool) (.list (.int .u32)))) (.int .i64))))), .dat (.int .i64), .dat (.st (.pair (.int .i64) (.int .i64)))]
def decimal_Add.E (k : Nat) : Entry := { f := 34, A := decimal_Add.A, B := decimal_Add.B, run := fun x => decimal_Add k x.1 x.2.1 x.2.2 }

def integer_check.tab (k : Nat) : List Entry := [integer_Valid.E, integer_at.E]
def integer_check.A : List PSh := [.dat (.list (.st (.pair (.bool) (.list (.int .u32)))))]
def integer_check.B : List RSh := [.dat (.st (.pair (.int .i64) (.int .i64)))]
def integer_check.M0 : Mrk := ⟨[.box 22 [.st (.pair (.int .i64) (.int .i64))], .dat 5 (.list (.st (.pair (.bool) (.list (.int .u32))))), .dat 6 (.int .i64), .dat 7 (.int .i64)], [.ptr 2 22 0]⟩
def integer_check.O0 : Mrk := ⟨[.box 22 [.st (.pair (.int .i64) (.int .i64))]], [.ptr 2 22 0]⟩
def integer_check.an0 (k : Nat) : Ann (denB integer_check.B) := .loop integer_check.M0 integer_check.O0 0 fun x => integer_check.l0 k k x.1 x.2.1 x.2.2.1 x.2.2.2
def integer_check.E (k : Nat) : Entry := { f := 139, A := integer_check.A, B := integer_check.B, run := fun x => integer_check k x }

def integer_Text.tab (k : Nat) : List Entry := [integer_check.E k, natural_Digits.E k]
def integer_Text.A : List PSh := [.dat (.st (.pair (.bool) (.list (.int .u32)))), .dat (.int .i64)]
def integer_Text.B : List RSh := [.dat (.str), .dat (.st (.pair (.int .i64) (.int .i64)))]
def integer_Text.M0 : Mrk := ⟨[.box 61 [.st (.pair (.int .i64) (.int .i64))], .dat 7 (.list (.int .i64)), .own 9 (.int .u8), .dat 35 (.list (.int .i64)), .dat 36 (.int .i64), .dat 37 (.int .i64)], [.ptr 5 61 0]⟩
def integer_Text.O0 : Mrk := ⟨[.box 61 [.st (.pair (.int .i64) (.int .i64))], .dat 7 (.list (.int .i64)), .own 9 (.int .u8)], [.ptr 5 61 0]⟩
def integer_Text.an0 (k : Nat) : Ann (denB integer_Text.B) := .loop integer_Text.M0 integer_Text.O0 0 fun x => integer_Text.l0 k k x.1 x.2.1 x.2.2.1 x.2.2.2.1 x.2.2.2.2.1 x.2.2.2.2.2
def integer_Text.E (k : Nat) : Entry := { f := 65, A := integer_Text.A, B := integer_Text.B, run := fun x => integer_Text k x.1 x.2 }

def decimal_Text.tab (k : Nat) : List Entry := [decimal_Valid.E k, decimal_at.E, integer_Text.E k]
def decimal_Text.A : List PSh := [.dat (.st (.pair (.int .i64) (.pair (.bool) (.pair (.st (.pair (.bool) (.list (.int .u32)))) (.int .i64)))))]
def decimal_Text.B : List RSh := [.dat (.str), .dat (.st (.pair (.int .i64) (.int .i64)))]
def decimal_Text.E (k : Nat) : Entry := { f := 13, A := decimal_Text.A, B := decimal_Text.B, run := fun x => decimal_Text k x }

def brindlewoodlaw3_tenths.tab (k : Nat) : List Entry := [decimal_Parse.E k, decimal_Add.E k, decimal_Text.E k]
def brindlewoodlaw3_tenths.A : List PSh := []
def brindlewoodlaw3_tenths.B : List RSh := [.dat (.bool)]
def brindlewoodlaw3_tenths.E (k : Nat) : Entry := { f := 15, A := brindlewoodlaw3_tenths.A, B := brindlewoodlaw3_tenths.B, run := fun x => brindlewoodlaw3_tenths k  }

def brindlewoodref3_SameLimbs.tab (k : Nat) : List Entry := []
def brindlewoodref3_SameLimbs.A : List PSh := [.dat (.list (.int .u32)), .dat (.list (.int .u32))]
def brindlewoodref3_SameLimbs.B : List RSh := [.dat (.bool)]
def brindlewoodref3_SameLimbs.M0 : Mrk := ⟨[.dat 0 (.list (.int .u32)), .dat 1 (.list (.int .u32)), .dat 5 (.int .i64)], []⟩
def brindlewoodref3_SameLimbs.O0 : Mrk := ⟨[], []⟩
def brindlewoodref3_SameLimbs.an0 (k : Nat) : Ann (denB brindlewoodref3_SameLimbs.B) := .loop brindlewoodref3_SameLimbs.M0 brindlewoodref3_SameLimbs.O0 0 fun x => brindlewoodref3_SameLimbs.l0 k k x.1 x.2.1 x.2.2
def brindlewoodref3_SameLimbs.E (k : Nat) : Entry := { f := 159, A := brindlewoodref3_SameLimbs.A, B := brindlewoodref3_SameLimbs.B, run := fun x => brindlewoodref3_SameLimbs k x.1 x.2 }

def brindlewoodref3_SameInts.tab (k : Nat) : List Entry := [brindlewoodref3_SameLimbs.E k]
def brindlewoodref3_SameInts.A : List PSh := [.dat (.st (.pair (.bool) (.list (.int .u32)))), .dat (.st (.pair (.bool) (.list (.int .u32))))]
def brindlewoodref3_SameInts.B : List RSh := [.dat (.bool)]
def brindlewoodref3_SameInts.E (k : Nat) : Entry := { f := 81, A := brindlewoodref3_SameInts.A, B := brindlewoodref3_SameInts.B, run := fun x => brindlewoodref3_SameInts k x.1 x.2 }

def brindlewoodref3_SameDecimal.tab (k : Nat) : List Entry := [brindlewoodref3_SameInts.E k]
def brindlewoodref3_SameDecimal.A : List PSh := [.dat (.st (.pair (.int .i64) (.pair (.bool) (.pair (.st (.pair (.bool) (.list (.int .u32)))) (.int .i64))))), .dat (.st (.pair (.int .i64) (.pair (.bool) (.pair (.st (.pair (.bool) (.list (.int .u32)))) (.int .i64)))))]
def brindlewoodref3_SameDecimal.B : List RSh := [.dat (.bool)]
def brindlewoodref3_SameDecimal.E (k : Nat) : Entry := { f := 19, A := brindlewoodref3_SameDecimal.A, B := brindlewoodref3_SameDecimal.B, run := fun x => brindlewoodref3_SameDecimal k x.1 x.2 }

def brindlewoodlaw3_comes.tab (k : Nat) : List Entry := [brindlewoodref3_SameDecimal.E k]
def brindlewoodlaw3_comes.A : List PSh := [.dat (.st (.pair (.int .i64) (.pair (.bool) (.pair (.st (.pair (.bool) (.list (.int .u32)))) (.int .i64))))), .dat (.int .i64), .dat (.st (.pair (.int .i64) (.int .i64))), .dat (.st (.pair (.int .i64) (.pair (.bool) (.pair (.st (.pair (.bool) (.list (.int .u32)))) (.int .i64))))), .dat (.int .i64), .dat (.st (.pair (.int .i64) (.int .i64)))]
def brindlewoodlaw3_comes.B : List RSh := [.dat (.bool)]
def brindlewoodlaw3_comes.E (k : Nat) : Entry := { f := 26, A := brindlewoodlaw3_comes.A, B := brindlewoodlaw3_comes.B, run := fun x => brindlewoodlaw3_comes k x.1 x.2.1 x.2.2.1 x.2.2.2.1 x.2.2.2.2.1 x.2.2.2.2.2 }

def brindlewoodlaw3_DecimalRounds.tab (k : Nat) : List Entry := [brindlewoodref3_DecimalFaults.E k, decimal_Round.E k, decimal_Reduce.E k, decimal_Quantize.E k, brindlewoodref3_Fitted.E k, brindlewoodref3_Reduced.E k, brindlewoodref3_Quantized.E k, brindlewoodlaw3_tenths.E k, brindlewoodlaw3_comes.E k]
def brindlewoodlaw3_DecimalRounds.A : List PSh := [.dat (.st (.pair (.int .i64) (.pair (.bool) (.pair (.st (.pair (.bool) (.list (.int .u32)))) (.int .i64))))), .dat (.int .i64), .dat (.st (.pair (.int .i64) (.pair (.int .i64) (.pair (.int .i64) (.int .i64)))))]
def brindlewoodlaw3_DecimalRounds.B : List RSh := [.dat (.bool)]
def brindlewoodlaw3_DecimalRounds.E (k : Nat) : Entry := { f := 5, A := brindlewoodlaw3_DecimalRounds.A, B := brindlewoodlaw3_DecimalRounds.B, run := fun x => brindlewoodlaw3_DecimalRounds k x.1 x.2.1 x.2.2 }
end Go.Sh
