/- The functions' shapes and annotations, by wip/gen/gen.py.  Conditions: none, these are definitions. -/
import Derived.Test.YtpomnejenhgpkaaSh
import Derived.Test.YtpomnejenhgpkaaProg
set_option linter.unusedVariables false
namespace Go.Sh
open Go Go.Ev

def ttRows : List (Nat × TI) := [(3, ⟨.int .i64, 0, [], false, true⟩),
  (4, ⟨.bool, 0, [], false, true⟩),
  (22, ⟨.list (.int .i64), 8, [], false, true⟩),
  (23, ⟨.list (.int .u32), 4, [], false, true⟩),
  (25, ⟨.st (.pair (.bool) (.list (.int .u32))), 0, [(0, .bool), (1, .list (.int .u32))], false, true⟩),
  (27, ⟨.st (.pair (.st (.pair (.bool) (.list (.int .u32)))) (.pair (.st (.pair (.bool) (.list (.int .u32)))) (.pair (.st (.pair (.bool) (.list (.int .u32)))) (.pair (.bool) (.pair (.bool) (.bool)))))), 0, [(0, .st (.pair (.bool) (.list (.int .u32)))), (2, .st (.pair (.bool) (.list (.int .u32)))), (4, .st (.pair (.bool) (.list (.int .u32)))), (6, .bool), (7, .bool), (8, .bool)], false, true⟩),
  (29, ⟨.st (.pair (.int .i64) (.int .i64)), 0, [(0, .int .i64), (1, .int .i64)], true, true⟩),
  (46, ⟨.ptr (.unit), 0, [], false, true⟩),
  (48, ⟨.list (.st (.pair (.bool) (.list (.int .u32)))), 32, [], false, true⟩),
  (49, ⟨.list (.bool), 1, [], false, true⟩),
  (52, ⟨.list (.int .i64), 8, [], false, true⟩),
  (54, ⟨.st (.pair (.bool) (.list (.int .i64))), 0, [(0, .bool), (1, .list (.int .i64))], false, true⟩),
  (58, ⟨.list (.list (.int .i64)), 24, [], false, true⟩),
  (60, ⟨.int .u64, 0, [], false, true⟩),
  (61, ⟨.int .u32, 0, [], false, true⟩)]
def tt : TypeId → TI := tiOf ttRows

def integer_Valid.tab  : List Entry := []
def integer_Valid.A : List PSh := [.dat (.st (.pair (.bool) (.list (.int .u32))))]
def integer_Valid.B : List RSh := [.dat (.bool)]
def integer_Valid.E  : Entry := { f := 39, A := integer_Valid.A, B := integer_Valid.B, run := fun x => integer_Valid x }

def slicing_part.tab  : List Entry := [integer_Valid.E]
def slicing_part.A : List PSh := [.dat (.st (.pair (.bool) (.list (.int .u32)))), .dat (.bool)]
def slicing_part.B : List RSh := [.dat (.bool)]
def slicing_part.E  : Entry := { f := 32, A := slicing_part.A, B := slicing_part.B, run := fun x => slicing_part x.1 x.2 }

def slicing_at.tab  : List Entry := []
def slicing_at.A : List PSh := [.dat (.int .i64), .dat (.int .i64)]
def slicing_at.B : List RSh := [.dat (.st (.pair (.int .i64) (.int .i64)))]
def slicing_at.E  : Entry := { f := 15, A := slicing_at.A, B := slicing_at.B, run := fun x => slicing_at x.1 x.2 }

def slicing_Check.tab  : List Entry := [slicing_part.E, slicing_at.E]
def slicing_Check.A : List PSh := [.dat (.st (.pair (.st (.pair (.bool) (.list (.int .u32)))) (.pair (.st (.pair (.bool) (.list (.int .u32)))) (.pair (.st (.pair (.bool) (.list (.int .u32)))) (.pair (.bool) (.pair (.bool) (.bool)))))))]
def slicing_Check.B : List RSh := [.dat (.st (.pair (.int .i64) (.int .i64)))]
def slicing_Check.E  : Entry := { f := 24, A := slicing_Check.A, B := slicing_Check.B, run := fun x => slicing_Check x }

def integer_at.tab  : List Entry := []
def integer_at.A : List PSh := [.dat (.int .i64), .dat (.int .i64)]
def integer_at.B : List RSh := [.dat (.st (.pair (.int .i64) (.int .i64)))]
def integer_at.E  : Entry := { f := 41, A := integer_at.A, B := integer_at.B, run := fun x => integer_at x.1 x.2 }

def integer_check.tab (k : Nat) : List Entry := [integer_Valid.E, integer_at.E]
def integer_check.A : List PSh := [.dat (.list (.st (.pair (.bool) (.list (.int .u32)))))]
def integer_check.B : List RSh := [.dat (.st (.pair (.int .i64) (.int .i64)))]
def integer_check.M0 : Mrk := ⟨[.box 22 [.st (.pair (.int .i64) (.int .i64))], .dat 5 (.list (.st (.pair (.bool) (.list (.int .u32))))), .dat 6 (.int .i64), .dat 7 (.int .i64)], [.ptr 2 22 0]⟩
def integer_check.O0 : Mrk := ⟨[.box 22 [.st (.pair (.int .i64) (.int .i64))]], [.ptr 2 22 0]⟩
def integer_check.an0 (k : Nat) : Ann (denB integer_check.B) := .loop integer_check.M0 integer_check.O0 0 fun x => integer_check.l0 k k x.1 x.2.1 x.2.2.1 x.2.2.2
def integer_check.E (k : Nat) : Entry := { f := 40, A := integer_check.A, B := integer_check.B, run := fun x => integer_check k x }

def integer_Small.tab (k : Nat) : List Entry := [integer_check.E k, integer_at.E]
def integer_Small.A : List PSh := [.dat (.st (.pair (.bool) (.list (.int .u32))))]
def integer_Small.B : List RSh := [.dat (.int .i64), .dat (.st (.pair (.int .i64) (.int .i64)))]
def integer_Small.M0 : Mrk := ⟨[.box 50 [.st (.pair (.bool) (.list (.int .u32)))], .box 52 [.st (.pair (.int .i64) (.int .i64))], .dat 5 (.int .u64), .dat 17 (.list (.int .u32)), .dat 18 (.int .i64), .dat 19 (.int .i64)], [.ptr 1 50 0, .ptr 3 52 0]⟩
def integer_Small.O0 : Mrk := ⟨[.box 50 [.st (.pair (.bool) (.list (.int .u32)))], .box 52 [.st (.pair (.int .i64) (.int .i64))], .dat 5 (.int .u64)], [.ptr 1 50 0, .ptr 3 52 0]⟩
def integer_Small.an0 (k : Nat) : Ann (denB integer_Small.B) := .loop integer_Small.M0 integer_Small.O0 0 fun x => integer_Small.l0 k k x.1 x.2.1 x.2.2.1 x.2.2.2.1 x.2.2.2.2.1 x.2.2.2.2.2
def integer_Small.E (k : Nat) : Entry := { f := 33, A := integer_Small.A, B := integer_Small.B, run := fun x => integer_Small k x }

def slicing_bounded.tab (k : Nat) : List Entry := [integer_Small.E k]
def slicing_bounded.A : List PSh := [.dat (.st (.pair (.bool) (.list (.int .u32)))), .dat (.int .i64), .dat (.int .i64)]
def slicing_bounded.B : List RSh := [.dat (.int .i64)]
def slicing_bounded.E (k : Nat) : Entry := { f := 25, A := slicing_bounded.A, B := slicing_bounded.B, run := fun x => slicing_bounded k x.1 x.2.1 x.2.2 }

def slicing_end.tab (k : Nat) : List Entry := [slicing_bounded.E k]
def slicing_end.A : List PSh := [.dat (.st (.pair (.bool) (.list (.int .u32)))), .dat (.int .i64), .dat (.int .i64), .dat (.int .i64)]
def slicing_end.B : List RSh := [.dat (.int .i64)]
def slicing_end.E (k : Nat) : Entry := { f := 26, A := slicing_end.A, B := slicing_end.B, run := fun x => slicing_end k x.1 x.2.1 x.2.2.1 x.2.2.2 }

def slicing_Resolve.tab (k : Nat) : List Entry := [slicing_Check.E, slicing_at.E, slicing_bounded.E k, slicing_end.E k]
def slicing_Resolve.A : List PSh := [.dat (.st (.pair (.st (.pair (.bool) (.list (.int .u32)))) (.pair (.st (.pair (.bool) (.list (.int .u32)))) (.pair (.st (.pair (.bool) (.list (.int .u32)))) (.pair (.bool) (.pair (.bool) (.bool))))))), .dat (.int .i64)]
def slicing_Resolve.B : List RSh := [.dat (.int .i64), .dat (.int .i64), .dat (.int .i64), .dat (.st (.pair (.int .i64) (.int .i64)))]
def slicing_Resolve.E (k : Nat) : Entry := { f := 14, A := slicing_Resolve.A, B := slicing_Resolve.B, run := fun x => slicing_Resolve k x.1 x.2 }

def slicing_Take_int.tab (k : Nat) : List Entry := [slicing_Resolve.E k]
def slicing_Take_int.A : List PSh := [.dat (.list (.int .i64)), .dat (.st (.pair (.st (.pair (.bool) (.list (.int .u32)))) (.pair (.st (.pair (.bool) (.list (.int .u32)))) (.pair (.st (.pair (.bool) (.list (.int .u32)))) (.pair (.bool) (.pair (.bool) (.bool)))))))]
def slicing_Take_int.B : List RSh := [.dat (.list (.int .i64)), .dat (.st (.pair (.int .i64) (.int .i64)))]
def slicing_Take_int.M0 : Mrk := ⟨[.dat 0 (.list (.int .i64)), .box 48 [.st (.pair (.int .i64) (.int .i64))], .dat 6 (.int .i64), .dat 7 (.int .i64), .own 10 (.int .i64), .dat 25 (.int .i64), .dat 26 (.int .i64)], [.ptr 5 48 0]⟩
def slicing_Take_int.O0 : Mrk := ⟨[.box 48 [.st (.pair (.int .i64) (.int .i64))], .own 10 (.int .i64)], [.ptr 5 48 0]⟩
def slicing_Take_int.an0 (k : Nat) : Ann (denB slicing_Take_int.B) := .loop slicing_Take_int.M0 slicing_Take_int.O0 0 fun x => slicing_Take_int.l0 k k x.1 x.2.1 x.2.2.1 x.2.2.2.1 x.2.2.2.2.1 x.2.2.2.2.2.1 x.2.2.2.2.2.2
def slicing_Take_int.E (k : Nat) : Entry := { f := 5, A := slicing_Take_int.A, B := slicing_Take_int.B, run := fun x => slicing_Take_int k x.1 x.2 }

def slices_Grow_intint_nd.tab  : List Entry := []
def slices_Grow_intint_nd.A : List PSh := [.nil, .dat (.int .i64)]
def slices_Grow_intint_nd.B : List RSh := [.own (.int .i64)]
def slices_Grow_intint_nd.E  : Entry := { f := 27, A := slices_Grow_intint_nd.A, B := slices_Grow_intint_nd.B, run := fun x => slices_Grow_intint_nd x.1 x.2 }

def slices_Concat_intint.tab (k : Nat) : List Entry := [slices_Grow_intint_nd.E]
def slices_Concat_intint.A : List PSh := [.dat (.list (.list (.int .i64)))]
def slices_Concat_intint.B : List RSh := [.own (.int .i64)]
def slices_Concat_intint.M1 : Mrk := ⟨[.own 6 (.int .i64), .dat 25 (.list (.list (.int .i64))), .dat 26 (.int .i64), .dat 27 (.int .i64)], []⟩
def slices_Concat_intint.O1 : Mrk := ⟨[.own 6 (.int .i64)], []⟩
def slices_Concat_intint.an1 (k : Nat) : Ann (denB slices_Concat_intint.B) := .loop slices_Concat_intint.M1 slices_Concat_intint.O1 2 fun x => slices_Concat_intint.l1 k k x.1 x.2.1 x.2.2.1 x.2.2.2
def slices_Concat_intint.M0 : Mrk := ⟨[.dat 0 (.list (.list (.int .i64))), .dat 3 (.int .i64), .dat 9 (.list (.list (.int .i64))), .dat 10 (.int .i64), .dat 11 (.int .i64)], []⟩
def slices_Concat_intint.O0 : Mrk := ⟨[.dat 0 (.list (.list (.int .i64))), .dat 3 (.int .i64)], []⟩
def slices_Concat_intint.an0 (k : Nat) : Ann (denB slices_Concat_intint.B) := .loop slices_Concat_intint.M0 slices_Concat_intint.O0 0 fun x => slices_Concat_intint.l0 k k x.1 x.2.1 x.2.2.1 x.2.2.2.1 x.2.2.2.2
def slices_Concat_intint.E (k : Nat) : Entry := { f := 16, A := slices_Concat_intint.A, B := slices_Concat_intint.B, run := fun x => slices_Concat_intint k x }

def slices_Clone_intint.A : List PSh := [.dat (.list (.int .i64))]
def slices_Clone_intint.B : List RSh := [.own (.int .i64)]
def slices_Clone_intint.E : Entry := { f := 17, A := slices_Clone_intint.A, B := slices_Clone_intint.B, run := fun x => slices_Clone_intint x }

def slicing_Put_int.tab (k : Nat) : List Entry := [slicing_Resolve.E k, slicing_at.E, slices_Concat_intint.E k, slices_Clone_intint.E]
def slicing_Put_int.A : List PSh := [.dat (.list (.int .i64)), .dat (.st (.pair (.st (.pair (.bool) (.list (.int .u32)))) (.pair (.st (.pair (.bool) (.list (.int .u32)))) (.pair (.st (.pair (.bool) (.list (.int .u32)))) (.pair (.bool) (.pair (.bool) (.bool))))))), .dat (.list (.int .i64)), .dat (.int .i64)]
def slicing_Put_int.B : List RSh := [.dat (.list (.int .i64)), .dat (.st (.pair (.int .i64) (.int .i64)))]
def slicing_Put_int.M0 : Mrk := ⟨[.box 96 [.st (.pair (.int .i64) (.int .i64))], .dat 10 (.int .i64), .dat 11 (.int .i64), .own 14 (.int .i64), .dat 69 (.list (.int .i64)), .dat 70 (.int .i64), .dat 71 (.int .i64)], [.ptr 9 96 0]⟩
def slicing_Put_int.O0 : Mrk := ⟨[.box 96 [.st (.pair (.int .i64) (.int .i64))], .own 14 (.int .i64)], [.ptr 9 96 0]⟩
def slicing_Put_int.an0 (k : Nat) : Ann (denB slicing_Put_int.B) := .loop slicing_Put_int.M0 slicing_Put_int.O0 1 fun x => slicing_Put_int.l0 k k x.1 x.2.1 x.2.2.1 x.2.2.2.1 x.2.2.2.2.1 x.2.2.2.2.2.1 x.2.2.2.2.2.2
def slicing_Put_int.E (k : Nat) : Entry := { f := 6, A := slicing_Put_int.A, B := slicing_Put_int.B, run := fun x => slicing_Put_int k x.1 x.2.1 x.2.2.1 x.2.2.2 }

def slicing_Drop_int.tab (k : Nat) : List Entry := [slicing_Resolve.E k]
def slicing_Drop_int.A : List PSh := [.dat (.list (.int .i64)), .dat (.st (.pair (.st (.pair (.bool) (.list (.int .u32)))) (.pair (.st (.pair (.bool) (.list (.int .u32)))) (.pair (.st (.pair (.bool) (.list (.int .u32)))) (.pair (.bool) (.pair (.bool) (.bool)))))))]
def slicing_Drop_int.B : List RSh := [.dat (.list (.int .i64)), .dat (.st (.pair (.int .i64) (.int .i64)))]
def slicing_Drop_int.M1 : Mrk := ⟨[.box 63 [.st (.pair (.int .i64) (.int .i64))], .mp 10, .own 12 (.int .i64), .dat 40 (.list (.int .i64)), .dat 41 (.int .i64), .dat 42 (.int .i64)], [.ptr 5 63 0]⟩
def slicing_Drop_int.O1 : Mrk := ⟨[.box 63 [.st (.pair (.int .i64) (.int .i64))], .own 12 (.int .i64)], [.ptr 5 63 0]⟩
def slicing_Drop_int.an1 (k : Nat) : Ann (denB slicing_Drop_int.B) := .loop slicing_Drop_int.M1 slicing_Drop_int.O1 2 fun x => slicing_Drop_int.l1 k k x.1 x.2.1 x.2.2.1 x.2.2.2.1 x.2.2.2.2.1 x.2.2.2.2.2
def slicing_Drop_int.M0 : Mrk := ⟨[.dat 0 (.list (.int .i64)), .box 63 [.st (.pair (.int .i64) (.int .i64))], .dat 6 (.int .i64), .dat 7 (.int .i64), .mp 10, .dat 29 (.int .i64), .dat 30 (.int .i64)], [.ptr 5 63 0]⟩
def slicing_Drop_int.O0 : Mrk := ⟨[.dat 0 (.list (.int .i64)), .box 63 [.st (.pair (.int .i64) (.int .i64))], .mp 10], [.ptr 5 63 0]⟩
def slicing_Drop_int.an0 (k : Nat) : Ann (denB slicing_Drop_int.B) := .loop slicing_Drop_int.M0 slicing_Drop_int.O0 0 fun x => slicing_Drop_int.l0 k k x.1 x.2.1 x.2.2.1 x.2.2.2.1 x.2.2.2.2.1 x.2.2.2.2.2.1 x.2.2.2.2.2.2
def slicing_Drop_int.E (k : Nat) : Entry := { f := 7, A := slicing_Drop_int.A, B := slicing_Drop_int.B, run := fun x => slicing_Drop_int k x.1 x.2 }

def integer_Of.tab (k : Nat) : List Entry := []
def integer_Of.A : List PSh := [.dat (.int .i64)]
def integer_Of.B : List RSh := [.dat (.st (.pair (.bool) (.list (.int .u32))))]
def integer_Of.M0 : Mrk := ⟨[.dat 0 (.int .i64), .box 40 [.st (.pair (.bool) (.list (.int .u32)))], .own 4 (.int .u32)], [.ptr 2 40 0]⟩
def integer_Of.O0 : Mrk := ⟨[.dat 0 (.int .i64), .box 40 [.st (.pair (.bool) (.list (.int .u32)))], .own 4 (.int .u32)], [.ptr 2 40 0]⟩
def integer_Of.an0 (k : Nat) : Ann (denB integer_Of.B) := .loop integer_Of.M0 integer_Of.O0 0 fun x => integer_Of.l0 k k x.1 x.2.1 x.2.2
def integer_Of.E (k : Nat) : Entry := { f := 18, A := integer_Of.A, B := integer_Of.B, run := fun x => integer_Of k x }

def brindlewoodref3_Numbers.tab (k : Nat) : List Entry := []
def brindlewoodref3_Numbers.A : List PSh := [.dat (.list (.int .i64)), .dat (.list (.int .i64))]
def brindlewoodref3_Numbers.B : List RSh := [.dat (.bool)]
def brindlewoodref3_Numbers.M0 : Mrk := ⟨[.dat 0 (.list (.int .i64)), .dat 1 (.list (.int .i64)), .dat 5 (.int .i64)], []⟩
def brindlewoodref3_Numbers.O0 : Mrk := ⟨[], []⟩
def brindlewoodref3_Numbers.an0 (k : Nat) : Ann (denB brindlewoodref3_Numbers.B) := .loop brindlewoodref3_Numbers.M0 brindlewoodref3_Numbers.O0 0 fun x => brindlewoodref3_Numbers.l0 k k x.1 x.2.1 x.2.2
def brindlewoodref3_Numbers.E (k : Nat) : Entry := { f := 9, A := brindlewoodref3_Numbers.A, B := brindlewoodref3_Numbers.B, run := fun x => brindlewoodref3_Numbers k x.1 x.2 }

def brindlewoodlaw3_cuts.tab (k : Nat) : List Entry := [integer_Of.E k, slicing_Resolve.E k, slicing_Put_int.E k, brindlewoodref3_Numbers.E k]
def brindlewoodlaw3_cuts.A : List PSh := []
def brindlewoodlaw3_cuts.B : List RSh := [.dat (.bool)]
def brindlewoodlaw3_cuts.E (k : Nat) : Entry := { f := 8, A := brindlewoodlaw3_cuts.A, B := brindlewoodlaw3_cuts.B, run := fun x => brindlewoodlaw3_cuts k  }

def brindlewoodref3_IntOk.tab  : List Entry := []
def brindlewoodref3_IntOk.A : List PSh := [.dat (.st (.pair (.bool) (.list (.int .u32))))]
def brindlewoodref3_IntOk.B : List RSh := [.dat (.bool)]
def brindlewoodref3_IntOk.E  : Entry := { f := 19, A := brindlewoodref3_IntOk.A, B := brindlewoodref3_IntOk.B, run := fun x => brindlewoodref3_IntOk x }

def brindlewoodref3_At.tab  : List Entry := []
def brindlewoodref3_At.A : List PSh := [.dat (.int .i64), .dat (.int .i64)]
def brindlewoodref3_At.B : List RSh := [.dat (.st (.pair (.int .i64) (.int .i64)))]
def brindlewoodref3_At.E  : Entry := { f := 11, A := brindlewoodref3_At.A, B := brindlewoodref3_At.B, run := fun x => brindlewoodref3_At x.1 x.2 }

def brindlewoodref3_NoInt.tab  : List Entry := []
def brindlewoodref3_NoInt.A : List PSh := [.dat (.st (.pair (.bool) (.list (.int .u32))))]
def brindlewoodref3_NoInt.B : List RSh := [.dat (.bool)]
def brindlewoodref3_NoInt.E  : Entry := { f := 20, A := brindlewoodref3_NoInt.A, B := brindlewoodref3_NoInt.B, run := fun x => brindlewoodref3_NoInt x }

def brindlewoodref3_SliceFault.tab (k : Nat) : List Entry := [brindlewoodref3_IntOk.E, brindlewoodref3_At.E, brindlewoodref3_NoInt.E]
def brindlewoodref3_SliceFault.A : List PSh := [.dat (.st (.pair (.st (.pair (.bool) (.list (.int .u32)))) (.pair (.st (.pair (.bool) (.list (.int .u32)))) (.pair (.st (.pair (.bool) (.list (.int .u32)))) (.pair (.bool) (.pair (.bool) (.bool)))))))]
def brindlewoodref3_SliceFault.B : List RSh := [.dat (.st (.pair (.int .i64) (.int .i64)))]
def brindlewoodref3_SliceFault.M0 : Mrk := ⟨[.box 56 [.st (.pair (.st (.pair (.bool) (.list (.int .u32)))) (.pair (.st (.pair (.bool) (.list (.int .u32)))) (.pair (.st (.pair (.bool) (.list (.int .u32)))) (.pair (.bool) (.pair (.bool) (.bool))))))], .box 57 [.st (.pair (.int .i64) (.int .i64))], .own 3 (.st (.pair (.bool) (.list (.int .u32)))), .own 4 (.bool), .dat 5 (.int .i64)], [.ptr 1 56 0, .ptr 2 57 0]⟩
def brindlewoodref3_SliceFault.O0 : Mrk := ⟨[.box 56 [.st (.pair (.st (.pair (.bool) (.list (.int .u32)))) (.pair (.st (.pair (.bool) (.list (.int .u32)))) (.pair (.st (.pair (.bool) (.list (.int .u32)))) (.pair (.bool) (.pair (.bool) (.bool))))))], .box 57 [.st (.pair (.int .i64) (.int .i64))]], [.ptr 1 56 0, .ptr 2 57 0]⟩
def brindlewoodref3_SliceFault.an0 (k : Nat) : Ann (denB brindlewoodref3_SliceFault.B) := .loop brindlewoodref3_SliceFault.M0 brindlewoodref3_SliceFault.O0 0 fun x => brindlewoodref3_SliceFault.l0 k k x.1 x.2.1 x.2.2.1 x.2.2.2.1 x.2.2.2.2
def brindlewoodref3_SliceFault.E (k : Nat) : Entry := { f := 10, A := brindlewoodref3_SliceFault.A, B := brindlewoodref3_SliceFault.B, run := fun x => brindlewoodref3_SliceFault k x }

def brindlewoodref3_trim_v.tab (k : Nat) : List Entry := []
def brindlewoodref3_trim_v.A : List PSh := [.view (.int .i64)]
def brindlewoodref3_trim_v.B : List RSh := [.cut 0 (.int .i64)]
def brindlewoodref3_trim_v.M0 : Mrk := ⟨[.blk 0 (.int .i64) 0, .part 0 0 (.int .i64)], []⟩
def brindlewoodref3_trim_v.O0 : Mrk := ⟨[.blk 0 (.int .i64) 0, .part 0 0 (.int .i64)], []⟩
def brindlewoodref3_trim_v.an0 (k : Nat) : Ann (denB brindlewoodref3_trim_v.B) := .loop brindlewoodref3_trim_v.M0 brindlewoodref3_trim_v.O0 0 fun x => brindlewoodref3_trim_v.l0 k k x.1 x.2
def brindlewoodref3_trim_v.E (k : Nat) : Entry := { f := 36, A := brindlewoodref3_trim_v.A, B := brindlewoodref3_trim_v.B, run := fun x => brindlewoodref3_trim_v k x }

def brindlewoodref3_Of.tab (k : Nat) : List Entry := [brindlewoodref3_trim_v.E k]
def brindlewoodref3_Of.A : List PSh := [.dat (.list (.int .u32))]
def brindlewoodref3_Of.B : List RSh := [.own (.int .i64)]
def brindlewoodref3_Of.M0 : Mrk := ⟨[.dat 0 (.list (.int .u32)), .own 3 (.int .i64), .dat 4 (.int .i64)], []⟩
def brindlewoodref3_Of.O0 : Mrk := ⟨[.own 3 (.int .i64)], []⟩
def brindlewoodref3_Of.an0 (k : Nat) : Ann (denB brindlewoodref3_Of.B) := .loop brindlewoodref3_Of.M0 brindlewoodref3_Of.O0 0 fun x => brindlewoodref3_Of.l0 k k x.1 x.2.1 x.2.2
def brindlewoodref3_Of.E (k : Nat) : Entry := { f := 30, A := brindlewoodref3_Of.A, B := brindlewoodref3_Of.B, run := fun x => brindlewoodref3_Of k x }

def brindlewoodref3_IntOf.tab (k : Nat) : List Entry := [brindlewoodref3_Of.E k]
def brindlewoodref3_IntOf.A : List PSh := [.dat (.st (.pair (.bool) (.list (.int .u32))))]
def brindlewoodref3_IntOf.B : List RSh := [.dat (.st (.pair (.bool) (.list (.int .i64))))]
def brindlewoodref3_IntOf.E (k : Nat) : Entry := { f := 22, A := brindlewoodref3_IntOf.A, B := brindlewoodref3_IntOf.B, run := fun x => brindlewoodref3_IntOf k x }

def brindlewoodref3_Binary.tab (k : Nat) : List Entry := [brindlewoodref3_trim_v.E k]
def brindlewoodref3_Binary.A : List PSh := [.dat (.list (.bool))]
def brindlewoodref3_Binary.B : List RSh := [.own (.int .i64)]
def brindlewoodref3_Binary.M1 : Mrk := ⟨[.dat 0 (.list (.bool)), .own 3 (.int .i64), .dat 4 (.int .i64), .dat 5 (.int .i64), .dat 6 (.int .i64)], []⟩
def brindlewoodref3_Binary.O1 : Mrk := ⟨[.dat 0 (.list (.bool)), .own 3 (.int .i64), .dat 4 (.int .i64), .dat 5 (.int .i64)], []⟩
def brindlewoodref3_Binary.an1 (k : Nat) : Ann (denB brindlewoodref3_Binary.B) := .loop brindlewoodref3_Binary.M1 brindlewoodref3_Binary.O1 2 fun x => brindlewoodref3_Binary.l1 k k x.1 x.2.1 x.2.2.1 x.2.2.2.1 x.2.2.2.2
def brindlewoodref3_Binary.M0 : Mrk := ⟨[.dat 0 (.list (.bool)), .own 3 (.int .i64), .dat 4 (.int .i64)], []⟩
def brindlewoodref3_Binary.O0 : Mrk := ⟨[.own 3 (.int .i64)], []⟩
def brindlewoodref3_Binary.an0 (k : Nat) : Ann (denB brindlewoodref3_Binary.B) := .loop brindlewoodref3_Binary.M0 brindlewoodref3_Binary.O0 0 fun x => brindlewoodref3_Binary.l0 k k x.1 x.2.1 x.2.2
def brindlewoodref3_Binary.E (k : Nat) : Entry := { f := 35, A := brindlewoodref3_Binary.A, B := brindlewoodref3_Binary.B, run := fun x => brindlewoodref3_Binary k x }

def brindlewoodref3_Number.tab (k : Nat) : List Entry := [brindlewoodref3_Binary.E k]
def brindlewoodref3_Number.A : List PSh := [.dat (.int .i64)]
def brindlewoodref3_Number.B : List RSh := [.dat (.st (.pair (.bool) (.list (.int .i64))))]
def brindlewoodref3_Number.M0 : Mrk := ⟨[.dat 0 (.int .i64), .box 23 [.st (.pair (.bool) (.list (.int .i64)))], .own 3 (.bool), .dat 4 (.bool)], [.ptr 2 23 0]⟩
def brindlewoodref3_Number.O0 : Mrk := ⟨[.box 23 [.st (.pair (.bool) (.list (.int .i64)))], .own 3 (.bool), .dat 4 (.bool)], [.ptr 2 23 0]⟩
def brindlewoodref3_Number.an0 (k : Nat) : Ann (denB brindlewoodref3_Number.B) := .loop brindlewoodref3_Number.M0 brindlewoodref3_Number.O0 0 fun x => brindlewoodref3_Number.l0 k k x.1 x.2.1 x.2.2.1 x.2.2.2
def brindlewoodref3_Number.E (k : Nat) : Entry := { f := 29, A := brindlewoodref3_Number.A, B := brindlewoodref3_Number.B, run := fun x => brindlewoodref3_Number k x }

def brindlewoodref3_Compare.tab (k : Nat) : List Entry := []
def brindlewoodref3_Compare.A : List PSh := [.dat (.list (.int .i64)), .dat (.list (.int .i64))]
def brindlewoodref3_Compare.B : List RSh := [.dat (.int .i64)]
def brindlewoodref3_Compare.M0 : Mrk := ⟨[.dat 0 (.list (.int .i64)), .dat 1 (.list (.int .i64)), .dat 5 (.int .i64)], []⟩
def brindlewoodref3_Compare.O0 : Mrk := ⟨[], []⟩
def brindlewoodref3_Compare.an0 (k : Nat) : Ann (denB brindlewoodref3_Compare.B) := .loop brindlewoodref3_Compare.M0 brindlewoodref3_Compare.O0 0 fun x => brindlewoodref3_Compare.l0 k k x.1 x.2.1 x.2.2
def brindlewoodref3_Compare.E (k : Nat) : Entry := { f := 34, A := brindlewoodref3_Compare.A, B := brindlewoodref3_Compare.B, run := fun x => brindlewoodref3_Compare k x.1 x.2 }

def brindlewoodref3_Int_Order.tab (k : Nat) : List Entry := [brindlewoodref3_Compare.E k]
def brindlewoodref3_Int_Order.A : List PSh := [.dat (.st (.pair (.bool) (.list (.int .i64)))), .dat (.st (.pair (.bool) (.list (.int .i64))))]
def brindlewoodref3_Int_Order.B : List RSh := [.dat (.int .i64)]
def brindlewoodref3_Int_Order.E (k : Nat) : Entry := { f := 28, A := brindlewoodref3_Int_Order.A, B := brindlewoodref3_Int_Order.B, run := fun x => brindlewoodref3_Int_Order k x.1 x.2 }

def brindlewoodref3_near.tab (k : Nat) : List Entry := [brindlewoodref3_Number.E k, brindlewoodref3_Int_Order.E k]
def brindlewoodref3_near.A : List PSh := [.dat (.st (.pair (.bool) (.list (.int .i64)))), .dat (.int .i64), .dat (.int .i64)]
def brindlewoodref3_near.B : List RSh := [.dat (.int .i64)]
def brindlewoodref3_near.M0 : Mrk := ⟨[.box 32 [.st (.pair (.bool) (.list (.int .i64)))], .dat 7 (.int .i64)], [.ptr 3 32 0]⟩
def brindlewoodref3_near.O0 : Mrk := ⟨[.dat 7 (.int .i64)], []⟩
def brindlewoodref3_near.an0 (k : Nat) : Ann (denB brindlewoodref3_near.B) := .loop brindlewoodref3_near.M0 brindlewoodref3_near.O0 0 fun x => brindlewoodref3_near.l0 k k x.1 x.2
def brindlewoodref3_near.E (k : Nat) : Entry := { f := 21, A := brindlewoodref3_near.A, B := brindlewoodref3_near.B, run := fun x => brindlewoodref3_near k x.1 x.2.1 x.2.2 }

def brindlewoodref3_Plus.tab (k : Nat) : List Entry := [brindlewoodref3_trim_v.E k]
def brindlewoodref3_Plus.A : List PSh := [.dat (.list (.int .i64)), .dat (.list (.int .i64))]
def brindlewoodref3_Plus.B : List RSh := [.own (.int .i64)]
def brindlewoodref3_Plus.M0 : Mrk := ⟨[.dat 0 (.list (.int .i64)), .dat 1 (.list (.int .i64)), .own 5 (.int .i64), .dat 6 (.int .i64), .dat 7 (.int .i64)], []⟩
def brindlewoodref3_Plus.O0 : Mrk := ⟨[.own 5 (.int .i64)], []⟩
def brindlewoodref3_Plus.an0 (k : Nat) : Ann (denB brindlewoodref3_Plus.B) := .loop brindlewoodref3_Plus.M0 brindlewoodref3_Plus.O0 0 fun x => brindlewoodref3_Plus.l0 k k x.1 x.2.1 x.2.2.1 x.2.2.2.1 x.2.2.2.2
def brindlewoodref3_Plus.E (k : Nat) : Entry := { f := 37, A := brindlewoodref3_Plus.A, B := brindlewoodref3_Plus.B, run := fun x => brindlewoodref3_Plus k x.1 x.2 }

def brindlewoodref3_Minus.tab (k : Nat) : List Entry := [brindlewoodref3_trim_v.E k]
def brindlewoodref3_Minus.A : List PSh := [.dat (.list (.int .i64)), .dat (.list (.int .i64))]
def brindlewoodref3_Minus.B : List RSh := [.own (.int .i64)]
def brindlewoodref3_Minus.M0 : Mrk := ⟨[.dat 0 (.list (.int .i64)), .dat 1 (.list (.int .i64)), .own 5 (.int .i64), .dat 6 (.int .i64), .dat 7 (.int .i64)], []⟩
def brindlewoodref3_Minus.O0 : Mrk := ⟨[.own 5 (.int .i64)], []⟩
def brindlewoodref3_Minus.an0 (k : Nat) : Ann (denB brindlewoodref3_Minus.B) := .loop brindlewoodref3_Minus.M0 brindlewoodref3_Minus.O0 0 fun x => brindlewoodref3_Minus.l0 k k x.1 x.2.1 x.2.2.1 x.2.2.2.1 x.2.2.2.2
def brindlewoodref3_Minus.E (k : Nat) : Entry := { f := 38, A := brindlewoodref3_Minus.A, B := brindlewoodref3_Minus.B, run := fun x => brindlewoodref3_Minus k x.1 x.2 }

def brindlewoodref3_Int_Plus.tab (k : Nat) : List Entry := [brindlewoodref3_Plus.E k, brindlewoodref3_Compare.E k, brindlewoodref3_Minus.E k]
def brindlewoodref3_Int_Plus.A : List PSh := [.dat (.st (.pair (.bool) (.list (.int .i64)))), .dat (.st (.pair (.bool) (.list (.int .i64))))]
def brindlewoodref3_Int_Plus.B : List RSh := [.dat (.st (.pair (.bool) (.list (.int .i64))))]
def brindlewoodref3_Int_Plus.E (k : Nat) : Entry := { f := 31, A := brindlewoodref3_Int_Plus.A, B := brindlewoodref3_Int_Plus.B, run := fun x => brindlewoodref3_Int_Plus k x.1 x.2 }

def brindlewoodref3_endAt.tab (k : Nat) : List Entry := [brindlewoodref3_IntOf.E k, brindlewoodref3_Number.E k, brindlewoodref3_Int_Plus.E k, brindlewoodref3_near.E k]
def brindlewoodref3_endAt.A : List PSh := [.dat (.st (.pair (.bool) (.list (.int .u32)))), .dat (.int .i64), .dat (.int .i64), .dat (.int .i64)]
def brindlewoodref3_endAt.B : List RSh := [.dat (.int .i64)]
def brindlewoodref3_endAt.E (k : Nat) : Entry := { f := 23, A := brindlewoodref3_endAt.A, B := brindlewoodref3_endAt.B, run := fun x => brindlewoodref3_endAt k x.1 x.2.1 x.2.2.1 x.2.2.2 }

def brindlewoodref3_Places.tab (k : Nat) : List Entry := [brindlewoodref3_IntOf.E k, brindlewoodref3_near.E k, brindlewoodref3_endAt.E k]
def brindlewoodref3_Places.A : List PSh := [.dat (.st (.pair (.st (.pair (.bool) (.list (.int .u32)))) (.pair (.st (.pair (.bool) (.list (.int .u32)))) (.pair (.st (.pair (.bool) (.list (.int .u32)))) (.pair (.bool) (.pair (.bool) (.bool))))))), .dat (.int .i64)]
def brindlewoodref3_Places.B : List RSh := [.dat (.int .i64), .dat (.int .i64), .dat (.list (.int .i64))]
def brindlewoodref3_Places.M0 : Mrk := ⟨[.dat 4 (.int .i64), .dat 5 (.int .i64), .own 6 (.int .i64), .dat 9 (.int .i64), .dat 10 (.int .i64)], []⟩
def brindlewoodref3_Places.O0 : Mrk := ⟨[.dat 4 (.int .i64), .dat 5 (.int .i64), .own 6 (.int .i64)], []⟩
def brindlewoodref3_Places.an0 (k : Nat) : Ann (denB brindlewoodref3_Places.B) := .loop brindlewoodref3_Places.M0 brindlewoodref3_Places.O0 0 fun x => brindlewoodref3_Places.l0 k k x.1 x.2.1 x.2.2.1 x.2.2.2.1 x.2.2.2.2
def brindlewoodref3_Places.E (k : Nat) : Entry := { f := 12, A := brindlewoodref3_Places.A, B := brindlewoodref3_Places.B, run := fun x => brindlewoodref3_Places k x.1 x.2 }

def brindlewoodref3_In.tab (k : Nat) : List Entry := []
def brindlewoodref3_In.A : List PSh := [.dat (.list (.int .i64)), .dat (.int .i64)]
def brindlewoodref3_In.B : List RSh := [.dat (.bool)]
def brindlewoodref3_In.M0 : Mrk := ⟨[.dat 0 (.list (.int .i64)), .dat 1 (.int .i64), .dat 5 (.int .i64)], []⟩
def brindlewoodref3_In.O0 : Mrk := ⟨[], []⟩
def brindlewoodref3_In.an0 (k : Nat) : Ann (denB brindlewoodref3_In.B) := .loop brindlewoodref3_In.M0 brindlewoodref3_In.O0 0 fun x => brindlewoodref3_In.l0 k k x.1 x.2.1 x.2.2
def brindlewoodref3_In.E (k : Nat) : Entry := { f := 13, A := brindlewoodref3_In.A, B := brindlewoodref3_In.B, run := fun x => brindlewoodref3_In k x.1 x.2 }

def brindlewoodlaw3_SlicingTakes.tab (k : Nat) : List Entry := [slicing_Take_int.E k, slicing_Put_int.E k, slicing_Drop_int.E k, brindlewoodlaw3_cuts.E k, brindlewoodref3_Numbers.E k, brindlewoodref3_SliceFault.E k, brindlewoodref3_At.E, brindlewoodref3_Places.E k, brindlewoodref3_In.E k]
def brindlewoodlaw3_SlicingTakes.A : List PSh := [.dat (.list (.int .i64)), .dat (.st (.pair (.st (.pair (.bool) (.list (.int .u32)))) (.pair (.st (.pair (.bool) (.list (.int .u32)))) (.pair (.st (.pair (.bool) (.list (.int .u32)))) (.pair (.bool) (.pair (.bool) (.bool))))))), .dat (.list (.int .i64)), .dat (.int .i64)]
def brindlewoodlaw3_SlicingTakes.B : List RSh := [.dat (.bool)]
def brindlewoodlaw3_SlicingTakes.M2 : Mrk := ⟨[.dat 2 (.list (.int .i64)), .dat 13 (.list (.int .i64)), .box 252 [.st (.pair (.int .i64) (.int .i64))], .dat 20 (.list (.int .i64)), .own 25 (.int .i64), .dat 26 (.int .i64)], [.ptr 14 252 0]⟩
def brindlewoodlaw3_SlicingTakes.O2 : Mrk := ⟨[.dat 13 (.list (.int .i64)), .box 252 [.st (.pair (.int .i64) (.int .i64))], .own 25 (.int .i64)], [.ptr 14 252 0]⟩
def brindlewoodlaw3_SlicingTakes.an2 (k : Nat) : Ann (denB brindlewoodlaw3_SlicingTakes.B) := .loop brindlewoodlaw3_SlicingTakes.M2 brindlewoodlaw3_SlicingTakes.O2 5 fun x => brindlewoodlaw3_SlicingTakes.l2 k k x.1 x.2.1 x.2.2.1 x.2.2.2.1 x.2.2.2.2.1 x.2.2.2.2.2
def brindlewoodlaw3_SlicingTakes.M1 : Mrk := ⟨[.dat 0 (.list (.int .i64)), .dat 2 (.list (.int .i64)), .dat 3 (.int .i64), .dat 11 (.list (.int .i64)), .box 250 [.st (.pair (.int .i64) (.int .i64))], .dat 13 (.list (.int .i64)), .box 252 [.st (.pair (.int .i64) (.int .i64))], .dat 15 (.list (.int .i64)), .box 254 [.st (.pair (.int .i64) (.int .i64))], .dat 18 (.int .i64), .dat 19 (.int .i64), .dat 20 (.list (.int .i64)), .own 21 (.int .i64), .own 22 (.int .i64), .dat 24 (.int .i64)], [.ptr 12 250 0, .ptr 14 252 0, .ptr 16 254 0]⟩
def brindlewoodlaw3_SlicingTakes.O1 : Mrk := ⟨[.dat 0 (.list (.int .i64)), .dat 2 (.list (.int .i64)), .dat 3 (.int .i64), .dat 11 (.list (.int .i64)), .box 250 [.st (.pair (.int .i64) (.int .i64))], .dat 13 (.list (.int .i64)), .box 252 [.st (.pair (.int .i64) (.int .i64))], .dat 15 (.list (.int .i64)), .box 254 [.st (.pair (.int .i64) (.int .i64))], .dat 18 (.int .i64), .dat 19 (.int .i64), .dat 20 (.list (.int .i64)), .own 21 (.int .i64), .own 22 (.int .i64)], [.ptr 12 250 0, .ptr 14 252 0, .ptr 16 254 0]⟩
def brindlewoodlaw3_SlicingTakes.an1 (k : Nat) : Ann (denB brindlewoodlaw3_SlicingTakes.B) := .loop brindlewoodlaw3_SlicingTakes.M1 brindlewoodlaw3_SlicingTakes.O1 2 fun x => brindlewoodlaw3_SlicingTakes.l1 k k x.1 x.2.1 x.2.2.1 x.2.2.2.1 x.2.2.2.2.1 x.2.2.2.2.2.1 x.2.2.2.2.2.2.1 x.2.2.2.2.2.2.2.1 x.2.2.2.2.2.2.2.2.1 x.2.2.2.2.2.2.2.2.2.1 x.2.2.2.2.2.2.2.2.2.2.1 x.2.2.2.2.2.2.2.2.2.2.2.1 x.2.2.2.2.2.2.2.2.2.2.2.2.1 x.2.2.2.2.2.2.2.2.2.2.2.2.2.1 x.2.2.2.2.2.2.2.2.2.2.2.2.2.2
def brindlewoodlaw3_SlicingTakes.M0 : Mrk := ⟨[.dat 0 (.list (.int .i64)), .dat 2 (.list (.int .i64)), .dat 3 (.int .i64), .dat 11 (.list (.int .i64)), .box 250 [.st (.pair (.int .i64) (.int .i64))], .dat 13 (.list (.int .i64)), .box 252 [.st (.pair (.int .i64) (.int .i64))], .dat 15 (.list (.int .i64)), .box 254 [.st (.pair (.int .i64) (.int .i64))], .dat 18 (.int .i64), .dat 19 (.int .i64), .dat 20 (.list (.int .i64)), .own 21 (.int .i64), .own 22 (.int .i64), .dat 23 (.int .i64)], [.ptr 12 250 0, .ptr 14 252 0, .ptr 16 254 0]⟩
def brindlewoodlaw3_SlicingTakes.O0 : Mrk := ⟨[.dat 0 (.list (.int .i64)), .dat 2 (.list (.int .i64)), .dat 3 (.int .i64), .dat 11 (.list (.int .i64)), .box 250 [.st (.pair (.int .i64) (.int .i64))], .dat 13 (.list (.int .i64)), .box 252 [.st (.pair (.int .i64) (.int .i64))], .dat 15 (.list (.int .i64)), .box 254 [.st (.pair (.int .i64) (.int .i64))], .dat 18 (.int .i64), .dat 19 (.int .i64), .dat 20 (.list (.int .i64)), .own 21 (.int .i64), .own 22 (.int .i64)], [.ptr 12 250 0, .ptr 14 252 0, .ptr 16 254 0]⟩
def brindlewoodlaw3_SlicingTakes.an0 (k : Nat) : Ann (denB brindlewoodlaw3_SlicingTakes.B) := .loop brindlewoodlaw3_SlicingTakes.M0 brindlewoodlaw3_SlicingTakes.O0 0 fun x => brindlewoodlaw3_SlicingTakes.l0 k k x.1 x.2.1 x.2.2.1 x.2.2.2.1 x.2.2.2.2.1 x.2.2.2.2.2.1 x.2.2.2.2.2.2.1 x.2.2.2.2.2.2.2.1 x.2.2.2.2.2.2.2.2.1 x.2.2.2.2.2.2.2.2.2.1 x.2.2.2.2.2.2.2.2.2.2.1 x.2.2.2.2.2.2.2.2.2.2.2.1 x.2.2.2.2.2.2.2.2.2.2.2.2.1 x.2.2.2.2.2.2.2.2.2.2.2.2.2.1 x.2.2.2.2.2.2.2.2.2.2.2.2.2.2
def brindlewoodlaw3_SlicingTakes.E (k : Nat) : Entry := { f := 3, A := brindlewoodlaw3_SlicingTakes.A, B := brindlewoodlaw3_SlicingTakes.B, run := fun x => brindlewoodlaw3_SlicingTakes k x.1 x.2.1 x.2.2.1 x.2.2.2 }
end Go.Sh
