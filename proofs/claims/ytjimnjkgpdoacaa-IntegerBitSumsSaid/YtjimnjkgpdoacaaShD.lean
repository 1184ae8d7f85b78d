/- The functions' shapes and annotations, by wip/gen/gen.py.  Conditions: none, these are definitions. -/
import Derived.Test.YtjimnjkgpdoacaaSh
import Derived.Test.YtjimnjkgpdoacaaProg
set_option linter.unusedVariables false
namespace Go.Sh
open Go Go.Ev

def ttRows : List (Nat × TI) := [(3, ⟨.int .i64, 0, [], false, true⟩),
  (4, ⟨.bool, 0, [], false, true⟩),
  (5, ⟨.int .u8, 0, [], false, true⟩),
  (9, ⟨.str, 0, [], false, true⟩),
  (22, ⟨.list (.int .u32), 4, [], false, true⟩),
  (24, ⟨.st (.pair (.bool) (.list (.int .u32))), 0, [(0, .bool), (1, .list (.int .u32))], false, true⟩),
  (28, ⟨.st (.pair (.int .i64) (.int .i64)), 0, [(0, .int .i64), (1, .int .i64)], false, true⟩),
  (39, ⟨.list (.int .i64), 8, [], false, true⟩),
  (52, ⟨.list (.int .i64), 8, [], false, true⟩),
  (54, ⟨.st (.pair (.bool) (.list (.int .i64))), 0, [(0, .bool), (1, .list (.int .i64))], false, true⟩),
  (60, ⟨.list (.bool), 1, [], false, true⟩),
  (67, ⟨.list (.st (.pair (.bool) (.list (.int .u32)))), 32, [], false, true⟩),
  (71, ⟨.int .u32, 0, [], false, true⟩),
  (74, ⟨.int .u64, 0, [], false, true⟩),
  (110, ⟨.list (.int .u8), 1, [], false, true⟩)]
def tt : TypeId → TI := tiOf ttRows

def integer_Of.tab (k : Nat) : List Entry := []
def integer_Of.A : List PSh := [.dat (.int .i64)]
def integer_Of.B : List RSh := [.dat (.st (.pair (.bool) (.list (.int .u32))))]
def integer_Of.M0 : Mrk := ⟨[.dat 0 (.int .i64), .box 40 [.st (.pair (.bool) (.list (.int .u32)))], .own 4 (.int .u32)], [.ptr 2 40 0]⟩
def integer_Of.O0 : Mrk := ⟨[.dat 0 (.int .i64), .box 40 [.st (.pair (.bool) (.list (.int .u32)))], .own 4 (.int .u32)], [.ptr 2 40 0]⟩
def integer_Of.an0 (k : Nat) : Ann (denB integer_Of.B) := .loop integer_Of.M0 integer_Of.O0 0 fun x => integer_Of.l0 k k x.1 x.2.1 x.2.2
def integer_Of.E (k : Nat) : Entry := { f := 17, A := integer_Of.A, B := integer_Of.B, run := fun x => integer_Of k x }

def integer_Valid.tab  : List Entry := []
def integer_Valid.A : List PSh := [.dat (.st (.pair (.bool) (.list (.int .u32))))]
def integer_Valid.B : List RSh := [.dat (.bool)]
def integer_Valid.E  : Entry := { f := 36, A := integer_Valid.A, B := integer_Valid.B, run := fun x => integer_Valid x }

def integer_at.tab  : List Entry := []
def integer_at.A : List PSh := [.dat (.int .i64), .dat (.int .i64)]
def integer_at.B : List RSh := [.dat (.st (.pair (.int .i64) (.int .i64)))]
def integer_at.E  : Entry := { f := 75, A := integer_at.A, B := integer_at.B, run := fun x => integer_at x.1 x.2 }

def integer_check.tab (k : Nat) : List Entry := [integer_Valid.E, integer_at.E]
def integer_check.A : List PSh := [.dat (.list (.st (.pair (.bool) (.list (.int .u32)))))]
def integer_check.B : List RSh := [.dat (.st (.pair (.int .i64) (.int .i64)))]
def integer_check.M0 : Mrk := ⟨[.box 22 [.st (.pair (.int .i64) (.int .i64))], .dat 5 (.list (.st (.pair (.bool) (.list (.int .u32))))), .dat 6 (.int .i64), .dat 7 (.int .i64)], [.ptr 2 22 0]⟩
def integer_check.O0 : Mrk := ⟨[.box 22 [.st (.pair (.int .i64) (.int .i64))]], [.ptr 2 22 0]⟩
def integer_check.an0 (k : Nat) : Ann (denB integer_check.B) := .loop integer_check.M0 integer_check.O0 0 fun x => integer_check.l0 k k x.1 x.2.1 x.2.2.1 x.2.2.2
def integer_check.E (k : Nat) : Entry := { f := 51, A := integer_check.A, B := integer_check.B, run := fun x => integer_check k x }

def natural_Valid.tab  : List Entry := []
def natural_Valid.A : List PSh := [.dat (.list (.int .u32))]
def natural_Valid.B : List RSh := [.dat (.bool)]
def natural_Valid.E  : Entry := { f := 91, A := natural_Valid.A, B := natural_Valid.B, run := fun x => natural_Valid x }

def natural_at.tab  : List Entry := []
def natural_at.A : List PSh := [.dat (.int .i64), .dat (.int .i64)]
def natural_at.B : List RSh := [.dat (.st (.pair (.int .i64) (.int .i64)))]
def natural_at.E  : Entry := { f := 78, A := natural_at.A, B := natural_at.B, run := fun x => natural_at x.1 x.2 }

def natural_check.tab  : List Entry := [natural_Valid.E, natural_at.E]
def natural_check.A : List PSh := [.dat (.list (.int .u32)), .dat (.list (.int .u32))]
def natural_check.B : List RSh := [.dat (.st (.pair (.int .i64) (.int .i64)))]
def natural_check.E  : Entry := { f := 76, A := natural_check.A, B := natural_check.B, run := fun x => natural_check x.1 x.2 }

def natural_compare.tab (k : Nat) : List Entry := []
def natural_compare.A : List PSh := [.dat (.list (.int .u32)), .dat (.list (.int .u32))]
def natural_compare.B : List RSh := [.dat (.int .i64)]
def natural_compare.M0 : Mrk := ⟨[.dat 0 (.list (.int .u32)), .dat 1 (.list (.int .u32)), .dat 5 (.int .i64)], []⟩
def natural_compare.O0 : Mrk := ⟨[], []⟩
def natural_compare.an0 (k : Nat) : Ann (denB natural_compare.B) := .loop natural_compare.M0 natural_compare.O0 0 fun x => natural_compare.l0 k k x.1 x.2.1 x.2.2
def natural_compare.E (k : Nat) : Entry := { f := 77, A := natural_compare.A, B := natural_compare.B, run := fun x => natural_compare k x.1 x.2 }

def slices_Clone_uint32uint32.A : List PSh := [.dat (.list (.int .u32))]
def slices_Clone_uint32uint32.B : List RSh := [.own (.int .u32)]
def slices_Clone_uint32uint32.E : Entry := { f := 92, A := slices_Clone_uint32uint32.A, B := slices_Clone_uint32uint32.B, run := fun x => slices_Clone_uint32uint32 x }

def bits_Div32.tab  : List Entry := []
def bits_Div32.A : List PSh := [.dat (.int .u32), .dat (.int .u32), .dat (.int .u32)]
def bits_Div32.B : List RSh := [.dat (.int .u32), .dat (.int .u32)]
def bits_Div32.E  : Entry := { f := 101, A := bits_Div32.A, B := bits_Div32.B, run := fun x => bits_Div32 x.1 x.2.1 x.2.2 }

def natural_trim_v.tab (k : Nat) : List Entry := []
def natural_trim_v.A : List PSh := [.view (.int .u32)]
def natural_trim_v.B : List RSh := [.cut 0 (.int .u32)]
def natural_trim_v.M0 : Mrk := ⟨[.blk 0 (.int .u32) 0, .part 0 0 (.int .u32)], []⟩
def natural_trim_v.O0 : Mrk := ⟨[.blk 0 (.int .u32) 0, .part 0 0 (.int .u32)], []⟩
def natural_trim_v.an0 (k : Nat) : Ann (denB natural_trim_v.B) := .loop natural_trim_v.M0 natural_trim_v.O0 0 fun x => natural_trim_v.l0 k k x.1 x.2
def natural_trim_v.E (k : Nat) : Entry := { f := 94, A := natural_trim_v.A, B := natural_trim_v.B, run := fun x => natural_trim_v k x }

def natural_short.tab (k : Nat) : List Entry := [bits_Div32.E, natural_trim_v.E k]
def natural_short.A : List PSh := [.dat (.list (.int .u32)), .dat (.int .u32)]
def natural_short.B : List RSh := [.dat (.list (.int .u32)), .dat (.int .u32)]
def natural_short.M0 : Mrk := ⟨[.dat 0 (.list (.int .u32)), .dat 1 (.int .u32), .own 6 (.int .u32), .dat 7 (.int .u32), .dat 8 (.int .i64)], []⟩
def natural_short.O0 : Mrk := ⟨[.own 6 (.int .u32), .dat 7 (.int .u32)], []⟩
def natural_short.an0 (k : Nat) : Ann (denB natural_short.B) := .loop natural_short.M0 natural_short.O0 0 fun x => natural_short.l0 k k x.1 x.2.1 x.2.2.1 x.2.2.2.1 x.2.2.2.2
def natural_short.E (k : Nat) : Entry := { f := 98, A := natural_short.A, B := natural_short.B, run := fun x => natural_short k x.1 x.2 }

def bits_Len32.tab  : List Entry := []
def bits_Len32.A : List PSh := [.dat (.int .u32)]
def bits_Len32.B : List RSh := [.dat (.int .i64)]
def bits_Len32.E  : Entry := { f := 95, A := bits_Len32.A, B := bits_Len32.B, run := fun x => bits_Len32 x }

def bits_LeadingZeros32.tab  : List Entry := [bits_Len32.E]
def bits_LeadingZeros32.A : List PSh := [.dat (.int .u32)]
def bits_LeadingZeros32.B : List RSh := [.dat (.int .i64)]
def bits_LeadingZeros32.E  : Entry := { f := 102, A := bits_LeadingZeros32.A, B := bits_LeadingZeros32.B, run := fun x => bits_LeadingZeros32 x }

def natural_left.tab (k : Nat) : List Entry := [natural_trim_v.E k]
def natural_left.A : List PSh := [.dat (.list (.int .u32)), .dat (.int .i64)]
def natural_left.B : List RSh := [.own (.int .u32)]
def natural_left.M0 : Mrk := ⟨[.dat 1 (.int .i64), .own 5 (.int .u32), .dat 6 (.int .u32), .dat 19 (.list (.int .u32)), .dat 20 (.int .i64), .dat 21 (.int .i64)], []⟩
def natural_left.O0 : Mrk := ⟨[.own 5 (.int .u32), .dat 6 (.int .u32)], []⟩
def natural_left.an0 (k : Nat) : Ann (denB natural_left.B) := .loop natural_left.M0 natural_left.O0 0 fun x => natural_left.l0 k k x.1 x.2.1 x.2.2.1 x.2.2.2.1 x.2.2.2.2.1 x.2.2.2.2.2
def natural_left.E (k : Nat) : Entry := { f := 82, A := natural_left.A, B := natural_left.B, run := fun x => natural_left k x.1 x.2 }

def bits_Sub32.tab  : List Entry := []
def bits_Sub32.A : List PSh := [.dat (.int .u32), .dat (.int .u32), .dat (.int .u32)]
def bits_Sub32.B : List RSh := [.dat (.int .u32), .dat (.int .u32)]
def bits_Sub32.E  : Entry := { f := 93, A := bits_Sub32.A, B := bits_Sub32.B, run := fun x => bits_Sub32 x.1 x.2.1 x.2.2 }

def bits_Add32.tab  : List Entry := []
def bits_Add32.A : List PSh := [.dat (.int .u32), .dat (.int .u32), .dat (.int .u32)]
def bits_Add32.B : List RSh := [.dat (.int .u32), .dat (.int .u32)]
def bits_Add32.E  : Entry := { f := 104, A := bits_Add32.A, B := bits_Add32.B, run := fun x => bits_Add32 x.1 x.2.1 x.2.2 }

def natural_digit_ld.tab (k : Nat) : List Entry := [bits_Sub32.E, bits_Add32.E]
def natural_digit_ld.A : List PSh := [.lent (.int .u32), .dat (.list (.int .u32))]
def natural_digit_ld.B : List RSh := [.dat (.int .u32), .fin 0 (.int .u32)]
def natural_digit_ld.M2 : Mrk := ⟨[.blk 0 (.int .u32) 1, .dat 1 (.list (.int .u32)), .dat 5 (.int .i64), .dat 8 (.int .u64), .dat 13 (.int .u32), .dat 111 (.int .i64), .dat 112 (.int .i64)], [.ref 0 0]⟩
def natural_digit_ld.O2 : Mrk := ⟨[.blk 0 (.int .u32) 1, .dat 5 (.int .i64), .dat 8 (.int .u64), .dat 13 (.int .u32)], [.ref 0 0]⟩
def natural_digit_ld.an2 (k : Nat) : Ann (denB natural_digit_ld.B) := .loop natural_digit_ld.M2 natural_digit_ld.O2 4 fun x => natural_digit_ld.l2 k k x.1 x.2.1 x.2.2.1 x.2.2.2.1 x.2.2.2.2.1 x.2.2.2.2.2.1 x.2.2.2.2.2.2
def natural_digit_ld.M1 : Mrk := ⟨[.blk 0 (.int .u32) 1, .dat 1 (.list (.int .u32)), .dat 5 (.int .i64), .dat 8 (.int .u64), .dat 10 (.int .u64), .dat 11 (.int .u32), .dat 74 (.int .i64), .dat 75 (.int .i64)], [.ref 0 0]⟩
def natural_digit_ld.O1 : Mrk := ⟨[.blk 0 (.int .u32) 1, .dat 1 (.list (.int .u32)), .dat 5 (.int .i64), .dat 8 (.int .u64), .dat 11 (.int .u32)], [.ref 0 0]⟩
def natural_digit_ld.an1 (k : Nat) : Ann (denB natural_digit_ld.B) := .loop natural_digit_ld.M1 natural_digit_ld.O1 2 fun x => natural_digit_ld.l1 k k x.1 x.2.1 x.2.2.1 x.2.2.2.1 x.2.2.2.2.1 x.2.2.2.2.2.1 x.2.2.2.2.2.2.1 x.2.2.2.2.2.2.2
def natural_digit_ld.M0 : Mrk := ⟨[.blk 0 (.int .u32) 1, .dat 1 (.list (.int .u32)), .dat 5 (.int .i64), .dat 7 (.int .u64), .dat 8 (.int .u64), .dat 9 (.int .u64)], [.ref 0 0]⟩
def natural_digit_ld.O0 : Mrk := ⟨[.blk 0 (.int .u32) 1, .dat 1 (.list (.int .u32)), .dat 5 (.int .i64), .dat 8 (.int .u64)], [.ref 0 0]⟩
def natural_digit_ld.an0 (k : Nat) : Ann (denB natural_digit_ld.B) := .loop natural_digit_ld.M0 natural_digit_ld.O0 0 fun x => natural_digit_ld.l0 k k x.1 x.2.1 x.2.2.1 x.2.2.2.1 x.2.2.2.2.1 x.2.2.2.2.2
def natural_digit_ld.E (k : Nat) : Entry := { f := 103, A := natural_digit_ld.A, B := natural_digit_ld.B, run := fun x => natural_digit_ld k x.1 x.2 }

def natural_right.tab (k : Nat) : List Entry := [natural_trim_v.E k]
def natural_right.A : List PSh := [.dat (.list (.int .u32)), .dat (.int .i64)]
def natural_right.B : List RSh := [.own (.int .u32)]
def natural_right.M0 : Mrk := ⟨[.dat 0 (.list (.int .u32)), .dat 1 (.int .i64), .own 5 (.int .u32), .dat 6 (.int .i64)], []⟩
def natural_right.O0 : Mrk := ⟨[.own 5 (.int .u32)], []⟩
def natural_right.an0 (k : Nat) : Ann (denB natural_right.B) := .loop natural_right.M0 natural_right.O0 0 fun x => natural_right.l0 k k x.1 x.2.1 x.2.2.1 x.2.2.2
def natural_right.E (k : Nat) : Entry := { f := 81, A := natural_right.A, B := natural_right.B, run := fun x => natural_right k x.1 x.2 }

def natural_divide.tab (k : Nat) : List Entry := [bits_LeadingZeros32.E, natural_left.E k, natural_digit_ld.E k, natural_trim_v.E k, natural_right.E k]
def natural_divide.A : List PSh := [.dat (.list (.int .u32)), .dat (.list (.int .u32))]
def natural_divide.B : List RSh := [.dat (.list (.int .u32)), .dat (.list (.int .u32))]
def natural_divide.M1 : Mrk := ⟨[.dat 6 (.int .i64), .dat 7 (.int .i64), .own 8 (.int .u32), .own 9 (.int .u32), .own 10 (.int .u32), .dat 11 (.int .i64)], []⟩
def natural_divide.O1 : Mrk := ⟨[.dat 6 (.int .i64), .dat 7 (.int .i64), .own 9 (.int .u32), .own 10 (.int .u32)], []⟩
def natural_divide.an1 (k : Nat) : Ann (denB natural_divide.B) := .loop natural_divide.M1 natural_divide.O1 2 fun x => natural_divide.l1 k k x.1 x.2.1 x.2.2.1 x.2.2.2.1 x.2.2.2.2.1 x.2.2.2.2.2
def natural_divide.M0 : Mrk := ⟨[.dat 0 (.list (.int .u32)), .dat 6 (.int .i64), .dat 7 (.int .i64), .own 8 (.int .u32), .own 9 (.int .u32)], []⟩
def natural_divide.O0 : Mrk := ⟨[.dat 6 (.int .i64), .dat 7 (.int .i64), .own 8 (.int .u32), .own 9 (.int .u32)], []⟩
def natural_divide.an0 (k : Nat) : Ann (denB natural_divide.B) := .loop natural_divide.M0 natural_divide.O0 0 fun x => natural_divide.l0 k k x.1 x.2.1 x.2.2.1 x.2.2.2.1 x.2.2.2.2
def natural_divide.E (k : Nat) : Entry := { f := 100, A := natural_divide.A, B := natural_divide.B, run := fun x => natural_divide k x.1 x.2 }

def natural_divMod.tab (k : Nat) : List Entry := [natural_compare.E k, slices_Clone_uint32uint32.E, natural_short.E k, natural_trim_v.E k, natural_divide.E k]
def natural_divMod.A : List PSh := [.dat (.list (.int .u32)), .dat (.list (.int .u32))]
def natural_divMod.B : List RSh := [.dat (.list (.int .u32)), .dat (.list (.int .u32))]
def natural_divMod.E (k : Nat) : Entry := { f := 96, A := natural_divMod.A, B := natural_divMod.B, run := fun x => natural_divMod k x.1 x.2 }

def natural_DivMod.tab (k : Nat) : List Entry := [natural_check.E, natural_at.E, natural_divMod.E k]
def natural_DivMod.A : List PSh := [.dat (.list (.int .u32)), .dat (.list (.int .u32))]
def natural_DivMod.B : List RSh := [.dat (.list (.int .u32)), .dat (.list (.int .u32)), .dat (.st (.pair (.int .i64) (.int .i64)))]
def natural_DivMod.E (k : Nat) : Entry := { f := 85, A := natural_DivMod.A, B := natural_DivMod.B, run := fun x => natural_DivMod k x.1 x.2 }

def natural_add.tab (k : Nat) : List Entry := [natural_trim_v.E k]
def natural_add.A : List PSh := [.dat (.list (.int .u32)), .dat (.list (.int .u32))]
def natural_add.B : List RSh := [.own (.int .u32)]
def natural_add.M0 : Mrk := ⟨[.dat 1 (.list (.int .u32)), .own 5 (.int .u32), .dat 6 (.int .u64), .dat 20 (.list (.int .u32)), .dat 21 (.int .i64), .dat 22 (.int .i64)], []⟩
def natural_add.O0 : Mrk := ⟨[.own 5 (.int .u32), .dat 6 (.int .u64)], []⟩
def natural_add.an0 (k : Nat) : Ann (denB natural_add.B) := .loop natural_add.M0 natural_add.O0 0 fun x => natural_add.l0 k k x.1 x.2.1 x.2.2.1 x.2.2.2.1 x.2.2.2.2.1 x.2.2.2.2.2
def natural_add.E (k : Nat) : Entry := { f := 84, A := natural_add.A, B := natural_add.B, run := fun x => natural_add k x.1 x.2 }

def natural_trim.tab (k : Nat) : List Entry := []
def natural_trim.A : List PSh := [.dat (.list (.int .u32))]
def natural_trim.B : List RSh := [.dat (.list (.int .u32))]
def natural_trim.M0 : Mrk := ⟨[.dat 0 (.list (.int .u32))], []⟩
def natural_trim.O0 : Mrk := ⟨[.dat 0 (.list (.int .u32))], []⟩
def natural_trim.an0 (k : Nat) : Ann (denB natural_trim.B) := .loop natural_trim.M0 natural_trim.O0 0 fun x => natural_trim.l0 k k x
def natural_trim.E (k : Nat) : Entry := { f := 94, A := natural_trim.A, B := natural_trim.B, run := fun x => natural_trim k x }

def natural_fit.tab (k : Nat) : List Entry := [natural_trim.E k, natural_at.E]
def natural_fit.A : List PSh := [.dat (.list (.int .u32))]
def natural_fit.B : List RSh := [.dat (.list (.int .u32)), .dat (.st (.pair (.int .i64) (.int .i64)))]
def natural_fit.E (k : Nat) : Entry := { f := 83, A := natural_fit.A, B := natural_fit.B, run := fun x => natural_fit k x }

def natural_Add.tab (k : Nat) : List Entry := [natural_check.E, natural_add.E k, natural_fit.E k]
def natural_Add.A : List PSh := [.dat (.list (.int .u32)), .dat (.list (.int .u32))]
def natural_Add.B : List RSh := [.dat (.list (.int .u32)), .dat (.st (.pair (.int .i64) (.int .i64)))]
def natural_Add.E (k : Nat) : Entry := { f := 54, A := natural_Add.A, B := natural_Add.B, run := fun x => natural_Add k x.1 x.2 }

def natural_sub.tab (k : Nat) : List Entry := [slices_Clone_uint32uint32.E, bits_Sub32.E, natural_trim_v.E k]
def natural_sub.A : List PSh := [.dat (.list (.int .u32)), .dat (.list (.int .u32))]
def natural_sub.B : List RSh := [.own (.int .u32)]
def natural_sub.M0 : Mrk := ⟨[.dat 1 (.list (.int .u32)), .own 5 (.int .u32), .dat 6 (.int .u32), .dat 12 (.int .i64), .dat 13 (.int .i64)], []⟩
def natural_sub.O0 : Mrk := ⟨[.own 5 (.int .u32)], []⟩
def natural_sub.an0 (k : Nat) : Ann (denB natural_sub.B) := .loop natural_sub.M0 natural_sub.O0 0 fun x => natural_sub.l0 k k x.1 x.2.1 x.2.2.1 x.2.2.2.1 x.2.2.2.2
def natural_sub.E (k : Nat) : Entry := { f := 79, A := natural_sub.A, B := natural_sub.B, run := fun x => natural_sub k x.1 x.2 }

def natural_Sub.tab (k : Nat) : List Entry := [natural_check.E, natural_compare.E k, natural_at.E, natural_sub.E k]
def natural_Sub.A : List PSh := [.dat (.list (.int .u32)), .dat (.list (.int .u32))]
def natural_Sub.B : List RSh := [.dat (.list (.int .u32)), .dat (.st (.pair (.int .i64) (.int .i64)))]
def natural_Sub.E (k : Nat) : Entry := { f := 52, A := natural_Sub.A, B := natural_Sub.B, run := fun x => natural_Sub k x.1 x.2 }

def integer_signed.tab  : List Entry := [integer_at.E]
def integer_signed.A : List PSh := [.dat (.bool), .dat (.list (.int .u32))]
def integer_signed.B : List RSh := [.dat (.st (.pair (.bool) (.list (.int .u32)))), .dat (.st (.pair (.int .i64) (.int .i64)))]
def integer_signed.E  : Entry := { f := 55, A := integer_signed.A, B := integer_signed.B, run := fun x => integer_signed x.1 x.2 }

def integer_DivMod.tab (k : Nat) : List Entry := [integer_check.E k, natural_DivMod.E k, natural_Add.E k, natural_Sub.E k, integer_signed.E]
def integer_DivMod.A : List PSh := [.dat (.st (.pair (.bool) (.list (.int .u32)))), .dat (.st (.pair (.bool) (.list (.int .u32))))]
def integer_DivMod.B : List RSh := [.dat (.st (.pair (.bool) (.list (.int .u32)))), .dat (.st (.pair (.bool) (.list (.int .u32)))), .dat (.st (.pair (.int .i64) (.int .i64)))]
def integer_DivMod.E (k : Nat) : Entry := { f := 56, A := integer_DivMod.A, B := integer_DivMod.B, run := fun x => integer_DivMod k x.1 x.2 }

def natural_chunk.tab (k : Nat) : List Entry := []
def natural_chunk.A : List PSh := [.dat (.int .i64)]
def natural_chunk.B : List RSh := [.dat (.int .u32), .dat (.int .i64)]
def natural_chunk.M0 : Mrk := ⟨[.dat 0 (.int .i64), .dat 4 (.int .u64), .dat 5 (.int .i64)], []⟩
def natural_chunk.O0 : Mrk := ⟨[.dat 4 (.int .u64), .dat 5 (.int .i64)], []⟩
def natural_chunk.an0 (k : Nat) : Ann (denB natural_chunk.B) := .loop natural_chunk.M0 natural_chunk.O0 0 fun x => natural_chunk.l0 k k x.1 x.2.1 x.2.2
def natural_chunk.E (k : Nat) : Entry := { f := 97, A := natural_chunk.A, B := natural_chunk.B, run := fun x => natural_chunk k x }

def slices_Reverse_intint_l.tab (k : Nat) : List Entry := []
def slices_Reverse_intint_l.A : List PSh := [.lent (.int .i64)]
def slices_Reverse_intint_l.B : List RSh := [.fin 0 (.int .i64)]
def slices_Reverse_intint_l.M0 : Mrk := ⟨[.blk 0 (.int .i64) 1, .dat 2 (.int .i64), .dat 3 (.int .i64)], [.ref 0 0]⟩
def slices_Reverse_intint_l.O0 : Mrk := ⟨[.blk 0 (.int .i64) 1], [.ref 0 0]⟩
def slices_Reverse_intint_l.an0 (k : Nat) : Ann (denB slices_Reverse_intint_l.B) := .loop slices_Reverse_intint_l.M0 slices_Reverse_intint_l.O0 0 fun x => slices_Reverse_intint_l.l0 k k x.1 x.2.1 x.2.2
def slices_Reverse_intint_l.E (k : Nat) : Entry := { f := 99, A := slices_Reverse_intint_l.A, B := slices_Reverse_intint_l.B, run := fun x => slices_Reverse_intint_l k x }

def natural_Digits.tab (k : Nat) : List Entry := [natural_Valid.E, natural_at.E, natural_chunk.E k, natural_short.E k, slices_Reverse_intint_l.E k]
def natural_Digits.A : List PSh := [.dat (.list (.int .u32)), .dat (.int .i64)]
def natural_Digits.B : List RSh := [.dat (.list (.int .i64)), .dat (.st (.pair (.int .i64) (.int .i64)))]
def natural_Digits.M1 : Mrk := ⟨[.dat 0 (.list (.int .u32)), .dat 1 (.int .i64), .box 72 [.st (.pair (.int .i64) (.int .i64))], .dat 6 (.int .u32), .dat 7 (.int .i64), .own 8 (.int .i64), .dat 9 (.int .u32), .dat 10 (.int .i64)], [.ptr 5 72 0]⟩
def natural_Digits.O1 : Mrk := ⟨[.dat 0 (.list (.int .u32)), .dat 1 (.int .i64), .box 72 [.st (.pair (.int .i64) (.int .i64))], .dat 6 (.int .u32), .dat 7 (.int .i64), .own 8 (.int .i64)], [.ptr 5 72 0]⟩
def natural_Digits.an1 (k : Nat) : Ann (denB natural_Digits.B) := .loop natural_Digits.M1 natural_Digits.O1 3 fun x => natural_Digits.l1 k k x.1 x.2.1 x.2.2.1 x.2.2.2.1 x.2.2.2.2.1 x.2.2.2.2.2.1 x.2.2.2.2.2.2.1 x.2.2.2.2.2.2.2
def natural_Digits.M0 : Mrk := ⟨[.dat 0 (.list (.int .u32)), .dat 1 (.int .i64), .box 72 [.st (.pair (.int .i64) (.int .i64))], .dat 6 (.int .u32), .dat 7 (.int .i64), .own 8 (.int .i64)], [.ptr 5 72 0]⟩
def natural_Digits.O0 : Mrk := ⟨[.box 72 [.st (.pair (.int .i64) (.int .i64))], .own 8 (.int .i64)], [.ptr 5 72 0]⟩
def natural_Digits.an0 (k : Nat) : Ann (denB natural_Digits.B) := .loop natural_Digits.M0 natural_Digits.O0 1 fun x => natural_Digits.l0 k k x.1 x.2.1 x.2.2.1 x.2.2.2.1 x.2.2.2.2.1 x.2.2.2.2.2
def natural_Digits.E (k : Nat) : Entry := { f := 86, A := natural_Digits.A, B := natural_Digits.B, run := fun x => natural_Digits k x.1 x.2 }

def integer_Text.tab (k : Nat) : List Entry := [integer_check.E k, natural_Digits.E k]
def integer_Text.A : List PSh := [.dat (.st (.pair (.bool) (.list (.int .u32)))), .dat (.int .i64)]
def integer_Text.B : List RSh := [.dat (.str), .dat (.st (.pair (.int .i64) (.int .i64)))]
def integer_Text.M0 : Mrk := ⟨[.box 61 [.st (.pair (.int .i64) (.int .i64))], .dat 7 (.list (.int .i64)), .own 9 (.int .u8), .dat 35 (.list (.int .i64)), .dat 36 (.int .i64), .dat 37 (.int .i64)], [.ptr 5 61 0]⟩
def integer_Text.O0 : Mrk := ⟨[.box 61 [.st (.pair (.int .i64) (.int .i64))], .dat 7 (.list (.int .i64)), .own 9 (.int .u8)], [.ptr 5 61 0]⟩
def integer_Text.an0 (k : Nat) : Ann (denB integer_Text.B) := .loop integer_Text.M0 integer_Text.O0 0 fun x => integer_Text.l0 k k x.1 x.2.1 x.2.2.1 x.2.2.2.1 x.2.2.2.2.1 x.2.2.2.2.2
def integer_Text.E (k : Nat) : Entry := { f := 57, A := integer_Text.A, B := integer_Text.B, run := fun x => integer_Text k x.1 x.2 }

def brindlewoodref3_trim_v.tab (k : Nat) : List Entry := []
def brindlewoodref3_trim_v.A : List PSh := [.view (.int .i64)]
def brindlewoodref3_trim_v.B : List RSh := [.cut 0 (.int .i64)]
def brindlewoodref3_trim_v.M0 : Mrk := ⟨[.blk 0 (.int .i64) 0, .part 0 0 (.int .i64)], []⟩
def brindlewoodref3_trim_v.O0 : Mrk := ⟨[.blk 0 (.int .i64) 0, .part 0 0 (.int .i64)], []⟩
def brindlewoodref3_trim_v.an0 (k : Nat) : Ann (denB brindlewoodref3_trim_v.B) := .loop brindlewoodref3_trim_v.M0 brindlewoodref3_trim_v.O0 0 fun x => brindlewoodref3_trim_v.l0 k k x.1 x.2
def brindlewoodref3_trim_v.E (k : Nat) : Entry := { f := 88, A := brindlewoodref3_trim_v.A, B := brindlewoodref3_trim_v.B, run := fun x => brindlewoodref3_trim_v k x }

def brindlewoodref3_Binary.tab (k : Nat) : List Entry := [brindlewoodref3_trim_v.E k]
def brindlewoodref3_Binary.A : List PSh := [.dat (.list (.bool))]
def brindlewoodref3_Binary.B : List RSh := [.own (.int .i64)]
def brindlewoodref3_Binary.M1 : Mrk := ⟨[.dat 0 (.list (.bool)), .own 3 (.int .i64), .dat 4 (.int .i64), .dat 5 (.int .i64), .dat 6 (.int .i64)], []⟩
def brindlewoodref3_Binary.O1 : Mrk := ⟨[.dat 0 (.list (.bool)), .own 3 (.int .i64), .dat 4 (.int .i64), .dat 5 (.int .i64)], []⟩
def brindlewoodref3_Binary.an1 (k : Nat) : Ann (denB brindlewoodref3_Binary.B) := .loop brindlewoodref3_Binary.M1 brindlewoodref3_Binary.O1 2 fun x => brindlewoodref3_Binary.l1 k k x.1 x.2.1 x.2.2.1 x.2.2.2.1 x.2.2.2.2
def brindlewoodref3_Binary.M0 : Mrk := ⟨[.dat 0 (.list (.bool)), .own 3 (.int .i64), .dat 4 (.int .i64)], []⟩
def brindlewoodref3_Binary.O0 : Mrk := ⟨[.own 3 (.int .i64)], []⟩
def brindlewoodref3_Binary.an0 (k : Nat) : Ann (denB brindlewoodref3_Binary.B) := .loop brindlewoodref3_Binary.M0 brindlewoodref3_Binary.O0 0 fun x => brindlewoodref3_Binary.l0 k k x.1 x.2.1 x.2.2
def brindlewoodref3_Binary.E (k : Nat) : Entry := { f := 64, A := brindlewoodref3_Binary.A, B := brindlewoodref3_Binary.B, run := fun x => brindlewoodref3_Binary k x }

def brindlewoodref3_Number.tab (k : Nat) : List Entry := [brindlewoodref3_Binary.E k]
def brindlewoodref3_Number.A : List PSh := [.dat (.int .i64)]
def brindlewoodref3_Number.B : List RSh := [.dat (.st (.pair (.bool) (.list (.int .i64))))]
def brindlewoodref3_Number.M0 : Mrk := ⟨[.dat 0 (.int .i64), .box 23 [.st (.pair (.bool) (.list (.int .i64)))], .own 3 (.bool), .dat 4 (.bool)], [.ptr 2 23 0]⟩
def brindlewoodref3_Number.O0 : Mrk := ⟨[.box 23 [.st (.pair (.bool) (.list (.int .i64)))], .own 3 (.bool), .dat 4 (.bool)], [.ptr 2 23 0]⟩
def brindlewoodref3_Number.an0 (k : Nat) : Ann (denB brindlewoodref3_Number.B) := .loop brindlewoodref3_Number.M0 brindlewoodref3_Number.O0 0 fun x => brindlewoodref3_Number.l0 k k x.1 x.2.1 x.2.2.1 x.2.2.2
def brindlewoodref3_Number.E (k : Nat) : Entry := { f := 30, A := brindlewoodref3_Number.A, B := brindlewoodref3_Number.B, run := fun x => brindlewoodref3_Number k x }

def brindlewoodref3_Limbs.tab (k : Nat) : List Entry := []
def brindlewoodref3_Limbs.A : List PSh := [.dat (.list (.int .i64))]
def brindlewoodref3_Limbs.B : List RSh := [.own (.int .u32)]
def brindlewoodref3_Limbs.M0 : Mrk := ⟨[.dat 0 (.list (.int .i64)), .own 3 (.int .u32), .dat 4 (.int .i64)], []⟩
def brindlewoodref3_Limbs.O0 : Mrk := ⟨[.own 3 (.int .u32)], []⟩
def brindlewoodref3_Limbs.an0 (k : Nat) : Ann (denB brindlewoodref3_Limbs.B) := .loop brindlewoodref3_Limbs.M0 brindlewoodref3_Limbs.O0 0 fun x => brindlewoodref3_Limbs.l0 k k x.1 x.2.1 x.2.2
def brindlewoodref3_Limbs.E (k : Nat) : Entry := { f := 87, A := brindlewoodref3_Limbs.A, B := brindlewoodref3_Limbs.B, run := fun x => brindlewoodref3_Limbs k x }

def brindlewoodref3_SameLimbs.tab (k : Nat) : List Entry := []
def brindlewoodref3_SameLimbs.A : List PSh := [.dat (.list (.int .u32)), .dat (.list (.int .u32))]
def brindlewoodref3_SameLimbs.B : List RSh := [.dat (.bool)]
def brindlewoodref3_SameLimbs.M0 : Mrk := ⟨[.dat 0 (.list (.int .u32)), .dat 1 (.list (.int .u32)), .dat 5 (.int .i64)], []⟩
def brindlewoodref3_SameLimbs.O0 : Mrk := ⟨[], []⟩
def brindlewoodref3_SameLimbs.an0 (k : Nat) : Ann (denB brindlewoodref3_SameLimbs.B) := .loop brindlewoodref3_SameLimbs.M0 brindlewoodref3_SameLimbs.O0 0 fun x => brindlewoodref3_SameLimbs.l0 k k x.1 x.2.1 x.2.2
def brindlewoodref3_SameLimbs.E (k : Nat) : Entry := { f := 69, A := brindlewoodref3_SameLimbs.A, B := brindlewoodref3_SameLimbs.B, run := fun x => brindlewoodref3_SameLimbs k x.1 x.2 }

def brindlewoodref3_SameInt.tab (k : Nat) : List Entry := [brindlewoodref3_Limbs.E k, brindlewoodref3_SameLimbs.E k]
def brindlewoodref3_SameInt.A : List PSh := [.dat (.st (.pair (.bool) (.list (.int .u32)))), .dat (.st (.pair (.bool) (.list (.int .i64))))]
def brindlewoodref3_SameInt.B : List RSh := [.dat (.bool)]
def brindlewoodref3_SameInt.E (k : Nat) : Entry := { f := 58, A := brindlewoodref3_SameInt.A, B := brindlewoodref3_SameInt.B, run := fun x => brindlewoodref3_SameInt k x.1 x.2 }

def brindlewoodlaw3_counts.tab (k : Nat) : List Entry := [integer_Of.E k, integer_DivMod.E k, integer_Text.E k, brindlewoodref3_Number.E k, brindlewoodref3_SameInt.E k]
def brindlewoodlaw3_counts.A : List PSh := []
def brindlewoodlaw3_counts.B : List RSh := [.dat (.bool)]
def brindlewoodlaw3_counts.E (k : Nat) : Entry := { f := 24, A := brindlewoodlaw3_counts.A, B := brindlewoodlaw3_counts.B, run := fun x => brindlewoodlaw3_counts k  }

def brindlewoodref3_IntOk.tab  : List Entry := []
def brindlewoodref3_IntOk.A : List PSh := [.dat (.st (.pair (.bool) (.list (.int .u32))))]
def brindlewoodref3_IntOk.B : List RSh := [.dat (.bool)]
def brindlewoodref3_IntOk.E  : Entry := { f := 13, A := brindlewoodref3_IntOk.A, B := brindlewoodref3_IntOk.B, run := fun x => brindlewoodref3_IntOk x }

def brindlewoodref3_At.tab  : List Entry := []
def brindlewoodref3_At.A : List PSh := [.dat (.int .i64), .dat (.int .i64)]
def brindlewoodref3_At.B : List RSh := [.dat (.st (.pair (.int .i64) (.int .i64)))]
def brindlewoodref3_At.E  : Entry := { f := 12, A := brindlewoodref3_At.A, B := brindlewoodref3_At.B, run := fun x => brindlewoodref3_At x.1 x.2 }

def brindlewoodref3_Faults.tab (k : Nat) : List Entry := [brindlewoodref3_IntOk.E, brindlewoodref3_At.E]
def brindlewoodref3_Faults.A : List PSh := [.dat (.list (.st (.pair (.bool) (.list (.int .u32)))))]
def brindlewoodref3_Faults.B : List RSh := [.dat (.st (.pair (.int .i64) (.int .i64)))]
def brindlewoodref3_Faults.M0 : Mrk := ⟨[.dat 0 (.list (.st (.pair (.bool) (.list (.int .u32))))), .box 22 [.st (.pair (.int .i64) (.int .i64))], .dat 3 (.int .i64)], [.ptr 2 22 0]⟩
def brindlewoodref3_Faults.O0 : Mrk := ⟨[.box 22 [.st (.pair (.int .i64) (.int .i64))]], [.ptr 2 22 0]⟩
def brindlewoodref3_Faults.an0 (k : Nat) : Ann (denB brindlewoodref3_Faults.B) := .loop brindlewoodref3_Faults.M0 brindlewoodref3_Faults.O0 0 fun x => brindlewoodref3_Faults.l0 k k x.1 x.2.1 x.2.2
def brindlewoodref3_Faults.E (k : Nat) : Entry := { f := 18, A := brindlewoodref3_Faults.A, B := brindlewoodref3_Faults.B, run := fun x => brindlewoodref3_Faults k x }

def integer_twos.tab (k : Nat) : List Entry := []
def integer_twos.A : List PSh := [.dat (.st (.pair (.bool) (.list (.int .u32)))), .dat (.int .i64)]
def integer_twos.B : List RSh := [.own (.int .u32)]
def integer_twos.M0 : Mrk := ⟨[.blk 50 (.int .u32) 2, .dat 6 (.int .u64), .dat 20 (.int .i64), .dat 21 (.int .i64)], [.ref 5 50, .ref 19 50]⟩
def integer_twos.O0 : Mrk := ⟨[.own 5 (.int .u32)], []⟩
def integer_twos.an0 (k : Nat) : Ann (denB integer_twos.B) := .loop integer_twos.M0 integer_twos.O0 0 fun x => integer_twos.l0 k k x.1 x.2.1 x.2.2.1 x.2.2.2
def integer_twos.E (k : Nat) : Entry := { f := 73, A := integer_twos.A, B := integer_twos.B, run := fun x => integer_twos k x.1 x.2 }

def integer_Xor_1.tab  : List Entry := []
def integer_Xor_1.A : List PSh := [.dat (.int .u32), .dat (.int .u32)]
def integer_Xor_1.B : List RSh := [.dat (.int .u32)]
def integer_Xor_1.E  : Entry := { f := 49, A := integer_Xor_1.A, B := integer_Xor_1.B, run := fun x => integer_Xor_1 x.1 x.2 }

def integer_back.tab (k : Nat) : List Entry := [integer_twos.E k, integer_signed.E]
def integer_back.A : List PSh := [.dat (.list (.int .u32))]
def integer_back.B : List RSh := [.dat (.st (.pair (.bool) (.list (.int .u32)))), .dat (.st (.pair (.int .i64) (.int .i64)))]
def integer_back.M0 : Mrk := ⟨[.dat 0 (.list (.int .u32)), .box 43 [.st (.pair (.bool) (.list (.int .u32)))], .box 44 [.st (.pair (.int .i64) (.int .i64))], .dat 4 (.bool)], [.ptr 2 43 0, .ptr 3 44 0]⟩
def integer_back.O0 : Mrk := ⟨[.dat 0 (.list (.int .u32)), .box 43 [.st (.pair (.bool) (.list (.int .u32)))], .box 44 [.st (.pair (.int .i64) (.int .i64))], .dat 4 (.bool)], [.ptr 2 43 0, .ptr 3 44 0]⟩
def integer_back.an0 (k : Nat) : Ann (denB integer_back.B) := .loop integer_back.M0 integer_back.O0 0 fun x => integer_back.l0 k k x.1 x.2.1 x.2.2.1 x.2.2.2
def integer_back.E (k : Nat) : Entry := { f := 74, A := integer_back.A, B := integer_back.B, run := fun x => integer_back k x }

def integer_bitwise_ddFinteger_Xor_1.tab (k : Nat) : List Entry := [integer_check.E k, integer_twos.E k, integer_Xor_1.E, integer_back.E k]
def integer_bitwise_ddFinteger_Xor_1.A : List PSh := [.dat (.st (.pair (.bool) (.list (.int .u32)))), .dat (.st (.pair (.bool) (.list (.int .u32)))), .fn 49 []]
def integer_bitwise_ddFinteger_Xor_1.B : List RSh := [.dat (.st (.pair (.bool) (.list (.int .u32)))), .dat (.st (.pair (.int .i64) (.int .i64)))]
def integer_bitwise_ddFinteger_Xor_1.M0 : Mrk := ⟨[.fn 2 49 [], .box 65 [.st (.pair (.bool) (.list (.int .u32)))], .box 66 [.st (.pair (.int .i64) (.int .i64))], .own 10 (.int .u32), .own 11 (.int .u32), .dat 37 (.int .i64), .dat 38 (.int .i64)], [.ptr 6 65 0, .ptr 7 66 0]⟩
def integer_bitwise_ddFinteger_Xor_1.O0 : Mrk := ⟨[.box 65 [.st (.pair (.bool) (.list (.int .u32)))], .box 66 [.st (.pair (.int .i64) (.int .i64))], .own 10 (.int .u32)], [.ptr 6 65 0, .ptr 7 66 0]⟩
def integer_bitwise_ddFinteger_Xor_1.an0 (k : Nat) : Ann (denB integer_bitwise_ddFinteger_Xor_1.B) := .loop integer_bitwise_ddFinteger_Xor_1.M0 integer_bitwise_ddFinteger_Xor_1.O0 0 fun x => integer_bitwise_ddFinteger_Xor_1.l0 k k x.1 x.2.1 x.2.2.1 x.2.2.2.1 x.2.2.2.2.1 x.2.2.2.2.2.1 x.2.2.2.2.2.2
def integer_bitwise_ddFinteger_Xor_1.E (k : Nat) : Entry := { f := 46, A := integer_bitwise_ddFinteger_Xor_1.A, B := integer_bitwise_ddFinteger_Xor_1.B, run := fun x => integer_bitwise_ddFinteger_Xor_1 k x.1 x.2.1 x.2.2 }

def integer_Xor.tab (k : Nat) : List Entry := [integer_bitwise_ddFinteger_Xor_1.E k]
def integer_Xor.A : List PSh := [.dat (.st (.pair (.bool) (.list (.int .u32)))), .dat (.st (.pair (.bool) (.list (.int .u32))))]
def integer_Xor.B : List RSh := [.dat (.st (.pair (.bool) (.list (.int .u32)))), .dat (.st (.pair (.int .i64) (.int .i64)))]
def integer_Xor.E (k : Nat) : Entry := { f := 21, A := integer_Xor.A, B := integer_Xor.B, run := fun x => integer_Xor k x.1 x.2 }

def integer_And_1.tab  : List Entry := []
def integer_And_1.A : List PSh := [.dat (.int .u32), .dat (.int .u32)]
def integer_And_1.B : List RSh := [.dat (.int .u32)]
def integer_And_1.E  : Entry := { f := 47, A := integer_And_1.A, B := integer_And_1.B, run := fun x => integer_And_1 x.1 x.2 }

def integer_bitwise_ddFinteger_And_1.tab (k : Nat) : List Entry := [integer_check.E k, integer_twos.E k, integer_And_1.E, integer_back.E k]
def integer_bitwise_ddFinteger_And_1.A : List PSh := [.dat (.st (.pair (.bool) (.list (.int .u32)))), .dat (.st (.pair (.bool) (.list (.int .u32)))), .fn 47 []]
def integer_bitwise_ddFinteger_And_1.B : List RSh := [.dat (.st (.pair (.bool) (.list (.int .u32)))), .dat (.st (.pair (.int .i64) (.int .i64)))]
def integer_bitwise_ddFinteger_And_1.M0 : Mrk := ⟨[.fn 2 47 [], .box 65 [.st (.pair (.bool) (.list (.int .u32)))], .box 66 [.st (.pair (.int .i64) (.int .i64))], .own 10 (.int .u32), .own 11 (.int .u32), .dat 37 (.int .i64), .dat 38 (.int .i64)], [.ptr 6 65 0, .ptr 7 66 0]⟩
def integer_bitwise_ddFinteger_And_1.O0 : Mrk := ⟨[.box 65 [.st (.pair (.bool) (.list (.int .u32)))], .box 66 [.st (.pair (.int .i64) (.int .i64))], .own 10 (.int .u32)], [.ptr 6 65 0, .ptr 7 66 0]⟩
def integer_bitwise_ddFinteger_And_1.an0 (k : Nat) : Ann (denB integer_bitwise_ddFinteger_And_1.B) := .loop integer_bitwise_ddFinteger_And_1.M0 integer_bitwise_ddFinteger_And_1.O0 0 fun x => integer_bitwise_ddFinteger_And_1.l0 k k x.1 x.2.1 x.2.2.1 x.2.2.2.1 x.2.2.2.2.1 x.2.2.2.2.2.1 x.2.2.2.2.2.2
def integer_bitwise_ddFinteger_And_1.E (k : Nat) : Entry := { f := 46, A := integer_bitwise_ddFinteger_And_1.A, B := integer_bitwise_ddFinteger_And_1.B, run := fun x => integer_bitwise_ddFinteger_And_1 k x.1 x.2.1 x.2.2 }

def integer_And.tab (k : Nat) : List Entry := [integer_bitwise_ddFinteger_And_1.E k]
def integer_And.A : List PSh := [.dat (.st (.pair (.bool) (.list (.int .u32)))), .dat (.st (.pair (.bool) (.list (.int .u32))))]
def integer_And.B : List RSh := [.dat (.st (.pair (.bool) (.list (.int .u32)))), .dat (.st (.pair (.int .i64) (.int .i64)))]
def integer_And.E (k : Nat) : Entry := { f := 19, A := integer_And.A, B := integer_And.B, run := fun x => integer_And k x.1 x.2 }

def natural_Bits.tab  : List Entry := [natural_Valid.E, natural_at.E, bits_Len32.E]
def natural_Bits.A : List PSh := [.dat (.list (.int .u32))]
def natural_Bits.B : List RSh := [.dat (.int .i64), .dat (.st (.pair (.int .i64) (.int .i64)))]
def natural_Bits.E  : Entry := { f := 80, A := natural_Bits.A, B := natural_Bits.B, run := fun x => natural_Bits x }

def natural_Shift.tab (k : Nat) : List Entry := [natural_Bits.E, natural_at.E, natural_right.E k, natural_left.E k]
def natural_Shift.A : List PSh := [.dat (.list (.int .u32)), .dat (.int .i64)]
def natural_Shift.B : List RSh := [.dat (.list (.int .u32)), .dat (.st (.pair (.int .i64) (.int .i64)))]
def natural_Shift.E (k : Nat) : Entry := { f := 53, A := natural_Shift.A, B := natural_Shift.B, run := fun x => natural_Shift k x.1 x.2 }

def integer_Shift.tab (k : Nat) : List Entry := [integer_check.E k, natural_Sub.E k, natural_Shift.E k, natural_Add.E k, integer_signed.E]
def integer_Shift.A : List PSh := [.dat (.st (.pair (.bool) (.list (.int .u32)))), .dat (.int .i64)]
def integer_Shift.B : List RSh := [.dat (.st (.pair (.bool) (.list (.int .u32)))), .dat (.st (.pair (.int .i64) (.int .i64)))]
def integer_Shift.E (k : Nat) : Entry := { f := 23, A := integer_Shift.A, B := integer_Shift.B, run := fun x => integer_Shift k x.1 x.2 }

def natural_Cmp.tab (k : Nat) : List Entry := [natural_check.E, natural_compare.E k]
def natural_Cmp.A : List PSh := [.dat (.list (.int .u32)), .dat (.list (.int .u32))]
def natural_Cmp.B : List RSh := [.dat (.int .i64), .dat (.st (.pair (.int .i64) (.int .i64)))]
def natural_Cmp.E (k : Nat) : Entry := { f := 89, A := natural_Cmp.A, B := natural_Cmp.B, run := fun x => natural_Cmp k x.1 x.2 }

def integer_plus.tab (k : Nat) : List Entry := [natural_Add.E k, integer_signed.E, natural_Cmp.E k, natural_Sub.E k]
def integer_plus.A : List PSh := [.dat (.st (.pair (.bool) (.list (.int .u32)))), .dat (.st (.pair (.bool) (.list (.int .u32))))]
def integer_plus.B : List RSh := [.dat (.st (.pair (.bool) (.list (.int .u32)))), .dat (.st (.pair (.int .i64) (.int .i64)))]
def integer_plus.E (k : Nat) : Entry := { f := 68, A := integer_plus.A, B := integer_plus.B, run := fun x => integer_plus k x.1 x.2 }

def integer_Add.tab (k : Nat) : List Entry := [integer_check.E k, integer_plus.E k]
def integer_Add.A : List PSh := [.dat (.st (.pair (.bool) (.list (.int .u32)))), .dat (.st (.pair (.bool) (.list (.int .u32))))]
def integer_Add.B : List RSh := [.dat (.st (.pair (.bool) (.list (.int .u32)))), .dat (.st (.pair (.int .i64) (.int .i64)))]
def integer_Add.E (k : Nat) : Entry := { f := 34, A := integer_Add.A, B := integer_Add.B, run := fun x => integer_Add k x.1 x.2 }

def integer_Not_1.tab  : List Entry := []
def integer_Not_1.A : List PSh := [.dat (.int .u32), .dat (.int .u32)]
def integer_Not_1.B : List RSh := [.dat (.int .u32)]
def integer_Not_1.E  : Entry := { f := 50, A := integer_Not_1.A, B := integer_Not_1.B, run := fun x => integer_Not_1 x.1 x.2 }

def integer_bitwise_ddFinteger_Not_1.tab (k : Nat) : List Entry := [integer_check.E k, integer_twos.E k, integer_Not_1.E, integer_back.E k]
def integer_bitwise_ddFinteger_Not_1.A : List PSh := [.dat (.st (.pair (.bool) (.list (.int .u32)))), .dat (.st (.pair (.bool) (.list (.int .u32)))), .fn 50 []]
def integer_bitwise_ddFinteger_Not_1.B : List RSh := [.dat (.st (.pair (.bool) (.list (.int .u32)))), .dat (.st (.pair (.int .i64) (.int .i64)))]
def integer_bitwise_ddFinteger_Not_1.M0 : Mrk := ⟨[.fn 2 50 [], .box 65 [.st (.pair (.bool) (.list (.int .u32)))], .box 66 [.st (.pair (.int .i64) (.int .i64))], .own 10 (.int .u32), .own 11 (.int .u32), .dat 37 (.int .i64), .dat 38 (.int .i64)], [.ptr 6 65 0, .ptr 7 66 0]⟩
def integer_bitwise_ddFinteger_Not_1.O0 : Mrk := ⟨[.box 65 [.st (.pair (.bool) (.list (.int .u32)))], .box 66 [.st (.pair (.int .i64) (.int .i64))], .own 10 (.int .u32)], [.ptr 6 65 0, .ptr 7 66 0]⟩
def integer_bitwise_ddFinteger_Not_1.an0 (k : Nat) : Ann (denB integer_bitwise_ddFinteger_Not_1.B) := .loop integer_bitwise_ddFinteger_Not_1.M0 integer_bitwise_ddFinteger_Not_1.O0 0 fun x => integer_bitwise_ddFinteger_Not_1.l0 k k x.1 x.2.1 x.2.2.1 x.2.2.2.1 x.2.2.2.2.1 x.2.2.2.2.2.1 x.2.2.2.2.2.2
def integer_bitwise_ddFinteger_Not_1.E (k : Nat) : Entry := { f := 46, A := integer_bitwise_ddFinteger_Not_1.A, B := integer_bitwise_ddFinteger_Not_1.B, run := fun x => integer_bitwise_ddFinteger_Not_1 k x.1 x.2.1 x.2.2 }

def integer_Not.tab (k : Nat) : List Entry := [integer_bitwise_ddFinteger_Not_1.E k]
def integer_Not.A : List PSh := [.dat (.st (.pair (.bool) (.list (.int .u32))))]
def integer_Not.B : List RSh := [.dat (.st (.pair (.bool) (.list (.int .u32)))), .dat (.st (.pair (.int .i64) (.int .i64)))]
def integer_Not.E (k : Nat) : Entry := { f := 22, A := integer_Not.A, B := integer_Not.B, run := fun x => integer_Not k x }

def integer_Or_1.tab  : List Entry := []
def integer_Or_1.A : List PSh := [.dat (.int .u32), .dat (.int .u32)]
def integer_Or_1.B : List RSh := [.dat (.int .u32)]
def integer_Or_1.E  : Entry := { f := 48, A := integer_Or_1.A, B := integer_Or_1.B, run := fun x => integer_Or_1 x.1 x.2 }

def integer_bitwise_ddFinteger_Or_1.tab (k : Nat) : List Entry := [integer_check.E k, integer_twos.E k, integer_Or_1.E, integer_back.E k]
def integer_bitwise_ddFinteger_Or_1.A : List PSh := [.dat (.st (.pair (.bool) (.list (.int .u32)))), .dat (.st (.pair (.bool) (.list (.int .u32)))), .fn 48 []]
def integer_bitwise_ddFinteger_Or_1.B : List RSh := [.dat (.st (.pair (.bool) (.list (.int .u32)))), .dat (.st (.pair (.int .i64) (.int .i64)))]
def integer_bitwise_ddFinteger_Or_1.M0 : Mrk := ⟨[.fn 2 48 [], .box 65 [.st (.pair (.bool) (.list (.int .u32)))], .box 66 [.st (.pair (.int .i64) (.int .i64))], .own 10 (.int .u32), .own 11 (.int .u32), .dat 37 (.int .i64), .dat 38 (.int .i64)], [.ptr 6 65 0, .ptr 7 66 0]⟩
def integer_bitwise_ddFinteger_Or_1.O0 : Mrk := ⟨[.box 65 [.st (.pair (.bool) (.list (.int .u32)))], .box 66 [.st (.pair (.int .i64) (.int .i64))], .own 10 (.int .u32)], [.ptr 6 65 0, .ptr 7 66 0]⟩
def integer_bitwise_ddFinteger_Or_1.an0 (k : Nat) : Ann (denB integer_bitwise_ddFinteger_Or_1.B) := .loop integer_bitwise_ddFinteger_Or_1.M0 integer_bitwise_ddFinteger_Or_1.O0 0 fun x => integer_bitwise_ddFinteger_Or_1.l0 k k x.1 x.2.1 x.2.2.1 x.2.2.2.1 x.2.2.2.2.1 x.2.2.2.2.2.1 x.2.2.2.2.2.2
def integer_bitwise_ddFinteger_Or_1.E (k : Nat) : Entry := { f := 46, A := integer_bitwise_ddFinteger_Or_1.A, B := integer_bitwise_ddFinteger_Or_1.B, run := fun x => integer_bitwise_ddFinteger_Or_1 k x.1 x.2.1 x.2.2 }

def integer_Or.tab (k : Nat) : List Entry := [integer_bitwise_ddFinteger_Or_1.E k]
def integer_Or.A : List PSh := [.dat (.st (.pair (.bool) (.list (.int .u32)))), .dat (.st (.pair (.bool) (.list (.int .u32))))]
def integer_Or.B : List RSh := [.dat (.st (.pair (.bool) (.list (.int .u32)))), .dat (.st (.pair (.int .i64) (.int .i64)))]
def integer_Or.E (k : Nat) : Entry := { f := 20, A := integer_Or.A, B := integer_Or.B, run := fun x => integer_Or k x.1 x.2 }

def brindlewoodref3_SameInts.tab (k : Nat) : List Entry := [brindlewoodref3_SameLimbs.E k]
def brindlewoodref3_SameInts.A : List PSh := [.dat (.st (.pair (.bool) (.list (.int .u32)))), .dat (.st (.pair (.bool) (.list (.int .u32))))]
def brindlewoodref3_SameInts.B : List RSh := [.dat (.bool)]
def brindlewoodref3_SameInts.E (k : Nat) : Entry := { f := 35, A := brindlewoodref3_SameInts.A, B := brindlewoodref3_SameInts.B, run := fun x => brindlewoodref3_SameInts k x.1 x.2 }

def brindlewoodlaw3_IntegerBitSums.tab (k : Nat) : List Entry := [brindlewoodlaw3_counts.E k, brindlewoodref3_Faults.E k, integer_Xor.E k, integer_And.E k, integer_Shift.E k, integer_Add.E k, integer_Not.E k, integer_Or.E k, brindlewoodref3_SameInts.E k]
def brindlewoodlaw3_IntegerBitSums.A : List PSh := [.dat (.st (.pair (.bool) (.list (.int .u32)))), .dat (.st (.pair (.bool) (.list (.int .u32))))]
def brindlewoodlaw3_IntegerBitSums.B : List RSh := [.dat (.bool)]
def brindlewoodlaw3_IntegerBitSums.E (k : Nat) : Entry := { f := 6, A := brindlewoodlaw3_IntegerBitSums.A, B := brindlewoodlaw3_IntegerBitSums.B, run := fun x => brindlewoodlaw3_IntegerBitSums k x.1 x.2 }
end Go.Sh
