/- The functions' shapes and annotations, by wip/gen/gen.py.  Conditions: none, these are definitions. -/
import Derived.Test.YtjodgimhfafecaaSh
import Derived.Test.YtjodgimhfafecaaProg
set_option linter.unusedVariables false
namespace Go.Sh
open Go Go.Ev

def ttRows : List (Nat × TI) := [(3, ⟨.int .i64, 0, [], false, true⟩),
  (4, ⟨.bool, 0, [], false, true⟩),
  (5, ⟨.int .u8, 0, [], false, true⟩),
  (9, ⟨.str, 0, [], false, true⟩),
  (22, ⟨.list (.int .u32), 4, [], false, true⟩),
  (24, ⟨.st (.pair (.bool) (.list (.int .u32))), 0, [(0, .bool), (1, .list (.int .u32))], false, true⟩),
  (26, ⟨.st (.pair (.st (.pair (.bool) (.list (.int .u32)))) (.pair (.st (.pair (.bool) (.list (.int .u32)))) (.st (.pair (.bool) (.list (.int .u32)))))), 0, [(0, .st (.pair (.bool) (.list (.int .u32)))), (2, .st (.pair (.bool) (.list (.int .u32)))), (4, .st (.pair (.bool) (.list (.int .u32))))], false, true⟩),
  (28, ⟨.st (.pair (.int .i64) (.int .i64)), 0, [(0, .int .i64), (1, .int .i64)], true, true⟩),
  (35, ⟨.list (.int .i64), 8, [], false, true⟩),
  (37, ⟨.st (.pair (.bool) (.list (.int .i64))), 0, [(0, .bool), (1, .list (.int .i64))], false, true⟩),
  (41, ⟨.st (.pair (.st (.pair (.bool) (.list (.int .i64)))) (.pair (.st (.pair (.bool) (.list (.int .i64)))) (.pair (.st (.pair (.bool) (.list (.int .i64)))) (.st (.pair (.bool) (.list (.int .i64))))))), 0, [(0, .st (.pair (.bool) (.list (.int .i64)))), (2, .st (.pair (.bool) (.list (.int .i64)))), (4, .st (.pair (.bool) (.list (.int .i64)))), (6, .st (.pair (.bool) (.list (.int .i64))))], false, true⟩),
  (63, ⟨.list (.st (.pair (.bool) (.list (.int .u32)))), 32, [], false, true⟩),
  (72, ⟨.st (.pair (.st (.pair (.bool) (.list (.int .u32)))) (.pair (.st (.pair (.bool) (.list (.int .u32)))) (.st (.pair (.bool) (.list (.int .u32)))))), 0, [(0, .st (.pair (.bool) (.list (.int .u32)))), (2, .st (.pair (.bool) (.list (.int .u32)))), (4, .st (.pair (.bool) (.list (.int .u32))))], false, true⟩),
  (86, ⟨.list (.bool), 1, [], false, true⟩),
  (88, ⟨.int .u32, 0, [], false, true⟩),
  (94, ⟨.list (.st (.pair (.st (.pair (.bool) (.list (.int .u32)))) (.pair (.st (.pair (.bool) (.list (.int .u32)))) (.st (.pair (.bool) (.list (.int .u32))))))), 96, [], false, true⟩),
  (95, ⟨.int .u64, 0, [], false, true⟩)]
def tt : TypeId → TI := tiOf ttRows

def integer_Valid.tab  : List Entry := []
def integer_Valid.A : List PSh := [.dat (.st (.pair (.bool) (.list (.int .u32))))]
def integer_Valid.B : List RSh := [.dat (.bool)]
def integer_Valid.E  : Entry := { f := 61, A := integer_Valid.A, B := integer_Valid.B, run := fun x => integer_Valid x }

def ranges_fits.tab  : List Entry := [integer_Valid.E]
def ranges_fits.A : List PSh := [.dat (.st (.pair (.bool) (.list (.int .u32))))]
def ranges_fits.B : List RSh := [.dat (.bool)]
def ranges_fits.E  : Entry := { f := 62, A := ranges_fits.A, B := ranges_fits.B, run := fun x => ranges_fits x }

def ranges_Valid.tab  : List Entry := [ranges_fits.E]
def ranges_Valid.A : List PSh := [.dat (.st (.pair (.st (.pair (.bool) (.list (.int .u32)))) (.pair (.st (.pair (.bool) (.list (.int .u32)))) (.st (.pair (.bool) (.list (.int .u32)))))))]
def ranges_Valid.B : List RSh := [.dat (.bool)]
def ranges_Valid.E  : Entry := { f := 35, A := ranges_Valid.A, B := ranges_Valid.B, run := fun x => ranges_Valid x }

def ranges_at.tab  : List Entry := []
def ranges_at.A : List PSh := [.dat (.int .i64), .dat (.int .i64)]
def ranges_at.B : List RSh := [.dat (.st (.pair (.int .i64) (.int .i64)))]
def ranges_at.E  : Entry := { f := 60, A := ranges_at.A, B := ranges_at.B, run := fun x => ranges_at x.1 x.2 }

def ranges_check.tab (k : Nat) : List Entry := [ranges_Valid.E, ranges_at.E]
def ranges_check.A : List PSh := [.dat (.list (.st (.pair (.st (.pair (.bool) (.list (.int .u32)))) (.pair (.st (.pair (.bool) (.list (.int .u32)))) (.st (.pair (.bool) (.list (.int .u32))))))))]
def ranges_check.B : List RSh := [.dat (.st (.pair (.int .i64) (.int .i64)))]
def ranges_check.M0 : Mrk := ⟨[.box 22 [.st (.pair (.int .i64) (.int .i64))], .dat 5 (.list (.st (.pair (.st (.pair (.bool) (.list (.int .u32)))) (.pair (.st (.pair (.bool) (.list (.int .u32)))) (.st (.pair (.bool) (.list (.int .u32)))))))), .dat 6 (.int .i64), .dat 7 (.int .i64)], [.ptr 2 22 0]⟩
def ranges_check.O0 : Mrk := ⟨[.box 22 [.st (.pair (.int .i64) (.int .i64))]], [.ptr 2 22 0]⟩
def ranges_check.an0 (k : Nat) : Ann (denB ranges_check.B) := .loop ranges_check.M0 ranges_check.O0 0 fun x => ranges_check.l0 k k x.1 x.2.1 x.2.2.1 x.2.2.2
def ranges_check.E (k : Nat) : Entry := { f := 38, A := ranges_check.A, B := ranges_check.B, run := fun x => ranges_check k x }

def integer_Of.tab (k : Nat) : List Entry := []
def integer_Of.A : List PSh := [.dat (.int .i64)]
def integer_Of.B : List RSh := [.dat (.st (.pair (.bool) (.list (.int .u32))))]
def integer_Of.M0 : Mrk := ⟨[.dat 0 (.int .i64), .box 40 [.st (.pair (.bool) (.list (.int .u32)))], .own 4 (.int .u32)], [.ptr 2 40 0]⟩
def integer_Of.O0 : Mrk := ⟨[.dat 0 (.int .i64), .box 40 [.st (.pair (.bool) (.list (.int .u32)))], .own 4 (.int .u32)], [.ptr 2 40 0]⟩
def integer_Of.an0 (k : Nat) : Ann (denB integer_Of.B) := .loop integer_Of.M0 integer_Of.O0 0 fun x => integer_Of.l0 k k x.1 x.2.1 x.2.2
def integer_Of.E (k : Nat) : Entry := { f := 39, A := integer_Of.A, B := integer_Of.B, run := fun x => integer_Of k x }

def ranges_sign.tab (k : Nat) : List Entry := [integer_Of.E k]
def ranges_sign.A : List PSh := [.dat (.st (.pair (.st (.pair (.bool) (.list (.int .u32)))) (.pair (.st (.pair (.bool) (.list (.int .u32)))) (.st (.pair (.bool) (.list (.int .u32)))))))]
def ranges_sign.B : List RSh := [.dat (.st (.pair (.bool) (.list (.int .u32))))]
def ranges_sign.E (k : Nat) : Entry := { f := 64, A := ranges_sign.A, B := ranges_sign.B, run := fun x => ranges_sign k x }

def integer_at.tab  : List Entry := []
def integer_at.A : List PSh := [.dat (.int .i64), .dat (.int .i64)]
def integer_at.B : List RSh := [.dat (.st (.pair (.int .i64) (.int .i64)))]
def integer_at.E  : Entry := { f := 81, A := integer_at.A, B := integer_at.B, run := fun x => integer_at x.1 x.2 }

def integer_check.tab (k : Nat) : List Entry := [integer_Valid.E, integer_at.E]
def integer_check.A : List PSh := [.dat (.list (.st (.pair (.bool) (.list (.int .u32)))))]
def integer_check.B : List RSh := [.dat (.st (.pair (.int .i64) (.int .i64)))]
def integer_check.M0 : Mrk := ⟨[.box 22 [.st (.pair (.int .i64) (.int .i64))], .dat 5 (.list (.st (.pair (.bool) (.list (.int .u32))))), .dat 6 (.int .i64), .dat 7 (.int .i64)], [.ptr 2 22 0]⟩
def integer_check.O0 : Mrk := ⟨[.box 22 [.st (.pair (.int .i64) (.int .i64))]], [.ptr 2 22 0]⟩
def integer_check.an0 (k : Nat) : Ann (denB integer_check.B) := .loop integer_check.M0 integer_check.O0 0 fun x => integer_check.l0 k k x.1 x.2.1 x.2.2.1 x.2.2.2
def integer_check.E (k : Nat) : Entry := { f := 80, A := integer_check.A, B := integer_check.B, run := fun x => integer_check k x }

def natural_Valid.tab  : List Entry := []
def natural_Valid.A : List PSh := [.dat (.list (.int .u32))]
def natural_Valid.B : List RSh := [.dat (.bool)]
def natural_Valid.E  : Entry := { f := 100, A := natural_Valid.A, B := natural_Valid.B, run := fun x => natural_Valid x }

def natural_at.tab  : List Entry := []
def natural_at.A : List PSh := [.dat (.int .i64), .dat (.int .i64)]
def natural_at.B : List RSh := [.dat (.st (.pair (.int .i64) (.int .i64)))]
def natural_at.E  : Entry := { f := 95, A := natural_at.A, B := natural_at.B, run := fun x => natural_at x.1 x.2 }

def natural_check.tab  : List Entry := [natural_Valid.E, natural_at.E]
def natural_check.A : List PSh := [.dat (.list (.int .u32)), .dat (.list (.int .u32))]
def natural_check.B : List RSh := [.dat (.st (.pair (.int .i64) (.int .i64)))]
def natural_check.E  : Entry := { f := 91, A := natural_check.A, B := natural_check.B, run := fun x => natural_check x.1 x.2 }

def natural_trim_v.tab (k : Nat) : List Entry := []
def natural_trim_v.A : List PSh := [.view (.int .u32)]
def natural_trim_v.B : List RSh := [.cut 0 (.int .u32)]
def natural_trim_v.M0 : Mrk := ⟨[.blk 0 (.int .u32) 0, .part 0 0 (.int .u32)], []⟩
def natural_trim_v.O0 : Mrk := ⟨[.blk 0 (.int .u32) 0, .part 0 0 (.int .u32)], []⟩
def natural_trim_v.an0 (k : Nat) : Ann (denB natural_trim_v.B) := .loop natural_trim_v.M0 natural_trim_v.O0 0 fun x => natural_trim_v.l0 k k x.1 x.2
def natural_trim_v.E (k : Nat) : Entry := { f := 102, A := natural_trim_v.A, B := natural_trim_v.B, run := fun x => natural_trim_v k x }

def natural_mul.tab (k : Nat) : List Entry := [natural_trim_v.E k]
def natural_mul.A : List PSh := [.dat (.list (.int .u32)), .dat (.list (.int .u32))]
def natural_mul.B : List RSh := [.own (.int .u32)]
def natural_mul.M1 : Mrk := ⟨[.dat 1 (.list (.int .u32)), .own 5 (.int .u32), .dat 6 (.int .i64), .dat 7 (.int .u32), .dat 8 (.int .u64), .dat 17 (.list (.int .u32)), .dat 18 (.int .i64), .dat 19 (.int .i64), .dat 24 (.list (.int .u32)), .dat 25 (.int .i64), .dat 26 (.int .i64)], []⟩
def natural_mul.O1 : Mrk := ⟨[.dat 1 (.list (.int .u32)), .own 5 (.int .u32), .dat 6 (.int .i64), .dat 8 (.int .u64), .dat 17 (.list (.int .u32)), .dat 18 (.int .i64), .dat 19 (.int .i64)], []⟩
def natural_mul.an1 (k : Nat) : Ann (denB natural_mul.B) := .loop natural_mul.M1 natural_mul.O1 2 fun x => natural_mul.l1 k k x.1 x.2.1 x.2.2.1 x.2.2.2.1 x.2.2.2.2.1 x.2.2.2.2.2.1 x.2.2.2.2.2.2.1 x.2.2.2.2.2.2.2.1 x.2.2.2.2.2.2.2.2.1 x.2.2.2.2.2.2.2.2.2.1 x.2.2.2.2.2.2.2.2.2.2
def natural_mul.M0 : Mrk := ⟨[.dat 1 (.list (.int .u32)), .own 5 (.int .u32), .dat 17 (.list (.int .u32)), .dat 18 (.int .i64), .dat 19 (.int .i64)], []⟩
def natural_mul.O0 : Mrk := ⟨[.own 5 (.int .u32)], []⟩
def natural_mul.an0 (k : Nat) : Ann (denB natural_mul.B) := .loop natural_mul.M0 natural_mul.O0 0 fun x => natural_mul.l0 k k x.1 x.2.1 x.2.2.1 x.2.2.2.1 x.2.2.2.2
def natural_mul.E (k : Nat) : Entry := { f := 99, A := natural_mul.A, B := natural_mul.B, run := fun x => natural_mul k x.1 x.2 }

def natural_trim.tab (k : Nat) : List Entry := []
def natural_trim.A : List PSh := [.dat (.list (.int .u32))]
def natural_trim.B : List RSh := [.dat (.list (.int .u32))]
def natural_trim.M0 : Mrk := ⟨[.dat 0 (.list (.int .u32))], []⟩
def natural_trim.O0 : Mrk := ⟨[.dat 0 (.list (.int .u32))], []⟩
def natural_trim.an0 (k : Nat) : Ann (denB natural_trim.B) := .loop natural_trim.M0 natural_trim.O0 0 fun x => natural_trim.l0 k k x
def natural_trim.E (k : Nat) : Entry := { f := 102, A := natural_trim.A, B := natural_trim.B, run := fun x => natural_trim k x }

def natural_fit.tab (k : Nat) : List Entry := [natural_trim.E k, natural_at.E]
def natural_fit.A : List PSh := [.dat (.list (.int .u32))]
def natural_fit.B : List RSh := [.dat (.list (.int .u32)), .dat (.st (.pair (.int .i64) (.int .i64)))]
def natural_fit.E (k : Nat) : Entry := { f := 96, A := natural_fit.A, B := natural_fit.B, run := fun x => natural_fit k x }

def natural_Mul.tab (k : Nat) : List Entry := [natural_check.E, natural_mul.E k, natural_fit.E k]
def natural_Mul.A : List PSh := [.dat (.list (.int .u32)), .dat (.list (.int .u32))]
def natural_Mul.B : List RSh := [.dat (.list (.int .u32)), .dat (.st (.pair (.int .i64) (.int .i64)))]
def natural_Mul.E (k : Nat) : Entry := { f := 89, A := natural_Mul.A, B := natural_Mul.B, run := fun x => natural_Mul k x.1 x.2 }

def integer_signed.tab  : List Entry := [integer_at.E]
def integer_signed.A : List PSh := [.dat (.bool), .dat (.list (.int .u32))]
def integer_signed.B : List RSh := [.dat (.st (.pair (.bool) (.list (.int .u32)))), .dat (.st (.pair (.int .i64) (.int .i64)))]
def integer_signed.E  : Entry := { f := 83, A := integer_signed.A, B := integer_signed.B, run := fun x => integer_signed x.1 x.2 }

def integer_Mul.tab (k : Nat) : List Entry := [integer_check.E k, natural_Mul.E k, integer_signed.E]
def integer_Mul.A : List PSh := [.dat (.st (.pair (.bool) (.list (.int .u32)))), .dat (.st (.pair (.bool) (.list (.int .u32))))]
def integer_Mul.B : List RSh := [.dat (.st (.pair (.bool) (.list (.int .u32)))), .dat (.st (.pair (.int .i64) (.int .i64)))]
def integer_Mul.E (k : Nat) : Entry := { f := 74, A := integer_Mul.A, B := integer_Mul.B, run := fun x => integer_Mul k x.1 x.2 }

def ranges_mul.tab (k : Nat) : List Entry := [integer_Mul.E k]
def ranges_mul.A : List PSh := [.dat (.st (.pair (.bool) (.list (.int .u32)))), .dat (.st (.pair (.bool) (.list (.int .u32))))]
def ranges_mul.B : List RSh := [.dat (.st (.pair (.bool) (.list (.int .u32))))]
def ranges_mul.E (k : Nat) : Entry := { f := 48, A := ranges_mul.A, B := ranges_mul.B, run := fun x => ranges_mul k x.1 x.2 }

def natural_compare.tab (k : Nat) : List Entry := []
def natural_compare.A : List PSh := [.dat (.list (.int .u32)), .dat (.list (.int .u32))]
def natural_compare.B : List RSh := [.dat (.int .i64)]
def natural_compare.M0 : Mrk := ⟨[.dat 0 (.list (.int .u32)), .dat 1 (.list (.int .u32)), .dat 5 (.int .i64)], []⟩
def natural_compare.O0 : Mrk := ⟨[], []⟩
def natural_compare.an0 (k : Nat) : Ann (denB natural_compare.B) := .loop natural_compare.M0 natural_compare.O0 0 fun x => natural_compare.l0 k k x.1 x.2.1 x.2.2
def natural_compare.E (k : Nat) : Entry := { f := 94, A := natural_compare.A, B := natural_compare.B, run := fun x => natural_compare k x.1 x.2 }

def natural_Cmp.tab (k : Nat) : List Entry := [natural_check.E, natural_compare.E k]
def natural_Cmp.A : List PSh := [.dat (.list (.int .u32)), .dat (.list (.int .u32))]
def natural_Cmp.B : List RSh := [.dat (.int .i64), .dat (.st (.pair (.int .i64) (.int .i64)))]
def natural_Cmp.E (k : Nat) : Entry := { f := 84, A := natural_Cmp.A, B := natural_Cmp.B, run := fun x => natural_Cmp k x.1 x.2 }

def integer_Cmp.tab (k : Nat) : List Entry := [integer_check.E k, natural_Cmp.E k]
def integer_Cmp.A : List PSh := [.dat (.st (.pair (.bool) (.list (.int .u32)))), .dat (.st (.pair (.bool) (.list (.int .u32))))]
def integer_Cmp.B : List RSh := [.dat (.int .i64), .dat (.st (.pair (.int .i64) (.int .i64)))]
def integer_Cmp.E (k : Nat) : Entry := { f := 70, A := integer_Cmp.A, B := integer_Cmp.B, run := fun x => integer_Cmp k x.1 x.2 }

def ranges_less.tab (k : Nat) : List Entry := [integer_Cmp.E k]
def ranges_less.A : List PSh := [.dat (.st (.pair (.bool) (.list (.int .u32)))), .dat (.st (.pair (.bool) (.list (.int .u32))))]
def ranges_less.B : List RSh := [.dat (.bool)]
def ranges_less.E (k : Nat) : Entry := { f := 44, A := ranges_less.A, B := ranges_less.B, run := fun x => ranges_less k x.1 x.2 }

def natural_add.tab (k : Nat) : List Entry := [natural_trim_v.E k]
def natural_add.A : List PSh := [.dat (.list (.int .u32)), .dat (.list (.int .u32))]
def natural_add.B : List RSh := [.own (.int .u32)]
def natural_add.M0 : Mrk := ⟨[.dat 1 (.list (.int .u32)), .own 5 (.int .u32), .dat 6 (.int .u64), .dat 20 (.list (.int .u32)), .dat 21 (.int .i64), .dat 22 (.int .i64)], []⟩
def natural_add.O0 : Mrk := ⟨[.own 5 (.int .u32), .dat 6 (.int .u64)], []⟩
def natural_add.an0 (k : Nat) : Ann (denB natural_add.B) := .loop natural_add.M0 natural_add.O0 0 fun x => natural_add.l0 k k x.1 x.2.1 x.2.2.1 x.2.2.2.1 x.2.2.2.2.1 x.2.2.2.2.2
def natural_add.E (k : Nat) : Entry := { f := 97, A := natural_add.A, B := natural_add.B, run := fun x => natural_add k x.1 x.2 }

def natural_Add.tab (k : Nat) : List Entry := [natural_check.E, natural_add.E k, natural_fit.E k]
def natural_Add.A : List PSh := [.dat (.list (.int .u32)), .dat (.list (.int .u32))]
def natural_Add.B : List RSh := [.dat (.list (.int .u32)), .dat (.st (.pair (.int .i64) (.int .i64)))]
def natural_Add.E (k : Nat) : Entry := { f := 86, A := natural_Add.A, B := natural_Add.B, run := fun x => natural_Add k x.1 x.2 }

def slices_Clone_uint32uint32.A : List PSh := [.dat (.list (.int .u32))]
def slices_Clone_uint32uint32.B : List RSh := [.own (.int .u32)]
def slices_Clone_uint32uint32.E : Entry := { f := 92, A := slices_Clone_uint32uint32.A, B := slices_Clone_uint32uint32.B, run := fun x => slices_Clone_uint32uint32 x }

def bits_Sub32.tab  : List Entry := []
def bits_Sub32.A : List PSh := [.dat (.int .u32), .dat (.int .u32), .dat (.int .u32)]
def bits_Sub32.B : List RSh := [.dat (.int .u32), .dat (.int .u32)]
def bits_Sub32.E  : Entry := { f := 104, A := bits_Sub32.A, B := bits_Sub32.B, run := fun x => bits_Sub32 x.1 x.2.1 x.2.2 }

def natural_sub.tab (k : Nat) : List Entry := [slices_Clone_uint32uint32.E, bits_Sub32.E, natural_trim_v.E k]
def natural_sub.A : List PSh := [.dat (.list (.int .u32)), .dat (.list (.int .u32))]
def natural_sub.B : List RSh := [.own (.int .u32)]
def natural_sub.M0 : Mrk := ⟨[.dat 1 (.list (.int .u32)), .own 5 (.int .u32), .dat 6 (.int .u32), .dat 12 (.int .i64), .dat 13 (.int .i64)], []⟩
def natural_sub.O0 : Mrk := ⟨[.own 5 (.int .u32)], []⟩
def natural_sub.an0 (k : Nat) : Ann (denB natural_sub.B) := .loop natural_sub.M0 natural_sub.O0 0 fun x => natural_sub.l0 k k x.1 x.2.1 x.2.2.1 x.2.2.2.1 x.2.2.2.2
def natural_sub.E (k : Nat) : Entry := { f := 98, A := natural_sub.A, B := natural_sub.B, run := fun x => natural_sub k x.1 x.2 }

def natural_Sub.tab (k : Nat) : List Entry := [natural_check.E, natural_compare.E k, natural_at.E, natural_sub.E k]
def natural_Sub.A : List PSh := [.dat (.list (.int .u32)), .dat (.list (.int .u32))]
def natural_Sub.B : List RSh := [.dat (.list (.int .u32)), .dat (.st (.pair (.int .i64) (.int .i64)))]
def natural_Sub.E (k : Nat) : Entry := { f := 87, A := natural_Sub.A, B := natural_Sub.B, run := fun x => natural_Sub k x.1 x.2 }

def integer_plus.tab (k : Nat) : List Entry := [natural_Add.E k, integer_signed.E, natural_Cmp.E k, natural_Sub.E k]
def integer_plus.A : List PSh := [.dat (.st (.pair (.bool) (.list (.int .u32)))), .dat (.st (.pair (.bool) (.list (.int .u32))))]
def integer_plus.B : List RSh := [.dat (.st (.pair (.bool) (.list (.int .u32)))), .dat (.st (.pair (.int .i64) (.int .i64)))]
def integer_plus.E (k : Nat) : Entry := { f := 88, A := integer_plus.A, B := integer_plus.B, run := fun x => integer_plus k x.1 x.2 }

def integer_Sub.tab (k : Nat) : List Entry := [integer_check.E k, integer_plus.E k]
def integer_Sub.A : List PSh := [.dat (.st (.pair (.bool) (.list (.int .u32)))), .dat (.st (.pair (.bool) (.list (.int .u32))))]
def integer_Sub.B : List RSh := [.dat (.st (.pair (.bool) (.list (.int .u32)))), .dat (.st (.pair (.int .i64) (.int .i64)))]
def integer_Sub.E (k : Nat) : Entry := { f := 73, A := integer_Sub.A, B := integer_Sub.B, run := fun x => integer_Sub k x.1 x.2 }

def ranges_sub.tab (k : Nat) : List Entry := [integer_Sub.E k]
def ranges_sub.A : List PSh := [.dat (.st (.pair (.bool) (.list (.int .u32)))), .dat (.st (.pair (.bool) (.list (.int .u32))))]
def ranges_sub.B : List RSh := [.dat (.st (.pair (.bool) (.list (.int .u32))))]
def ranges_sub.E (k : Nat) : Entry := { f := 47, A := ranges_sub.A, B := ranges_sub.B, run := fun x => ranges_sub k x.1 x.2 }

def integer_Add.tab (k : Nat) : List Entry := [integer_check.E k, integer_plus.E k]
def integer_Add.A : List PSh := [.dat (.st (.pair (.bool) (.list (.int .u32)))), .dat (.st (.pair (.bool) (.list (.int .u32))))]
def integer_Add.B : List RSh := [.dat (.st (.pair (.bool) (.list (.int .u32)))), .dat (.st (.pair (.int .i64) (.int .i64)))]
def integer_Add.E (k : Nat) : Entry := { f := 72, A := integer_Add.A, B := integer_Add.B, run := fun x => integer_Add k x.1 x.2 }

def ranges_add.tab (k : Nat) : List Entry := [integer_Add.E k]
def ranges_add.A : List PSh := [.dat (.st (.pair (.bool) (.list (.int .u32)))), .dat (.st (.pair (.bool) (.list (.int .u32))))]
def ranges_add.B : List RSh := [.dat (.st (.pair (.bool) (.list (.int .u32))))]
def ranges_add.E (k : Nat) : Entry := { f := 46, A := ranges_add.A, B := ranges_add.B, run := fun x => ranges_add k x.1 x.2 }

def bits_Div32.tab  : List Entry := []
def bits_Div32.A : List PSh := [.dat (.int .u32), .dat (.int .u32), .dat (.int .u32)]
def bits_Div32.B : List RSh := [.dat (.int .u32), .dat (.int .u32)]
def bits_Div32.E  : Entry := { f := 105, A := bits_Div32.A, B := bits_Div32.B, run := fun x => bits_Div32 x.1 x.2.1 x.2.2 }

def natural_short.tab (k : Nat) : List Entry := [bits_Div32.E, natural_trim_v.E k]
def natural_short.A : List PSh := [.dat (.list (.int .u32)), .dat (.int .u32)]
def natural_short.B : List RSh := [.dat (.list (.int .u32)), .dat (.int .u32)]
def natural_short.M0 : Mrk := ⟨[.dat 0 (.list (.int .u32)), .dat 1 (.int .u32), .own 6 (.int .u32), .dat 7 (.int .u32), .dat 8 (.int .i64)], []⟩
def natural_short.O0 : Mrk := ⟨[.own 6 (.int .u32), .dat 7 (.int .u32)], []⟩
def natural_short.an0 (k : Nat) : Ann (denB natural_short.B) := .loop natural_short.M0 natural_short.O0 0 fun x => natural_short.l0 k k x.1 x.2.1 x.2.2.1 x.2.2.2.1 x.2.2.2.2
def natural_short.E (k : Nat) : Entry := { f := 101, A := natural_short.A, B := natural_short.B, run := fun x => natural_short k x.1 x.2 }

def bits_Len32.tab  : List Entry := []
def bits_Len32.A : List PSh := [.dat (.int .u32)]
def bits_Len32.B : List RSh := [.dat (.int .i64)]
def bits_Len32.E  : Entry := { f := 110, A := bits_Len32.A, B := bits_Len32.B, run := fun x => bits_Len32 x }

def bits_LeadingZeros32.tab  : List Entry := [bits_Len32.E]
def bits_LeadingZeros32.A : List PSh := [.dat (.int .u32)]
def bits_LeadingZeros32.B : List RSh := [.dat (.int .i64)]
def bits_LeadingZeros32.E  : Entry := { f := 106, A := bits_LeadingZeros32.A, B := bits_LeadingZeros32.B, run := fun x => bits_LeadingZeros32 x }

def natural_left.tab (k : Nat) : List Entry := [natural_trim_v.E k]
def natural_left.A : List PSh := [.dat (.list (.int .u32)), .dat (.int .i64)]
def natural_left.B : List RSh := [.own (.int .u32)]
def natural_left.M0 : Mrk := ⟨[.dat 1 (.int .i64), .own 5 (.int .u32), .dat 6 (.int .u32), .dat 19 (.list (.int .u32)), .dat 20 (.int .i64), .dat 21 (.int .i64)], []⟩
def natural_left.O0 : Mrk := ⟨[.own 5 (.int .u32), .dat 6 (.int .u32)], []⟩
def natural_left.an0 (k : Nat) : Ann (denB natural_left.B) := .loop natural_left.M0 natural_left.O0 0 fun x => natural_left.l0 k k x.1 x.2.1 x.2.2.1 x.2.2.2.1 x.2.2.2.2.1 x.2.2.2.2.2
def natural_left.E (k : Nat) : Entry := { f := 107, A := natural_left.A, B := natural_left.B, run := fun x => natural_left k x.1 x.2 }

def bits_Add32.tab  : List Entry := []
def bits_Add32.A : List PSh := [.dat (.int .u32), .dat (.int .u32), .dat (.int .u32)]
def bits_Add32.B : List RSh := [.dat (.int .u32), .dat (.int .u32)]
def bits_Add32.E  : Entry := { f := 111, A := bits_Add32.A, B := bits_Add32.B, run := fun x => bits_Add32 x.1 x.2.1 x.2.2 }

def natural_digit_ld.tab (k : Nat) : List Entry := [bits_Sub32.E, bits_Add32.E]
def natural_digit_ld.A : List PSh := [.lent (.int .u32), .dat (.list (.int .u32))]
def natural_digit_ld.B : List RSh := [.dat (.int .u32), .fin 0 (.int .u32)]
def natural_digit_ld.M2 : Mrk := ⟨[.blk 0 (.int .u32) 1, .dat 1 (.list (.int .u32)), .dat 5 (.int .i64), .dat 8 (.int .u64), .dat 13 (.int .u32), .dat 111 (.int .i64), .dat 112 (.int .i64)], [.ref 0 0]⟩
def natural_digit_ld.O2 : Mrk := ⟨[.blk 0 (.int .u32) 1, .dat 5 (.int .i64), .dat 8 (.int .u64), .dat 13 (.int .u32)], [.ref 0 0]⟩
def natural_digit_ld.an2 (k : Nat) : Ann (denB natural_digit_ld.B) := .loop natural_digit_ld.M2 natural_digit_ld.O2 4 fun x => natural_digit_ld.l2 k k x.1 x.2.1 x.2.2.1 x.2.2.2.1 x.2.2.2.2.1 x.2.2.2.2.2.1 x.2.2.2.2.2.2
def natural_digit_ld.M1 : Mrk := ⟨[.blk 0 (.int .u32) 1, .dat 1 (.list (.int .u32)), .dat 5 (.int .i64), .dat 8 (.int .u64), .dat 10 (.int .u64), .dat 11 (.int .u32), .dat 74 (.int .i64), .dat 75 (.int .i64)], [.ref 0 0]⟩
def natural_digit_ld.O1 : Mrk := ⟨[.blk 0 (.int .u32) 1, .dat 1 (.list (.int .u32)), .dat 5 (.int .i64), .dat 8 (.int .u64), .dat 11 (.int .u32)], [.ref 0 0]⟩
def natural_digit_ld.an1 (k : Nat) : Ann (denB natural_digit_ld.B) := .loop natural_digit_ld.M1 natural_digit_ld.O1 2 fun x => natural_digit_ld.l1 k k x.1 x.2.1 x.2.2.1 x.2.2.2.1 x.2.2.2.2.1 x.2.2.2.2.2.1 x.2.2.2.2.2.2.1 x.2.2.2.2.2.2.2
def natural_digit_ld.M0 : Mrk := ⟨[.blk 0 (.int .u32) 1, .dat 1 (.list (.int .u32)), .dat 5 (.int .i64), .dat 7 (.int .u64), .dat 8 (.int .u64), .dat 9 (.int .u64)], [.ref 0 0]⟩
def natural_digit_ld.O0 : Mrk := ⟨[.blk 0 (.int .u32) 1, .dat 1 (.list (.int .u32)), .dat 5 (.int .i64), .dat 8 (.int .u64)], [.ref 0 0]⟩
def natural_digit_ld.an0 (k : Nat) : Ann (denB natural_digit_ld.B) := .loop natural_digit_ld.M0 natural_digit_ld.O0 0 fun x => natural_digit_ld.l0 k k x.1 x.2.1 x.2.2.1 x.2.2.2.1 x.2.2.2.2.1 x.2.2.2.2.2
def natural_digit_ld.E (k : Nat) : Entry := { f := 108, A := natural_digit_ld.A, B := natural_digit_ld.B, run := fun x => natural_digit_ld k x.1 x.2 }

def natural_right.tab (k : Nat) : List Entry := [natural_trim_v.E k]
def natural_right.A : List PSh := [.dat (.list (.int .u32)), .dat (.int .i64)]
def natural_right.B : List RSh := [.own (.int .u32)]
def natural_right.M0 : Mrk := ⟨[.dat 0 (.list (.int .u32)), .dat 1 (.int .i64), .own 5 (.int .u32), .dat 6 (.int .i64)], []⟩
def natural_right.O0 : Mrk := ⟨[.own 5 (.int .u32)], []⟩
def natural_right.an0 (k : Nat) : Ann (denB natural_right.B) := .loop natural_right.M0 natural_right.O0 0 fun x => natural_right.l0 k k x.1 x.2.1 x.2.2.1 x.2.2.2
def natural_right.E (k : Nat) : Entry := { f := 109, A := natural_right.A, B := natural_right.B, run := fun x => natural_right k x.1 x.2 }

def natural_divide.tab (k : Nat) : List Entry := [bits_LeadingZeros32.E, natural_left.E k, natural_digit_ld.E k, natural_trim_v.E k, natural_right.E k]
def natural_divide.A : List PSh := [.dat (.list (.int .u32)), .dat (.list (.int .u32))]
def natural_divide.B : List RSh := [.dat (.list (.int .u32)), .dat (.list (.int .u32))]
def natural_divide.M1 : Mrk := ⟨[.dat 6 (.int .i64), .dat 7 (.int .i64), .own 8 (.int .u32), .own 9 (.int .u32), .own 10 (.int .u32), .dat 11 (.int .i64)], []⟩
def natural_divide.O1 : Mrk := ⟨[.dat 6 (.int .i64), .dat 7 (.int .i64), .own 9 (.int .u32), .own 10 (.int .u32)], []⟩
def natural_divide.an1 (k : Nat) : Ann (denB natural_divide.B) := .loop natural_divide.M1 natural_divide.O1 2 fun x => natural_divide.l1 k k x.1 x.2.1 x.2.2.1 x.2.2.2.1 x.2.2.2.2.1 x.2.2.2.2.2
def natural_divide.M0 : Mrk := ⟨[.dat 0 (.list (.int .u32)), .dat 6 (.int .i64), .dat 7 (.int .i64), .own 8 (.int .u32), .own 9 (.int .u32)], []⟩
def natural_divide.O0 : Mrk := ⟨[.dat 6 (.int .i64), .dat 7 (.int .i64), .own 8 (.int .u32), .own 9 (.int .u32)], []⟩
def natural_divide.an0 (k : Nat) : Ann (denB natural_divide.B) := .loop natural_divide.M0 natural_divide.O0 0 fun x => natural_divide.l0 k k x.1 x.2.1 x.2.2.1 x.2.2.2.1 x.2.2.2.2
def natural_divide.E (k : Nat) : Entry := { f := 103, A := natural_divide.A, B := natural_divide.B, run := fun x => natural_divide k x.1 x.2 }

def natural_divMod.tab (k : Nat) : List Entry := [natural_compare.E k, slices_Clone_uint32uint32.E, natural_short.E k, natural_trim_v.E k, natural_divide.E k]
def natural_divMod.A : List PSh := [.dat (.list (.int .u32)), .dat (.list (.int .u32))]
def natural_divMod.B : List RSh := [.dat (.list (.int .u32)), .dat (.list (.int .u32))]
def natural_divMod.E (k : Nat) : Entry := { f := 93, A := natural_divMod.A, B := natural_divMod.B, run := fun x => natural_divMod k x.1 x.2 }

def natural_DivMod.tab (k : Nat) : List Entry := [natural_check.E, natural_at.E, natural_divMod.E k]
def natural_DivMod.A : List PSh := [.dat (.list (.int .u32)), .dat (.list (.int .u32))]
def natural_DivMod.B : List RSh := [.dat (.list (.int .u32)), .dat (.list (.int .u32)), .dat (.st (.pair (.int .i64) (.int .i64)))]
def natural_DivMod.E (k : Nat) : Entry := { f := 85, A := natural_DivMod.A, B := natural_DivMod.B, run := fun x => natural_DivMod k x.1 x.2 }

def integer_DivMod.tab (k : Nat) : List Entry := [integer_check.E k, natural_DivMod.E k, natural_Add.E k, natural_Sub.E k, integer_signed.E]
def integer_DivMod.A : List PSh := [.dat (.st (.pair (.bool) (.list (.int .u32)))), .dat (.st (.pair (.bool) (.list (.int .u32))))]
def integer_DivMod.B : List RSh := [.dat (.st (.pair (.bool) (.list (.int .u32)))), .dat (.st (.pair (.bool) (.list (.int .u32)))), .dat (.st (.pair (.int .i64) (.int .i64)))]
def integer_DivMod.E (k : Nat) : Entry := { f := 71, A := integer_DivMod.A, B := integer_DivMod.B, run := fun x => integer_DivMod k x.1 x.2 }

def ranges_divMod.tab (k : Nat) : List Entry := [integer_DivMod.E k]
def ranges_divMod.A : List PSh := [.dat (.st (.pair (.bool) (.list (.int .u32)))), .dat (.st (.pair (.bool) (.list (.int .u32))))]
def ranges_divMod.B : List RSh := [.dat (.st (.pair (.bool) (.list (.int .u32)))), .dat (.st (.pair (.bool) (.list (.int .u32))))]
def ranges_divMod.E (k : Nat) : Entry := { f := 45, A := ranges_divMod.A, B := ranges_divMod.B, run := fun x => ranges_divMod k x.1 x.2 }

def ranges_length.tab (k : Nat) : List Entry := [ranges_sign.E k, ranges_mul.E k, ranges_less.E k, ranges_sub.E k, integer_Of.E k, ranges_add.E k, ranges_divMod.E k]
def ranges_length.A : List PSh := [.dat (.st (.pair (.st (.pair (.bool) (.list (.int .u32)))) (.pair (.st (.pair (.bool) (.list (.int .u32)))) (.st (.pair (.bool) (.list (.int .u32)))))))]
def ranges_length.B : List RSh := [.dat (.st (.pair (.bool) (.list (.int .u32))))]
def ranges_length.E (k : Nat) : Entry := { f := 41, A := ranges_length.A, B := ranges_length.B, run := fun x => ranges_length k x }

def ranges_zero.tab  : List Entry := []
def ranges_zero.A : List PSh := [.dat (.st (.pair (.bool) (.list (.int .u32))))]
def ranges_zero.B : List RSh := [.dat (.bool)]
def ranges_zero.E  : Entry := { f := 40, A := ranges_zero.A, B := ranges_zero.B, run := fun x => ranges_zero x }

def ranges_element.tab (k : Nat) : List Entry := [ranges_mul.E k, ranges_add.E k]
def ranges_element.A : List PSh := [.dat (.st (.pair (.st (.pair (.bool) (.list (.int .u32)))) (.pair (.st (.pair (.bool) (.list (.int .u32)))) (.st (.pair (.bool) (.list (.int .u32))))))), .dat (.st (.pair (.bool) (.list (.int .u32))))]
def ranges_element.B : List RSh := [.dat (.st (.pair (.bool) (.list (.int .u32))))]
def ranges_element.E (k : Nat) : Entry := { f := 65, A := ranges_element.A, B := ranges_element.B, run := fun x => ranges_element k x.1 x.2 }

def ranges_upward.tab (k : Nat) : List Entry := [ranges_length.E k, integer_Of.E k, ranges_sub.E k, ranges_element.E k]
def ranges_upward.A : List PSh := [.dat (.st (.pair (.st (.pair (.bool) (.list (.int .u32)))) (.pair (.st (.pair (.bool) (.list (.int .u32)))) (.st (.pair (.bool) (.list (.int .u32)))))))]
def ranges_upward.B : List RSh := [.dat (.st (.pair (.st (.pair (.bool) (.list (.int .u32)))) (.pair (.st (.pair (.bool) (.list (.int .u32)))) (.st (.pair (.bool) (.list (.int .u32)))))))]
def ranges_upward.E (k : Nat) : Entry := { f := 42, A := ranges_upward.A, B := ranges_upward.B, run := fun x => ranges_upward k x }

def natural_Gcd.tab (k : Nat) : List Entry := [natural_check.E, slices_Clone_uint32uint32.E, natural_divMod.E k]
def natural_Gcd.A : List PSh := [.dat (.list (.int .u32)), .dat (.list (.int .u32))]
def natural_Gcd.B : List RSh := [.dat (.list (.int .u32)), .dat (.st (.pair (.int .i64) (.int .i64)))]
def natural_Gcd.M0 : Mrk := ⟨[.own 0 (.int .u32), .dat 1 (.list (.int .u32)), .box 37 [.st (.pair (.int .i64) (.int .i64))]], [.ptr 5 37 0]⟩
def natural_Gcd.O0 : Mrk := ⟨[.own 0 (.int .u32), .box 37 [.st (.pair (.int .i64) (.int .i64))]], [.ptr 5 37 0]⟩
def natural_Gcd.an0 (k : Nat) : Ann (denB natural_Gcd.B) := .loop natural_Gcd.M0 natural_Gcd.O0 0 fun x => natural_Gcd.l0 k k x.1 x.2.1 x.2.2
def natural_Gcd.E (k : Nat) : Entry := { f := 82, A := natural_Gcd.A, B := natural_Gcd.B, run := fun x => natural_Gcd k x.1 x.2 }

def integer_Gcd.tab (k : Nat) : List Entry := [integer_check.E k, natural_Gcd.E k, integer_signed.E]
def integer_Gcd.A : List PSh := [.dat (.st (.pair (.bool) (.list (.int .u32)))), .dat (.st (.pair (.bool) (.list (.int .u32))))]
def integer_Gcd.B : List RSh := [.dat (.st (.pair (.bool) (.list (.int .u32)))), .dat (.st (.pair (.int .i64) (.int .i64)))]
def integer_Gcd.E (k : Nat) : Entry := { f := 68, A := integer_Gcd.A, B := integer_Gcd.B, run := fun x => integer_Gcd k x.1 x.2 }

def ranges_inverse.tab (k : Nat) : List Entry := [integer_Of.E k, ranges_divMod.E k, ranges_zero.E, ranges_mul.E k, ranges_sub.E k]
def ranges_inverse.A : List PSh := [.dat (.st (.pair (.bool) (.list (.int .u32)))), .dat (.st (.pair (.bool) (.list (.int .u32))))]
def ranges_inverse.B : List RSh := [.dat (.st (.pair (.bool) (.list (.int .u32))))]
def ranges_inverse.M0 : Mrk := ⟨[.box 48 [.st (.pair (.bool) (.list (.int .u32)))], .box 49 [.st (.pair (.bool) (.list (.int .u32)))], .box 50 [.st (.pair (.bool) (.list (.int .u32)))], .box 51 [.st (.pair (.bool) (.list (.int .u32)))], .box 52 [.st (.pair (.bool) (.list (.int .u32)))], .box 54 [.st (.pair (.bool) (.list (.int .u32)))]], [.ptr 3 48 0, .ptr 4 49 0, .ptr 5 50 0, .ptr 6 51 0, .ptr 7 52 0, .ptr 9 54 0]⟩
def ranges_inverse.O0 : Mrk := ⟨[.box 48 [.st (.pair (.bool) (.list (.int .u32)))], .box 49 [.st (.pair (.bool) (.list (.int .u32)))], .box 50 [.st (.pair (.bool) (.list (.int .u32)))]], [.ptr 3 48 0, .ptr 4 49 0, .ptr 5 50 0]⟩
def ranges_inverse.an0 (k : Nat) : Ann (denB ranges_inverse.B) := .loop ranges_inverse.M0 ranges_inverse.O0 0 fun x => ranges_inverse.l0 k k x.1 x.2.1 x.2.2.1 x.2.2.2.1 x.2.2.2.2.1 x.2.2.2.2.2
def ranges_inverse.E (k : Nat) : Entry := { f := 69, A := ranges_inverse.A, B := ranges_inverse.B, run := fun x => ranges_inverse k x.1 x.2 }

def ranges_common.tab (k : Nat) : List Entry := [integer_Gcd.E k, ranges_sub.E k, ranges_divMod.E k, ranges_zero.E, ranges_inverse.E k, ranges_mul.E k, ranges_add.E k]
def ranges_common.A : List PSh := [.dat (.st (.pair (.st (.pair (.bool) (.list (.int .u32)))) (.pair (.st (.pair (.bool) (.list (.int .u32)))) (.st (.pair (.bool) (.list (.int .u32))))))), .dat (.st (.pair (.st (.pair (.bool) (.list (.int .u32)))) (.pair (.st (.pair (.bool) (.list (.int .u32)))) (.st (.pair (.bool) (.list (.int .u32)))))))]
def ranges_common.B : List RSh := [.dat (.st (.pair (.bool) (.list (.int .u32)))), .dat (.st (.pair (.bool) (.list (.int .u32)))), .dat (.bool)]
def ranges_common.E (k : Nat) : Entry := { f := 43, A := ranges_common.A, B := ranges_common.B, run := fun x => ranges_common k x.1 x.2 }

def ranges_plain.tab (k : Nat) : List Entry := [ranges_length.E k, ranges_zero.E, integer_Of.E k, ranges_sub.E k, ranges_element.E k, ranges_add.E k, ranges_sign.E k, ranges_less.E k]
def ranges_plain.A : List PSh := [.dat (.st (.pair (.st (.pair (.bool) (.list (.int .u32)))) (.pair (.st (.pair (.bool) (.list (.int .u32)))) (.st (.pair (.bool) (.list (.int .u32)))))))]
def ranges_plain.B : List RSh := [.dat (.st (.pair (.st (.pair (.bool) (.list (.int .u32)))) (.pair (.st (.pair (.bool) (.list (.int .u32)))) (.st (.pair (.bool) (.list (.int .u32)))))))]
def ranges_plain.E (k : Nat) : Entry := { f := 50, A := ranges_plain.A, B := ranges_plain.B, run := fun x => ranges_plain k x }

def ranges_whole.tab  : List Entry := [ranges_Valid.E, ranges_at.E]
def ranges_whole.A : List PSh := [.dat (.st (.pair (.st (.pair (.bool) (.list (.int .u32)))) (.pair (.st (.pair (.bool) (.list (.int .u32)))) (.st (.pair (.bool) (.list (.int .u32)))))))]
def ranges_whole.B : List RSh := [.dat (.st (.pair (.st (.pair (.bool) (.list (.int .u32)))) (.pair (.st (.pair (.bool) (.list (.int .u32)))) (.st (.pair (.bool) (.list (.int .u32))))))), .dat (.st (.pair (.int .i64) (.int .i64)))]
def ranges_whole.E  : Entry := { f := 49, A := ranges_whole.A, B := ranges_whole.B, run := fun x => ranges_whole x }

def ranges_Meet.tab (k : Nat) : List Entry := [ranges_check.E k, integer_Of.E k, ranges_length.E k, ranges_zero.E, ranges_upward.E k, ranges_common.E k, ranges_less.E k, ranges_sub.E k, ranges_add.E k, ranges_divMod.E k, ranges_mul.E k, ranges_plain.E k, ranges_whole.E]
def ranges_Meet.A : List PSh := [.dat (.st (.pair (.st (.pair (.bool) (.list (.int .u32)))) (.pair (.st (.pair (.bool) (.list (.int .u32)))) (.st (.pair (.bool) (.list (.int .u32))))))), .dat (.st (.pair (.st (.pair (.bool) (.list (.int .u32)))) (.pair (.st (.pair (.bool) (.list (.int .u32)))) (.st (.pair (.bool) (.list (.int .u32)))))))]
def ranges_Meet.B : List RSh := [.dat (.st (.pair (.st (.pair (.bool) (.list (.int .u32)))) (.pair (.st (.pair (.bool) (.list (.int .u32)))) (.st (.pair (.bool) (.list (.int .u32))))))), .dat (.st (.pair (.int .i64) (.int .i64)))]
def ranges_Meet.E (k : Nat) : Entry := { f := 8, A := ranges_Meet.A, B := ranges_Meet.B, run := fun x => ranges_Meet k x.1 x.2 }

def brindlewoodref3_IntOk.tab  : List Entry := []
def brindlewoodref3_IntOk.A : List PSh := [.dat (.st (.pair (.bool) (.list (.int .u32))))]
def brindlewoodref3_IntOk.B : List RSh := [.dat (.bool)]
def brindlewoodref3_IntOk.E  : Entry := { f := 21, A := brindlewoodref3_IntOk.A, B := brindlewoodref3_IntOk.B, run := fun x => brindlewoodref3_IntOk x }

def brindlewoodref3_NoInt.tab  : List Entry := []
def brindlewoodref3_NoInt.A : List PSh := [.dat (.st (.pair (.bool) (.list (.int .u32))))]
def brindlewoodref3_NoInt.B : List RSh := [.dat (.bool)]
def brindlewoodref3_NoInt.E  : Entry := { f := 30, A := brindlewoodref3_NoInt.A, B := brindlewoodref3_NoInt.B, run := fun x => brindlewoodref3_NoInt x }

def brindlewoodref3_RangeOk.tab (k : Nat) : List Entry := [brindlewoodref3_IntOk.E, brindlewoodref3_NoInt.E]
def brindlewoodref3_RangeOk.A : List PSh := [.dat (.st (.pair (.st (.pair (.bool) (.list (.int .u32)))) (.pair (.st (.pair (.bool) (.list (.int .u32)))) (.st (.pair (.bool) (.list (.int .u32)))))))]
def brindlewoodref3_RangeOk.B : List RSh := [.dat (.bool)]
def brindlewoodref3_RangeOk.M0 : Mrk := ⟨[.box 36 [.st (.pair (.st (.pair (.bool) (.list (.int .u32)))) (.pair (.st (.pair (.bool) (.list (.int .u32)))) (.st (.pair (.bool) (.list (.int .u32))))))], .own 3 (.st (.pair (.bool) (.list (.int .u32)))), .dat 4 (.int .i64)], [.ptr 1 36 0]⟩
def brindlewoodref3_RangeOk.O0 : Mrk := ⟨[.box 36 [.st (.pair (.st (.pair (.bool) (.list (.int .u32)))) (.pair (.st (.pair (.bool) (.list (.int .u32)))) (.st (.pair (.bool) (.list (.int .u32))))))]], [.ptr 1 36 0]⟩
def brindlewoodref3_RangeOk.an0 (k : Nat) : Ann (denB brindlewoodref3_RangeOk.B) := .loop brindlewoodref3_RangeOk.M0 brindlewoodref3_RangeOk.O0 0 fun x => brindlewoodref3_RangeOk.l0 k k x.1 x.2.1 x.2.2
def brindlewoodref3_RangeOk.E (k : Nat) : Entry := { f := 9, A := brindlewoodref3_RangeOk.A, B := brindlewoodref3_RangeOk.B, run := fun x => brindlewoodref3_RangeOk k x }

def brindlewoodref3_At.tab  : List Entry := []
def brindlewoodref3_At.A : List PSh := [.dat (.int .i64), .dat (.int .i64)]
def brindlewoodref3_At.B : List RSh := [.dat (.st (.pair (.int .i64) (.int .i64)))]
def brindlewoodref3_At.E  : Entry := { f := 10, A := brindlewoodref3_At.A, B := brindlewoodref3_At.B, run := fun x => brindlewoodref3_At x.1 x.2 }

def ranges_Length.tab (k : Nat) : List Entry := [ranges_check.E k, ranges_length.E k]
def ranges_Length.A : List PSh := [.dat (.st (.pair (.st (.pair (.bool) (.list (.int .u32)))) (.pair (.st (.pair (.bool) (.list (.int .u32)))) (.st (.pair (.bool) (.list (.int .u32)))))))]
def ranges_Length.B : List RSh := [.dat (.st (.pair (.bool) (.list (.int .u32)))), .dat (.st (.pair (.int .i64) (.int .i64)))]
def ranges_Length.E (k : Nat) : Entry := { f := 28, A := ranges_Length.A, B := ranges_Length.B, run := fun x => ranges_Length k x }

def brindlewoodref3_trim_v.tab (k : Nat) : List Entry := []
def brindlewoodref3_trim_v.A : List PSh := [.view (.int .i64)]
def brindlewoodref3_trim_v.B : List RSh := [.cut 0 (.int .i64)]
def brindlewoodref3_trim_v.M0 : Mrk := ⟨[.blk 0 (.int .i64) 0, .part 0 0 (.int .i64)], []⟩
def brindlewoodref3_trim_v.O0 : Mrk := ⟨[.blk 0 (.int .i64) 0, .part 0 0 (.int .i64)], []⟩
def brindlewoodref3_trim_v.an0 (k : Nat) : Ann (denB brindlewoodref3_trim_v.B) := .loop brindlewoodref3_trim_v.M0 brindlewoodref3_trim_v.O0 0 fun x => brindlewoodref3_trim_v.l0 k k x.1 x.2
def brindlewoodref3_trim_v.E (k : Nat) : Entry := { f := 79, A := brindlewoodref3_trim_v.A, B := brindlewoodref3_trim_v.B, run := fun x => brindlewoodref3_trim_v k x }

def brindlewoodref3_Binary.tab (k : Nat) : List Entry := [brindlewoodref3_trim_v.E k]
def brindlewoodref3_Binary.A : List PSh := [.dat (.list (.bool))]
def brindlewoodref3_Binary.B : List RSh := [.own (.int .i64)]
def brindlewoodref3_Binary.M1 : Mrk := ⟨[.dat 0 (.list (.bool)), .own 3 (.int .i64), .dat 4 (.int .i64), .dat 5 (.int .i64), .dat 6 (.int .i64)], []⟩
def brindlewoodref3_Binary.O1 : Mrk := ⟨[.dat 0 (.list (.bool)), .own 3 (.int .i64), .dat 4 (.int .i64), .dat 5 (.int .i64)], []⟩
def brindlewoodref3_Binary.an1 (k : Nat) : Ann (denB brindlewoodref3_Binary.B) := .loop brindlewoodref3_Binary.M1 brindlewoodref3_Binary.O1 2 fun x => brindlewoodref3_Binary.l1 k k x.1 x.2.1 x.2.2.1 x.2.2.2.1 x.2.2.2.2
def brindlewoodref3_Binary.M0 : Mrk := ⟨[.dat 0 (.list (.bool)), .own 3 (.int .i64), .dat 4 (.int .i64)], []⟩
def brindlewoodref3_Binary.O0 : Mrk := ⟨[.own 3 (.int .i64)], []⟩
def brindlewoodref3_Binary.an0 (k : Nat) : Ann (denB brindlewoodref3_Binary.B) := .loop brindlewoodref3_Binary.M0 brindlewoodref3_Binary.O0 0 fun x => brindlewoodref3_Binary.l0 k k x.1 x.2.1 x.2.2
def brindlewoodref3_Binary.E (k : Nat) : Entry := { f := 59, A := brindlewoodref3_Binary.A, B := brindlewoodref3_Binary.B, run := fun x => brindlewoodref3_Binary k x }

def brindlewoodref3_Number.tab (k : Nat) : List Entry := [brindlewoodref3_Binary.E k]
def brindlewoodref3_Number.A : List PSh := [.dat (.int .i64)]
def brindlewoodref3_Number.B : List RSh := [.dat (.st (.pair (.bool) (.list (.int .i64))))]
def brindlewoodref3_Number.M0 : Mrk := ⟨[.dat 0 (.int .i64), .box 23 [.st (.pair (.bool) (.list (.int .i64)))], .own 3 (.bool), .dat 4 (.bool)], [.ptr 2 23 0]⟩
def brindlewoodref3_Number.O0 : Mrk := ⟨[.box 23 [.st (.pair (.bool) (.list (.int .i64)))], .own 3 (.bool), .dat 4 (.bool)], [.ptr 2 23 0]⟩
def brindlewoodref3_Number.an0 (k : Nat) : Ann (denB brindlewoodref3_Number.B) := .loop brindlewoodref3_Number.M0 brindlewoodref3_Number.O0 0 fun x => brindlewoodref3_Number.l0 k k x.1 x.2.1 x.2.2.1 x.2.2.2
def brindlewoodref3_Number.E (k : Nat) : Entry := { f := 17, A := brindlewoodref3_Number.A, B := brindlewoodref3_Number.B, run := fun x => brindlewoodref3_Number k x }

def brindlewoodref3_Limbs.tab (k : Nat) : List Entry := []
def brindlewoodref3_Limbs.A : List PSh := [.dat (.list (.int .i64))]
def brindlewoodref3_Limbs.B : List RSh := [.own (.int .u32)]
def brindlewoodref3_Limbs.M0 : Mrk := ⟨[.dat 0 (.list (.int .i64)), .own 3 (.int .u32), .dat 4 (.int .i64)], []⟩
def brindlewoodref3_Limbs.O0 : Mrk := ⟨[.own 3 (.int .u32)], []⟩
def brindlewoodref3_Limbs.an0 (k : Nat) : Ann (denB brindlewoodref3_Limbs.B) := .loop brindlewoodref3_Limbs.M0 brindlewoodref3_Limbs.O0 0 fun x => brindlewoodref3_Limbs.l0 k k x.1 x.2.1 x.2.2
def brindlewoodref3_Limbs.E (k : Nat) : Entry := { f := 33, A := brindlewoodref3_Limbs.A, B := brindlewoodref3_Limbs.B, run := fun x => brindlewoodref3_Limbs k x }

def brindlewoodref3_SameLimbs.tab (k : Nat) : List Entry := []
def brindlewoodref3_SameLimbs.A : List PSh := [.dat (.list (.int .u32)), .dat (.list (.int .u32))]
def brindlewoodref3_SameLimbs.B : List RSh := [.dat (.bool)]
def brindlewoodref3_SameLimbs.M0 : Mrk := ⟨[.dat 0 (.list (.int .u32)), .dat 1 (.list (.int .u32)), .dat 5 (.int .i64)], []⟩
def brindlewoodref3_SameLimbs.O0 : Mrk := ⟨[], []⟩
def brindlewoodref3_SameLimbs.an0 (k : Nat) : Ann (denB brindlewoodref3_SameLimbs.B) := .loop brindlewoodref3_SameLimbs.M0 brindlewoodref3_SameLimbs.O0 0 fun x => brindlewoodref3_SameLimbs.l0 k k x.1 x.2.1 x.2.2
def brindlewoodref3_SameLimbs.E (k : Nat) : Entry := { f := 63, A := brindlewoodref3_SameLimbs.A, B := brindlewoodref3_SameLimbs.B, run := fun x => brindlewoodref3_SameLimbs k x.1 x.2 }

def brindlewoodref3_SameInt.tab (k : Nat) : List Entry := [brindlewoodref3_Limbs.E k, brindlewoodref3_SameLimbs.E k]
def brindlewoodref3_SameInt.A : List PSh := [.dat (.st (.pair (.bool) (.list (.int .u32)))), .dat (.st (.pair (.bool) (.list (.int .i64))))]
def brindlewoodref3_SameInt.B : List RSh := [.dat (.bool)]
def brindlewoodref3_SameInt.E (k : Nat) : Entry := { f := 32, A := brindlewoodref3_SameInt.A, B := brindlewoodref3_SameInt.B, run := fun x => brindlewoodref3_SameInt k x.1 x.2 }

def brindlewoodlaw3_spans.tab (k : Nat) : List Entry := [integer_Of.E k, ranges_Length.E k, ranges_Meet.E k, brindlewoodref3_Number.E k, brindlewoodref3_SameInt.E k]
def brindlewoodlaw3_spans.A : List PSh := []
def brindlewoodlaw3_spans.B : List RSh := [.dat (.bool)]
def brindlewoodlaw3_spans.E (k : Nat) : Entry := { f := 11, A := brindlewoodlaw3_spans.A, B := brindlewoodlaw3_spans.B, run := fun x => brindlewoodlaw3_spans k  }

def brindlewoodref3_NoRange.tab  : List Entry := [brindlewoodref3_NoInt.E]
def brindlewoodref3_NoRange.A : List PSh := [.dat (.st (.pair (.st (.pair (.bool) (.list (.int .u32)))) (.pair (.st (.pair (.bool) (.list (.int .u32)))) (.st (.pair (.bool) (.list (.int .u32)))))))]
def brindlewoodref3_NoRange.B : List RSh := [.dat (.bool)]
def brindlewoodref3_NoRange.E  : Entry := { f := 12, A := brindlewoodref3_NoRange.A, B := brindlewoodref3_NoRange.B, run := fun x => brindlewoodref3_NoRange x }

def brindlewoodref3_Of.tab (k : Nat) : List Entry := [brindlewoodref3_trim_v.E k]
def brindlewoodref3_Of.A : List PSh := [.dat (.list (.int .u32))]
def brindlewoodref3_Of.B : List RSh := [.own (.int .i64)]
def brindlewoodref3_Of.M0 : Mrk := ⟨[.dat 0 (.list (.int .u32)), .own 3 (.int .i64), .dat 4 (.int .i64)], []⟩
def brindlewoodref3_Of.O0 : Mrk := ⟨[.own 3 (.int .i64)], []⟩
def brindlewoodref3_Of.an0 (k : Nat) : Ann (denB brindlewoodref3_Of.B) := .loop brindlewoodref3_Of.M0 brindlewoodref3_Of.O0 0 fun x => brindlewoodref3_Of.l0 k k x.1 x.2.1 x.2.2
def brindlewoodref3_Of.E (k : Nat) : Entry := { f := 66, A := brindlewoodref3_Of.A, B := brindlewoodref3_Of.B, run := fun x => brindlewoodref3_Of k x }

def brindlewoodref3_IntOf.tab (k : Nat) : List Entry := [brindlewoodref3_Of.E k]
def brindlewoodref3_IntOf.A : List PSh := [.dat (.st (.pair (.bool) (.list (.int .u32))))]
def brindlewoodref3_IntOf.B : List RSh := [.dat (.st (.pair (.bool) (.list (.int .i64))))]
def brindlewoodref3_IntOf.E (k : Nat) : Entry := { f := 31, A := brindlewoodref3_IntOf.A, B := brindlewoodref3_IntOf.B, run := fun x => brindlewoodref3_IntOf k x }

def brindlewoodref3_Int_Minus.tab  : List Entry := []
def brindlewoodref3_Int_Minus.A : List PSh := [.dat (.st (.pair (.bool) (.list (.int .i64))))]
def brindlewoodref3_Int_Minus.B : List RSh := [.dat (.st (.pair (.bool) (.list (.int .i64))))]
def brindlewoodref3_Int_Minus.E  : Entry := { f := 27, A := brindlewoodref3_Int_Minus.A, B := brindlewoodref3_Int_Minus.B, run := fun x => brindlewoodref3_Int_Minus x }

def brindlewoodref3_Plus.tab (k : Nat) : List Entry := [brindlewoodref3_trim_v.E k]
def brindlewoodref3_Plus.A : List PSh := [.dat (.list (.int .i64)), .dat (.list (.int .i64))]
def brindlewoodref3_Plus.B : List RSh := [.own (.int .i64)]
def brindlewoodref3_Plus.M0 : Mrk := ⟨[.dat 0 (.list (.int .i64)), .dat 1 (.list (.int .i64)), .own 5 (.int .i64), .dat 6 (.int .i64), .dat 7 (.int .i64)], []⟩
def brindlewoodref3_Plus.O0 : Mrk := ⟨[.own 5 (.int .i64)], []⟩
def brindlewoodref3_Plus.an0 (k : Nat) : Ann (denB brindlewoodref3_Plus.B) := .loop brindlewoodref3_Plus.M0 brindlewoodref3_Plus.O0 0 fun x => brindlewoodref3_Plus.l0 k k x.1 x.2.1 x.2.2.1 x.2.2.2.1 x.2.2.2.2
def brindlewoodref3_Plus.E (k : Nat) : Entry := { f := 55, A := brindlewoodref3_Plus.A, B := brindlewoodref3_Plus.B, run := fun x => brindlewoodref3_Plus k x.1 x.2 }

def brindlewoodref3_Compare.tab (k : Nat) : List Entry := []
def brindlewoodref3_Compare.A : List PSh := [.dat (.list (.int .i64)), .dat (.list (.int .i64))]
def brindlewoodref3_Compare.B : List RSh := [.dat (.int .i64)]
def brindlewoodref3_Compare.M0 : Mrk := ⟨[.dat 0 (.list (.int .i64)), .dat 1 (.list (.int .i64)), .dat 5 (.int .i64)], []⟩
def brindlewoodref3_Compare.O0 : Mrk := ⟨[], []⟩
def brindlewoodref3_Compare.an0 (k : Nat) : Ann (denB brindlewoodref3_Compare.B) := .loop brindlewoodref3_Compare.M0 brindlewoodref3_Compare.O0 0 fun x => brindlewoodref3_Compare.l0 k k x.1 x.2.1 x.2.2
def brindlewoodref3_Compare.E (k : Nat) : Entry := { f := 56, A := brindlewoodref3_Compare.A, B := brindlewoodref3_Compare.B, run := fun x => brindlewoodref3_Compare k x.1 x.2 }

def brindlewoodref3_Minus.tab (k : Nat) : List Entry := [brindlewoodref3_trim_v.E k]
def brindlewoodref3_Minus.A : List PSh := [.dat (.list (.int .i64)), .dat (.list (.int .i64))]
def brindlewoodref3_Minus.B : List RSh := [.own (.int .i64)]
def brindlewoodref3_Minus.M0 : Mrk := ⟨[.dat 0 (.list (.int .i64)), .dat 1 (.list (.int .i64)), .own 5 (.int .i64), .dat 6 (.int .i64), .dat 7 (.int .i64)], []⟩
def brindlewoodref3_Minus.O0 : Mrk := ⟨[.own 5 (.int .i64)], []⟩
def brindlewoodref3_Minus.an0 (k : Nat) : Ann (denB brindlewoodref3_Minus.B) := .loop brindlewoodref3_Minus.M0 brindlewoodref3_Minus.O0 0 fun x => brindlewoodref3_Minus.l0 k k x.1 x.2.1 x.2.2.1 x.2.2.2.1 x.2.2.2.2
def brindlewoodref3_Minus.E (k : Nat) : Entry := { f := 57, A := brindlewoodref3_Minus.A, B := brindlewoodref3_Minus.B, run := fun x => brindlewoodref3_Minus k x.1 x.2 }

def brindlewoodref3_Int_Plus.tab (k : Nat) : List Entry := [brindlewoodref3_Plus.E k, brindlewoodref3_Compare.E k, brindlewoodref3_Minus.E k]
def brindlewoodref3_Int_Plus.A : List PSh := [.dat (.st (.pair (.bool) (.list (.int .i64)))), .dat (.st (.pair (.bool) (.list (.int .i64))))]
def brindlewoodref3_Int_Plus.B : List RSh := [.dat (.st (.pair (.bool) (.list (.int .i64))))]
def brindlewoodref3_Int_Plus.E (k : Nat) : Entry := { f := 15, A := brindlewoodref3_Int_Plus.A, B := brindlewoodref3_Int_Plus.B, run := fun x => brindlewoodref3_Int_Plus k x.1 x.2 }

def brindlewoodref3_Ones.tab (k : Nat) : List Entry := []
def brindlewoodref3_Ones.A : List PSh := [.dat (.list (.int .i64))]
def brindlewoodref3_Ones.B : List RSh := [.own (.bool)]
def brindlewoodref3_Ones.M2 : Mrk := ⟨[.own 3 (.bool)], []⟩
def brindlewoodref3_Ones.O2 : Mrk := ⟨[.own 3 (.bool)], []⟩
def brindlewoodref3_Ones.an2 (k : Nat) : Ann (denB brindlewoodref3_Ones.B) := .loop brindlewoodref3_Ones.M2 brindlewoodref3_Ones.O2 4 fun x => brindlewoodref3_Ones.l2 k k x
def brindlewoodref3_Ones.M1 : Mrk := ⟨[.dat 0 (.list (.int .i64)), .own 3 (.bool), .dat 4 (.int .i64), .dat 5 (.int .i64), .dat 6 (.int .i64)], []⟩
def brindlewoodref3_Ones.O1 : Mrk := ⟨[.dat 0 (.list (.int .i64)), .own 3 (.bool), .dat 4 (.int .i64)], []⟩
def brindlewoodref3_Ones.an1 (k : Nat) : Ann (denB brindlewoodref3_Ones.B) := .loop brindlewoodref3_Ones.M1 brindlewoodref3_Ones.O1 2 fun x => brindlewoodref3_Ones.l1 k k x.1 x.2.1 x.2.2.1 x.2.2.2.1 x.2.2.2.2
def brindlewoodref3_Ones.M0 : Mrk := ⟨[.dat 0 (.list (.int .i64)), .own 3 (.bool), .dat 4 (.int .i64)], []⟩
def brindlewoodref3_Ones.O0 : Mrk := ⟨[.own 3 (.bool)], []⟩
def brindlewoodref3_Ones.an0 (k : Nat) : Ann (denB brindlewoodref3_Ones.B) := .loop brindlewoodref3_Ones.M0 brindlewoodref3_Ones.O0 0 fun x => brindlewoodref3_Ones.l0 k k x.1 x.2.1 x.2.2
def brindlewoodref3_Ones.E (k : Nat) : Entry := { f := 90, A := brindlewoodref3_Ones.A, B := brindlewoodref3_Ones.B, run := fun x => brindlewoodref3_Ones k x }

def brindlewoodref3_Double.tab (k : Nat) : List Entry := [brindlewoodref3_trim_v.E k]
def brindlewoodref3_Double.A : List PSh := [.dat (.list (.int .i64)), .dat (.bool)]
def brindlewoodref3_Double.B : List RSh := [.own (.int .i64)]
def brindlewoodref3_Double.M0 : Mrk := ⟨[.dat 0 (.list (.int .i64)), .dat 5 (.int .i64), .own 6 (.int .i64), .dat 7 (.int .i64)], []⟩
def brindlewoodref3_Double.O0 : Mrk := ⟨[.dat 5 (.int .i64), .own 6 (.int .i64)], []⟩
def brindlewoodref3_Double.an0 (k : Nat) : Ann (denB brindlewoodref3_Double.B) := .loop brindlewoodref3_Double.M0 brindlewoodref3_Double.O0 0 fun x => brindlewoodref3_Double.l0 k k x.1 x.2.1 x.2.2.1 x.2.2.2
def brindlewoodref3_Double.E (k : Nat) : Entry := { f := 76, A := brindlewoodref3_Double.A, B := brindlewoodref3_Double.B, run := fun x => brindlewoodref3_Double k x.1 x.2 }

def brindlewoodref3_Divide.tab (k : Nat) : List Entry := [brindlewoodref3_Ones.E k, brindlewoodref3_Double.E k, brindlewoodref3_Compare.E k, brindlewoodref3_Minus.E k, brindlewoodref3_Binary.E k]
def brindlewoodref3_Divide.A : List PSh := [.dat (.list (.int .i64)), .dat (.list (.int .i64))]
def brindlewoodref3_Divide.B : List RSh := [.dat (.list (.int .i64)), .dat (.list (.int .i64))]
def brindlewoodref3_Divide.M0 : Mrk := ⟨[.dat 1 (.list (.int .i64)), .own 6 (.bool), .own 7 (.bool), .own 8 (.int .i64), .dat 9 (.int .i64)], []⟩
def brindlewoodref3_Divide.O0 : Mrk := ⟨[.own 7 (.bool), .own 8 (.int .i64)], []⟩
def brindlewoodref3_Divide.an0 (k : Nat) : Ann (denB brindlewoodref3_Divide.B) := .loop brindlewoodref3_Divide.M0 brindlewoodref3_Divide.O0 0 fun x => brindlewoodref3_Divide.l0 k k x.1 x.2.1 x.2.2.1 x.2.2.2.1 x.2.2.2.2
def brindlewoodref3_Divide.E (k : Nat) : Entry := { f := 77, A := brindlewoodref3_Divide.A, B := brindlewoodref3_Divide.B, run := fun x => brindlewoodref3_Divide k x.1 x.2 }

def brindlewoodref3_Small.tab (k : Nat) : List Entry := []
def brindlewoodref3_Small.A : List PSh := [.dat (.int .i64)]
def brindlewoodref3_Small.B : List RSh := [.own (.int .i64)]
def brindlewoodref3_Small.M0 : Mrk := ⟨[.dat 0 (.int .i64), .own 3 (.int .i64)], []⟩
def brindlewoodref3_Small.O0 : Mrk := ⟨[.own 3 (.int .i64)], []⟩
def brindlewoodref3_Small.an0 (k : Nat) : Ann (denB brindlewoodref3_Small.B) := .loop brindlewoodref3_Small.M0 brindlewoodref3_Small.O0 0 fun x => brindlewoodref3_Small.l0 k k x.1 x.2
def brindlewoodref3_Small.E (k : Nat) : Entry := { f := 78, A := brindlewoodref3_Small.A, B := brindlewoodref3_Small.B, run := fun x => brindlewoodref3_Small k x }

def brindlewoodref3_Int_Floor.tab (k : Nat) : List Entry := [brindlewoodref3_Divide.E k, brindlewoodref3_Small.E k, brindlewoodref3_Plus.E k, brindlewoodref3_Minus.E k]
def brindlewoodref3_Int_Floor.A : List PSh := [.dat (.st (.pair (.bool) (.list (.int .i64)))), .dat (.st (.pair (.bool) (.list (.int .i64))))]
def brindlewoodref3_Int_Floor.B : List RSh := [.dat (.st (.pair (.bool) (.list (.int .i64)))), .dat (.st (.pair (.bool) (.list (.int .i64))))]
def brindlewoodref3_Int_Floor.E (k : Nat) : Entry := { f := 53, A := brindlewoodref3_Int_Floor.A, B := brindlewoodref3_Int_Floor.B, run := fun x => brindlewoodref3_Int_Floor k x.1 x.2 }

def brindlewoodref3_Times.tab (k : Nat) : List Entry := [brindlewoodref3_trim_v.E k]
def brindlewoodref3_Times.A : List PSh := [.dat (.list (.int .i64)), .dat (.list (.int .i64))]
def brindlewoodref3_Times.B : List RSh := [.own (.int .i64)]
def brindlewoodref3_Times.M1 : Mrk := ⟨[.dat 0 (.list (.int .i64)), .dat 1 (.list (.int .i64)), .own 5 (.int .i64), .dat 6 (.int .i64), .dat 7 (.int .i64), .dat 8 (.int .i64)], []⟩
def brindlewoodref3_Times.O1 : Mrk := ⟨[.dat 0 (.list (.int .i64)), .dat 1 (.list (.int .i64)), .own 5 (.int .i64), .dat 6 (.int .i64), .dat 28 (.int .i64), .dat 29 (.bool)], []⟩
def brindlewoodref3_Times.an1 (k : Nat) : Ann (denB brindlewoodref3_Times.B) := .loop brindlewoodref3_Times.M1 brindlewoodref3_Times.O1 2 fun x => brindlewoodref3_Times.l1 k k x.1 x.2.1 x.2.2.1 x.2.2.2.1 x.2.2.2.2.1 x.2.2.2.2.2
def brindlewoodref3_Times.M0 : Mrk := ⟨[.dat 0 (.list (.int .i64)), .dat 1 (.list (.int .i64)), .own 5 (.int .i64), .dat 6 (.int .i64)], []⟩
def brindlewoodref3_Times.O0 : Mrk := ⟨[.own 5 (.int .i64)], []⟩
def brindlewoodref3_Times.an0 (k : Nat) : Ann (denB brindlewoodref3_Times.B) := .loop brindlewoodref3_Times.M0 brindlewoodref3_Times.O0 0 fun x => brindlewoodref3_Times.l0 k k x.1 x.2.1 x.2.2.1 x.2.2.2
def brindlewoodref3_Times.E (k : Nat) : Entry := { f := 58, A := brindlewoodref3_Times.A, B := brindlewoodref3_Times.B, run := fun x => brindlewoodref3_Times k x.1 x.2 }

def brindlewoodref3_Int_Times.tab (k : Nat) : List Entry := [brindlewoodref3_Times.E k]
def brindlewoodref3_Int_Times.A : List PSh := [.dat (.st (.pair (.bool) (.list (.int .i64)))), .dat (.st (.pair (.bool) (.list (.int .i64))))]
def brindlewoodref3_Int_Times.B : List RSh := [.dat (.st (.pair (.bool) (.list (.int .i64))))]
def brindlewoodref3_Int_Times.E (k : Nat) : Entry := { f := 16, A := brindlewoodref3_Int_Times.A, B := brindlewoodref3_Int_Times.B, run := fun x => brindlewoodref3_Int_Times k x.1 x.2 }

def brindlewoodref3_RangeOf.tab (k : Nat) : List Entry := [brindlewoodref3_IntOf.E k, brindlewoodref3_Int_Minus.E, brindlewoodref3_Int_Plus.E k, brindlewoodref3_Int_Floor.E k, brindlewoodref3_Number.E k, brindlewoodref3_Int_Times.E k]
def brindlewoodref3_RangeOf.A : List PSh := [.dat (.st (.pair (.st (.pair (.bool) (.list (.int .u32)))) (.pair (.st (.pair (.bool) (.list (.int .u32)))) (.st (.pair (.bool) (.list (.int .u32)))))))]
def brindlewoodref3_RangeOf.B : List RSh := [.dat (.st (.pair (.st (.pair (.bool) (.list (.int .i64)))) (.pair (.st (.pair (.bool) (.list (.int .i64)))) (.pair (.st (.pair (.bool) (.list (.int .i64)))) (.st (.pair (.bool) (.list (.int .i64))))))))]
def brindlewoodref3_RangeOf.E (k : Nat) : Entry := { f := 14, A := brindlewoodref3_RangeOf.A, B := brindlewoodref3_RangeOf.B, run := fun x => brindlewoodref3_RangeOf k x }

def brindlewoodref3_Range_rising.tab  : List Entry := [brindlewoodref3_Int_Minus.E]
def brindlewoodref3_Range_rising.A : List PSh := [.dat (.st (.pair (.st (.pair (.bool) (.list (.int .i64)))) (.pair (.st (.pair (.bool) (.list (.int .i64)))) (.pair (.st (.pair (.bool) (.list (.int .i64)))) (.st (.pair (.bool) (.list (.int .i64))))))))]
def brindlewoodref3_Range_rising.B : List RSh := [.dat (.st (.pair (.bool) (.list (.int .i64)))), .dat (.st (.pair (.bool) (.list (.int .i64)))), .dat (.st (.pair (.bool) (.list (.int .i64))))]
def brindlewoodref3_Range_rising.E  : Entry := { f := 51, A := brindlewoodref3_Range_rising.A, B := brindlewoodref3_Range_rising.B, run := fun x => brindlewoodref3_Range_rising x }

def brindlewoodref3_Halve.tab (k : Nat) : List Entry := [brindlewoodref3_trim_v.E k]
def brindlewoodref3_Halve.A : List PSh := [.dat (.list (.int .i64)), .dat (.int .i64)]
def brindlewoodref3_Halve.B : List RSh := [.dat (.list (.int .i64)), .dat (.int .i64)]
def brindlewoodref3_Halve.M0 : Mrk := ⟨[.dat 0 (.list (.int .i64)), .dat 1 (.int .i64), .own 6 (.int .i64), .dat 7 (.int .i64), .dat 8 (.int .i64)], []⟩
def brindlewoodref3_Halve.O0 : Mrk := ⟨[.own 6 (.int .i64), .dat 7 (.int .i64)], []⟩
def brindlewoodref3_Halve.an0 (k : Nat) : Ann (denB brindlewoodref3_Halve.B) := .loop brindlewoodref3_Halve.M0 brindlewoodref3_Halve.O0 0 fun x => brindlewoodref3_Halve.l0 k k x.1 x.2.1 x.2.2.1 x.2.2.2.1 x.2.2.2.2
def brindlewoodref3_Halve.E (k : Nat) : Entry := { f := 75, A := brindlewoodref3_Halve.A, B := brindlewoodref3_Halve.B, run := fun x => brindlewoodref3_Halve k x.1 x.2 }

def brindlewoodref3_Common.tab (k : Nat) : List Entry := [brindlewoodref3_Halve.E k, brindlewoodref3_Compare.E k, brindlewoodref3_Minus.E k, brindlewoodref3_Plus.E k, brindlewoodref3_Double.E k]
def brindlewoodref3_Common.A : List PSh := [.dat (.list (.int .i64)), .dat (.list (.int .i64))]
def brindlewoodref3_Common.B : List RSh := [.own (.int .i64)]
def brindlewoodref3_Common.M1 : Mrk := ⟨[.dat 5 (.int .i64), .own 6 (.int .i64)], []⟩
def brindlewoodref3_Common.O1 : Mrk := ⟨[.own 6 (.int .i64)], []⟩
def brindlewoodref3_Common.an1 (k : Nat) : Ann (denB brindlewoodref3_Common.B) := .loop brindlewoodref3_Common.M1 brindlewoodref3_Common.O1 3 fun x => brindlewoodref3_Common.l1 k k x.1 x.2
def brindlewoodref3_Common.M0 : Mrk := ⟨[.dat 0 (.list (.int .i64)), .dat 1 (.list (.int .i64)), .dat 5 (.int .i64)], []⟩
def brindlewoodref3_Common.O0 : Mrk := ⟨[.dat 0 (.list (.int .i64)), .dat 1 (.list (.int .i64)), .dat 5 (.int .i64)], []⟩
def brindlewoodref3_Common.an0 (k : Nat) : Ann (denB brindlewoodref3_Common.B) := .loop brindlewoodref3_Common.M0 brindlewoodref3_Common.O0 0 fun x => brindlewoodref3_Common.l0 k k x.1 x.2.1 x.2.2
def brindlewoodref3_Common.E (k : Nat) : Entry := { f := 52, A := brindlewoodref3_Common.A, B := brindlewoodref3_Common.B, run := fun x => brindlewoodref3_Common k x.1 x.2 }

def brindlewoodref3_Int_Order.tab (k : Nat) : List Entry := [brindlewoodref3_Compare.E k]
def brindlewoodref3_Int_Order.A : List PSh := [.dat (.st (.pair (.bool) (.list (.int .i64)))), .dat (.st (.pair (.bool) (.list (.int .i64))))]
def brindlewoodref3_Int_Order.B : List RSh := [.dat (.int .i64)]
def brindlewoodref3_Int_Order.E (k : Nat) : Entry := { f := 19, A := brindlewoodref3_Int_Order.A, B := brindlewoodref3_Int_Order.B, run := fun x => brindlewoodref3_Int_Order k x.1 x.2 }

def brindlewoodref3_inverse.A : List PSh := [.dat (.st (.pair (.bool) (.list (.int .i64)))), .dat (.st (.pair (.bool) (.list (.int .i64))))]
def brindlewoodref3_inverse.B : List RSh := [.dat (.st (.pair (.bool) (.list (.int .i64))))]
def brindlewoodref3_inverse.tab (k m : Nat) : List Entry := [{ f := 54, A := brindlewoodref3_inverse.A, B := brindlewoodref3_inverse.B, run := fun x => brindlewoodref3_inverse.r k m x.1 x.2 }, brindlewoodref3_Int_Floor.E k, brindlewoodref3_Number.E k, brindlewoodref3_Int_Order.E k, brindlewoodref3_Int_Minus.E, brindlewoodref3_Int_Times.E k, brindlewoodref3_Int_Plus.E k]
def brindlewoodref3_inverse.E (k : Nat) : Entry := { f := 54, A := brindlewoodref3_inverse.A, B := brindlewoodref3_inverse.B, run := fun x => brindlewoodref3_inverse k x.1 x.2 }

def brindlewoodref3_Met.tab (k : Nat) : List Entry := [brindlewoodref3_Range_rising.E, brindlewoodref3_Common.E k, brindlewoodref3_Int_Minus.E, brindlewoodref3_Int_Plus.E k, brindlewoodref3_Int_Floor.E k, brindlewoodref3_inverse.E k, brindlewoodref3_Int_Times.E k, brindlewoodref3_Number.E k, brindlewoodref3_Int_Order.E k]
def brindlewoodref3_Met.A : List PSh := [.dat (.st (.pair (.st (.pair (.bool) (.list (.int .i64)))) (.pair (.st (.pair (.bool) (.list (.int .i64)))) (.pair (.st (.pair (.bool) (.list (.int .i64)))) (.st (.pair (.bool) (.list (.int .i64)))))))), .dat (.st (.pair (.st (.pair (.bool) (.list (.int .i64)))) (.pair (.st (.pair (.bool) (.list (.int .i64)))) (.pair (.st (.pair (.bool) (.list (.int .i64)))) (.st (.pair (.bool) (.list (.int .i64))))))))]
def brindlewoodref3_Met.B : List RSh := [.dat (.st (.pair (.bool) (.list (.int .i64)))), .dat (.st (.pair (.bool) (.list (.int .i64)))), .dat (.st (.pair (.bool) (.list (.int .i64))))]
def brindlewoodref3_Met.E (k : Nat) : Entry := { f := 13, A := brindlewoodref3_Met.A, B := brindlewoodref3_Met.B, run := fun x => brindlewoodref3_Met k x.1 x.2 }

def brindlewoodref3_Int_Fits.tab  : List Entry := []
def brindlewoodref3_Int_Fits.A : List PSh := [.dat (.st (.pair (.bool) (.list (.int .i64)))), .dat (.int .i64)]
def brindlewoodref3_Int_Fits.B : List RSh := [.dat (.bool)]
def brindlewoodref3_Int_Fits.E  : Entry := { f := 18, A := brindlewoodref3_Int_Fits.A, B := brindlewoodref3_Int_Fits.B, run := fun x => brindlewoodref3_Int_Fits x.1 x.2 }

def brindlewoodref3_IsPlain.tab (k : Nat) : List Entry := [brindlewoodref3_NoInt.E, brindlewoodref3_Number.E k, brindlewoodref3_SameInt.E k, brindlewoodref3_Int_Order.E k, brindlewoodref3_Int_Plus.E k, brindlewoodref3_Int_Times.E k]
def brindlewoodref3_IsPlain.A : List PSh := [.dat (.st (.pair (.st (.pair (.bool) (.list (.int .u32)))) (.pair (.st (.pair (.bool) (.list (.int .u32)))) (.st (.pair (.bool) (.list (.int .u32))))))), .dat (.st (.pair (.bool) (.list (.int .i64)))), .dat (.st (.pair (.bool) (.list (.int .i64)))), .dat (.st (.pair (.bool) (.list (.int .i64)))), .dat (.int .i64)]
def brindlewoodref3_IsPlain.B : List RSh := [.dat (.bool)]
def brindlewoodref3_IsPlain.E (k : Nat) : Entry := { f := 20, A := brindlewoodref3_IsPlain.A, B := brindlewoodref3_IsPlain.B, run := fun x => brindlewoodref3_IsPlain k x.1 x.2.1 x.2.2.1 x.2.2.2.1 x.2.2.2.2 }

def brindlewoodlaw3_RangesMeet.tab (k : Nat) : List Entry := [ranges_Meet.E k, brindlewoodref3_RangeOk.E k, brindlewoodref3_At.E, brindlewoodlaw3_spans.E k, brindlewoodref3_NoRange.E, brindlewoodref3_RangeOf.E k, brindlewoodref3_Met.E k, brindlewoodref3_Number.E k, brindlewoodref3_Int_Plus.E k, brindlewoodref3_Int_Times.E k, brindlewoodref3_Int_Fits.E, brindlewoodref3_Int_Order.E k, brindlewoodref3_IsPlain.E k]
def brindlewoodlaw3_RangesMeet.A : List PSh := [.dat (.st (.pair (.st (.pair (.bool) (.list (.int .u32)))) (.pair (.st (.pair (.bool) (.list (.int .u32)))) (.st (.pair (.bool) (.list (.int .u32))))))), .dat (.st (.pair (.st (.pair (.bool) (.list (.int .u32)))) (.pair (.st (.pair (.bool) (.list (.int .u32)))) (.st (.pair (.bool) (.list (.int .u32)))))))]
def brindlewoodlaw3_RangesMeet.B : List RSh := [.dat (.bool)]
def brindlewoodlaw3_RangesMeet.E (k : Nat) : Entry := { f := 3, A := brindlewoodlaw3_RangesMeet.A, B := brindlewoodlaw3_RangesMeet.B, run := fun x => brindlewoodlaw3_RangesMeet k x.1 x.2 }
end Go.Sh
