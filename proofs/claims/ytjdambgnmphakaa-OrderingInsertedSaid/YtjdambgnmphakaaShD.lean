/- The functions' shapes and annotations, by wip/gen/gen.py.  Conditions: none, these are definitions. -/
import Derived.Test.YtjdambgnmphakaaSh
import Derived.Test.YtjdambgnmphakaaProg
set_option linter.unusedVariables false
namespace Go.Sh
open Go Go.Ev

def ttRows : List (Nat × TI) := [(3, ⟨.int .i64, 0, [], false, true⟩),
  (4, ⟨.bool, 0, [], false, true⟩),
  (23, ⟨.list (.int .i64), 8, [], false, true⟩),
  (25, ⟨.st (.pair (.list (.int .i64)) (.pair (.int .i64) (.pair (.int .i64) (.pair (.int .i64) (.pair (.int .i64) (.list (.int .i64))))))), 0, [(0, .list (.int .i64)), (1, .int .i64), (2, .int .i64), (3, .int .i64), (4, .int .i64), (5, .list (.int .i64))], false, true⟩),
  (27, ⟨.st (.pair (.int .i64) (.int .i64)), 0, [(0, .int .i64), (1, .int .i64)], true, true⟩),
  (64, ⟨.ptr (.unit), 0, [], false, true⟩),
  (67, ⟨.list (.list (.int .i64)), 24, [], false, true⟩)]
def tt : TypeId → TI := tiOf ttRows

def ordering_at.tab  : List Entry := []
def ordering_at.A : List PSh := [.dat (.int .i64), .dat (.int .i64)]
def ordering_at.B : List RSh := [.dat (.st (.pair (.int .i64) (.int .i64)))]
def ordering_at.E  : Entry := { f := 30, A := ordering_at.A, B := ordering_at.B, run := fun x => ordering_at x.1 x.2 }

def slices_Clone_intint.A : List PSh := [.dat (.list (.int .i64))]
def slices_Clone_intint.B : List RSh := [.own (.int .i64)]
def slices_Clone_intint.E : Entry := { f := 32, A := slices_Clone_intint.A, B := slices_Clone_intint.B, run := fun x => slices_Clone_intint x }

def ordering_Plan_runs.tab  : List Entry := []
def ordering_Plan_runs.A : List PSh := [.dat (.st (.pair (.list (.int .i64)) (.pair (.int .i64) (.pair (.int .i64) (.pair (.int .i64) (.pair (.int .i64) (.list (.int .i64))))))))]
def ordering_Plan_runs.B : List RSh := [.dat (.int .i64), .dat (.int .i64)]
def ordering_Plan_runs.E  : Entry := { f := 34, A := ordering_Plan_runs.A, B := ordering_Plan_runs.B, run := fun x => ordering_Plan_runs x }

def slices_Grow_intint_nd.tab  : List Entry := []
def slices_Grow_intint_nd.A : List PSh := [.nil, .dat (.int .i64)]
def slices_Grow_intint_nd.B : List RSh := [.own (.int .i64)]
def slices_Grow_intint_nd.E  : Entry := { f := 40, A := slices_Grow_intint_nd.A, B := slices_Grow_intint_nd.B, run := fun x => slices_Grow_intint_nd x.1 x.2 }

def slices_Concat_intint.tab (k : Nat) : List Entry := [slices_Grow_intint_nd.E]
def slices_Concat_intint.A : List PSh := [.dat (.list (.list (.int .i64)))]
def slices_Concat_intint.B : List RSh := [.own (.int .i64)]
def slices_Concat_intint.M1 : Mrk := ⟨[.own 6 (.int .i64), .dat 25 (.list (.list (.int .i64))), .dat 26 (.int .i64), .dat 27 (.int .i64)], []⟩
def slices_Concat_intint.O1 : Mrk := ⟨[.own 6 (.int .i64)], []⟩
def slices_Concat_intint.an1 (k : Nat) : Ann (denB slices_Concat_intint.B) := .loop slices_Concat_intint.M1 slices_Concat_intint.O1 2 fun x => slices_Concat_intint.l1 k k x.1 x.2.1 x.2.2.1 x.2.2.2
def slices_Concat_intint.M0 : Mrk := ⟨[.dat 0 (.list (.list (.int .i64))), .dat 3 (.int .i64), .dat 9 (.list (.list (.int .i64))), .dat 10 (.int .i64), .dat 11 (.int .i64)], []⟩
def slices_Concat_intint.O0 : Mrk := ⟨[.dat 0 (.list (.list (.int .i64))), .dat 3 (.int .i64)], []⟩
def slices_Concat_intint.an0 (k : Nat) : Ann (denB slices_Concat_intint.B) := .loop slices_Concat_intint.M0 slices_Concat_intint.O0 0 fun x => slices_Concat_intint.l0 k k x.1 x.2.1 x.2.2.1 x.2.2.2.1 x.2.2.2.2
def slices_Concat_intint.E (k : Nat) : Entry := { f := 38, A := slices_Concat_intint.A, B := slices_Concat_intint.B, run := fun x => slices_Concat_intint k x }

def ordering_Plan_settle.tab (k : Nat) : List Entry := [slices_Clone_intint.E, ordering_Plan_runs.E, slices_Concat_intint.E k]
def ordering_Plan_settle.A : List PSh := [.dat (.st (.pair (.list (.int .i64)) (.pair (.int .i64) (.pair (.int .i64) (.pair (.int .i64) (.pair (.int .i64) (.list (.int .i64))))))))]
def ordering_Plan_settle.B : List RSh := [.dat (.st (.pair (.list (.int .i64)) (.pair (.int .i64) (.pair (.int .i64) (.pair (.int .i64) (.pair (.int .i64) (.list (.int .i64))))))))]
def ordering_Plan_settle.M0 : Mrk := ⟨[.fbox 1 [.st (.pair (.list (.int .i64)) (.pair (.int .i64) (.pair (.int .i64) (.pair (.int .i64) (.pair (.int .i64) (.list (.int .i64)))))))] [0], .fbox 2 [.st (.pair (.list (.int .i64)) (.pair (.int .i64) (.pair (.int .i64) (.pair (.int .i64) (.pair (.int .i64) (.list (.int .i64)))))))] [0, 5]], []⟩
def ordering_Plan_settle.O0 : Mrk := ⟨[.fbox 1 [.st (.pair (.list (.int .i64)) (.pair (.int .i64) (.pair (.int .i64) (.pair (.int .i64) (.pair (.int .i64) (.list (.int .i64)))))))] [0], .fbox 2 [.st (.pair (.list (.int .i64)) (.pair (.int .i64) (.pair (.int .i64) (.pair (.int .i64) (.pair (.int .i64) (.list (.int .i64)))))))] [0, 5]], []⟩
def ordering_Plan_settle.an0 (k : Nat) : Ann (denB ordering_Plan_settle.B) := .loop ordering_Plan_settle.M0 ordering_Plan_settle.O0 0 fun x => ordering_Plan_settle.l0 k k x.1 x.2
def ordering_Plan_settle.E (k : Nat) : Entry := { f := 31, A := ordering_Plan_settle.A, B := ordering_Plan_settle.B, run := fun x => ordering_Plan_settle k x }

def ordering_Start.tab (k : Nat) : List Entry := [ordering_at.E, ordering_Plan_settle.E k]
def ordering_Start.A : List PSh := [.dat (.int .i64)]
def ordering_Start.B : List RSh := [.dat (.st (.pair (.list (.int .i64)) (.pair (.int .i64) (.pair (.int .i64) (.pair (.int .i64) (.pair (.int .i64) (.list (.int .i64)))))))), .dat (.st (.pair (.int .i64) (.int .i64)))]
def ordering_Start.M0 : Mrk := ⟨[.fbox 2 [.st (.pair (.list (.int .i64)) (.pair (.int .i64) (.pair (.int .i64) (.pair (.int .i64) (.pair (.int .i64) (.list (.int .i64)))))))] [0, 5], .fbox 3 [.st (.pair (.int .i64) (.int .i64))] [], .fbox 4 [.st (.pair (.list (.int .i64)) (.pair (.int .i64) (.pair (.int .i64) (.pair (.int .i64) (.pair (.int .i64) (.list (.int .i64)))))))] [0, 5], .dat 15 (.int .i64), .dat 16 (.int .i64)], []⟩
def ordering_Start.O0 : Mrk := ⟨[.fbox 2 [.st (.pair (.list (.int .i64)) (.pair (.int .i64) (.pair (.int .i64) (.pair (.int .i64) (.pair (.int .i64) (.list (.int .i64)))))))] [0, 5], .fbox 3 [.st (.pair (.int .i64) (.int .i64))] [], .fbox 4 [.st (.pair (.list (.int .i64)) (.pair (.int .i64) (.pair (.int .i64) (.pair (.int .i64) (.pair (.int .i64) (.list (.int .i64)))))))] [0, 5]], []⟩
def ordering_Start.an0 (k : Nat) : Ann (denB ordering_Start.B) := .loop ordering_Start.M0 ordering_Start.O0 0 fun x => ordering_Start.l0 k k x.1 x.2.1 x.2.2.1 x.2.2.2.1 x.2.2.2.2
def ordering_Start.E (k : Nat) : Entry := { f := 8, A := ordering_Start.A, B := ordering_Start.B, run := fun x => ordering_Start k x }

def ordering_Plan_Ask.tab  : List Entry := [ordering_Plan_runs.E]
def ordering_Plan_Ask.A : List PSh := [.dat (.st (.pair (.list (.int .i64)) (.pair (.int .i64) (.pair (.int .i64) (.pair (.int .i64) (.pair (.int .i64) (.list (.int .i64))))))))]
def ordering_Plan_Ask.B : List RSh := [.dat (.int .i64), .dat (.int .i64), .dat (.bool)]
def ordering_Plan_Ask.E  : Entry := { f := 15, A := ordering_Plan_Ask.A, B := ordering_Plan_Ask.B, run := fun x => ordering_Plan_Ask x }

def ordering_Plan_Tell.tab (k : Nat) : List Entry := [ordering_Plan_Ask.E, slices_Clone_intint.E, ordering_Plan_settle.E k]
def ordering_Plan_Tell.A : List PSh := [.dat (.st (.pair (.list (.int .i64)) (.pair (.int .i64) (.pair (.int .i64) (.pair (.int .i64) (.pair (.int .i64) (.list (.int .i64)))))))), .dat (.bool)]
def ordering_Plan_Tell.B : List RSh := [.dat (.st (.pair (.list (.int .i64)) (.pair (.int .i64) (.pair (.int .i64) (.pair (.int .i64) (.pair (.int .i64) (.list (.int .i64))))))))]
def ordering_Plan_Tell.E (k : Nat) : Entry := { f := 16, A := ordering_Plan_Tell.A, B := ordering_Plan_Tell.B, run := fun x => ordering_Plan_Tell k x.1 x.2 }

def ordering_Plan_Order.tab  : List Entry := [ordering_Plan_Ask.E, ordering_at.E, slices_Clone_intint.E]
def ordering_Plan_Order.A : List PSh := [.dat (.st (.pair (.list (.int .i64)) (.pair (.int .i64) (.pair (.int .i64) (.pair (.int .i64) (.pair (.int .i64) (.list (.int .i64))))))))]
def ordering_Plan_Order.B : List RSh := [.dat (.list (.int .i64)), .dat (.st (.pair (.int .i64) (.int .i64)))]
def ordering_Plan_Order.E  : Entry := { f := 10, A := ordering_Plan_Order.A, B := ordering_Plan_Order.B, run := fun x => ordering_Plan_Order x }

def brindlewoodref3_At.tab  : List Entry := []
def brindlewoodref3_At.A : List PSh := [.dat (.int .i64), .dat (.int .i64)]
def brindlewoodref3_At.B : List RSh := [.dat (.st (.pair (.int .i64) (.int .i64)))]
def brindlewoodref3_At.E  : Entry := { f := 11, A := brindlewoodref3_At.A, B := brindlewoodref3_At.B, run := fun x => brindlewoodref3_At x.1 x.2 }

def brindlewoodlaw3_sorts.tab (k : Nat) : List Entry := [ordering_Start.E k, ordering_Plan_Ask.E, ordering_Plan_Tell.E k, ordering_Plan_Order.E, brindlewoodref3_At.E]
def brindlewoodlaw3_sorts.A : List PSh := []
def brindlewoodlaw3_sorts.B : List RSh := [.dat (.bool)]
def brindlewoodlaw3_sorts.E (k : Nat) : Entry := { f := 9, A := brindlewoodlaw3_sorts.A, B := brindlewoodlaw3_sorts.B, run := fun x => brindlewoodlaw3_sorts k  }

def brindlewoodlaw3_OrderingInserted_1.tab  : List Entry := []
def brindlewoodlaw3_OrderingInserted_1.A : List PSh := [.dat (.int .i64), .dat (.int .i64)]
def brindlewoodlaw3_OrderingInserted_1.B : List RSh := [.dat (.bool)]
def brindlewoodlaw3_OrderingInserted_1.E  : Entry := { f := 29, A := brindlewoodlaw3_OrderingInserted_1.A, B := brindlewoodlaw3_OrderingInserted_1.B, run := fun x => brindlewoodlaw3_OrderingInserted_1 x.1 x.2 }

def ordering_Inverse.tab (k : Nat) : List Entry := [ordering_at.E]
def ordering_Inverse.A : List PSh := [.dat (.list (.int .i64))]
def ordering_Inverse.B : List RSh := [.dat (.list (.int .i64)), .dat (.st (.pair (.int .i64) (.int .i64)))]
def ordering_Inverse.M0 : Mrk := ⟨[.dat 0 (.list (.int .i64)), .box 46 [.st (.pair (.int .i64) (.int .i64))], .own 4 (.int .i64), .mp 5, .dat 12 (.list (.int .i64)), .dat 13 (.int .i64), .dat 14 (.int .i64)], [.ptr 3 46 0]⟩
def ordering_Inverse.O0 : Mrk := ⟨[.box 46 [.st (.pair (.int .i64) (.int .i64))], .own 4 (.int .i64)], [.ptr 3 46 0]⟩
def ordering_Inverse.an0 (k : Nat) : Ann (denB ordering_Inverse.B) := .loop ordering_Inverse.M0 ordering_Inverse.O0 0 fun x => ordering_Inverse.l0 k k x.1 x.2.1 x.2.2.1 x.2.2.2.1 x.2.2.2.2.1 x.2.2.2.2.2.1 x.2.2.2.2.2.2
def ordering_Inverse.E (k : Nat) : Entry := { f := 19, A := ordering_Inverse.A, B := ordering_Inverse.B, run := fun x => ordering_Inverse k x }

def ordering_Permute_int.tab (k : Nat) : List Entry := [ordering_at.E, ordering_Inverse.E k]
def ordering_Permute_int.A : List PSh := [.dat (.list (.int .i64)), .dat (.list (.int .i64))]
def ordering_Permute_int.B : List RSh := [.dat (.list (.int .i64)), .dat (.st (.pair (.int .i64) (.int .i64)))]
def ordering_Permute_int.M0 : Mrk := ⟨[.dat 0 (.list (.int .i64)), .box 47 [.st (.pair (.int .i64) (.int .i64))], .own 8 (.int .i64), .dat 26 (.list (.int .i64)), .dat 27 (.int .i64), .dat 28 (.int .i64)], [.ptr 5 47 0]⟩
def ordering_Permute_int.O0 : Mrk := ⟨[.box 47 [.st (.pair (.int .i64) (.int .i64))], .own 8 (.int .i64)], [.ptr 5 47 0]⟩
def ordering_Permute_int.an0 (k : Nat) : Ann (denB ordering_Permute_int.B) := .loop ordering_Permute_int.M0 ordering_Permute_int.O0 0 fun x => ordering_Permute_int.l0 k k x.1 x.2.1 x.2.2.1 x.2.2.2.1 x.2.2.2.2.1 x.2.2.2.2.2
def ordering_Permute_int.E (k : Nat) : Entry := { f := 18, A := ordering_Permute_int.A, B := ordering_Permute_int.B, run := fun x => ordering_Permute_int k x.1 x.2 }

def ordering_Sort_int_dFbrindlewoodlaw3_OrderingInserted_1.tab (k : Nat) : List Entry := [ordering_Start.E k, ordering_Plan_Ask.E, brindlewoodlaw3_OrderingInserted_1.E, ordering_Plan_Tell.E k, ordering_Permute_int.E k]
def ordering_Sort_int_dFbrindlewoodlaw3_OrderingInserted_1.A : List PSh := [.dat (.list (.int .i64)), .fn 29 []]
def ordering_Sort_int_dFbrindlewoodlaw3_OrderingInserted_1.B : List RSh := [.dat (.list (.int .i64)), .dat (.st (.pair (.int .i64) (.int .i64)))]
def ordering_Sort_int_dFbrindlewoodlaw3_OrderingInserted_1.M0 : Mrk := ⟨[.dat 0 (.list (.int .i64)), .fn 1 29 [], .box 57 [.st (.pair (.int .i64) (.int .i64))], .box 58 [.st (.pair (.list (.int .i64)) (.pair (.int .i64) (.pair (.int .i64) (.pair (.int .i64) (.pair (.int .i64) (.list (.int .i64)))))))], .dat 8 (.int .i64), .dat 9 (.int .i64), .dat 10 (.bool)], [.ptr 5 57 0, .ptr 6 58 0]⟩
def ordering_Sort_int_dFbrindlewoodlaw3_OrderingInserted_1.O0 : Mrk := ⟨[.dat 0 (.list (.int .i64)), .box 57 [.st (.pair (.int .i64) (.int .i64))], .box 58 [.st (.pair (.list (.int .i64)) (.pair (.int .i64) (.pair (.int .i64) (.pair (.int .i64) (.pair (.int .i64) (.list (.int .i64)))))))]], [.ptr 5 57 0, .ptr 6 58 0]⟩
def ordering_Sort_int_dFbrindlewoodlaw3_OrderingInserted_1.an0 (k : Nat) : Ann (denB ordering_Sort_int_dFbrindlewoodlaw3_OrderingInserted_1.B) := .loop ordering_Sort_int_dFbrindlewoodlaw3_OrderingInserted_1.M0 ordering_Sort_int_dFbrindlewoodlaw3_OrderingInserted_1.O0 0 fun x => ordering_Sort_int_dFbrindlewoodlaw3_OrderingInserted_1.l0 k k x.1 x.2.1 x.2.2.1 x.2.2.2.1 x.2.2.2.2.1 x.2.2.2.2.2.1 x.2.2.2.2.2.2
def ordering_Sort_int_dFbrindlewoodlaw3_OrderingInserted_1.E (k : Nat) : Entry := { f := 21, A := ordering_Sort_int_dFbrindlewoodlaw3_OrderingInserted_1.A, B := ordering_Sort_int_dFbrindlewoodlaw3_OrderingInserted_1.B, run := fun x => ordering_Sort_int_dFbrindlewoodlaw3_OrderingInserted_1 k x.1 x.2 }

def ordering_Search_int_ddFbrindlewoodlaw3_OrderingInserted_1d.tab (k : Nat) : List Entry := [brindlewoodlaw3_OrderingInserted_1.E]
def ordering_Search_int_ddFbrindlewoodlaw3_OrderingInserted_1d.A : List PSh := [.dat (.list (.int .i64)), .dat (.int .i64), .fn 29 [], .dat (.bool)]
def ordering_Search_int_ddFbrindlewoodlaw3_OrderingInserted_1d.B : List RSh := [.dat (.int .i64)]
def ordering_Search_int_ddFbrindlewoodlaw3_OrderingInserted_1d.M0 : Mrk := ⟨[.dat 0 (.list (.int .i64)), .dat 1 (.int .i64), .fn 2 29 [], .dat 3 (.bool), .dat 9 (.int .i64), .dat 10 (.int .i64)], []⟩
def ordering_Search_int_ddFbrindlewoodlaw3_OrderingInserted_1d.O0 : Mrk := ⟨[.dat 9 (.int .i64)], []⟩
def ordering_Search_int_ddFbrindlewoodlaw3_OrderingInserted_1d.an0 (k : Nat) : Ann (denB ordering_Search_int_ddFbrindlewoodlaw3_OrderingInserted_1d.B) := .loop ordering_Search_int_ddFbrindlewoodlaw3_OrderingInserted_1d.M0 ordering_Search_int_ddFbrindlewoodlaw3_OrderingInserted_1d.O0 0 fun x => ordering_Search_int_ddFbrindlewoodlaw3_OrderingInserted_1d.l0 k k x.1 x.2.1 x.2.2.1 x.2.2.2.1 x.2.2.2.2.1 x.2.2.2.2.2
def ordering_Search_int_ddFbrindlewoodlaw3_OrderingInserted_1d.E (k : Nat) : Entry := { f := 25, A := ordering_Search_int_ddFbrindlewoodlaw3_OrderingInserted_1d.A, B := ordering_Search_int_ddFbrindlewoodlaw3_OrderingInserted_1d.B, run := fun x => ordering_Search_int_ddFbrindlewoodlaw3_OrderingInserted_1d k x.1 x.2.1 x.2.2.1 x.2.2.2 }

def ordering_Merge_int_ddFbrindlewoodlaw3_OrderingInserted_1.tab (k : Nat) : List Entry := [brindlewoodlaw3_OrderingInserted_1.E]
def ordering_Merge_int_ddFbrindlewoodlaw3_OrderingInserted_1.A : List PSh := [.dat (.list (.int .i64)), .dat (.list (.int .i64)), .fn 29 []]
def ordering_Merge_int_ddFbrindlewoodlaw3_OrderingInserted_1.B : List RSh := [.own (.int .i64)]
def ordering_Merge_int_ddFbrindlewoodlaw3_OrderingInserted_1.M0 : Mrk := ⟨[.dat 0 (.list (.int .i64)), .dat 1 (.list (.int .i64)), .fn 2 29 [], .own 7 (.int .i64)], []⟩
def ordering_Merge_int_ddFbrindlewoodlaw3_OrderingInserted_1.O0 : Mrk := ⟨[.dat 0 (.list (.int .i64)), .dat 1 (.list (.int .i64)), .own 7 (.int .i64)], []⟩
def ordering_Merge_int_ddFbrindlewoodlaw3_OrderingInserted_1.an0 (k : Nat) : Ann (denB ordering_Merge_int_ddFbrindlewoodlaw3_OrderingInserted_1.B) := .loop ordering_Merge_int_ddFbrindlewoodlaw3_OrderingInserted_1.M0 ordering_Merge_int_ddFbrindlewoodlaw3_OrderingInserted_1.O0 0 fun x => ordering_Merge_int_ddFbrindlewoodlaw3_OrderingInserted_1.l0 k k x.1 x.2.1 x.2.2.1 x.2.2.2
def ordering_Merge_int_ddFbrindlewoodlaw3_OrderingInserted_1.E (k : Nat) : Entry := { f := 24, A := ordering_Merge_int_ddFbrindlewoodlaw3_OrderingInserted_1.A, B := ordering_Merge_int_ddFbrindlewoodlaw3_OrderingInserted_1.B, run := fun x => ordering_Merge_int_ddFbrindlewoodlaw3_OrderingInserted_1 k x.1 x.2.1 x.2.2 }

def ordering_Broken_int_dFbrindlewoodlaw3_OrderingInserted_1.tab (k : Nat) : List Entry := [brindlewoodlaw3_OrderingInserted_1.E]
def ordering_Broken_int_dFbrindlewoodlaw3_OrderingInserted_1.A : List PSh := [.dat (.list (.int .i64)), .fn 29 []]
def ordering_Broken_int_dFbrindlewoodlaw3_OrderingInserted_1.B : List RSh := [.dat (.int .i64)]
def ordering_Broken_int_dFbrindlewoodlaw3_OrderingInserted_1.M0 : Mrk := ⟨[.dat 0 (.list (.int .i64)), .fn 1 29 [], .dat 5 (.int .i64)], []⟩
def ordering_Broken_int_dFbrindlewoodlaw3_OrderingInserted_1.O0 : Mrk := ⟨[], []⟩
def ordering_Broken_int_dFbrindlewoodlaw3_OrderingInserted_1.an0 (k : Nat) : Ann (denB ordering_Broken_int_dFbrindlewoodlaw3_OrderingInserted_1.B) := .loop ordering_Broken_int_dFbrindlewoodlaw3_OrderingInserted_1.M0 ordering_Broken_int_dFbrindlewoodlaw3_OrderingInserted_1.O0 0 fun x => ordering_Broken_int_dFbrindlewoodlaw3_OrderingInserted_1.l0 k k x.1 x.2.1 x.2.2
def ordering_Broken_int_dFbrindlewoodlaw3_OrderingInserted_1.E (k : Nat) : Entry := { f := 26, A := ordering_Broken_int_dFbrindlewoodlaw3_OrderingInserted_1.A, B := ordering_Broken_int_dFbrindlewoodlaw3_OrderingInserted_1.B, run := fun x => ordering_Broken_int_dFbrindlewoodlaw3_OrderingInserted_1 k x.1 x.2 }

def brindlewoodlaw3_OrderingInserted.tab (k : Nat) : List Entry := [brindlewoodlaw3_sorts.E k, ordering_Sort_int_dFbrindlewoodlaw3_OrderingInserted_1.E k, ordering_Search_int_ddFbrindlewoodlaw3_OrderingInserted_1d.E k, ordering_Merge_int_ddFbrindlewoodlaw3_OrderingInserted_1.E k, ordering_Broken_int_dFbrindlewoodlaw3_OrderingInserted_1.E k]
def brindlewoodlaw3_OrderingInserted.A : List PSh := [.dat (.list (.int .i64)), .dat (.list (.int .i64)), .dat (.int .i64)]
def brindlewoodlaw3_OrderingInserted.B : List RSh := [.dat (.bool)]
def brindlewoodlaw3_OrderingInserted.M0 : Mrk := ⟨[.dat 2 (.int .i64), .dat 8 (.list (.int .i64)), .dat 12 (.int .i64), .dat 13 (.int .i64), .dat 15 (.int .i64)], []⟩
def brindlewoodlaw3_OrderingInserted.O0 : Mrk := ⟨[], []⟩
def brindlewoodlaw3_OrderingInserted.an0 (k : Nat) : Ann (denB brindlewoodlaw3_OrderingInserted.B) := .loop brindlewoodlaw3_OrderingInserted.M0 brindlewoodlaw3_OrderingInserted.O0 0 fun x => brindlewoodlaw3_OrderingInserted.l0 k k x.1 x.2.1 x.2.2.1 x.2.2.2.1 x.2.2.2.2
def brindlewoodlaw3_OrderingInserted.E (k : Nat) : Entry := { f := 7, A := brindlewoodlaw3_OrderingInserted.A, B := brindlewoodlaw3_OrderingInserted.B, run := fun x => brindlewoodlaw3_OrderingInserted k x.1 x.2.1 x.2.2 }
end Go.Sh
