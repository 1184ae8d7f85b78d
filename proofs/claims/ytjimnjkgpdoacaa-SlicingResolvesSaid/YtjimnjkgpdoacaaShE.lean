/- The evaluator's answers are those of the plain functions, by wip/gen/gen.py.  Conditions: none. -/
import Derived.Test.YtjimnjkgpdoacaaShD
set_option linter.unusedVariables false
set_option maxRecDepth 100000
set_option maxHeartbeats 0
namespace Go.Sh
open Go Go.Ev

theorem integer_Valid.ev  (x : denA integer_Valid.A) :
    evalF Go.Sh.tt (integer_Valid.tab) Go.Proofs.Try.f36.ntmps (bodyOf Go.Proofs.Try.f36) Go.Proofs.Try.f36.results.toList integer_Valid.A integer_Valid.B .nil x = integer_Valid x := by kernel_rfl

theorem slicing_at.ev  (x : denA slicing_at.A) :
    evalF Go.Sh.tt (slicing_at.tab) Go.Proofs.Try.f37.ntmps (bodyOf Go.Proofs.Try.f37) Go.Proofs.Try.f37.results.toList slicing_at.A slicing_at.B .nil x = slicing_at x.1 x.2 := by kernel_rfl

theorem integer_at.ev  (x : denA integer_at.A) :
    evalF Go.Sh.tt (integer_at.tab) Go.Proofs.Try.f75.ntmps (bodyOf Go.Proofs.Try.f75) Go.Proofs.Try.f75.results.toList integer_at.A integer_at.B .nil x = integer_at x.1 x.2 := by kernel_rfl

theorem integer_check.l0_ev (k n : Nat) (x : integer_check.M0.den) :
    evalRound Go.Sh.tt (integer_check.tab k) Go.Proofs.Try.f51.ntmps (finOf Go.Sh.tt integer_check.B Go.Proofs.Try.f51.results.toList) (cAt [1, 0, 1, 0, 0] (bodyOf Go.Proofs.Try.f51)) .nil integer_check.M0 integer_check.O0 0 (fun x => integer_check.l0 k n x.1 x.2.1 x.2.2.1 x.2.2.2) x = integer_check.l0 k (n + 1) x.1 x.2.1 x.2.2.1 x.2.2.2 := by kernel_rfl
theorem integer_check.ev (k : Nat) (x : denA integer_check.A) :
    evalF Go.Sh.tt (integer_check.tab k) Go.Proofs.Try.f51.ntmps (bodyOf Go.Proofs.Try.f51) Go.Proofs.Try.f51.results.toList integer_check.A integer_check.B (.seq .nil (.seq (.seq .nil (.block (integer_check.an0 k))) .nil)) x = integer_check k x := by kernel_rfl

theorem integer_Small.l0_ev (k n : Nat) (x : integer_Small.M0.den) :
    evalRound Go.Sh.tt (integer_Small.tab k) Go.Proofs.Try.f70.ntmps (finOf Go.Sh.tt integer_Small.B Go.Proofs.Try.f70.results.toList) (cAt [1, 1, 1, 0, 1, 0, 0] (bodyOf Go.Proofs.Try.f70)) .nil integer_Small.M0 integer_Small.O0 0 (fun x => integer_Small.l0 k n x.1 x.2.1 x.2.2.1 x.2.2.2.1 x.2.2.2.2.1 x.2.2.2.2.2) x = integer_Small.l0 k (n + 1) x.1 x.2.1 x.2.2.1 x.2.2.2.1 x.2.2.2.2.1 x.2.2.2.2.2 := by kernel_rfl
theorem integer_Small.ev (k : Nat) (x : denA integer_Small.A) :
    evalF Go.Sh.tt (integer_Small.tab k) Go.Proofs.Try.f70.ntmps (bodyOf Go.Proofs.Try.f70) Go.Proofs.Try.f70.results.toList integer_Small.A integer_Small.B (.seq .nil (.seq .nil (.seq .nil (.seq (.seq .nil (.block (integer_Small.an0 k))) (.seq .nil (.jseq ⟨[.box 50 [.st (.pair (.bool) (.list (.int .u32)))], .box 52 [.st (.pair (.int .i64) (.int .i64))], .dat 8 (.int .i64)], [.ptr 1 50 0, .ptr 3 52 0]⟩ .nil .nil)))))) x = integer_Small k x := by kernel_rfl

theorem slicing_bounded.ev (k : Nat) (x : denA slicing_bounded.A) :
    evalF Go.Sh.tt (slicing_bounded.tab k) Go.Proofs.Try.f38.ntmps (bodyOf Go.Proofs.Try.f38) Go.Proofs.Try.f38.results.toList slicing_bounded.A slicing_bounded.B .nil x = slicing_bounded k x.1 x.2.1 x.2.2 := by kernel_rfl

theorem slicing_Index.ev (k : Nat) (x : denA slicing_Index.A) :
    evalF Go.Sh.tt (slicing_Index.tab k) Go.Proofs.Try.f7.ntmps (bodyOf Go.Proofs.Try.f7) Go.Proofs.Try.f7.results.toList slicing_Index.A slicing_Index.B (.seq .nil (.jseq ⟨[.dat 1 (.int .i64), .box 43 [.st (.pair (.bool) (.list (.int .u32)))], .box 46 [.st (.pair (.int .i64) (.int .i64))]], [.ptr 2 43 0, .ptr 5 46 0]⟩ .nil (.seq .nil (.jseq ⟨[.dat 1 (.int .i64), .box 46 [.st (.pair (.int .i64) (.int .i64))], .dat 6 (.int .i64)], [.ptr 5 46 0]⟩ .nil .nil)))) x = slicing_Index k x.1 x.2 := by kernel_rfl

theorem slicing_part.ev  (x : denA slicing_part.A) :
    evalF Go.Sh.tt (slicing_part.tab) Go.Proofs.Try.f42.ntmps (bodyOf Go.Proofs.Try.f42) Go.Proofs.Try.f42.results.toList slicing_part.A slicing_part.B .nil x = slicing_part x.1 x.2 := by kernel_rfl

theorem slicing_Check.ev  (x : denA slicing_Check.A) :
    evalF Go.Sh.tt (slicing_Check.tab) Go.Proofs.Try.f11.ntmps (bodyOf Go.Proofs.Try.f11) Go.Proofs.Try.f11.results.toList slicing_Check.A slicing_Check.B (.seq .nil (.jseq ⟨[.box 38 [.st (.pair (.st (.pair (.bool) (.list (.int .u32)))) (.pair (.st (.pair (.bool) (.list (.int .u32)))) (.pair (.st (.pair (.bool) (.list (.int .u32)))) (.pair (.bool) (.pair (.bool) (.bool))))))], .box 39 [.st (.pair (.int .i64) (.int .i64))]], [.ptr 1 38 0, .ptr 2 39 0]⟩ .nil .nil)) x = slicing_Check x := by kernel_rfl

theorem slicing_end.ev (k : Nat) (x : denA slicing_end.A) :
    evalF Go.Sh.tt (slicing_end.tab k) Go.Proofs.Try.f39.ntmps (bodyOf Go.Proofs.Try.f39) Go.Proofs.Try.f39.results.toList slicing_end.A slicing_end.B .nil x = slicing_end k x.1 x.2.1 x.2.2.1 x.2.2.2 := by kernel_rfl

theorem slicing_Resolve.ev (k : Nat) (x : denA slicing_Resolve.A) :
    evalF Go.Sh.tt (slicing_Resolve.tab k) Go.Proofs.Try.f8.ntmps (bodyOf Go.Proofs.Try.f8) Go.Proofs.Try.f8.results.toList slicing_Resolve.A slicing_Resolve.B (.seq .nil (.seq .nil (.jseq ⟨[.dat 1 (.int .i64), .box 86 [.st (.pair (.st (.pair (.bool) (.list (.int .u32)))) (.pair (.st (.pair (.bool) (.list (.int .u32)))) (.pair (.st (.pair (.bool) (.list (.int .u32)))) (.pair (.bool) (.pair (.bool) (.bool))))))], .box 91 [.st (.pair (.int .i64) (.int .i64))]], [.ptr 2 86 0, .ptr 7 91 0]⟩ .nil (.seq .nil (.jseq ⟨[.dat 1 (.int .i64), .box 86 [.st (.pair (.st (.pair (.bool) (.list (.int .u32)))) (.pair (.st (.pair (.bool) (.list (.int .u32)))) (.pair (.st (.pair (.bool) (.list (.int .u32)))) (.pair (.bool) (.pair (.bool) (.bool))))))], .dat 5 (.int .i64), .box 91 [.st (.pair (.int .i64) (.int .i64))]], [.ptr 2 86 0, .ptr 7 91 0]⟩ .nil (.seq .nil (.jseq ⟨[.dat 1 (.int .i64), .box 86 [.st (.pair (.st (.pair (.bool) (.list (.int .u32)))) (.pair (.st (.pair (.bool) (.list (.int .u32)))) (.pair (.st (.pair (.bool) (.list (.int .u32)))) (.pair (.bool) (.pair (.bool) (.bool))))))], .dat 5 (.int .i64), .box 91 [.st (.pair (.int .i64) (.int .i64))], .dat 9 (.int .i64), .dat 10 (.int .i64)], [.ptr 2 86 0, .ptr 7 91 0]⟩ .nil (.seq .nil (.jseq ⟨[.dat 1 (.int .i64), .box 86 [.st (.pair (.st (.pair (.bool) (.list (.int .u32)))) (.pair (.st (.pair (.bool) (.list (.int .u32)))) (.pair (.st (.pair (.bool) (.list (.int .u32)))) (.pair (.bool) (.pair (.bool) (.bool))))))], .dat 4 (.int .i64), .dat 5 (.int .i64), .box 91 [.st (.pair (.int .i64) (.int .i64))], .dat 9 (.int .i64), .dat 10 (.int .i64), .dat 11 (.int .i64)], [.ptr 2 86 0, .ptr 7 91 0]⟩ .nil (.jseq ⟨[.dat 1 (.int .i64), .box 86 [.st (.pair (.st (.pair (.bool) (.list (.int .u32)))) (.pair (.st (.pair (.bool) (.list (.int .u32)))) (.pair (.st (.pair (.bool) (.list (.int .u32)))) (.pair (.bool) (.pair (.bool) (.bool))))))], .dat 4 (.int .i64), .dat 5 (.int .i64), .box 91 [.st (.pair (.int .i64) (.int .i64))], .dat 9 (.int .i64), .dat 10 (.int .i64), .dat 11 (.int .i64)], [.ptr 2 86 0, .ptr 7 91 0]⟩ .nil (.jseq ⟨[.dat 4 (.int .i64), .dat 5 (.int .i64), .box 91 [.st (.pair (.int .i64) (.int .i64))], .dat 11 (.int .i64)], [.ptr 7 91 0]⟩ .nil .nil))))))))))) x = slicing_Resolve k x.1 x.2 := by kernel_rfl

theorem brindlewoodref3_IntOk.ev  (x : denA brindlewoodref3_IntOk.A) :
    evalF Go.Sh.tt (brindlewoodref3_IntOk.tab) Go.Proofs.Try.f13.ntmps (bodyOf Go.Proofs.Try.f13) Go.Proofs.Try.f13.results.toList brindlewoodref3_IntOk.A brindlewoodref3_IntOk.B .nil x = brindlewoodref3_IntOk x := by kernel_rfl

theorem brindlewoodref3_At.ev  (x : denA brindlewoodref3_At.A) :
    evalF Go.Sh.tt (brindlewoodref3_At.tab) Go.Proofs.Try.f12.ntmps (bodyOf Go.Proofs.Try.f12) Go.Proofs.Try.f12.results.toList brindlewoodref3_At.A brindlewoodref3_At.B .nil x = brindlewoodref3_At x.1 x.2 := by kernel_rfl

theorem brindlewoodref3_NoInt.ev  (x : denA brindlewoodref3_NoInt.A) :
    evalF Go.Sh.tt (brindlewoodref3_NoInt.tab) Go.Proofs.Try.f25.ntmps (bodyOf Go.Proofs.Try.f25) Go.Proofs.Try.f25.results.toList brindlewoodref3_NoInt.A brindlewoodref3_NoInt.B .nil x = brindlewoodref3_NoInt x := by kernel_rfl

theorem brindlewoodref3_SliceFault.l0_ev (k n : Nat) (x : brindlewoodref3_SliceFault.M0.den) :
    evalRound Go.Sh.tt (brindlewoodref3_SliceFault.tab k) Go.Proofs.Try.f9.ntmps (finOf Go.Sh.tt brindlewoodref3_SliceFault.B Go.Proofs.Try.f9.results.toList) (cAt [1, 1, 1, 0, 1, 0, 0] (bodyOf Go.Proofs.Try.f9)) .nil brindlewoodref3_SliceFault.M0 brindlewoodref3_SliceFault.O0 0 (fun x => brindlewoodref3_SliceFault.l0 k n x.1 x.2.1 x.2.2.1 x.2.2.2.1 x.2.2.2.2) x = brindlewoodref3_SliceFault.l0 k (n + 1) x.1 x.2.1 x.2.2.1 x.2.2.2.1 x.2.2.2.2 := by kernel_rfl
theorem brindlewoodref3_SliceFault.ev (k : Nat) (x : denA brindlewoodref3_SliceFault.A) :
    evalF Go.Sh.tt (brindlewoodref3_SliceFault.tab k) Go.Proofs.Try.f9.ntmps (bodyOf Go.Proofs.Try.f9) Go.Proofs.Try.f9.results.toList brindlewoodref3_SliceFault.A brindlewoodref3_SliceFault.B (.seq .nil (.seq .nil (.seq .nil (.seq (.seq .nil (.block (brindlewoodref3_SliceFault.an0 k))) .nil)))) x = brindlewoodref3_SliceFault k x := by kernel_rfl

theorem integer_Of.l0_ev (k n : Nat) (x : integer_Of.M0.den) :
    evalRound Go.Sh.tt (integer_Of.tab k) Go.Proofs.Try.f17.ntmps (finOf Go.Sh.tt integer_Of.B Go.Proofs.Try.f17.results.toList) (cAt [1, 1, 1, 1, 0, 0, 0] (bodyOf Go.Proofs.Try.f17)) .nil integer_Of.M0 integer_Of.O0 0 (fun x => integer_Of.l0 k n x.1 x.2.1 x.2.2) x = integer_Of.l0 k (n + 1) x.1 x.2.1 x.2.2 := by kernel_rfl
theorem integer_Of.ev (k : Nat) (x : denA integer_Of.A) :
    evalF Go.Sh.tt (integer_Of.tab k) Go.Proofs.Try.f17.ntmps (bodyOf Go.Proofs.Try.f17) Go.Proofs.Try.f17.results.toList integer_Of.A integer_Of.B (.seq .nil (.seq .nil (.jseq ⟨[.dat 0 (.int .i64), .box 40 [.st (.pair (.bool) (.list (.int .u32)))], .dat 3 (.int .u64)], [.ptr 2 40 0]⟩ .nil (.seq .nil (.seq (.block (integer_Of.an0 k)) .nil))))) x = integer_Of k x := by kernel_rfl

theorem slices_Grow_intint_nd.ev  (x : denA slices_Grow_intint_nd.A) :
    evalF Go.Sh.tt (slices_Grow_intint_nd.tab) Go.Proofs.Try.f90.ntmps (bodyOf Go.Proofs.Try.f90) Go.Proofs.Try.f90.results.toList slices_Grow_intint_nd.A slices_Grow_intint_nd.B .nil x = slices_Grow_intint_nd x.1 x.2 := by kernel_rfl

theorem slices_Concat_intint.l1_ev (k n : Nat) (x : slices_Concat_intint.M1.den) :
    evalRound Go.Sh.tt (slices_Concat_intint.tab k) Go.Proofs.Try.f71.ntmps (finOf Go.Sh.tt slices_Concat_intint.B Go.Proofs.Try.f71.results.toList) (cAt [1, 1, 1, 1, 0, 1, 0, 0] (bodyOf Go.Proofs.Try.f71)) .nil slices_Concat_intint.M1 slices_Concat_intint.O1 2 (fun x => slices_Concat_intint.l1 k n x.1 x.2.1 x.2.2.1 x.2.2.2) x = slices_Concat_intint.l1 k (n + 1) x.1 x.2.1 x.2.2.1 x.2.2.2 := by kernel_rfl
theorem slices_Concat_intint.l0_ev (k n : Nat) (x : slices_Concat_intint.M0.den) :
    evalRound Go.Sh.tt (slices_Concat_intint.tab k) Go.Proofs.Try.f71.ntmps (finOf Go.Sh.tt slices_Concat_intint.B Go.Proofs.Try.f71.results.toList) (cAt [1, 1, 0, 1, 0, 0] (bodyOf Go.Proofs.Try.f71)) .nil slices_Concat_intint.M0 slices_Concat_intint.O0 0 (fun x => slices_Concat_intint.l0 k n x.1 x.2.1 x.2.2.1 x.2.2.2.1 x.2.2.2.2) x = slices_Concat_intint.l0 k (n + 1) x.1 x.2.1 x.2.2.1 x.2.2.2.1 x.2.2.2.2 := by kernel_rfl
theorem slices_Concat_intint.ev (k : Nat) (x : denA slices_Concat_intint.A) :
    evalF Go.Sh.tt (slices_Concat_intint.tab k) Go.Proofs.Try.f71.ntmps (bodyOf Go.Proofs.Try.f71) Go.Proofs.Try.f71.results.toList slices_Concat_intint.A slices_Concat_intint.B (.seq .nil (.seq .nil (.seq (.seq .nil (.block (slices_Concat_intint.an0 k))) (.seq .nil (.seq (.seq .nil (.block (slices_Concat_intint.an1 k))) .nil))))) x = slices_Concat_intint k x := by kernel_rfl



theorem slicing_Put_int.l0_ev (k n : Nat) (x : slicing_Put_int.M0.den) :
    evalRound Go.Sh.tt (slicing_Put_int.tab k) Go.Proofs.Try.f40.ntmps (finOf Go.Sh.tt slicing_Put_int.B Go.Proofs.Try.f40.results.toList) (cAt [1, 1, 1, 1, 0, 1, 0, 0] (bodyOf Go.Proofs.Try.f40)) .nil slicing_Put_int.M0 slicing_Put_int.O0 1 (fun x => slicing_Put_int.l0 k n x.1 x.2.1 x.2.2.1 x.2.2.2.1 x.2.2.2.2.1 x.2.2.2.2.2.1 x.2.2.2.2.2.2) x = slicing_Put_int.l0 k (n + 1) x.1 x.2.1 x.2.2.1 x.2.2.2.1 x.2.2.2.2.1 x.2.2.2.2.2.1 x.2.2.2.2.2.2 := by kernel_rfl
theorem slicing_Put_int.ev (k : Nat) (x : denA slicing_Put_int.A) :
    evalF Go.Sh.tt (slicing_Put_int.tab k) Go.Proofs.Try.f40.ntmps (bodyOf Go.Proofs.Try.f40) Go.Proofs.Try.f40.results.toList slicing_Put_int.A slicing_Put_int.B (.seq .nil (.seq .nil (.seq (.block (.seq .nil (.cond .nil (.jseq ⟨[.dat 0 (.list (.int .i64)), .dat 2 (.list (.int .i64)), .dat 3 (.int .i64), .box 96 [.st (.pair (.int .i64) (.int .i64))], .dat 10 (.int .i64), .dat 11 (.int .i64), .dat 12 (.int .i64), .dat 31 (.bool)], [.ptr 9 96 0]⟩ .nil .nil)))) (.seq .nil (.seq (.seq .nil (.block (slicing_Put_int.an0 k))) .nil))))) x = slicing_Put_int k x.1 x.2.1 x.2.2.1 x.2.2.2 := by kernel_rfl

theorem brindlewoodref3_Numbers.l0_ev (k n : Nat) (x : brindlewoodref3_Numbers.M0.den) :
    evalRound Go.Sh.tt (brindlewoodref3_Numbers.tab k) Go.Proofs.Try.f41.ntmps (finOf Go.Sh.tt brindlewoodref3_Numbers.B Go.Proofs.Try.f41.results.toList) (cAt [1, 1, 0, 1, 0, 0] (bodyOf Go.Proofs.Try.f41)) .nil brindlewoodref3_Numbers.M0 brindlewoodref3_Numbers.O0 0 (fun x => brindlewoodref3_Numbers.l0 k n x.1 x.2.1 x.2.2) x = brindlewoodref3_Numbers.l0 k (n + 1) x.1 x.2.1 x.2.2 := by kernel_rfl
theorem brindlewoodref3_Numbers.ev (k : Nat) (x : denA brindlewoodref3_Numbers.A) :
    evalF Go.Sh.tt (brindlewoodref3_Numbers.tab k) Go.Proofs.Try.f41.ntmps (bodyOf Go.Proofs.Try.f41) Go.Proofs.Try.f41.results.toList brindlewoodref3_Numbers.A brindlewoodref3_Numbers.B (.seq .nil (.seq .nil (.seq (.seq .nil (.block (brindlewoodref3_Numbers.an0 k))) .nil))) x = brindlewoodref3_Numbers k x.1 x.2 := by kernel_rfl

theorem brindlewoodlaw3_cuts.ev (k : Nat) (x : denA brindlewoodlaw3_cuts.A) :
    evalF Go.Sh.tt (brindlewoodlaw3_cuts.tab k) Go.Proofs.Try.f10.ntmps (bodyOf Go.Proofs.Try.f10) Go.Proofs.Try.f10.results.toList brindlewoodlaw3_cuts.A brindlewoodlaw3_cuts.B .nil x = brindlewoodlaw3_cuts k  := by kernel_rfl

theorem brindlewoodref3_trim_v.l0_ev (k n : Nat) (x : brindlewoodref3_trim_v.M0.den) :
    evalRound Go.Sh.tt (brindlewoodref3_trim_v.tab k) Go.Proofs.Try.f88.ntmps (finOf Go.Sh.tt brindlewoodref3_trim_v.B Go.Proofs.Try.f88.results.toList) (cAt [1, 0, 0, 0] (bodyOf Go.Proofs.Try.f88)) .nil brindlewoodref3_trim_v.M0 brindlewoodref3_trim_v.O0 0 (fun x => brindlewoodref3_trim_v.l0 k n x.1 x.2) x = brindlewoodref3_trim_v.l0 k (n + 1) x.1 x.2 := by kernel_rfl
theorem brindlewoodref3_trim_v.ev (k : Nat) (x : denA brindlewoodref3_trim_v.A) :
    evalF Go.Sh.tt (brindlewoodref3_trim_v.tab k) Go.Proofs.Try.f88.ntmps (bodyOf Go.Proofs.Try.f88) Go.Proofs.Try.f88.results.toList brindlewoodref3_trim_v.A brindlewoodref3_trim_v.B (.seq .nil (.seq (.block (brindlewoodref3_trim_v.an0 k)) .nil)) x = brindlewoodref3_trim_v k x := by kernel_rfl

theorem brindlewoodref3_Of.l0_ev (k n : Nat) (x : brindlewoodref3_Of.M0.den) :
    evalRound Go.Sh.tt (brindlewoodref3_Of.tab k) Go.Proofs.Try.f59.ntmps (finOf Go.Sh.tt brindlewoodref3_Of.B Go.Proofs.Try.f59.results.toList) (cAt [1, 1, 0, 1, 0, 0] (bodyOf Go.Proofs.Try.f59)) .nil brindlewoodref3_Of.M0 brindlewoodref3_Of.O0 0 (fun x => brindlewoodref3_Of.l0 k n x.1 x.2.1 x.2.2) x = brindlewoodref3_Of.l0 k (n + 1) x.1 x.2.1 x.2.2 := by kernel_rfl
theorem brindlewoodref3_Of.ev (k : Nat) (x : denA brindlewoodref3_Of.A) :
    evalF Go.Sh.tt (brindlewoodref3_Of.tab k) Go.Proofs.Try.f59.ntmps (bodyOf Go.Proofs.Try.f59) Go.Proofs.Try.f59.results.toList brindlewoodref3_Of.A brindlewoodref3_Of.B (.seq .nil (.seq .nil (.seq (.seq .nil (.block (brindlewoodref3_Of.an0 k))) .nil))) x = brindlewoodref3_Of k x := by kernel_rfl

theorem brindlewoodref3_IntOf.ev (k : Nat) (x : denA brindlewoodref3_IntOf.A) :
    evalF Go.Sh.tt (brindlewoodref3_IntOf.tab k) Go.Proofs.Try.f26.ntmps (bodyOf Go.Proofs.Try.f26) Go.Proofs.Try.f26.results.toList brindlewoodref3_IntOf.A brindlewoodref3_IntOf.B .nil x = brindlewoodref3_IntOf k x := by kernel_rfl

theorem brindlewoodref3_Binary.l1_ev (k n : Nat) (x : brindlewoodref3_Binary.M1.den) :
    evalRound Go.Sh.tt (brindlewoodref3_Binary.tab k) Go.Proofs.Try.f64.ntmps (finOf Go.Sh.tt brindlewoodref3_Binary.B Go.Proofs.Try.f64.results.toList) (cAt [1, 1, 0, 1, 0, 0, 1, 0, 0, 1, 0, 1, 0, 0] (bodyOf Go.Proofs.Try.f64)) .nil brindlewoodref3_Binary.M1 brindlewoodref3_Binary.O1 2 (fun x => brindlewoodref3_Binary.l1 k n x.1 x.2.1 x.2.2.1 x.2.2.2.1 x.2.2.2.2) x = brindlewoodref3_Binary.l1 k (n + 1) x.1 x.2.1 x.2.2.1 x.2.2.2.1 x.2.2.2.2 := by kernel_rfl
theorem brindlewoodref3_Binary.l0_ev (k n : Nat) (x : brindlewoodref3_Binary.M0.den) :
    evalRound Go.Sh.tt (brindlewoodref3_Binary.tab k) Go.Proofs.Try.f64.ntmps (finOf Go.Sh.tt brindlewoodref3_Binary.B Go.Proofs.Try.f64.results.toList) (cAt [1, 1, 0, 1, 0, 0] (bodyOf Go.Proofs.Try.f64)) (.seq .nil (.seq (.block (.seq .nil (.seq (.seq .nil (.block (brindlewoodref3_Binary.an1 k))) .nil))) .nil)) brindlewoodref3_Binary.M0 brindlewoodref3_Binary.O0 0 (fun x => brindlewoodref3_Binary.l0 k n x.1 x.2.1 x.2.2) x = brindlewoodref3_Binary.l0 k (n + 1) x.1 x.2.1 x.2.2 := by kernel_rfl
theorem brindlewoodref3_Binary.ev (k : Nat) (x : denA brindlewoodref3_Binary.A) :
    evalF Go.Sh.tt (brindlewoodref3_Binary.tab k) Go.Proofs.Try.f64.ntmps (bodyOf Go.Proofs.Try.f64) Go.Proofs.Try.f64.results.toList brindlewoodref3_Binary.A brindlewoodref3_Binary.B (.seq .nil (.seq .nil (.seq (.seq .nil (.block (brindlewoodref3_Binary.an0 k))) .nil))) x = brindlewoodref3_Binary k x := by kernel_rfl

theorem brindlewoodref3_Number.l0_ev (k n : Nat) (x : brindlewoodref3_Number.M0.den) :
    evalRound Go.Sh.tt (brindlewoodref3_Number.tab k) Go.Proofs.Try.f30.ntmps (finOf Go.Sh.tt brindlewoodref3_Number.B Go.Proofs.Try.f30.results.toList) (cAt [1, 1, 1, 0, 0, 0] (bodyOf Go.Proofs.Try.f30)) .nil brindlewoodref3_Number.M0 brindlewoodref3_Number.O0 0 (fun x => brindlewoodref3_Number.l0 k n x.1 x.2.1 x.2.2.1 x.2.2.2) x = brindlewoodref3_Number.l0 k (n + 1) x.1 x.2.1 x.2.2.1 x.2.2.2 := by kernel_rfl
theorem brindlewoodref3_Number.ev (k : Nat) (x : denA brindlewoodref3_Number.A) :
    evalF Go.Sh.tt (brindlewoodref3_Number.tab k) Go.Proofs.Try.f30.ntmps (bodyOf Go.Proofs.Try.f30) Go.Proofs.Try.f30.results.toList brindlewoodref3_Number.A brindlewoodref3_Number.B (.seq .nil (.seq .nil (.seq .nil (.seq (.block (brindlewoodref3_Number.an0 k)) .nil)))) x = brindlewoodref3_Number k x := by kernel_rfl

theorem brindlewoodref3_Plus.l0_ev (k n : Nat) (x : brindlewoodref3_Plus.M0.den) :
    evalRound Go.Sh.tt (brindlewoodref3_Plus.tab k) Go.Proofs.Try.f61.ntmps (finOf Go.Sh.tt brindlewoodref3_Plus.B Go.Proofs.Try.f61.results.toList) (cAt [1, 1, 1, 0, 1, 0, 0] (bodyOf Go.Proofs.Try.f61)) (.seq .nil (.seq (.block (.jseq ⟨[.dat 0 (.list (.int .i64)), .dat 1 (.list (.int .i64)), .own 5 (.int .i64), .dat 6 (.int .i64), .dat 7 (.int .i64)], []⟩ .nil .nil)) .nil)) brindlewoodref3_Plus.M0 brindlewoodref3_Plus.O0 0 (fun x => brindlewoodref3_Plus.l0 k n x.1 x.2.1 x.2.2.1 x.2.2.2.1 x.2.2.2.2) x = brindlewoodref3_Plus.l0 k (n + 1) x.1 x.2.1 x.2.2.1 x.2.2.2.1 x.2.2.2.2 := by kernel_rfl
theorem brindlewoodref3_Plus.ev (k : Nat) (x : denA brindlewoodref3_Plus.A) :
    evalF Go.Sh.tt (brindlewoodref3_Plus.tab k) Go.Proofs.Try.f61.ntmps (bodyOf Go.Proofs.Try.f61) Go.Proofs.Try.f61.results.toList brindlewoodref3_Plus.A brindlewoodref3_Plus.B (.seq .nil (.seq .nil (.seq .nil (.seq (.seq .nil (.block (brindlewoodref3_Plus.an0 k))) .nil)))) x = brindlewoodref3_Plus k x.1 x.2 := by kernel_rfl

theorem brindlewoodref3_Compare.l0_ev (k n : Nat) (x : brindlewoodref3_Compare.M0.den) :
    evalRound Go.Sh.tt (brindlewoodref3_Compare.tab k) Go.Proofs.Try.f62.ntmps (finOf Go.Sh.tt brindlewoodref3_Compare.B Go.Proofs.Try.f62.results.toList) (cAt [1, 1, 0, 1, 0, 0] (bodyOf Go.Proofs.Try.f62)) .nil brindlewoodref3_Compare.M0 brindlewoodref3_Compare.O0 0 (fun x => brindlewoodref3_Compare.l0 k n x.1 x.2.1 x.2.2) x = brindlewoodref3_Compare.l0 k (n + 1) x.1 x.2.1 x.2.2 := by kernel_rfl
theorem brindlewoodref3_Compare.ev (k : Nat) (x : denA brindlewoodref3_Compare.A) :
    evalF Go.Sh.tt (brindlewoodref3_Compare.tab k) Go.Proofs.Try.f62.ntmps (bodyOf Go.Proofs.Try.f62) Go.Proofs.Try.f62.results.toList brindlewoodref3_Compare.A brindlewoodref3_Compare.B (.seq .nil (.seq .nil (.seq (.seq .nil (.block (brindlewoodref3_Compare.an0 k))) .nil))) x = brindlewoodref3_Compare k x.1 x.2 := by kernel_rfl

theorem brindlewoodref3_Minus.l0_ev (k n : Nat) (x : brindlewoodref3_Minus.M0.den) :
    evalRound Go.Sh.tt (brindlewoodref3_Minus.tab k) Go.Proofs.Try.f63.ntmps (finOf Go.Sh.tt brindlewoodref3_Minus.B Go.Proofs.Try.f63.results.toList) (cAt [1, 1, 1, 0, 1, 0, 0] (bodyOf Go.Proofs.Try.f63)) (.seq .nil (.seq (.block (.seq .nil (.jseq ⟨[.dat 0 (.list (.int .i64)), .dat 1 (.list (.int .i64)), .own 5 (.int .i64), .dat 7 (.int .i64), .dat 8 (.int .i64)], []⟩ .nil .nil))) .nil)) brindlewoodref3_Minus.M0 brindlewoodref3_Minus.O0 0 (fun x => brindlewoodref3_Minus.l0 k n x.1 x.2.1 x.2.2.1 x.2.2.2.1 x.2.2.2.2) x = brindlewoodref3_Minus.l0 k (n + 1) x.1 x.2.1 x.2.2.1 x.2.2.2.1 x.2.2.2.2 := by kernel_rfl
theorem brindlewoodref3_Minus.ev (k : Nat) (x : denA brindlewoodref3_Minus.A) :
    evalF Go.Sh.tt (brindlewoodref3_Minus.tab k) Go.Proofs.Try.f63.ntmps (bodyOf Go.Proofs.Try.f63) Go.Proofs.Try.f63.results.toList brindlewoodref3_Minus.A brindlewoodref3_Minus.B (.seq .nil (.seq .nil (.seq .nil (.seq (.seq .nil (.block (brindlewoodref3_Minus.an0 k))) .nil)))) x = brindlewoodref3_Minus k x.1 x.2 := by kernel_rfl

theorem brindlewoodref3_Int_Plus.ev (k : Nat) (x : denA brindlewoodref3_Int_Plus.A) :
    evalF Go.Sh.tt (brindlewoodref3_Int_Plus.tab k) Go.Proofs.Try.f29.ntmps (bodyOf Go.Proofs.Try.f29) Go.Proofs.Try.f29.results.toList brindlewoodref3_Int_Plus.A brindlewoodref3_Int_Plus.B .nil x = brindlewoodref3_Int_Plus k x.1 x.2 := by kernel_rfl

theorem brindlewoodref3_Int_Order.ev (k : Nat) (x : denA brindlewoodref3_Int_Order.A) :
    evalF Go.Sh.tt (brindlewoodref3_Int_Order.tab k) Go.Proofs.Try.f43.ntmps (bodyOf Go.Proofs.Try.f43) Go.Proofs.Try.f43.results.toList brindlewoodref3_Int_Order.A brindlewoodref3_Int_Order.B (.seq .nil (.jseq ⟨[.box 44 [.st (.pair (.bool) (.list (.int .i64)))], .box 45 [.st (.pair (.bool) (.list (.int .i64)))], .dat 5 (.bool), .dat 6 (.bool)], [.ptr 2 44 0, .ptr 3 45 0]⟩ .nil (.seq (.block (.jseq ⟨[.box 44 [.st (.pair (.bool) (.list (.int .i64)))], .box 45 [.st (.pair (.bool) (.list (.int .i64)))], .dat 5 (.bool), .dat 6 (.bool), .dat 23 (.bool)], [.ptr 2 44 0, .ptr 3 45 0]⟩ .nil .nil)) .nil))) x = brindlewoodref3_Int_Order k x.1 x.2 := by kernel_rfl

theorem brindlewoodref3_near.l0_ev (k n : Nat) (x : brindlewoodref3_near.M0.den) :
    evalRound Go.Sh.tt (brindlewoodref3_near.tab k) Go.Proofs.Try.f44.ntmps (finOf Go.Sh.tt brindlewoodref3_near.B Go.Proofs.Try.f44.results.toList) (cAt [1, 1, 1, 1, 0, 0, 0] (bodyOf Go.Proofs.Try.f44)) .nil brindlewoodref3_near.M0 brindlewoodref3_near.O0 0 (fun x => brindlewoodref3_near.l0 k n x.1 x.2) x = brindlewoodref3_near.l0 k (n + 1) x.1 x.2 := by kernel_rfl
theorem brindlewoodref3_near.ev (k : Nat) (x : denA brindlewoodref3_near.A) :
    evalF Go.Sh.tt (brindlewoodref3_near.tab k) Go.Proofs.Try.f44.ntmps (bodyOf Go.Proofs.Try.f44) Go.Proofs.Try.f44.results.toList brindlewoodref3_near.A brindlewoodref3_near.B (.seq .nil (.seq .nil (.seq .nil (.seq .nil (.seq (.block (brindlewoodref3_near.an0 k)) .nil))))) x = brindlewoodref3_near k x.1 x.2.1 x.2.2 := by kernel_rfl

theorem brindlewoodref3_Indexed.ev (k : Nat) (x : denA brindlewoodref3_Indexed.A) :
    evalF Go.Sh.tt (brindlewoodref3_Indexed.tab k) Go.Proofs.Try.f14.ntmps (bodyOf Go.Proofs.Try.f14) Go.Proofs.Try.f14.results.toList brindlewoodref3_Indexed.A brindlewoodref3_Indexed.B (.seq .nil (.seq .nil (.jseq ⟨[.dat 1 (.int .i64), .box 39 [.st (.pair (.bool) (.list (.int .i64)))]], [.ptr 6 39 0]⟩ .nil .nil))) x = brindlewoodref3_Indexed k x.1 x.2 := by kernel_rfl

theorem brindlewoodref3_endAt.ev (k : Nat) (x : denA brindlewoodref3_endAt.A) :
    evalF Go.Sh.tt (brindlewoodref3_endAt.tab k) Go.Proofs.Try.f45.ntmps (bodyOf Go.Proofs.Try.f45) Go.Proofs.Try.f45.results.toList brindlewoodref3_endAt.A brindlewoodref3_endAt.B .nil x = brindlewoodref3_endAt k x.1 x.2.1 x.2.2.1 x.2.2.2 := by kernel_rfl

theorem brindlewoodref3_Places.l0_ev (k n : Nat) (x : brindlewoodref3_Places.M0.den) :
    evalRound Go.Sh.tt (brindlewoodref3_Places.tab k) Go.Proofs.Try.f15.ntmps (finOf Go.Sh.tt brindlewoodref3_Places.B Go.Proofs.Try.f15.results.toList) (cAt [1, 1, 1, 1, 1, 1, 1, 1, 1, 0, 1, 0, 0] (bodyOf Go.Proofs.Try.f15)) .nil brindlewoodref3_Places.M0 brindlewoodref3_Places.O0 0 (fun x => brindlewoodref3_Places.l0 k n x.1 x.2.1 x.2.2.1 x.2.2.2.1 x.2.2.2.2) x = brindlewoodref3_Places.l0 k (n + 1) x.1 x.2.1 x.2.2.1 x.2.2.2.1 x.2.2.2.2 := by kernel_rfl
theorem brindlewoodref3_Places.ev (k : Nat) (x : denA brindlewoodref3_Places.A) :
    evalF Go.Sh.tt (brindlewoodref3_Places.tab k) Go.Proofs.Try.f15.ntmps (bodyOf Go.Proofs.Try.f15) Go.Proofs.Try.f15.results.toList brindlewoodref3_Places.A brindlewoodref3_Places.B (.seq .nil (.seq .nil (.jseq ⟨[.dat 1 (.int .i64), .box 73 [.st (.pair (.st (.pair (.bool) (.list (.int .u32)))) (.pair (.st (.pair (.bool) (.list (.int .u32)))) (.pair (.st (.pair (.bool) (.list (.int .u32)))) (.pair (.bool) (.pair (.bool) (.bool))))))], .dat 5 (.int .i64), .own 6 (.int .i64)], [.ptr 2 73 0]⟩ .nil (.seq .nil (.jseq ⟨[.dat 1 (.int .i64), .box 73 [.st (.pair (.st (.pair (.bool) (.list (.int .u32)))) (.pair (.st (.pair (.bool) (.list (.int .u32)))) (.pair (.st (.pair (.bool) (.list (.int .u32)))) (.pair (.bool) (.pair (.bool) (.bool))))))], .dat 5 (.int .i64), .own 6 (.int .i64), .dat 7 (.int .i64), .dat 8 (.int .i64)], [.ptr 2 73 0]⟩ .nil (.seq .nil (.jseq ⟨[.dat 1 (.int .i64), .box 73 [.st (.pair (.st (.pair (.bool) (.list (.int .u32)))) (.pair (.st (.pair (.bool) (.list (.int .u32)))) (.pair (.st (.pair (.bool) (.list (.int .u32)))) (.pair (.bool) (.pair (.bool) (.bool))))))], .dat 4 (.int .i64), .dat 5 (.int .i64), .own 6 (.int .i64), .dat 7 (.int .i64), .dat 8 (.int .i64), .dat 9 (.int .i64)], [.ptr 2 73 0]⟩ .nil (.jseq ⟨[.dat 1 (.int .i64), .box 73 [.st (.pair (.st (.pair (.bool) (.list (.int .u32)))) (.pair (.st (.pair (.bool) (.list (.int .u32)))) (.pair (.st (.pair (.bool) (.list (.int .u32)))) (.pair (.bool) (.pair (.bool) (.bool))))))], .dat 4 (.int .i64), .dat 5 (.int .i64), .own 6 (.int .i64), .dat 7 (.int .i64), .dat 8 (.int .i64), .dat 9 (.int .i64)], [.ptr 2 73 0]⟩ .nil (.jseq ⟨[.dat 4 (.int .i64), .dat 5 (.int .i64), .own 6 (.int .i64), .dat 9 (.int .i64)], []⟩ .nil (.seq (.seq .nil (.block (brindlewoodref3_Places.an0 k))) .nil)))))))))) x = brindlewoodref3_Places k x.1 x.2 := by kernel_rfl

theorem brindlewoodlaw3_SlicingResolves.ev (k : Nat) (x : denA brindlewoodlaw3_SlicingResolves.A) :
    evalF Go.Sh.tt (brindlewoodlaw3_SlicingResolves.tab k) Go.Proofs.Try.f3.ntmps (bodyOf Go.Proofs.Try.f3) Go.Proofs.Try.f3.results.toList brindlewoodlaw3_SlicingResolves.A brindlewoodlaw3_SlicingResolves.B (.seq .nil (.seq .nil (.seq .nil (.seq .nil (.jseq ⟨[.dat 2 (.int .i64), .box 146 [.st (.pair (.bool) (.list (.int .u32)))], .box 147 [.st (.pair (.st (.pair (.bool) (.list (.int .u32)))) (.pair (.st (.pair (.bool) (.list (.int .u32)))) (.pair (.st (.pair (.bool) (.list (.int .u32)))) (.pair (.bool) (.pair (.bool) (.bool))))))], .dat 7 (.int .i64), .box 151 [.st (.pair (.int .i64) (.int .i64))], .dat 9 (.int .i64), .dat 10 (.int .i64), .dat 11 (.int .i64), .box 155 [.st (.pair (.int .i64) (.int .i64))], .box 156 [.st (.pair (.int .i64) (.int .i64))]], [.ptr 3 146 0, .ptr 4 147 0, .ptr 8 151 0, .ptr 12 155 0, .ptr 13 156 0]⟩ .nil (.jseq ⟨[.dat 2 (.int .i64), .box 146 [.st (.pair (.bool) (.list (.int .u32)))], .box 147 [.st (.pair (.st (.pair (.bool) (.list (.int .u32)))) (.pair (.st (.pair (.bool) (.list (.int .u32)))) (.pair (.st (.pair (.bool) (.list (.int .u32)))) (.pair (.bool) (.pair (.bool) (.bool))))))], .dat 7 (.int .i64), .box 151 [.st (.pair (.int .i64) (.int .i64))], .dat 9 (.int .i64), .dat 10 (.int .i64), .dat 11 (.int .i64), .box 155 [.st (.pair (.int .i64) (.int .i64))], .box 156 [.st (.pair (.int .i64) (.int .i64))], .dat 14 (.bool)], [.ptr 3 146 0, .ptr 4 147 0, .ptr 8 151 0, .ptr 12 155 0, .ptr 13 156 0]⟩ .nil (.seq .nil (.seq .nil (.jseq ⟨[.dat 2 (.int .i64), .box 147 [.st (.pair (.st (.pair (.bool) (.list (.int .u32)))) (.pair (.st (.pair (.bool) (.list (.int .u32)))) (.pair (.st (.pair (.bool) (.list (.int .u32)))) (.pair (.bool) (.pair (.bool) (.bool))))))], .dat 7 (.int .i64), .box 151 [.st (.pair (.int .i64) (.int .i64))], .dat 9 (.int .i64), .dat 10 (.int .i64), .dat 11 (.int .i64), .box 155 [.st (.pair (.int .i64) (.int .i64))], .box 156 [.st (.pair (.int .i64) (.int .i64))], .dat 14 (.bool), .box 158 [.st (.pair (.int .i64) (.int .i64))], .dat 16 (.int .i64), .dat 17 (.bool)], [.ptr 4 147 0, .ptr 8 151 0, .ptr 12 155 0, .ptr 13 156 0, .ptr 15 158 0]⟩ .nil (.jseq ⟨[.dat 2 (.int .i64), .box 147 [.st (.pair (.st (.pair (.bool) (.list (.int .u32)))) (.pair (.st (.pair (.bool) (.list (.int .u32)))) (.pair (.st (.pair (.bool) (.list (.int .u32)))) (.pair (.bool) (.pair (.bool) (.bool))))))], .dat 9 (.int .i64), .dat 10 (.int .i64), .dat 11 (.int .i64), .box 155 [.st (.pair (.int .i64) (.int .i64))], .box 156 [.st (.pair (.int .i64) (.int .i64))], .dat 14 (.bool)], [.ptr 4 147 0, .ptr 12 155 0, .ptr 13 156 0]⟩ .nil (.jseq ⟨[.dat 2 (.int .i64), .box 147 [.st (.pair (.st (.pair (.bool) (.list (.int .u32)))) (.pair (.st (.pair (.bool) (.list (.int .u32)))) (.pair (.st (.pair (.bool) (.list (.int .u32)))) (.pair (.bool) (.pair (.bool) (.bool))))))], .dat 9 (.int .i64), .dat 10 (.int .i64), .dat 11 (.int .i64), .box 155 [.st (.pair (.int .i64) (.int .i64))], .box 156 [.st (.pair (.int .i64) (.int .i64))]], [.ptr 4 147 0, .ptr 12 155 0, .ptr 13 156 0]⟩ .nil .nil))))))))))) x = brindlewoodlaw3_SlicingResolves k x.1 x.2.1 x.2.2 := by kernel_rfl
end Go.Sh
