/- The evaluator's answers are those of the plain functions, by wip/gen/gen.py.  Conditions: none. -/
import Derived.Test.YtpomnejenhgpkaaShD
set_option linter.unusedVariables false
set_option maxRecDepth 100000
set_option maxHeartbeats 0
namespace Go.Sh
open Go Go.Ev

theorem integer_Of.l0_ev (k n : Nat) (x : integer_Of.M0.den) :
    evalRound Go.Sh.tt (integer_Of.tab k) Go.Proofs.Try.f18.ntmps (finOf Go.Sh.tt integer_Of.B Go.Proofs.Try.f18.results.toList) (cAt [1, 1, 1, 1, 0, 0, 0] (bodyOf Go.Proofs.Try.f18)) .nil integer_Of.M0 integer_Of.O0 0 (fun x => integer_Of.l0 k n x.1 x.2.1 x.2.2) x = integer_Of.l0 k (n + 1) x.1 x.2.1 x.2.2 := by kernel_rfl
theorem integer_Of.ev (k : Nat) (x : denA integer_Of.A) :
    evalF Go.Sh.tt (integer_Of.tab k) Go.Proofs.Try.f18.ntmps (bodyOf Go.Proofs.Try.f18) Go.Proofs.Try.f18.results.toList integer_Of.A integer_Of.B (.seq .nil (.seq .nil (.jseq ⟨[.dat 0 (.int .i64), .box 40 [.st (.pair (.bool) (.list (.int .u32)))], .dat 3 (.int .u64)], [.ptr 2 40 0]⟩ .nil (.seq .nil (.seq (.block (integer_Of.an0 k)) .nil))))) x = integer_Of k x := by kernel_rfl

theorem integer_Valid.ev  (x : denA integer_Valid.A) :
    evalF Go.Sh.tt (integer_Valid.tab) Go.Proofs.Try.f39.ntmps (bodyOf Go.Proofs.Try.f39) Go.Proofs.Try.f39.results.toList integer_Valid.A integer_Valid.B .nil x = integer_Valid x := by kernel_rfl

theorem slicing_part.ev  (x : denA slicing_part.A) :
    evalF Go.Sh.tt (slicing_part.tab) Go.Proofs.Try.f32.ntmps (bodyOf Go.Proofs.Try.f32) Go.Proofs.Try.f32.results.toList slicing_part.A slicing_part.B .nil x = slicing_part x.1 x.2 := by kernel_rfl

theorem slicing_at.ev  (x : denA slicing_at.A) :
    evalF Go.Sh.tt (slicing_at.tab) Go.Proofs.Try.f15.ntmps (bodyOf Go.Proofs.Try.f15) Go.Proofs.Try.f15.results.toList slicing_at.A slicing_at.B .nil x = slicing_at x.1 x.2 := by kernel_rfl

theorem slicing_Check.ev  (x : denA slicing_Check.A) :
    evalF Go.Sh.tt (slicing_Check.tab) Go.Proofs.Try.f24.ntmps (bodyOf Go.Proofs.Try.f24) Go.Proofs.Try.f24.results.toList slicing_Check.A slicing_Check.B (.seq .nil (.jseq ⟨[.box 38 [.st (.pair (.st (.pair (.bool) (.list (.int .u32)))) (.pair (.st (.pair (.bool) (.list (.int .u32)))) (.pair (.st (.pair (.bool) (.list (.int .u32)))) (.pair (.bool) (.pair (.bool) (.bool))))))], .box 39 [.st (.pair (.int .i64) (.int .i64))]], [.ptr 1 38 0, .ptr 2 39 0]⟩ .nil .nil)) x = slicing_Check x := by kernel_rfl

theorem integer_at.ev  (x : denA integer_at.A) :
    evalF Go.Sh.tt (integer_at.tab) Go.Proofs.Try.f41.ntmps (bodyOf Go.Proofs.Try.f41) Go.Proofs.Try.f41.results.toList integer_at.A integer_at.B .nil x = integer_at x.1 x.2 := by kernel_rfl

theorem integer_check.l0_ev (k n : Nat) (x : integer_check.M0.den) :
    evalRound Go.Sh.tt (integer_check.tab k) Go.Proofs.Try.f40.ntmps (finOf Go.Sh.tt integer_check.B Go.Proofs.Try.f40.results.toList) (cAt [1, 0, 1, 0, 0] (bodyOf Go.Proofs.Try.f40)) .nil integer_check.M0 integer_check.O0 0 (fun x => integer_check.l0 k n x.1 x.2.1 x.2.2.1 x.2.2.2) x = integer_check.l0 k (n + 1) x.1 x.2.1 x.2.2.1 x.2.2.2 := by kernel_rfl
theorem integer_check.ev (k : Nat) (x : denA integer_check.A) :
    evalF Go.Sh.tt (integer_check.tab k) Go.Proofs.Try.f40.ntmps (bodyOf Go.Proofs.Try.f40) Go.Proofs.Try.f40.results.toList integer_check.A integer_check.B (.seq .nil (.seq (.seq .nil (.block (integer_check.an0 k))) .nil)) x = integer_check k x := by kernel_rfl

theorem integer_Small.l0_ev (k n : Nat) (x : integer_Small.M0.den) :
    evalRound Go.Sh.tt (integer_Small.tab k) Go.Proofs.Try.f33.ntmps (finOf Go.Sh.tt integer_Small.B Go.Proofs.Try.f33.results.toList) (cAt [1, 1, 1, 0, 1, 0, 0] (bodyOf Go.Proofs.Try.f33)) .nil integer_Small.M0 integer_Small.O0 0 (fun x => integer_Small.l0 k n x.1 x.2.1 x.2.2.1 x.2.2.2.1 x.2.2.2.2.1 x.2.2.2.2.2) x = integer_Small.l0 k (n + 1) x.1 x.2.1 x.2.2.1 x.2.2.2.1 x.2.2.2.2.1 x.2.2.2.2.2 := by kernel_rfl
theorem integer_Small.ev (k : Nat) (x : denA integer_Small.A) :
    evalF Go.Sh.tt (integer_Small.tab k) Go.Proofs.Try.f33.ntmps (bodyOf Go.Proofs.Try.f33) Go.Proofs.Try.f33.results.toList integer_Small.A integer_Small.B (.seq .nil (.seq .nil (.seq .nil (.seq (.seq .nil (.block (integer_Small.an0 k))) (.seq .nil (.jseq ⟨[.box 50 [.st (.pair (.bool) (.list (.int .u32)))], .box 52 [.st (.pair (.int .i64) (.int .i64))], .dat 8 (.int .i64)], [.ptr 1 50 0, .ptr 3 52 0]⟩ .nil .nil)))))) x = integer_Small k x := by kernel_rfl

theorem slicing_bounded.ev (k : Nat) (x : denA slicing_bounded.A) :
    evalF Go.Sh.tt (slicing_bounded.tab k) Go.Proofs.Try.f25.ntmps (bodyOf Go.Proofs.Try.f25) Go.Proofs.Try.f25.results.toList slicing_bounded.A slicing_bounded.B .nil x = slicing_bounded k x.1 x.2.1 x.2.2 := by kernel_rfl

theorem slicing_end.ev (k : Nat) (x : denA slicing_end.A) :
    evalF Go.Sh.tt (slicing_end.tab k) Go.Proofs.Try.f26.ntmps (bodyOf Go.Proofs.Try.f26) Go.Proofs.Try.f26.results.toList slicing_end.A slicing_end.B .nil x = slicing_end k x.1 x.2.1 x.2.2.1 x.2.2.2 := by kernel_rfl

theorem slicing_Resolve.ev (k : Nat) (x : denA slicing_Resolve.A) :
    evalF Go.Sh.tt (slicing_Resolve.tab k) Go.Proofs.Try.f14.ntmps (bodyOf Go.Proofs.Try.f14) Go.Proofs.Try.f14.results.toList slicing_Resolve.A slicing_Resolve.B (.seq .nil (.seq .nil (.jseq ⟨[.dat 1 (.int .i64), .box 86 [.st (.pair (.st (.pair (.bool) (.list (.int .u32)))) (.pair (.st (.pair (.bool) (.list (.int .u32)))) (.pair (.st (.pair (.bool) (.list (.int .u32)))) (.pair (.bool) (.pair (.bool) (.bool))))))], .box 91 [.st (.pair (.int .i64) (.int .i64))]], [.ptr 2 86 0, .ptr 7 91 0]⟩ .nil (.seq .nil (.jseq ⟨[.dat 1 (.int .i64), .box 86 [.st (.pair (.st (.pair (.bool) (.list (.int .u32)))) (.pair (.st (.pair (.bool) (.list (.int .u32)))) (.pair (.st (.pair (.bool) (.list (.int .u32)))) (.pair (.bool) (.pair (.bool) (.bool))))))], .dat 5 (.int .i64), .box 91 [.st (.pair (.int .i64) (.int .i64))]], [.ptr 2 86 0, .ptr 7 91 0]⟩ .nil (.seq .nil (.jseq ⟨[.dat 1 (.int .i64), .box 86 [.st (.pair (.st (.pair (.bool) (.list (.int .u32)))) (.pair (.st (.pair (.bool) (.list (.int .u32)))) (.pair (.st (.pair (.bool) (.list (.int .u32)))) (.pair (.bool) (.pair (.bool) (.bool))))))], .dat 5 (.int .i64), .box 91 [.st (.pair (.int .i64) (.int .i64))], .dat 9 (.int .i64), .dat 10 (.int .i64)], [.ptr 2 86 0, .ptr 7 91 0]⟩ .nil (.seq .nil (.jseq ⟨[.dat 1 (.int .i64), .box 86 [.st (.pair (.st (.pair (.bool) (.list (.int .u32)))) (.pair (.st (.pair (.bool) (.list (.int .u32)))) (.pair (.st (.pair (.bool) (.list (.int .u32)))) (.pair (.bool) (.pair (.bool) (.bool))))))], .dat 4 (.int .i64), .dat 5 (.int .i64), .box 91 [.st (.pair (.int .i64) (.int .i64))], .dat 9 (.int .i64), .dat 10 (.int .i64), .dat 11 (.int .i64)], [.ptr 2 86 0, .ptr 7 91 0]⟩ .nil (.jseq ⟨[.dat 1 (.int .i64), .box 86 [.st (.pair (.st (.pair (.bool) (.list (.int .u32)))) (.pair (.st (.pair (.bool) (.list (.int .u32)))) (.pair (.st (.pair (.bool) (.list (.int .u32)))) (.pair (.bool) (.pair (.bool) (.bool))))))], .dat 4 (.int .i64), .dat 5 (.int .i64), .box 91 [.st (.pair (.int .i64) (.int .i64))], .dat 9 (.int .i64), .dat 10 (.int .i64), .dat 11 (.int .i64)], [.ptr 2 86 0, .ptr 7 91 0]⟩ .nil (.jseq ⟨[.dat 4 (.int .i64), .dat 5 (.int .i64), .box 91 [.st (.pair (.int .i64) (.int .i64))], .dat 11 (.int .i64)], [.ptr 7 91 0]⟩ .nil .nil))))))))))) x = slicing_Resolve k x.1 x.2 := by kernel_rfl

theorem slices_Grow_intint_nd.ev  (x : denA slices_Grow_intint_nd.A) :
    evalF Go.Sh.tt (slices_Grow_intint_nd.tab) Go.Proofs.Try.f27.ntmps (bodyOf Go.Proofs.Try.f27) Go.Proofs.Try.f27.results.toList slices_Grow_intint_nd.A slices_Grow_intint_nd.B .nil x = slices_Grow_intint_nd x.1 x.2 := by kernel_rfl

theorem slices_Concat_intint.l1_ev (k n : Nat) (x : slices_Concat_intint.M1.den) :
    evalRound Go.Sh.tt (slices_Concat_intint.tab k) Go.Proofs.Try.f16.ntmps (finOf Go.Sh.tt slices_Concat_intint.B Go.Proofs.Try.f16.results.toList) (cAt [1, 1, 1, 1, 0, 1, 0, 0] (bodyOf Go.Proofs.Try.f16)) .nil slices_Concat_intint.M1 slices_Concat_intint.O1 2 (fun x => slices_Concat_intint.l1 k n x.1 x.2.1 x.2.2.1 x.2.2.2) x = slices_Concat_intint.l1 k (n + 1) x.1 x.2.1 x.2.2.1 x.2.2.2 := by kernel_rfl
theorem slices_Concat_intint.l0_ev (k n : Nat) (x : slices_Concat_intint.M0.den) :
    evalRound Go.Sh.tt (slices_Concat_intint.tab k) Go.Proofs.Try.f16.ntmps (finOf Go.Sh.tt slices_Concat_intint.B Go.Proofs.Try.f16.results.toList) (cAt [1, 1, 0, 1, 0, 0] (bodyOf Go.Proofs.Try.f16)) .nil slices_Concat_intint.M0 slices_Concat_intint.O0 0 (fun x => slices_Concat_intint.l0 k n x.1 x.2.1 x.2.2.1 x.2.2.2.1 x.2.2.2.2) x = slices_Concat_intint.l0 k (n + 1) x.1 x.2.1 x.2.2.1 x.2.2.2.1 x.2.2.2.2 := by kernel_rfl
theorem slices_Concat_intint.ev (k : Nat) (x : denA slices_Concat_intint.A) :
    evalF Go.Sh.tt (slices_Concat_intint.tab k) Go.Proofs.Try.f16.ntmps (bodyOf Go.Proofs.Try.f16) Go.Proofs.Try.f16.results.toList slices_Concat_intint.A slices_Concat_intint.B (.seq .nil (.seq .nil (.seq (.seq .nil (.block (slices_Concat_intint.an0 k))) (.seq .nil (.seq (.seq .nil (.block (slices_Concat_intint.an1 k))) .nil))))) x = slices_Concat_intint k x := by kernel_rfl



theorem slicing_Put_int.l0_ev (k n : Nat) (x : slicing_Put_int.M0.den) :
    evalRound Go.Sh.tt (slicing_Put_int.tab k) Go.Proofs.Try.f6.ntmps (finOf Go.Sh.tt slicing_Put_int.B Go.Proofs.Try.f6.results.toList) (cAt [1, 1, 1, 1, 0, 1, 0, 0] (bodyOf Go.Proofs.Try.f6)) .nil slicing_Put_int.M0 slicing_Put_int.O0 1 (fun x => slicing_Put_int.l0 k n x.1 x.2.1 x.2.2.1 x.2.2.2.1 x.2.2.2.2.1 x.2.2.2.2.2.1 x.2.2.2.2.2.2) x = slicing_Put_int.l0 k (n + 1) x.1 x.2.1 x.2.2.1 x.2.2.2.1 x.2.2.2.2.1 x.2.2.2.2.2.1 x.2.2.2.2.2.2 := by kernel_rfl
theorem slicing_Put_int.ev (k : Nat) (x : denA slicing_Put_int.A) :
    evalF Go.Sh.tt (slicing_Put_int.tab k) Go.Proofs.Try.f6.ntmps (bodyOf Go.Proofs.Try.f6) Go.Proofs.Try.f6.results.toList slicing_Put_int.A slicing_Put_int.B (.seq .nil (.seq .nil (.seq (.block (.seq .nil (.cond .nil (.jseq ⟨[.dat 0 (.list (.int .i64)), .dat 2 (.list (.int .i64)), .dat 3 (.int .i64), .box 96 [.st (.pair (.int .i64) (.int .i64))], .dat 10 (.int .i64), .dat 11 (.int .i64), .dat 12 (.int .i64), .dat 31 (.bool)], [.ptr 9 96 0]⟩ .nil .nil)))) (.seq .nil (.seq (.seq .nil (.block (slicing_Put_int.an0 k))) .nil))))) x = slicing_Put_int k x.1 x.2.1 x.2.2.1 x.2.2.2 := by kernel_rfl

theorem brindlewoodref3_Numbers.l0_ev (k n : Nat) (x : brindlewoodref3_Numbers.M0.den) :
    evalRound Go.Sh.tt (brindlewoodref3_Numbers.tab k) Go.Proofs.Try.f9.ntmps (finOf Go.Sh.tt brindlewoodref3_Numbers.B Go.Proofs.Try.f9.results.toList) (cAt [1, 1, 0, 1, 0, 0] (bodyOf Go.Proofs.Try.f9)) .nil brindlewoodref3_Numbers.M0 brindlewoodref3_Numbers.O0 0 (fun x => brindlewoodref3_Numbers.l0 k n x.1 x.2.1 x.2.2) x = brindlewoodref3_Numbers.l0 k (n + 1) x.1 x.2.1 x.2.2 := by kernel_rfl
theorem brindlewoodref3_Numbers.ev (k : Nat) (x : denA brindlewoodref3_Numbers.A) :
    evalF Go.Sh.tt (brindlewoodref3_Numbers.tab k) Go.Proofs.Try.f9.ntmps (bodyOf Go.Proofs.Try.f9) Go.Proofs.Try.f9.results.toList brindlewoodref3_Numbers.A brindlewoodref3_Numbers.B (.seq .nil (.seq .nil (.seq (.seq .nil (.block (brindlewoodref3_Numbers.an0 k))) .nil))) x = brindlewoodref3_Numbers k x.1 x.2 := by kernel_rfl

theorem brindlewoodlaw3_cuts.ev (k : Nat) (x : denA brindlewoodlaw3_cuts.A) :
    evalF Go.Sh.tt (brindlewoodlaw3_cuts.tab k) Go.Proofs.Try.f8.ntmps (bodyOf Go.Proofs.Try.f8) Go.Proofs.Try.f8.results.toList brindlewoodlaw3_cuts.A brindlewoodlaw3_cuts.B .nil x = brindlewoodlaw3_cuts k  := by kernel_rfl

theorem slicing_Take_int.l0_ev (k n : Nat) (x : slicing_Take_int.M0.den) :
    evalRound Go.Sh.tt (slicing_Take_int.tab k) Go.Proofs.Try.f5.ntmps (finOf Go.Sh.tt slicing_Take_int.B Go.Proofs.Try.f5.results.toList) (cAt [1, 1, 1, 1, 0, 1, 0, 0] (bodyOf Go.Proofs.Try.f5)) .nil slicing_Take_int.M0 slicing_Take_int.O0 0 (fun x => slicing_Take_int.l0 k n x.1 x.2.1 x.2.2.1 x.2.2.2.1 x.2.2.2.2.1 x.2.2.2.2.2.1 x.2.2.2.2.2.2) x = slicing_Take_int.l0 k (n + 1) x.1 x.2.1 x.2.2.1 x.2.2.2.1 x.2.2.2.2.1 x.2.2.2.2.2.1 x.2.2.2.2.2.2 := by kernel_rfl
theorem slicing_Take_int.ev (k : Nat) (x : denA slicing_Take_int.A) :
    evalF Go.Sh.tt (slicing_Take_int.tab k) Go.Proofs.Try.f5.ntmps (bodyOf Go.Proofs.Try.f5) Go.Proofs.Try.f5.results.toList slicing_Take_int.A slicing_Take_int.B (.seq .nil (.seq .nil (.seq .nil (.seq .nil (.seq (.seq .nil (.block (slicing_Take_int.an0 k))) .nil))))) x = slicing_Take_int k x.1 x.2 := by kernel_rfl

theorem slicing_Drop_int.l1_ev (k n : Nat) (x : slicing_Drop_int.M1.den) :
    evalRound Go.Sh.tt (slicing_Drop_int.tab k) Go.Proofs.Try.f7.ntmps (finOf Go.Sh.tt slicing_Drop_int.B Go.Proofs.Try.f7.results.toList) (cAt [1, 1, 1, 1, 1, 1, 0, 1, 0, 0] (bodyOf Go.Proofs.Try.f7)) .nil slicing_Drop_int.M1 slicing_Drop_int.O1 2 (fun x => slicing_Drop_int.l1 k n x.1 x.2.1 x.2.2.1 x.2.2.2.1 x.2.2.2.2.1 x.2.2.2.2.2) x = slicing_Drop_int.l1 k (n + 1) x.1 x.2.1 x.2.2.1 x.2.2.2.1 x.2.2.2.2.1 x.2.2.2.2.2 := by kernel_rfl
theorem slicing_Drop_int.l0_ev (k n : Nat) (x : slicing_Drop_int.M0.den) :
    evalRound Go.Sh.tt (slicing_Drop_int.tab k) Go.Proofs.Try.f7.ntmps (finOf Go.Sh.tt slicing_Drop_int.B Go.Proofs.Try.f7.results.toList) (cAt [1, 1, 1, 1, 0, 1, 0, 0] (bodyOf Go.Proofs.Try.f7)) .nil slicing_Drop_int.M0 slicing_Drop_int.O0 0 (fun x => slicing_Drop_int.l0 k n x.1 x.2.1 x.2.2.1 x.2.2.2.1 x.2.2.2.2.1 x.2.2.2.2.2.1 x.2.2.2.2.2.2) x = slicing_Drop_int.l0 k (n + 1) x.1 x.2.1 x.2.2.1 x.2.2.2.1 x.2.2.2.2.1 x.2.2.2.2.2.1 x.2.2.2.2.2.2 := by kernel_rfl
theorem slicing_Drop_int.ev (k : Nat) (x : denA slicing_Drop_int.A) :
    evalF Go.Sh.tt (slicing_Drop_int.tab k) Go.Proofs.Try.f7.ntmps (bodyOf Go.Proofs.Try.f7) Go.Proofs.Try.f7.results.toList slicing_Drop_int.A slicing_Drop_int.B (.seq .nil (.seq .nil (.seq .nil (.seq .nil (.seq (.seq .nil (.block (slicing_Drop_int.an0 k))) (.seq .nil (.seq (.seq .nil (.block (slicing_Drop_int.an1 k))) .nil))))))) x = slicing_Drop_int k x.1 x.2 := by kernel_rfl

theorem brindlewoodref3_At.ev  (x : denA brindlewoodref3_At.A) :
    evalF Go.Sh.tt (brindlewoodref3_At.tab) Go.Proofs.Try.f11.ntmps (bodyOf Go.Proofs.Try.f11) Go.Proofs.Try.f11.results.toList brindlewoodref3_At.A brindlewoodref3_At.B .nil x = brindlewoodref3_At x.1 x.2 := by kernel_rfl

theorem brindlewoodlaw3_SlicingBack.ev (k : Nat) (x : denA brindlewoodlaw3_SlicingBack.A) :
    evalF Go.Sh.tt (brindlewoodlaw3_SlicingBack.tab k) Go.Proofs.Try.f4.ntmps (bodyOf Go.Proofs.Try.f4) Go.Proofs.Try.f4.results.toList brindlewoodlaw3_SlicingBack.A brindlewoodlaw3_SlicingBack.B (.seq .nil (.jseq ⟨[.dat 0 (.list (.int .i64)), .box 143 [.st (.pair (.st (.pair (.bool) (.list (.int .u32)))) (.pair (.st (.pair (.bool) (.list (.int .u32)))) (.pair (.st (.pair (.bool) (.list (.int .u32)))) (.pair (.bool) (.pair (.bool) (.bool))))))]], [.ptr 3 143 0]⟩ .nil (.seq .nil (.seq .nil (.seq .nil (.seq .nil (.seq .nil (.jseq ⟨[.dat 0 (.list (.int .i64)), .box 143 [.st (.pair (.st (.pair (.bool) (.list (.int .u32)))) (.pair (.st (.pair (.bool) (.list (.int .u32)))) (.pair (.st (.pair (.bool) (.list (.int .u32)))) (.pair (.bool) (.pair (.bool) (.bool))))))], .dat 9 (.list (.int .i64)), .dat 12 (.int .i64), .dat 13 (.int .i64)], [.ptr 3 143 0]⟩ .nil .nil)))))))) x = brindlewoodlaw3_SlicingBack k x.1 x.2 := by kernel_rfl
end Go.Sh
