/- The evaluator's answers are those of the plain functions, by wip/gen/gen.py.  Conditions: none. -/
import Derived.Test.YtjdambgnmphakaaShD
set_option linter.unusedVariables false
set_option maxRecDepth 100000
set_option maxHeartbeats 0
namespace Go.Sh
open Go Go.Ev

theorem ordering_at.ev  (x : denA ordering_at.A) :
    evalF Go.Sh.tt (ordering_at.tab) Go.Proofs.Try.f30.ntmps (bodyOf Go.Proofs.Try.f30) Go.Proofs.Try.f30.results.toList ordering_at.A ordering_at.B .nil x = ordering_at x.1 x.2 := by kernel_rfl



theorem ordering_Plan_runs.ev  (x : denA ordering_Plan_runs.A) :
    evalF Go.Sh.tt (ordering_Plan_runs.tab) Go.Proofs.Try.f34.ntmps (bodyOf Go.Proofs.Try.f34) Go.Proofs.Try.f34.results.toList ordering_Plan_runs.A ordering_Plan_runs.B .nil x = ordering_Plan_runs x := by kernel_rfl

theorem slices_Grow_intint_nd.ev  (x : denA slices_Grow_intint_nd.A) :
    evalF Go.Sh.tt (slices_Grow_intint_nd.tab) Go.Proofs.Try.f40.ntmps (bodyOf Go.Proofs.Try.f40) Go.Proofs.Try.f40.results.toList slices_Grow_intint_nd.A slices_Grow_intint_nd.B .nil x = slices_Grow_intint_nd x.1 x.2 := by kernel_rfl

theorem slices_Concat_intint.l1_ev (k n : Nat) (x : slices_Concat_intint.M1.den) :
    evalRound Go.Sh.tt (slices_Concat_intint.tab k) Go.Proofs.Try.f38.ntmps (finOf Go.Sh.tt slices_Concat_intint.B Go.Proofs.Try.f38.results.toList) (cAt [1, 1, 1, 1, 0, 1, 0, 0] (bodyOf Go.Proofs.Try.f38)) .nil slices_Concat_intint.M1 slices_Concat_intint.O1 2 (fun x => slices_Concat_intint.l1 k n x.1 x.2.1 x.2.2.1 x.2.2.2) x = slices_Concat_intint.l1 k (n + 1) x.1 x.2.1 x.2.2.1 x.2.2.2 := by kernel_rfl
theorem slices_Concat_intint.l0_ev (k n : Nat) (x : slices_Concat_intint.M0.den) :
    evalRound Go.Sh.tt (slices_Concat_intint.tab k) Go.Proofs.Try.f38.ntmps (finOf Go.Sh.tt slices_Concat_intint.B Go.Proofs.Try.f38.results.toList) (cAt [1, 1, 0, 1, 0, 0] (bodyOf Go.Proofs.Try.f38)) .nil slices_Concat_intint.M0 slices_Concat_intint.O0 0 (fun x => slices_Concat_intint.l0 k n x.1 x.2.1 x.2.2.1 x.2.2.2.1 x.2.2.2.2) x = slices_Concat_intint.l0 k (n + 1) x.1 x.2.1 x.2.2.1 x.2.2.2.1 x.2.2.2.2 := by kernel_rfl
theorem slices_Concat_intint.ev (k : Nat) (x : denA slices_Concat_intint.A) :
    evalF Go.Sh.tt (slices_Concat_intint.tab k) Go.Proofs.Try.f38.ntmps (bodyOf Go.Proofs.Try.f38) Go.Proofs.Try.f38.results.toList slices_Concat_intint.A slices_Concat_intint.B (.seq .nil (.seq .nil (.seq (.seq .nil (.block (slices_Concat_intint.an0 k))) (.seq .nil (.seq (.seq .nil (.block (slices_Concat_intint.an1 k))) .nil))))) x = slices_Concat_intint k x := by kernel_rfl

theorem ordering_Plan_settle.l0_ev (k n : Nat) (x : ordering_Plan_settle.M0.den) :
    evalRound Go.Sh.tt (ordering_Plan_settle.tab k) Go.Proofs.Try.f31.ntmps (finOf Go.Sh.tt ordering_Plan_settle.B Go.Proofs.Try.f31.results.toList) (cAt [1, 1, 0, 0, 0] (bodyOf Go.Proofs.Try.f31)) (.seq .nil (.block (.seq .nil (.jseq ⟨[.fbox 1 [.st (.pair (.list (.int .i64)) (.pair (.int .i64) (.pair (.int .i64) (.pair (.int .i64) (.pair (.int .i64) (.list (.int .i64)))))))] [0], .fbox 2 [.st (.pair (.list (.int .i64)) (.pair (.int .i64) (.pair (.int .i64) (.pair (.int .i64) (.pair (.int .i64) (.list (.int .i64)))))))] [0, 5], .dat 3 (.int .i64), .dat 4 (.int .i64)], []⟩ .nil .nil)))) ordering_Plan_settle.M0 ordering_Plan_settle.O0 0 (fun x => ordering_Plan_settle.l0 k n x.1 x.2) x = ordering_Plan_settle.l0 k (n + 1) x.1 x.2 := by kernel_rfl
theorem ordering_Plan_settle.ev (k : Nat) (x : denA ordering_Plan_settle.A) :
    evalF Go.Sh.tt (ordering_Plan_settle.tab k) Go.Proofs.Try.f31.ntmps (bodyOf Go.Proofs.Try.f31) Go.Proofs.Try.f31.results.toList ordering_Plan_settle.A ordering_Plan_settle.B (.seq .nil (.seq .nil (.seq (.block (ordering_Plan_settle.an0 k)) .nil))) x = ordering_Plan_settle k x := by kernel_rfl

theorem ordering_Start.l0_ev (k n : Nat) (x : ordering_Start.M0.den) :
    evalRound Go.Sh.tt (ordering_Start.tab k) Go.Proofs.Try.f8.ntmps (finOf Go.Sh.tt ordering_Start.B Go.Proofs.Try.f8.results.toList) (cAt [1, 1, 1, 0, 1, 0, 0] (bodyOf Go.Proofs.Try.f8)) .nil ordering_Start.M0 ordering_Start.O0 0 (fun x => ordering_Start.l0 k n x.1 x.2.1 x.2.2.1 x.2.2.2.1 x.2.2.2.2) x = ordering_Start.l0 k (n + 1) x.1 x.2.1 x.2.2.1 x.2.2.2.1 x.2.2.2.2 := by kernel_rfl
theorem ordering_Start.ev (k : Nat) (x : denA ordering_Start.A) :
    evalF Go.Sh.tt (ordering_Start.tab k) Go.Proofs.Try.f8.ntmps (bodyOf Go.Proofs.Try.f8) Go.Proofs.Try.f8.results.toList ordering_Start.A ordering_Start.B (.seq .nil (.jseq ⟨[.dat 0 (.int .i64), .fbox 2 [.st (.pair (.list (.int .i64)) (.pair (.int .i64) (.pair (.int .i64) (.pair (.int .i64) (.pair (.int .i64) (.list (.int .i64)))))))] [0, 5], .fbox 3 [.st (.pair (.int .i64) (.int .i64))] []], []⟩ .nil (.seq .nil (.seq (.seq .nil (.block (ordering_Start.an0 k))) .nil)))) x = ordering_Start k x := by kernel_rfl

theorem ordering_Plan_Ask.ev  (x : denA ordering_Plan_Ask.A) :
    evalF Go.Sh.tt (ordering_Plan_Ask.tab) Go.Proofs.Try.f15.ntmps (bodyOf Go.Proofs.Try.f15) Go.Proofs.Try.f15.results.toList ordering_Plan_Ask.A ordering_Plan_Ask.B .nil x = ordering_Plan_Ask x := by kernel_rfl

theorem ordering_Plan_Tell.ev (k : Nat) (x : denA ordering_Plan_Tell.A) :
    evalF Go.Sh.tt (ordering_Plan_Tell.tab k) Go.Proofs.Try.f16.ntmps (bodyOf Go.Proofs.Try.f16) Go.Proofs.Try.f16.results.toList ordering_Plan_Tell.A ordering_Plan_Tell.B .nil x = ordering_Plan_Tell k x.1 x.2 := by kernel_rfl

theorem ordering_Plan_Order.ev  (x : denA ordering_Plan_Order.A) :
    evalF Go.Sh.tt (ordering_Plan_Order.tab) Go.Proofs.Try.f10.ntmps (bodyOf Go.Proofs.Try.f10) Go.Proofs.Try.f10.results.toList ordering_Plan_Order.A ordering_Plan_Order.B .nil x = ordering_Plan_Order x := by kernel_rfl

theorem brindlewoodref3_At.ev  (x : denA brindlewoodref3_At.A) :
    evalF Go.Sh.tt (brindlewoodref3_At.tab) Go.Proofs.Try.f11.ntmps (bodyOf Go.Proofs.Try.f11) Go.Proofs.Try.f11.results.toList brindlewoodref3_At.A brindlewoodref3_At.B .nil x = brindlewoodref3_At x.1 x.2 := by kernel_rfl

theorem brindlewoodlaw3_sorts.ev (k : Nat) (x : denA brindlewoodlaw3_sorts.A) :
    evalF Go.Sh.tt (brindlewoodlaw3_sorts.tab k) Go.Proofs.Try.f9.ntmps (bodyOf Go.Proofs.Try.f9) Go.Proofs.Try.f9.results.toList brindlewoodlaw3_sorts.A brindlewoodlaw3_sorts.B .nil x = brindlewoodlaw3_sorts k  := by kernel_rfl

theorem brindlewoodlaw3_OrderingInserted_1.ev  (x : denA brindlewoodlaw3_OrderingInserted_1.A) :
    evalF Go.Sh.tt (brindlewoodlaw3_OrderingInserted_1.tab) Go.Proofs.Try.f29.ntmps (bodyOf Go.Proofs.Try.f29) Go.Proofs.Try.f29.results.toList brindlewoodlaw3_OrderingInserted_1.A brindlewoodlaw3_OrderingInserted_1.B .nil x = brindlewoodlaw3_OrderingInserted_1 x.1 x.2 := by kernel_rfl

theorem ordering_Inverse.l0_ev (k n : Nat) (x : ordering_Inverse.M0.den) :
    evalRound Go.Sh.tt (ordering_Inverse.tab k) Go.Proofs.Try.f19.ntmps (finOf Go.Sh.tt ordering_Inverse.B Go.Proofs.Try.f19.results.toList) (cAt [1, 1, 1, 0, 1, 0, 0] (bodyOf Go.Proofs.Try.f19)) (.seq .nil (.seq .nil (.seq (.block (.seq .nil (.jseq ⟨[.dat 0 (.list (.int .i64)), .box 46 [.st (.pair (.int .i64) (.int .i64))], .own 4 (.int .i64), .mp 5, .dat 6 (.int .i64), .dat 7 (.int .i64), .dat 12 (.list (.int .i64)), .dat 13 (.int .i64), .dat 14 (.int .i64), .dat 22 (.int .i64), .dat 23 (.list (.int .i64)), .dat 24 (.int .i64), .dat 25 (.bool)], [.ptr 3 46 0]⟩ .nil .nil))) .nil))) ordering_Inverse.M0 ordering_Inverse.O0 0 (fun x => ordering_Inverse.l0 k n x.1 x.2.1 x.2.2.1 x.2.2.2.1 x.2.2.2.2.1 x.2.2.2.2.2.1 x.2.2.2.2.2.2) x = ordering_Inverse.l0 k (n + 1) x.1 x.2.1 x.2.2.1 x.2.2.2.1 x.2.2.2.2.1 x.2.2.2.2.2.1 x.2.2.2.2.2.2 := by kernel_rfl
theorem ordering_Inverse.ev (k : Nat) (x : denA ordering_Inverse.A) :
    evalF Go.Sh.tt (ordering_Inverse.tab k) Go.Proofs.Try.f19.ntmps (bodyOf Go.Proofs.Try.f19) Go.Proofs.Try.f19.results.toList ordering_Inverse.A ordering_Inverse.B (.seq .nil (.seq .nil (.seq .nil (.seq (.seq .nil (.block (ordering_Inverse.an0 k))) .nil)))) x = ordering_Inverse k x := by kernel_rfl

theorem ordering_Permute_int.l0_ev (k n : Nat) (x : ordering_Permute_int.M0.den) :
    evalRound Go.Sh.tt (ordering_Permute_int.tab k) Go.Proofs.Try.f18.ntmps (finOf Go.Sh.tt ordering_Permute_int.B Go.Proofs.Try.f18.results.toList) (cAt [1, 1, 1, 1, 0, 1, 0, 0] (bodyOf Go.Proofs.Try.f18)) .nil ordering_Permute_int.M0 ordering_Permute_int.O0 0 (fun x => ordering_Permute_int.l0 k n x.1 x.2.1 x.2.2.1 x.2.2.2.1 x.2.2.2.2.1 x.2.2.2.2.2) x = ordering_Permute_int.l0 k (n + 1) x.1 x.2.1 x.2.2.1 x.2.2.2.1 x.2.2.2.2.1 x.2.2.2.2.2 := by kernel_rfl
theorem ordering_Permute_int.ev (k : Nat) (x : denA ordering_Permute_int.A) :
    evalF Go.Sh.tt (ordering_Permute_int.tab k) Go.Proofs.Try.f18.ntmps (bodyOf Go.Proofs.Try.f18) Go.Proofs.Try.f18.results.toList ordering_Permute_int.A ordering_Permute_int.B (.seq .nil (.seq .nil (.seq .nil (.seq .nil (.seq (.seq .nil (.block (ordering_Permute_int.an0 k))) .nil))))) x = ordering_Permute_int k x.1 x.2 := by kernel_rfl

theorem ordering_Sort_int_dFbrindlewoodlaw3_OrderingInserted_1.l0_ev (k n : Nat) (x : ordering_Sort_int_dFbrindlewoodlaw3_OrderingInserted_1.M0.den) :
    evalRound Go.Sh.tt (ordering_Sort_int_dFbrindlewoodlaw3_OrderingInserted_1.tab k) Go.Proofs.Try.f21.ntmps (finOf Go.Sh.tt ordering_Sort_int_dFbrindlewoodlaw3_OrderingInserted_1.B Go.Proofs.Try.f21.results.toList) (cAt [1, 1, 1, 0, 1, 0, 0] (bodyOf Go.Proofs.Try.f21)) .nil ordering_Sort_int_dFbrindlewoodlaw3_OrderingInserted_1.M0 ordering_Sort_int_dFbrindlewoodlaw3_OrderingInserted_1.O0 0 (fun x => ordering_Sort_int_dFbrindlewoodlaw3_OrderingInserted_1.l0 k n x.1 x.2.1 x.2.2.1 x.2.2.2.1 x.2.2.2.2.1 x.2.2.2.2.2.1 x.2.2.2.2.2.2) x = ordering_Sort_int_dFbrindlewoodlaw3_OrderingInserted_1.l0 k (n + 1) x.1 x.2.1 x.2.2.1 x.2.2.2.1 x.2.2.2.2.1 x.2.2.2.2.2.1 x.2.2.2.2.2.2 := by kernel_rfl
theorem ordering_Sort_int_dFbrindlewoodlaw3_OrderingInserted_1.ev (k : Nat) (x : denA ordering_Sort_int_dFbrindlewoodlaw3_OrderingInserted_1.A) :
    evalF Go.Sh.tt (ordering_Sort_int_dFbrindlewoodlaw3_OrderingInserted_1.tab k) Go.Proofs.Try.f21.ntmps (bodyOf Go.Proofs.Try.f21) Go.Proofs.Try.f21.results.toList ordering_Sort_int_dFbrindlewoodlaw3_OrderingInserted_1.A ordering_Sort_int_dFbrindlewoodlaw3_OrderingInserted_1.B (.seq .nil (.seq .nil (.seq .nil (.seq (.seq .nil (.block (ordering_Sort_int_dFbrindlewoodlaw3_OrderingInserted_1.an0 k))) .nil)))) x = ordering_Sort_int_dFbrindlewoodlaw3_OrderingInserted_1 k x.1 x.2 := by kernel_rfl

theorem ordering_Search_int_ddFbrindlewoodlaw3_OrderingInserted_1d.l0_ev (k n : Nat) (x : ordering_Search_int_ddFbrindlewoodlaw3_OrderingInserted_1d.M0.den) :
    evalRound Go.Sh.tt (ordering_Search_int_ddFbrindlewoodlaw3_OrderingInserted_1d.tab k) Go.Proofs.Try.f25.ntmps (finOf Go.Sh.tt ordering_Search_int_ddFbrindlewoodlaw3_OrderingInserted_1d.B Go.Proofs.Try.f25.results.toList) (cAt [1, 1, 0, 0, 0] (bodyOf Go.Proofs.Try.f25)) .nil ordering_Search_int_ddFbrindlewoodlaw3_OrderingInserted_1d.M0 ordering_Search_int_ddFbrindlewoodlaw3_OrderingInserted_1d.O0 0 (fun x => ordering_Search_int_ddFbrindlewoodlaw3_OrderingInserted_1d.l0 k n x.1 x.2.1 x.2.2.1 x.2.2.2.1 x.2.2.2.2.1 x.2.2.2.2.2) x = ordering_Search_int_ddFbrindlewoodlaw3_OrderingInserted_1d.l0 k (n + 1) x.1 x.2.1 x.2.2.1 x.2.2.2.1 x.2.2.2.2.1 x.2.2.2.2.2 := by kernel_rfl
theorem ordering_Search_int_ddFbrindlewoodlaw3_OrderingInserted_1d.ev (k : Nat) (x : denA ordering_Search_int_ddFbrindlewoodlaw3_OrderingInserted_1d.A) :
    evalF Go.Sh.tt (ordering_Search_int_ddFbrindlewoodlaw3_OrderingInserted_1d.tab k) Go.Proofs.Try.f25.ntmps (bodyOf Go.Proofs.Try.f25) Go.Proofs.Try.f25.results.toList ordering_Search_int_ddFbrindlewoodlaw3_OrderingInserted_1d.A ordering_Search_int_ddFbrindlewoodlaw3_OrderingInserted_1d.B (.seq .nil (.seq .nil (.seq (.block (ordering_Search_int_ddFbrindlewoodlaw3_OrderingInserted_1d.an0 k)) .nil))) x = ordering_Search_int_ddFbrindlewoodlaw3_OrderingInserted_1d k x.1 x.2.1 x.2.2.1 x.2.2.2 := by kernel_rfl

theorem ordering_Merge_int_ddFbrindlewoodlaw3_OrderingInserted_1.l0_ev (k n : Nat) (x : ordering_Merge_int_ddFbrindlewoodlaw3_OrderingInserted_1.M0.den) :
    evalRound Go.Sh.tt (ordering_Merge_int_ddFbrindlewoodlaw3_OrderingInserted_1.tab k) Go.Proofs.Try.f24.ntmps (finOf Go.Sh.tt ordering_Merge_int_ddFbrindlewoodlaw3_OrderingInserted_1.B Go.Proofs.Try.f24.results.toList) (cAt [1, 1, 0, 0, 0] (bodyOf Go.Proofs.Try.f24)) .nil ordering_Merge_int_ddFbrindlewoodlaw3_OrderingInserted_1.M0 ordering_Merge_int_ddFbrindlewoodlaw3_OrderingInserted_1.O0 0 (fun x => ordering_Merge_int_ddFbrindlewoodlaw3_OrderingInserted_1.l0 k n x.1 x.2.1 x.2.2.1 x.2.2.2) x = ordering_Merge_int_ddFbrindlewoodlaw3_OrderingInserted_1.l0 k (n + 1) x.1 x.2.1 x.2.2.1 x.2.2.2 := by kernel_rfl
theorem ordering_Merge_int_ddFbrindlewoodlaw3_OrderingInserted_1.ev (k : Nat) (x : denA ordering_Merge_int_ddFbrindlewoodlaw3_OrderingInserted_1.A) :
    evalF Go.Sh.tt (ordering_Merge_int_ddFbrindlewoodlaw3_OrderingInserted_1.tab k) Go.Proofs.Try.f24.ntmps (bodyOf Go.Proofs.Try.f24) Go.Proofs.Try.f24.results.toList ordering_Merge_int_ddFbrindlewoodlaw3_OrderingInserted_1.A ordering_Merge_int_ddFbrindlewoodlaw3_OrderingInserted_1.B (.seq .nil (.seq .nil (.seq (.block (ordering_Merge_int_ddFbrindlewoodlaw3_OrderingInserted_1.an0 k)) .nil))) x = ordering_Merge_int_ddFbrindlewoodlaw3_OrderingInserted_1 k x.1 x.2.1 x.2.2 := by kernel_rfl

theorem ordering_Broken_int_dFbrindlewoodlaw3_OrderingInserted_1.l0_ev (k n : Nat) (x : ordering_Broken_int_dFbrindlewoodlaw3_OrderingInserted_1.M0.den) :
    evalRound Go.Sh.tt (ordering_Broken_int_dFbrindlewoodlaw3_OrderingInserted_1.tab k) Go.Proofs.Try.f26.ntmps (finOf Go.Sh.tt ordering_Broken_int_dFbrindlewoodlaw3_OrderingInserted_1.B Go.Proofs.Try.f26.results.toList) (cAt [1, 0, 1, 0, 0] (bodyOf Go.Proofs.Try.f26)) .nil ordering_Broken_int_dFbrindlewoodlaw3_OrderingInserted_1.M0 ordering_Broken_int_dFbrindlewoodlaw3_OrderingInserted_1.O0 0 (fun x => ordering_Broken_int_dFbrindlewoodlaw3_OrderingInserted_1.l0 k n x.1 x.2.1 x.2.2) x = ordering_Broken_int_dFbrindlewoodlaw3_OrderingInserted_1.l0 k (n + 1) x.1 x.2.1 x.2.2 := by kernel_rfl
theorem ordering_Broken_int_dFbrindlewoodlaw3_OrderingInserted_1.ev (k : Nat) (x : denA ordering_Broken_int_dFbrindlewoodlaw3_OrderingInserted_1.A) :
    evalF Go.Sh.tt (ordering_Broken_int_dFbrindlewoodlaw3_OrderingInserted_1.tab k) Go.Proofs.Try.f26.ntmps (bodyOf Go.Proofs.Try.f26) Go.Proofs.Try.f26.results.toList ordering_Broken_int_dFbrindlewoodlaw3_OrderingInserted_1.A ordering_Broken_int_dFbrindlewoodlaw3_OrderingInserted_1.B (.seq .nil (.seq (.seq .nil (.block (ordering_Broken_int_dFbrindlewoodlaw3_OrderingInserted_1.an0 k))) .nil)) x = ordering_Broken_int_dFbrindlewoodlaw3_OrderingInserted_1 k x.1 x.2 := by kernel_rfl

theorem brindlewoodlaw3_OrderingInserted.l0_ev (k n : Nat) (x : brindlewoodlaw3_OrderingInserted.M0.den) :
    evalRound Go.Sh.tt (brindlewoodlaw3_OrderingInserted.tab k) Go.Proofs.Try.f7.ntmps (finOf Go.Sh.tt brindlewoodlaw3_OrderingInserted.B Go.Proofs.Try.f7.results.toList) (cAt [1, 1, 1, 1, 1, 1, 1, 1, 1, 1, 0, 1, 0, 0] (bodyOf Go.Proofs.Try.f7)) .nil brindlewoodlaw3_OrderingInserted.M0 brindlewoodlaw3_OrderingInserted.O0 0 (fun x => brindlewoodlaw3_OrderingInserted.l0 k n x.1 x.2.1 x.2.2.1 x.2.2.2.1 x.2.2.2.2) x = brindlewoodlaw3_OrderingInserted.l0 k (n + 1) x.1 x.2.1 x.2.2.1 x.2.2.2.1 x.2.2.2.2 := by kernel_rfl
theorem brindlewoodlaw3_OrderingInserted.ev (k : Nat) (x : denA brindlewoodlaw3_OrderingInserted.A) :
    evalF Go.Sh.tt (brindlewoodlaw3_OrderingInserted.tab k) Go.Proofs.Try.f7.ntmps (bodyOf Go.Proofs.Try.f7) Go.Proofs.Try.f7.results.toList brindlewoodlaw3_OrderingInserted.A brindlewoodlaw3_OrderingInserted.B (.seq .nil (.jseq ⟨[.dat 0 (.list (.int .i64)), .dat 1 (.list (.int .i64)), .dat 2 (.int .i64)], []⟩ .nil (.seq .nil (.seq .nil (.seq .nil (.jseq ⟨[.dat 2 (.int .i64), .fn 7 29 [], .dat 8 (.list (.int .i64)), .dat 10 (.list (.int .i64))], []⟩ .nil (.seq .nil (.seq .nil (.seq .nil (.jseq ⟨[.dat 2 (.int .i64), .dat 8 (.list (.int .i64)), .dat 12 (.int .i64), .dat 13 (.int .i64)], []⟩ .nil (.seq (.seq .nil (.block (brindlewoodlaw3_OrderingInserted.an0 k))) .nil))))))))))) x = brindlewoodlaw3_OrderingInserted k x.1 x.2.1 x.2.2 := by kernel_rfl
end Go.Sh
