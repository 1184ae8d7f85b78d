/- The evaluator's answers are those of the plain functions, by wip/gen/gen.py.  Conditions: none. -/
import Derived.Test.YtnopjcpoeffoiaaGreatDoorShD
set_option linter.unusedVariables false
set_option maxRecDepth 100000
set_option maxHeartbeats 0
namespace Go.Sh
open Go Go.Ev

theorem brindlewoodref3_ContextOk.ev  (x : denA brindlewoodref3_ContextOk.A) :
    evalF Go.Sh.tt (brindlewoodref3_ContextOk.tab) Go.Proofs.Tryz.f41.ntmps (bodyOf Go.Proofs.Tryz.f41) Go.Proofs.Tryz.f41.results.toList brindlewoodref3_ContextOk.A brindlewoodref3_ContextOk.B .nil x = brindlewoodref3_ContextOk x := by kernel_rfl

theorem brindlewoodref3_At.ev  (x : denA brindlewoodref3_At.A) :
    evalF Go.Sh.tt (brindlewoodref3_At.tab) Go.Proofs.Tryz.f17.ntmps (bodyOf Go.Proofs.Tryz.f17) Go.Proofs.Tryz.f17.results.toList brindlewoodref3_At.A brindlewoodref3_At.B .nil x = brindlewoodref3_At x.1 x.2 := by kernel_rfl

theorem brindlewoodref3_IntOk.ev  (x : denA brindlewoodref3_IntOk.A) :
    evalF Go.Sh.tt (brindlewoodref3_IntOk.tab) Go.Proofs.Tryz.f76.ntmps (bodyOf Go.Proofs.Tryz.f76) Go.Proofs.Tryz.f76.results.toList brindlewoodref3_IntOk.A brindlewoodref3_IntOk.B .nil x = brindlewoodref3_IntOk x := by kernel_rfl

theorem brindlewoodref3_trim_v.l0_ev (k n : Nat) (x : brindlewoodref3_trim_v.M0.den) :
    evalRound Go.Sh.tt (brindlewoodref3_trim_v.tab k) Go.Proofs.Tryz.f138.ntmps (finOf Go.Sh.tt brindlewoodref3_trim_v.B Go.Proofs.Tryz.f138.results.toList) (cAt [1, 0, 0, 0] (bodyOf Go.Proofs.Tryz.f138)) .nil brindlewoodref3_trim_v.M0 brindlewoodref3_trim_v.O0 0 (fun x => brindlewoodref3_trim_v.l0 k n x.1 x.2) x = brindlewoodref3_trim_v.l0 k (n + 1) x.1 x.2 := by kernel_rfl
theorem brindlewoodref3_trim_v.ev (k : Nat) (x : denA brindlewoodref3_trim_v.A) :
    evalF Go.Sh.tt (brindlewoodref3_trim_v.tab k) Go.Proofs.Tryz.f138.ntmps (bodyOf Go.Proofs.Tryz.f138) Go.Proofs.Tryz.f138.results.toList brindlewoodref3_trim_v.A brindlewoodref3_trim_v.B (.seq .nil (.seq (.block (brindlewoodref3_trim_v.an0 k)) .nil)) x = brindlewoodref3_trim_v k x := by kernel_rfl

theorem brindlewoodref3_Of.l0_ev (k n : Nat) (x : brindlewoodref3_Of.M0.den) :
    evalRound Go.Sh.tt (brindlewoodref3_Of.tab k) Go.Proofs.Tryz.f78.ntmps (finOf Go.Sh.tt brindlewoodref3_Of.B Go.Proofs.Tryz.f78.results.toList) (cAt [1, 1, 0, 1, 0, 0] (bodyOf Go.Proofs.Tryz.f78)) .nil brindlewoodref3_Of.M0 brindlewoodref3_Of.O0 0 (fun x => brindlewoodref3_Of.l0 k n x.1 x.2.1 x.2.2) x = brindlewoodref3_Of.l0 k (n + 1) x.1 x.2.1 x.2.2 := by kernel_rfl
theorem brindlewoodref3_Of.ev (k : Nat) (x : denA brindlewoodref3_Of.A) :
    evalF Go.Sh.tt (brindlewoodref3_Of.tab k) Go.Proofs.Tryz.f78.ntmps (bodyOf Go.Proofs.Tryz.f78) Go.Proofs.Tryz.f78.results.toList brindlewoodref3_Of.A brindlewoodref3_Of.B (.seq .nil (.seq .nil (.seq (.seq .nil (.block (brindlewoodref3_Of.an0 k))) .nil))) x = brindlewoodref3_Of k x := by kernel_rfl

theorem brindlewoodref3_Halve.l0_ev (k n : Nat) (x : brindlewoodref3_Halve.M0.den) :
    evalRound Go.Sh.tt (brindlewoodref3_Halve.tab k) Go.Proofs.Tryz.f102.ntmps (finOf Go.Sh.tt brindlewoodref3_Halve.B Go.Proofs.Tryz.f102.results.toList) (cAt [1, 1, 1, 0, 1, 0, 0] (bodyOf Go.Proofs.Tryz.f102)) .nil brindlewoodref3_Halve.M0 brindlewoodref3_Halve.O0 0 (fun x => brindlewoodref3_Halve.l0 k n x.1 x.2.1 x.2.2.1 x.2.2.2.1 x.2.2.2.2) x = brindlewoodref3_Halve.l0 k (n + 1) x.1 x.2.1 x.2.2.1 x.2.2.2.1 x.2.2.2.2 := by kernel_rfl
theorem brindlewoodref3_Halve.ev (k : Nat) (x : denA brindlewoodref3_Halve.A) :
    evalF Go.Sh.tt (brindlewoodref3_Halve.tab k) Go.Proofs.Tryz.f102.ntmps (bodyOf Go.Proofs.Tryz.f102) Go.Proofs.Tryz.f102.results.toList brindlewoodref3_Halve.A brindlewoodref3_Halve.B (.seq .nil (.seq .nil (.seq .nil (.seq (.seq .nil (.block (brindlewoodref3_Halve.an0 k))) .nil)))) x = brindlewoodref3_Halve k x.1 x.2 := by kernel_rfl

theorem brindlewoodref3_Figures.l1_ev (k n : Nat) (x : brindlewoodref3_Figures.M1.den) :
    evalRound Go.Sh.tt (brindlewoodref3_Figures.tab k) Go.Proofs.Tryz.f77.ntmps (finOf Go.Sh.tt brindlewoodref3_Figures.B Go.Proofs.Tryz.f77.results.toList) (cAt [1, 1, 1, 1, 0, 1, 0, 0] (bodyOf Go.Proofs.Tryz.f77)) .nil brindlewoodref3_Figures.M1 brindlewoodref3_Figures.O1 2 (fun x => brindlewoodref3_Figures.l1 k n x.1 x.2.1 x.2.2) x = brindlewoodref3_Figures.l1 k (n + 1) x.1 x.2.1 x.2.2 := by kernel_rfl
theorem brindlewoodref3_Figures.l0_ev (k n : Nat) (x : brindlewoodref3_Figures.M0.den) :
    evalRound Go.Sh.tt (brindlewoodref3_Figures.tab k) Go.Proofs.Tryz.f77.ntmps (finOf Go.Sh.tt brindlewoodref3_Figures.B Go.Proofs.Tryz.f77.results.toList) (cAt [1, 1, 0, 0, 0] (bodyOf Go.Proofs.Tryz.f77)) .nil brindlewoodref3_Figures.M0 brindlewoodref3_Figures.O0 0 (fun x => brindlewoodref3_Figures.l0 k n x.1 x.2.1 x.2.2) x = brindlewoodref3_Figures.l0 k (n + 1) x.1 x.2.1 x.2.2 := by kernel_rfl
theorem brindlewoodref3_Figures.ev (k : Nat) (x : denA brindlewoodref3_Figures.A) :
    evalF Go.Sh.tt (brindlewoodref3_Figures.tab k) Go.Proofs.Tryz.f77.ntmps (bodyOf Go.Proofs.Tryz.f77) Go.Proofs.Tryz.f77.results.toList brindlewoodref3_Figures.A brindlewoodref3_Figures.B (.seq .nil (.seq .nil (.seq (.block (brindlewoodref3_Figures.an0 k)) (.seq .nil (.seq (.seq .nil (.block (brindlewoodref3_Figures.an1 k))) .nil))))) x = brindlewoodref3_Figures k x.1 x.2 := by kernel_rfl

theorem brindlewoodref3_NoInt.ev  (x : denA brindlewoodref3_NoInt.A) :
    evalF Go.Sh.tt (brindlewoodref3_NoInt.tab) Go.Proofs.Tryz.f36.ntmps (bodyOf Go.Proofs.Tryz.f36) Go.Proofs.Tryz.f36.results.toList brindlewoodref3_NoInt.A brindlewoodref3_NoInt.B .nil x = brindlewoodref3_NoInt x := by kernel_rfl

theorem brindlewoodref3_DecimalOk.ev (k : Nat) (x : denA brindlewoodref3_DecimalOk.A) :
    evalF Go.Sh.tt (brindlewoodref3_DecimalOk.tab k) Go.Proofs.Tryz.f16.ntmps (bodyOf Go.Proofs.Tryz.f16) Go.Proofs.Tryz.f16.results.toList brindlewoodref3_DecimalOk.A brindlewoodref3_DecimalOk.B .nil x = brindlewoodref3_DecimalOk k x := by kernel_rfl

theorem brindlewoodref3_DecimalFaults.l0_ev (k n : Nat) (x : brindlewoodref3_DecimalFaults.M0.den) :
    evalRound Go.Sh.tt (brindlewoodref3_DecimalFaults.tab k) Go.Proofs.Tryz.f21.ntmps (finOf Go.Sh.tt brindlewoodref3_DecimalFaults.B Go.Proofs.Tryz.f21.results.toList) (cAt [1, 1, 0, 1, 0, 0] (bodyOf Go.Proofs.Tryz.f21)) .nil brindlewoodref3_DecimalFaults.M0 brindlewoodref3_DecimalFaults.O0 0 (fun x => brindlewoodref3_DecimalFaults.l0 k n x.1 x.2.1 x.2.2) x = brindlewoodref3_DecimalFaults.l0 k (n + 1) x.1 x.2.1 x.2.2 := by kernel_rfl
theorem brindlewoodref3_DecimalFaults.ev (k : Nat) (x : denA brindlewoodref3_DecimalFaults.A) :
    evalF Go.Sh.tt (brindlewoodref3_DecimalFaults.tab k) Go.Proofs.Tryz.f21.ntmps (bodyOf Go.Proofs.Tryz.f21) Go.Proofs.Tryz.f21.results.toList brindlewoodref3_DecimalFaults.A brindlewoodref3_DecimalFaults.B (.seq .nil (.seq .nil (.seq (.seq .nil (.block (brindlewoodref3_DecimalFaults.an0 k))) .nil))) x = brindlewoodref3_DecimalFaults k x.1 x.2 := by kernel_rfl

theorem decimal_Check.ev  (x : denA decimal_Check.A) :
    evalF Go.Sh.tt (decimal_Check.tab) Go.Proofs.Tryz.f57.ntmps (bodyOf Go.Proofs.Tryz.f57) Go.Proofs.Tryz.f57.results.toList decimal_Check.A decimal_Check.B .nil x = decimal_Check x := by kernel_rfl

theorem decimal_at.ev  (x : denA decimal_at.A) :
    evalF Go.Sh.tt (decimal_at.tab) Go.Proofs.Tryz.f64.ntmps (bodyOf Go.Proofs.Tryz.f64) Go.Proofs.Tryz.f64.results.toList decimal_at.A decimal_at.B .nil x = decimal_at x.1 x.2 := by kernel_rfl

theorem integer_Valid.ev  (x : denA integer_Valid.A) :
    evalF Go.Sh.tt (integer_Valid.tab) Go.Proofs.Tryz.f133.ntmps (bodyOf Go.Proofs.Tryz.f133) Go.Proofs.Tryz.f133.results.toList integer_Valid.A integer_Valid.B .nil x = integer_Valid x := by kernel_rfl

theorem natural_Valid.ev  (x : denA natural_Valid.A) :
    evalF Go.Sh.tt (natural_Valid.tab) Go.Proofs.Tryz.f183.ntmps (bodyOf Go.Proofs.Tryz.f183) Go.Proofs.Tryz.f183.results.toList natural_Valid.A natural_Valid.B .nil x = natural_Valid x := by kernel_rfl

theorem natural_at.ev  (x : denA natural_at.A) :
    evalF Go.Sh.tt (natural_at.tab) Go.Proofs.Tryz.f164.ntmps (bodyOf Go.Proofs.Tryz.f164) Go.Proofs.Tryz.f164.results.toList natural_at.A natural_at.B .nil x = natural_at x.1 x.2 := by kernel_rfl

theorem natural_check.ev  (x : denA natural_check.A) :
    evalF Go.Sh.tt (natural_check.tab) Go.Proofs.Tryz.f163.ntmps (bodyOf Go.Proofs.Tryz.f163) Go.Proofs.Tryz.f163.results.toList natural_check.A natural_check.B .nil x = natural_check x.1 x.2 := by kernel_rfl

theorem natural_trim_v.l0_ev (k n : Nat) (x : natural_trim_v.M0.den) :
    evalRound Go.Sh.tt (natural_trim_v.tab k) Go.Proofs.Tryz.f199.ntmps (finOf Go.Sh.tt natural_trim_v.B Go.Proofs.Tryz.f199.results.toList) (cAt [1, 0, 0, 0] (bodyOf Go.Proofs.Tryz.f199)) .nil natural_trim_v.M0 natural_trim_v.O0 0 (fun x => natural_trim_v.l0 k n x.1 x.2) x = natural_trim_v.l0 k (n + 1) x.1 x.2 := by kernel_rfl
theorem natural_trim_v.ev (k : Nat) (x : denA natural_trim_v.A) :
    evalF Go.Sh.tt (natural_trim_v.tab k) Go.Proofs.Tryz.f199.ntmps (bodyOf Go.Proofs.Tryz.f199) Go.Proofs.Tryz.f199.results.toList natural_trim_v.A natural_trim_v.B (.seq .nil (.seq (.block (natural_trim_v.an0 k)) .nil)) x = natural_trim_v k x := by kernel_rfl

theorem natural_mul.l1_ev (k n : Nat) (x : natural_mul.M1.den) :
    evalRound Go.Sh.tt (natural_mul.tab k) Go.Proofs.Tryz.f178.ntmps (finOf Go.Sh.tt natural_mul.B Go.Proofs.Tryz.f178.results.toList) (cAt [1, 1, 0, 1, 0, 0, 1, 1, 0, 0, 1, 1, 0, 1, 0, 0] (bodyOf Go.Proofs.Tryz.f178)) .nil natural_mul.M1 natural_mul.O1 2 (fun x => natural_mul.l1 k n x.1 x.2.1 x.2.2.1 x.2.2.2.1 x.2.2.2.2.1 x.2.2.2.2.2.1 x.2.2.2.2.2.2.1 x.2.2.2.2.2.2.2.1 x.2.2.2.2.2.2.2.2.1 x.2.2.2.2.2.2.2.2.2.1 x.2.2.2.2.2.2.2.2.2.2) x = natural_mul.l1 k (n + 1) x.1 x.2.1 x.2.2.1 x.2.2.2.1 x.2.2.2.2.1 x.2.2.2.2.2.1 x.2.2.2.2.2.2.1 x.2.2.2.2.2.2.2.1 x.2.2.2.2.2.2.2.2.1 x.2.2.2.2.2.2.2.2.2.1 x.2.2.2.2.2.2.2.2.2.2 := by kernel_rfl
theorem natural_mul.l0_ev (k n : Nat) (x : natural_mul.M0.den) :
    evalRound Go.Sh.tt (natural_mul.tab k) Go.Proofs.Tryz.f178.ntmps (finOf Go.Sh.tt natural_mul.B Go.Proofs.Tryz.f178.results.toList) (cAt [1, 1, 0, 1, 0, 0] (bodyOf Go.Proofs.Tryz.f178)) (.seq .nil (.seq .nil (.seq (.block (.seq .nil (.seq .nil (.seq (.seq .nil (.block (natural_mul.an1 k))) .nil)))) .nil))) natural_mul.M0 natural_mul.O0 0 (fun x => natural_mul.l0 k n x.1 x.2.1 x.2.2.1 x.2.2.2.1 x.2.2.2.2) x = natural_mul.l0 k (n + 1) x.1 x.2.1 x.2.2.1 x.2.2.2.1 x.2.2.2.2 := by kernel_rfl
theorem natural_mul.ev (k : Nat) (x : denA natural_mul.A) :
    evalF Go.Sh.tt (natural_mul.tab k) Go.Proofs.Tryz.f178.ntmps (bodyOf Go.Proofs.Tryz.f178) Go.Proofs.Tryz.f178.results.toList natural_mul.A natural_mul.B (.seq .nil (.seq .nil (.seq (.seq .nil (.block (natural_mul.an0 k))) .nil))) x = natural_mul k x.1 x.2 := by kernel_rfl

theorem natural_trim.l0_ev (k n : Nat) (x : natural_trim.M0.den) :
    evalRound Go.Sh.tt (natural_trim.tab k) Go.Proofs.Tryz.f199.ntmps (finOf Go.Sh.tt natural_trim.B Go.Proofs.Tryz.f199.results.toList) (cAt [1, 0, 0, 0] (bodyOf Go.Proofs.Tryz.f199)) .nil natural_trim.M0 natural_trim.O0 0 (fun x => natural_trim.l0 k n x) x = natural_trim.l0 k (n + 1) x := by kernel_rfl
theorem natural_trim.ev (k : Nat) (x : denA natural_trim.A) :
    evalF Go.Sh.tt (natural_trim.tab k) Go.Proofs.Tryz.f199.ntmps (bodyOf Go.Proofs.Tryz.f199) Go.Proofs.Tryz.f199.results.toList natural_trim.A natural_trim.B (.seq .nil (.seq (.block (natural_trim.an0 k)) .nil)) x = natural_trim k x := by kernel_rfl

theorem natural_fit.ev (k : Nat) (x : denA natural_fit.A) :
    evalF Go.Sh.tt (natural_fit.tab k) Go.Proofs.Tryz.f177.ntmps (bodyOf Go.Proofs.Tryz.f177) Go.Proofs.Tryz.f177.results.toList natural_fit.A natural_fit.B .nil x = natural_fit k x := by kernel_rfl

theorem natural_Mul.ev (k : Nat) (x : denA natural_Mul.A) :
    evalF Go.Sh.tt (natural_Mul.tab k) Go.Proofs.Tryz.f110.ntmps (bodyOf Go.Proofs.Tryz.f110) Go.Proofs.Tryz.f110.results.toList natural_Mul.A natural_Mul.B .nil x = natural_Mul k x.1 x.2 := by kernel_rfl

theorem decimal_power.l0_ev (k n : Nat) (x : decimal_power.M0.den) :
    evalRound Go.Sh.tt (decimal_power.tab k) Go.Proofs.Tryz.f122.ntmps (finOf Go.Sh.tt decimal_power.B Go.Proofs.Tryz.f122.results.toList) (cAt [1, 1, 0, 0, 0] (bodyOf Go.Proofs.Tryz.f122)) .nil decimal_power.M0 decimal_power.O0 0 (fun x => decimal_power.l0 k n x.1 x.2.1 x.2.2) x = decimal_power.l0 k (n + 1) x.1 x.2.1 x.2.2 := by kernel_rfl
theorem decimal_power.ev (k : Nat) (x : denA decimal_power.A) :
    evalF Go.Sh.tt (decimal_power.tab k) Go.Proofs.Tryz.f122.ntmps (bodyOf Go.Proofs.Tryz.f122) Go.Proofs.Tryz.f122.results.toList decimal_power.A decimal_power.B (.seq .nil (.seq .nil (.seq (.block (decimal_power.an0 k)) .nil))) x = decimal_power k x := by kernel_rfl

theorem natural_compare.l0_ev (k n : Nat) (x : natural_compare.M0.den) :
    evalRound Go.Sh.tt (natural_compare.tab k) Go.Proofs.Tryz.f176.ntmps (finOf Go.Sh.tt natural_compare.B Go.Proofs.Tryz.f176.results.toList) (cAt [1, 1, 0, 1, 0, 0] (bodyOf Go.Proofs.Tryz.f176)) .nil natural_compare.M0 natural_compare.O0 0 (fun x => natural_compare.l0 k n x.1 x.2.1 x.2.2) x = natural_compare.l0 k (n + 1) x.1 x.2.1 x.2.2 := by kernel_rfl
theorem natural_compare.ev (k : Nat) (x : denA natural_compare.A) :
    evalF Go.Sh.tt (natural_compare.tab k) Go.Proofs.Tryz.f176.ntmps (bodyOf Go.Proofs.Tryz.f176) Go.Proofs.Tryz.f176.results.toList natural_compare.A natural_compare.B (.seq .nil (.seq .nil (.seq (.seq .nil (.block (natural_compare.an0 k))) .nil))) x = natural_compare k x.1 x.2 := by kernel_rfl

theorem natural_Cmp.ev (k : Nat) (x : denA natural_Cmp.A) :
    evalF Go.Sh.tt (natural_Cmp.tab k) Go.Proofs.Tryz.f169.ntmps (bodyOf Go.Proofs.Tryz.f169) Go.Proofs.Tryz.f169.results.toList natural_Cmp.A natural_Cmp.B .nil x = natural_Cmp k x.1 x.2 := by kernel_rfl

theorem decimal_less.ev (k : Nat) (x : denA decimal_less.A) :
    evalF Go.Sh.tt (decimal_less.tab k) Go.Proofs.Tryz.f111.ntmps (bodyOf Go.Proofs.Tryz.f111) Go.Proofs.Tryz.f111.results.toList decimal_less.A decimal_less.B .nil x = decimal_less k x.1 x.2 := by kernel_rfl

theorem decimal_Valid.ev (k : Nat) (x : denA decimal_Valid.A) :
    evalF Go.Sh.tt (decimal_Valid.tab k) Go.Proofs.Tryz.f56.ntmps (bodyOf Go.Proofs.Tryz.f56) Go.Proofs.Tryz.f56.results.toList decimal_Valid.A decimal_Valid.B (.seq .nil (.jseq ⟨[.box 65 [.st (.pair (.int .i64) (.pair (.bool) (.pair (.st (.pair (.bool) (.list (.int .u32)))) (.int .i64))))], .dat 3 (.bool)], [.ptr 1 65 0]⟩ .nil .nil)) x = decimal_Valid k x := by kernel_rfl

theorem decimal_check.l0_ev (k n : Nat) (x : decimal_check.M0.den) :
    evalRound Go.Sh.tt (decimal_check.tab k) Go.Proofs.Tryz.f87.ntmps (finOf Go.Sh.tt decimal_check.B Go.Proofs.Tryz.f87.results.toList) (cAt [1, 1, 0, 1, 0, 0] (bodyOf Go.Proofs.Tryz.f87)) .nil decimal_check.M0 decimal_check.O0 0 (fun x => decimal_check.l0 k n x.1 x.2.1 x.2.2.1 x.2.2.2) x = decimal_check.l0 k (n + 1) x.1 x.2.1 x.2.2.1 x.2.2.2 := by kernel_rfl
theorem decimal_check.ev (k : Nat) (x : denA decimal_check.A) :
    evalF Go.Sh.tt (decimal_check.tab k) Go.Proofs.Tryz.f87.ntmps (bodyOf Go.Proofs.Tryz.f87) Go.Proofs.Tryz.f87.results.toList decimal_check.A decimal_check.B (.seq .nil (.seq .nil (.seq (.seq .nil (.block (decimal_check.an0 k))) .nil))) x = decimal_check k x.1 x.2 := by kernel_rfl

theorem decimal_of.ev  (x : denA decimal_of.A) :
    evalF Go.Sh.tt (decimal_of.tab) Go.Proofs.Tryz.f92.ntmps (bodyOf Go.Proofs.Tryz.f92) Go.Proofs.Tryz.f92.results.toList decimal_of.A decimal_of.B .nil x = decimal_of x := by kernel_rfl

theorem decimal_tiny.ev  (x : denA decimal_tiny.A) :
    evalF Go.Sh.tt (decimal_tiny.tab) Go.Proofs.Tryz.f90.ntmps (bodyOf Go.Proofs.Tryz.f90) Go.Proofs.Tryz.f90.results.toList decimal_tiny.A decimal_tiny.B .nil x = decimal_tiny x := by kernel_rfl

theorem decimal_finite.ev  (x : denA decimal_finite.A) :
    evalF Go.Sh.tt (decimal_finite.tab) Go.Proofs.Tryz.f89.ntmps (bodyOf Go.Proofs.Tryz.f89) Go.Proofs.Tryz.f89.results.toList decimal_finite.A decimal_finite.B .nil x = decimal_finite x.1 x.2.1 x.2.2 := by kernel_rfl

theorem natural_chunk.l0_ev (k n : Nat) (x : natural_chunk.M0.den) :
    evalRound Go.Sh.tt (natural_chunk.tab k) Go.Proofs.Tryz.f184.ntmps (finOf Go.Sh.tt natural_chunk.B Go.Proofs.Tryz.f184.results.toList) (cAt [1, 1, 0, 0, 0] (bodyOf Go.Proofs.Tryz.f184)) .nil natural_chunk.M0 natural_chunk.O0 0 (fun x => natural_chunk.l0 k n x.1 x.2.1 x.2.2) x = natural_chunk.l0 k (n + 1) x.1 x.2.1 x.2.2 := by kernel_rfl
theorem natural_chunk.ev (k : Nat) (x : denA natural_chunk.A) :
    evalF Go.Sh.tt (natural_chunk.tab k) Go.Proofs.Tryz.f184.ntmps (bodyOf Go.Proofs.Tryz.f184) Go.Proofs.Tryz.f184.results.toList natural_chunk.A natural_chunk.B (.seq .nil (.seq .nil (.seq (.block (natural_chunk.an0 k)) .nil))) x = natural_chunk k x := by kernel_rfl

theorem bits_Div32.ev  (x : denA bits_Div32.A) :
    evalF Go.Sh.tt (bits_Div32.tab) Go.Proofs.Tryz.f203.ntmps (bodyOf Go.Proofs.Tryz.f203) Go.Proofs.Tryz.f203.results.toList bits_Div32.A bits_Div32.B (.seq .nil (.jseq ⟨[.dat 0 (.int .u32), .dat 1 (.int .u32), .dat 2 (.int .u32)], []⟩ .nil .nil)) x = bits_Div32 x.1 x.2.1 x.2.2 := by kernel_rfl

theorem natural_short.l0_ev (k n : Nat) (x : natural_short.M0.den) :
    evalRound Go.Sh.tt (natural_short.tab k) Go.Proofs.Tryz.f185.ntmps (finOf Go.Sh.tt natural_short.B Go.Proofs.Tryz.f185.results.toList) (cAt [1, 1, 1, 0, 1, 0, 0] (bodyOf Go.Proofs.Tryz.f185)) .nil natural_short.M0 natural_short.O0 0 (fun x => natural_short.l0 k n x.1 x.2.1 x.2.2.1 x.2.2.2.1 x.2.2.2.2) x = natural_short.l0 k (n + 1) x.1 x.2.1 x.2.2.1 x.2.2.2.1 x.2.2.2.2 := by kernel_rfl
theorem natural_short.ev (k : Nat) (x : denA natural_short.A) :
    evalF Go.Sh.tt (natural_short.tab k) Go.Proofs.Tryz.f185.ntmps (bodyOf Go.Proofs.Tryz.f185) Go.Proofs.Tryz.f185.results.toList natural_short.A natural_short.B (.seq .nil (.seq .nil (.seq .nil (.seq (.seq .nil (.block (natural_short.an0 k))) .nil)))) x = natural_short k x.1 x.2 := by kernel_rfl

theorem slices_Reverse_intint_l.l0_ev (k n : Nat) (x : slices_Reverse_intint_l.M0.den) :
    evalRound Go.Sh.tt (slices_Reverse_intint_l.tab k) Go.Proofs.Tryz.f186.ntmps (finOf Go.Sh.tt slices_Reverse_intint_l.B Go.Proofs.Tryz.f186.results.toList) (cAt [1, 0, 0] (bodyOf Go.Proofs.Tryz.f186)) .nil slices_Reverse_intint_l.M0 slices_Reverse_intint_l.O0 0 (fun x => slices_Reverse_intint_l.l0 k n x.1 x.2.1 x.2.2) x = slices_Reverse_intint_l.l0 k (n + 1) x.1 x.2.1 x.2.2 := by kernel_rfl
theorem slices_Reverse_intint_l.ev (k : Nat) (x : denA slices_Reverse_intint_l.A) :
    evalF Go.Sh.tt (slices_Reverse_intint_l.tab k) Go.Proofs.Tryz.f186.ntmps (bodyOf Go.Proofs.Tryz.f186) Go.Proofs.Tryz.f186.results.toList slices_Reverse_intint_l.A slices_Reverse_intint_l.B (.seq .nil (.block (slices_Reverse_intint_l.an0 k))) x = slices_Reverse_intint_l k x := by kernel_rfl

theorem natural_Digits.l1_ev (k n : Nat) (x : natural_Digits.M1.den) :
    evalRound Go.Sh.tt (natural_Digits.tab k) Go.Proofs.Tryz.f140.ntmps (finOf Go.Sh.tt natural_Digits.B Go.Proofs.Tryz.f140.results.toList) (cAt [1, 1, 1, 1, 0, 0, 0, 1, 0, 1, 1, 1, 0, 0] (bodyOf Go.Proofs.Tryz.f140)) .nil natural_Digits.M1 natural_Digits.O1 3 (fun x => natural_Digits.l1 k n x.1 x.2.1 x.2.2.1 x.2.2.2.1 x.2.2.2.2.1 x.2.2.2.2.2.1 x.2.2.2.2.2.2.1 x.2.2.2.2.2.2.2) x = natural_Digits.l1 k (n + 1) x.1 x.2.1 x.2.2.1 x.2.2.2.1 x.2.2.2.2.1 x.2.2.2.2.2.1 x.2.2.2.2.2.2.1 x.2.2.2.2.2.2.2 := by kernel_rfl
theorem natural_Digits.l0_ev (k n : Nat) (x : natural_Digits.M0.den) :
    evalRound Go.Sh.tt (natural_Digits.tab k) Go.Proofs.Tryz.f140.ntmps (finOf Go.Sh.tt natural_Digits.B Go.Proofs.Tryz.f140.results.toList) (cAt [1, 1, 1, 1, 0, 0, 0] (bodyOf Go.Proofs.Tryz.f140)) (.seq .nil (.block (.seq .nil (.seq .nil (.seq .nil (.block (natural_Digits.an1 k))))))) natural_Digits.M0 natural_Digits.O0 1 (fun x => natural_Digits.l0 k n x.1 x.2.1 x.2.2.1 x.2.2.2.1 x.2.2.2.2.1 x.2.2.2.2.2) x = natural_Digits.l0 k (n + 1) x.1 x.2.1 x.2.2.1 x.2.2.2.1 x.2.2.2.2.1 x.2.2.2.2.2 := by kernel_rfl
theorem natural_Digits.ev (k : Nat) (x : denA natural_Digits.A) :
    evalF Go.Sh.tt (natural_Digits.tab k) Go.Proofs.Tryz.f140.ntmps (bodyOf Go.Proofs.Tryz.f140) Go.Proofs.Tryz.f140.results.toList natural_Digits.A natural_Digits.B (.seq .nil (.jseq ⟨[.dat 0 (.list (.int .u32)), .dat 1 (.int .i64), .box 72 [.st (.pair (.int .i64) (.int .i64))]], [.ptr 5 72 0]⟩ .nil (.seq .nil (.seq .nil (.seq (.block (natural_Digits.an0 k)) .nil))))) x = natural_Digits k x.1 x.2 := by kernel_rfl

theorem decimal_size.ev (k : Nat) (x : denA decimal_size.A) :
    evalF Go.Sh.tt (decimal_size.tab k) Go.Proofs.Tryz.f101.ntmps (bodyOf Go.Proofs.Tryz.f101) Go.Proofs.Tryz.f101.results.toList decimal_size.A decimal_size.B .nil x = decimal_size k x := by kernel_rfl

theorem decimal_times.ev (k : Nat) (x : denA decimal_times.A) :
    evalF Go.Sh.tt (decimal_times.tab k) Go.Proofs.Tryz.f94.ntmps (bodyOf Go.Proofs.Tryz.f94) Go.Proofs.Tryz.f94.results.toList decimal_times.A decimal_times.B .nil x = decimal_times k x.1 x.2 := by kernel_rfl

theorem decimal_exact_first.ev (k : Nat) (x : denA decimal_exact_first.A) :
    evalF Go.Sh.tt (decimal_exact_first.tab k) Go.Proofs.Tryz.f161.ntmps (bodyOf Go.Proofs.Tryz.f161) Go.Proofs.Tryz.f161.results.toList decimal_exact_first.A decimal_exact_first.B .nil x = decimal_exact_first k x := by kernel_rfl



theorem bits_Len32.ev  (x : denA bits_Len32.A) :
    evalF Go.Sh.tt (bits_Len32.tab) Go.Proofs.Tryz.f202.ntmps (bodyOf Go.Proofs.Tryz.f202) Go.Proofs.Tryz.f202.results.toList bits_Len32.A bits_Len32.B (.seq .nil (.jseq ⟨[.dat 0 (.int .u32), .dat 2 (.int .i64)], []⟩ .nil .nil)) x = bits_Len32 x := by kernel_rfl

theorem bits_LeadingZeros32.ev  (x : denA bits_LeadingZeros32.A) :
    evalF Go.Sh.tt (bits_LeadingZeros32.tab) Go.Proofs.Tryz.f221.ntmps (bodyOf Go.Proofs.Tryz.f221) Go.Proofs.Tryz.f221.results.toList bits_LeadingZeros32.A bits_LeadingZeros32.B .nil x = bits_LeadingZeros32 x := by kernel_rfl

theorem natural_left.l0_ev (k n : Nat) (x : natural_left.M0.den) :
    evalRound Go.Sh.tt (natural_left.tab k) Go.Proofs.Tryz.f173.ntmps (finOf Go.Sh.tt natural_left.B Go.Proofs.Tryz.f173.results.toList) (cAt [1, 1, 1, 0, 1, 0, 0] (bodyOf Go.Proofs.Tryz.f173)) .nil natural_left.M0 natural_left.O0 0 (fun x => natural_left.l0 k n x.1 x.2.1 x.2.2.1 x.2.2.2.1 x.2.2.2.2.1 x.2.2.2.2.2) x = natural_left.l0 k (n + 1) x.1 x.2.1 x.2.2.1 x.2.2.2.1 x.2.2.2.2.1 x.2.2.2.2.2 := by kernel_rfl
theorem natural_left.ev (k : Nat) (x : denA natural_left.A) :
    evalF Go.Sh.tt (natural_left.tab k) Go.Proofs.Tryz.f173.ntmps (bodyOf Go.Proofs.Tryz.f173) Go.Proofs.Tryz.f173.results.toList natural_left.A natural_left.B (.seq .nil (.seq .nil (.seq .nil (.seq (.seq .nil (.block (natural_left.an0 k))) .nil)))) x = natural_left k x.1 x.2 := by kernel_rfl

theorem bits_Sub32.ev  (x : denA bits_Sub32.A) :
    evalF Go.Sh.tt (bits_Sub32.tab) Go.Proofs.Tryz.f223.ntmps (bodyOf Go.Proofs.Tryz.f223) Go.Proofs.Tryz.f223.results.toList bits_Sub32.A bits_Sub32.B .nil x = bits_Sub32 x.1 x.2.1 x.2.2 := by kernel_rfl

theorem bits_Add32.ev  (x : denA bits_Add32.A) :
    evalF Go.Sh.tt (bits_Add32.tab) Go.Proofs.Tryz.f236.ntmps (bodyOf Go.Proofs.Tryz.f236) Go.Proofs.Tryz.f236.results.toList bits_Add32.A bits_Add32.B .nil x = bits_Add32 x.1 x.2.1 x.2.2 := by kernel_rfl

theorem natural_digit_ld.l2_ev (k n : Nat) (x : natural_digit_ld.M2.den) :
    evalRound Go.Sh.tt (natural_digit_ld.tab k) Go.Proofs.Tryz.f222.ntmps (finOf Go.Sh.tt natural_digit_ld.B Go.Proofs.Tryz.f222.results.toList) (cAt [1, 1, 1, 1, 1, 1, 1, 0, 1, 0, 1, 1, 0, 1, 0, 0] (bodyOf Go.Proofs.Tryz.f222)) .nil natural_digit_ld.M2 natural_digit_ld.O2 4 (fun x => natural_digit_ld.l2 k n x.1 x.2.1 x.2.2.1 x.2.2.2.1 x.2.2.2.2.1 x.2.2.2.2.2.1 x.2.2.2.2.2.2) x = natural_digit_ld.l2 k (n + 1) x.1 x.2.1 x.2.2.1 x.2.2.2.1 x.2.2.2.2.1 x.2.2.2.2.2.1 x.2.2.2.2.2.2 := by kernel_rfl
theorem natural_digit_ld.l1_ev (k n : Nat) (x : natural_digit_ld.M1.den) :
    evalRound Go.Sh.tt (natural_digit_ld.tab k) Go.Proofs.Tryz.f222.ntmps (finOf Go.Sh.tt natural_digit_ld.B Go.Proofs.Tryz.f222.results.toList) (cAt [1, 1, 1, 1, 1, 1, 0, 1, 0, 0] (bodyOf Go.Proofs.Tryz.f222)) (.seq .nil (.seq .nil (.seq (.block (.seq .nil (.jseq ⟨[.blk 0 (.int .u32) 1, .dat 1 (.list (.int .u32)), .dat 5 (.int .i64), .dat 8 (.int .u64), .dat 10 (.int .u64), .dat 11 (.int .u32), .dat 12 (.int .i64), .dat 74 (.int .i64), .dat 75 (.int .i64)], [.ref 0 0]⟩ .nil .nil))) .nil))) natural_digit_ld.M1 natural_digit_ld.O1 2 (fun x => natural_digit_ld.l1 k n x.1 x.2.1 x.2.2.1 x.2.2.2.1 x.2.2.2.2.1 x.2.2.2.2.2.1 x.2.2.2.2.2.2.1 x.2.2.2.2.2.2.2) x = natural_digit_ld.l1 k (n + 1) x.1 x.2.1 x.2.2.1 x.2.2.2.1 x.2.2.2.2.1 x.2.2.2.2.2.1 x.2.2.2.2.2.2.1 x.2.2.2.2.2.2.2 := by kernel_rfl
theorem natural_digit_ld.l0_ev (k n : Nat) (x : natural_digit_ld.M0.den) :
    evalRound Go.Sh.tt (natural_digit_ld.tab k) Go.Proofs.Tryz.f222.ntmps (finOf Go.Sh.tt natural_digit_ld.B Go.Proofs.Tryz.f222.results.toList) (cAt [1, 1, 1, 1, 0, 0, 0] (bodyOf Go.Proofs.Tryz.f222)) .nil natural_digit_ld.M0 natural_digit_ld.O0 0 (fun x => natural_digit_ld.l0 k n x.1 x.2.1 x.2.2.1 x.2.2.2.1 x.2.2.2.2.1 x.2.2.2.2.2) x = natural_digit_ld.l0 k (n + 1) x.1 x.2.1 x.2.2.1 x.2.2.2.1 x.2.2.2.2.1 x.2.2.2.2.2 := by kernel_rfl
theorem natural_digit_ld.ev (k : Nat) (x : denA natural_digit_ld.A) :
    evalF Go.Sh.tt (natural_digit_ld.tab k) Go.Proofs.Tryz.f222.ntmps (bodyOf Go.Proofs.Tryz.f222) Go.Proofs.Tryz.f222.results.toList natural_digit_ld.A natural_digit_ld.B (.seq .nil (.seq .nil (.seq .nil (.seq .nil (.seq (.block (natural_digit_ld.an0 k)) (.seq .nil (.seq (.seq .nil (.block (natural_digit_ld.an1 k))) (.seq (.seq .nil (.cond (.seq .nil (.seq .nil (.seq (.seq .nil (.block (natural_digit_ld.an2 k))) .nil))) .nil)) .nil)))))))) x = natural_digit_ld k x.1 x.2 := by kernel_rfl

theorem natural_right.l0_ev (k n : Nat) (x : natural_right.M0.den) :
    evalRound Go.Sh.tt (natural_right.tab k) Go.Proofs.Tryz.f174.ntmps (finOf Go.Sh.tt natural_right.B Go.Proofs.Tryz.f174.results.toList) (cAt [1, 1, 0, 1, 0, 0] (bodyOf Go.Proofs.Tryz.f174)) .nil natural_right.M0 natural_right.O0 0 (fun x => natural_right.l0 k n x.1 x.2.1 x.2.2.1 x.2.2.2) x = natural_right.l0 k (n + 1) x.1 x.2.1 x.2.2.1 x.2.2.2 := by kernel_rfl
theorem natural_right.ev (k : Nat) (x : denA natural_right.A) :
    evalF Go.Sh.tt (natural_right.tab k) Go.Proofs.Tryz.f174.ntmps (bodyOf Go.Proofs.Tryz.f174) Go.Proofs.Tryz.f174.results.toList natural_right.A natural_right.B (.seq .nil (.seq .nil (.seq (.seq .nil (.block (natural_right.an0 k))) .nil))) x = natural_right k x.1 x.2 := by kernel_rfl

theorem natural_divide.l1_ev (k n : Nat) (x : natural_divide.M1.den) :
    evalRound Go.Sh.tt (natural_divide.tab k) Go.Proofs.Tryz.f200.ntmps (finOf Go.Sh.tt natural_divide.B Go.Proofs.Tryz.f200.results.toList) (cAt [1, 1, 1, 1, 1, 1, 0, 1, 0, 0] (bodyOf Go.Proofs.Tryz.f200)) .nil natural_divide.M1 natural_divide.O1 2 (fun x => natural_divide.l1 k n x.1 x.2.1 x.2.2.1 x.2.2.2.1 x.2.2.2.2.1 x.2.2.2.2.2) x = natural_divide.l1 k (n + 1) x.1 x.2.1 x.2.2.1 x.2.2.2.1 x.2.2.2.2.1 x.2.2.2.2.2 := by kernel_rfl
theorem natural_divide.l0_ev (k n : Nat) (x : natural_divide.M0.den) :
    evalRound Go.Sh.tt (natural_divide.tab k) Go.Proofs.Tryz.f200.ntmps (finOf Go.Sh.tt natural_divide.B Go.Proofs.Tryz.f200.results.toList) (cAt [1, 1, 1, 1, 0, 0, 0] (bodyOf Go.Proofs.Tryz.f200)) .nil natural_divide.M0 natural_divide.O0 0 (fun x => natural_divide.l0 k n x.1 x.2.1 x.2.2.1 x.2.2.2.1 x.2.2.2.2) x = natural_divide.l0 k (n + 1) x.1 x.2.1 x.2.2.1 x.2.2.2.1 x.2.2.2.2 := by kernel_rfl
theorem natural_divide.ev (k : Nat) (x : denA natural_divide.A) :
    evalF Go.Sh.tt (natural_divide.tab k) Go.Proofs.Tryz.f200.ntmps (bodyOf Go.Proofs.Tryz.f200) Go.Proofs.Tryz.f200.results.toList natural_divide.A natural_divide.B (.seq .nil (.seq .nil (.seq .nil (.seq .nil (.seq (.block (natural_divide.an0 k)) (.seq .nil (.seq (.seq .nil (.block (natural_divide.an1 k))) .nil))))))) x = natural_divide k x.1 x.2 := by kernel_rfl

theorem natural_divMod.ev (k : Nat) (x : denA natural_divMod.A) :
    evalF Go.Sh.tt (natural_divMod.tab k) Go.Proofs.Tryz.f165.ntmps (bodyOf Go.Proofs.Tryz.f165) Go.Proofs.Tryz.f165.results.toList natural_divMod.A natural_divMod.B .nil x = natural_divMod k x.1 x.2 := by kernel_rfl

theorem natural_DivMod.ev (k : Nat) (x : denA natural_DivMod.A) :
    evalF Go.Sh.tt (natural_DivMod.tab k) Go.Proofs.Tryz.f93.ntmps (bodyOf Go.Proofs.Tryz.f93) Go.Proofs.Tryz.f93.results.toList natural_DivMod.A natural_DivMod.B .nil x = natural_DivMod k x.1 x.2 := by kernel_rfl

theorem decimal_exact_at.ev (k : Nat) (x : denA decimal_exact_at.A) :
    evalF Go.Sh.tt (decimal_exact_at.tab k) Go.Proofs.Tryz.f168.ntmps (bodyOf Go.Proofs.Tryz.f168) Go.Proofs.Tryz.f168.results.toList decimal_exact_at.A decimal_exact_at.B (.seq .nil (.seq .nil (.jseq ⟨[.dat 6 (.list (.int .u32)), .dat 7 (.list (.int .u32))], []⟩ .nil .nil))) x = decimal_exact_at k x.1 x.2 := by kernel_rfl

theorem natural_add.l0_ev (k n : Nat) (x : natural_add.M0.den) :
    evalRound Go.Sh.tt (natural_add.tab k) Go.Proofs.Tryz.f175.ntmps (finOf Go.Sh.tt natural_add.B Go.Proofs.Tryz.f175.results.toList) (cAt [1, 1, 1, 1, 0, 1, 0, 0] (bodyOf Go.Proofs.Tryz.f175)) .nil natural_add.M0 natural_add.O0 0 (fun x => natural_add.l0 k n x.1 x.2.1 x.2.2.1 x.2.2.2.1 x.2.2.2.2.1 x.2.2.2.2.2) x = natural_add.l0 k (n + 1) x.1 x.2.1 x.2.2.1 x.2.2.2.1 x.2.2.2.2.1 x.2.2.2.2.2 := by kernel_rfl
theorem natural_add.ev (k : Nat) (x : denA natural_add.A) :
    evalF Go.Sh.tt (natural_add.tab k) Go.Proofs.Tryz.f175.ntmps (bodyOf Go.Proofs.Tryz.f175) Go.Proofs.Tryz.f175.results.toList natural_add.A natural_add.B (.seq .nil (.jseq ⟨[.dat 0 (.list (.int .u32)), .dat 1 (.list (.int .u32))], []⟩ .nil (.seq .nil (.seq .nil (.seq (.seq .nil (.block (natural_add.an0 k))) .nil))))) x = natural_add k x.1 x.2 := by kernel_rfl

theorem natural_Add.ev (k : Nat) (x : denA natural_Add.A) :
    evalF Go.Sh.tt (natural_Add.tab k) Go.Proofs.Tryz.f112.ntmps (bodyOf Go.Proofs.Tryz.f112) Go.Proofs.Tryz.f112.results.toList natural_Add.A natural_Add.B .nil x = natural_Add k x.1 x.2 := by kernel_rfl

theorem decimal_away.ev  (x : denA decimal_away.A) :
    evalF Go.Sh.tt (decimal_away.tab) Go.Proofs.Tryz.f170.ntmps (bodyOf Go.Proofs.Tryz.f170) Go.Proofs.Tryz.f170.results.toList decimal_away.A decimal_away.B .nil x = decimal_away x.1 x.2.1 x.2.2.1 x.2.2.2 := by kernel_rfl

theorem decimal_exact_rounded.ev (k : Nat) (x : denA decimal_exact_rounded.A) :
    evalF Go.Sh.tt (decimal_exact_rounded.tab k) Go.Proofs.Tryz.f100.ntmps (bodyOf Go.Proofs.Tryz.f100) Go.Proofs.Tryz.f100.results.toList decimal_exact_rounded.A decimal_exact_rounded.B .nil x = decimal_exact_rounded k x.1 x.2.1 x.2.2 := by kernel_rfl

theorem decimal_toward.l0_ev (k n : Nat) (x : decimal_toward.M0.den) :
    evalRound Go.Sh.tt (decimal_toward.tab k) Go.Proofs.Tryz.f99.ntmps (finOf Go.Sh.tt decimal_toward.B Go.Proofs.Tryz.f99.results.toList) (cAt [1, 0, 0, 0] (bodyOf Go.Proofs.Tryz.f99)) .nil decimal_toward.M0 decimal_toward.O0 0 (fun x => decimal_toward.l0 k n x.1 x.2.1 x.2.2) x = decimal_toward.l0 k (n + 1) x.1 x.2.1 x.2.2 := by kernel_rfl
theorem decimal_toward.ev (k : Nat) (x : denA decimal_toward.A) :
    evalF Go.Sh.tt (decimal_toward.tab k) Go.Proofs.Tryz.f99.ntmps (bodyOf Go.Proofs.Tryz.f99) Go.Proofs.Tryz.f99.results.toList decimal_toward.A decimal_toward.B (.seq .nil (.seq (.block (decimal_toward.an0 k)) .nil)) x = decimal_toward k x.1 x.2.1 x.2.2 := by kernel_rfl

theorem decimal_infinite.ev  (x : denA decimal_infinite.A) :
    evalF Go.Sh.tt (decimal_infinite.tab) Go.Proofs.Tryz.f69.ntmps (bodyOf Go.Proofs.Tryz.f69) Go.Proofs.Tryz.f69.results.toList decimal_infinite.A decimal_infinite.B .nil x = decimal_infinite x := by kernel_rfl

theorem natural_sub.l0_ev (k n : Nat) (x : natural_sub.M0.den) :
    evalRound Go.Sh.tt (natural_sub.tab k) Go.Proofs.Tryz.f201.ntmps (finOf Go.Sh.tt natural_sub.B Go.Proofs.Tryz.f201.results.toList) (cAt [1, 1, 1, 0, 1, 0, 0] (bodyOf Go.Proofs.Tryz.f201)) (.seq .nil (.seq .nil (.seq (.block (.seq .nil (.seq .nil (.jseq ⟨[.dat 1 (.list (.int .u32)), .own 5 (.int .u32), .dat 6 (.int .u32), .dat 7 (.int .i64), .dat 8 (.int .u32), .dat 12 (.int .i64), .dat 13 (.int .i64)], []⟩ .nil .nil)))) .nil))) natural_sub.M0 natural_sub.O0 0 (fun x => natural_sub.l0 k n x.1 x.2.1 x.2.2.1 x.2.2.2.1 x.2.2.2.2) x = natural_sub.l0 k (n + 1) x.1 x.2.1 x.2.2.1 x.2.2.2.1 x.2.2.2.2 := by kernel_rfl
theorem natural_sub.ev (k : Nat) (x : denA natural_sub.A) :
    evalF Go.Sh.tt (natural_sub.tab k) Go.Proofs.Tryz.f201.ntmps (bodyOf Go.Proofs.Tryz.f201) Go.Proofs.Tryz.f201.results.toList natural_sub.A natural_sub.B (.seq .nil (.seq .nil (.seq .nil (.seq (.seq .nil (.block (natural_sub.an0 k))) .nil)))) x = natural_sub k x.1 x.2 := by kernel_rfl

theorem natural_Sub.ev (k : Nat) (x : denA natural_Sub.A) :
    evalF Go.Sh.tt (natural_Sub.tab k) Go.Proofs.Tryz.f171.ntmps (bodyOf Go.Proofs.Tryz.f171) Go.Proofs.Tryz.f171.results.toList natural_Sub.A natural_Sub.B .nil x = natural_Sub k x.1 x.2 := by kernel_rfl

theorem decimal_overflow.ev (k : Nat) (x : denA decimal_overflow.A) :
    evalF Go.Sh.tt (decimal_overflow.tab k) Go.Proofs.Tryz.f162.ntmps (bodyOf Go.Proofs.Tryz.f162) Go.Proofs.Tryz.f162.results.toList decimal_overflow.A decimal_overflow.B .nil x = decimal_overflow k x.1 x.2 := by kernel_rfl

theorem decimal_exact_fit.ev (k : Nat) (x : denA decimal_exact_fit.A) :
    evalF Go.Sh.tt (decimal_exact_fit.tab k) Go.Proofs.Tryz.f91.ntmps (bodyOf Go.Proofs.Tryz.f91) Go.Proofs.Tryz.f91.results.toList decimal_exact_fit.A decimal_exact_fit.B (.seq .nil (.seq .nil (.seq .nil (.seq .nil (.seq .nil (.seq .nil (.jseq ⟨[.dat 1 (.int .i64), .box 107 [.st (.pair (.bool) (.pair (.list (.int .u32)) (.pair (.list (.int .u32)) (.int .i64))))], .box 109 [.st (.pair (.int .i64) (.pair (.int .i64) (.pair (.int .i64) (.int .i64))))], .box 110 [.st (.pair (.int .i64) (.pair (.bool) (.pair (.st (.pair (.bool) (.list (.int .u32)))) (.int .i64))))], .dat 8 (.int .i64), .dat 9 (.int .i64), .dat 10 (.list (.int .u32)), .dat 11 (.bool), .dat 12 (.int .i64)], [.ptr 3 107 0, .ptr 5 109 0, .ptr 6 110 0]⟩ .nil (.jseq ⟨[.box 107 [.st (.pair (.bool) (.pair (.list (.int .u32)) (.pair (.list (.int .u32)) (.int .i64))))], .box 109 [.st (.pair (.int .i64) (.pair (.int .i64) (.pair (.int .i64) (.int .i64))))], .box 110 [.st (.pair (.int .i64) (.pair (.bool) (.pair (.st (.pair (.bool) (.list (.int .u32)))) (.int .i64))))], .dat 9 (.int .i64), .dat 10 (.list (.int .u32)), .dat 12 (.int .i64)], [.ptr 3 107 0, .ptr 5 109 0, .ptr 6 110 0]⟩ (.seq .nil (.cond (.seq .nil (.jseq ⟨[.box 107 [.st (.pair (.bool) (.pair (.list (.int .u32)) (.pair (.list (.int .u32)) (.int .i64))))], .box 109 [.st (.pair (.int .i64) (.pair (.int .i64) (.pair (.int .i64) (.int .i64))))], .box 110 [.st (.pair (.int .i64) (.pair (.bool) (.pair (.st (.pair (.bool) (.list (.int .u32)))) (.int .i64))))], .dat 9 (.int .i64), .dat 10 (.list (.int .u32)), .dat 12 (.int .i64)], [.ptr 3 107 0, .ptr 5 109 0, .ptr 6 110 0]⟩ .nil .nil)) .nil)) .nil)))))))) x = decimal_exact_fit k x.1 x.2.1 x.2.2 := by kernel_rfl

theorem decimal_Round.ev (k : Nat) (x : denA decimal_Round.A) :
    evalF Go.Sh.tt (decimal_Round.tab k) Go.Proofs.Tryz.f27.ntmps (bodyOf Go.Proofs.Tryz.f27) Go.Proofs.Tryz.f27.results.toList decimal_Round.A decimal_Round.B .nil x = decimal_Round k x.1 x.2 := by kernel_rfl

theorem decimal_isZero.ev  (x : denA decimal_isZero.A) :
    evalF Go.Sh.tt (decimal_isZero.tab) Go.Proofs.Tryz.f88.ntmps (bodyOf Go.Proofs.Tryz.f88) Go.Proofs.Tryz.f88.results.toList decimal_isZero.A decimal_isZero.B .nil x = decimal_isZero x := by kernel_rfl

theorem decimal_Reduce.ev (k : Nat) (x : denA decimal_Reduce.A) :
    evalF Go.Sh.tt (decimal_Reduce.tab k) Go.Proofs.Tryz.f28.ntmps (bodyOf Go.Proofs.Tryz.f28) Go.Proofs.Tryz.f28.results.toList decimal_Reduce.A decimal_Reduce.B (.seq .nil (.seq .nil (.jseq ⟨[.box 50 [.st (.pair (.int .i64) (.pair (.bool) (.pair (.st (.pair (.bool) (.list (.int .u32)))) (.int .i64))))], .box 52 [.st (.pair (.int .i64) (.int .i64))], .box 53 [.st (.pair (.int .i64) (.pair (.bool) (.pair (.st (.pair (.bool) (.list (.int .u32)))) (.int .i64))))], .dat 8 (.int .i64)], [.ptr 4 50 0, .ptr 6 52 0, .ptr 7 53 0]⟩ .nil .nil))) x = decimal_Reduce k x.1 x.2 := by kernel_rfl

theorem decimal_none.ev  (x : denA decimal_none.A) :
    evalF Go.Sh.tt (decimal_none.tab) Go.Proofs.Tryz.f70.ntmps (bodyOf Go.Proofs.Tryz.f70) Go.Proofs.Tryz.f70.results.toList decimal_none.A decimal_none.B .nil x = decimal_none  := by kernel_rfl

theorem decimal_Quantize.ev (k : Nat) (x : denA decimal_Quantize.A) :
    evalF Go.Sh.tt (decimal_Quantize.tab k) Go.Proofs.Tryz.f29.ntmps (bodyOf Go.Proofs.Tryz.f29) Go.Proofs.Tryz.f29.results.toList decimal_Quantize.A decimal_Quantize.B (.seq .nil (.seq .nil (.jseq ⟨[.dat 1 (.int .i64), .box 88 [.st (.pair (.int .i64) (.pair (.bool) (.pair (.st (.pair (.bool) (.list (.int .u32)))) (.int .i64))))], .box 90 [.st (.pair (.int .i64) (.pair (.int .i64) (.pair (.int .i64) (.int .i64))))], .box 91 [.st (.pair (.int .i64) (.pair (.bool) (.pair (.st (.pair (.bool) (.list (.int .u32)))) (.int .i64))))], .box 93 [.st (.pair (.int .i64) (.int .i64))]], [.ptr 3 88 0, .ptr 5 90 0, .ptr 6 91 0, .ptr 8 93 0]⟩ .nil (.seq .nil (.jseq ⟨[.dat 1 (.int .i64), .box 88 [.st (.pair (.int .i64) (.pair (.bool) (.pair (.st (.pair (.bool) (.list (.int .u32)))) (.int .i64))))], .box 91 [.st (.pair (.int .i64) (.pair (.bool) (.pair (.st (.pair (.bool) (.list (.int .u32)))) (.int .i64))))], .box 93 [.st (.pair (.int .i64) (.int .i64))], .dat 10 (.list (.int .u32)), .dat 11 (.bool)], [.ptr 3 88 0, .ptr 6 91 0, .ptr 8 93 0]⟩ .nil .nil))))) x = decimal_Quantize k x.1 x.2.1 x.2.2 := by kernel_rfl

theorem brindlewoodref3_Small.l0_ev (k n : Nat) (x : brindlewoodref3_Small.M0.den) :
    evalRound Go.Sh.tt (brindlewoodref3_Small.tab k) Go.Proofs.Tryz.f48.ntmps (finOf Go.Sh.tt brindlewoodref3_Small.B Go.Proofs.Tryz.f48.results.toList) (cAt [1, 1, 0, 0, 0] (bodyOf Go.Proofs.Tryz.f48)) .nil brindlewoodref3_Small.M0 brindlewoodref3_Small.O0 0 (fun x => brindlewoodref3_Small.l0 k n x.1 x.2) x = brindlewoodref3_Small.l0 k (n + 1) x.1 x.2 := by kernel_rfl
theorem brindlewoodref3_Small.ev (k : Nat) (x : denA brindlewoodref3_Small.A) :
    evalF Go.Sh.tt (brindlewoodref3_Small.tab k) Go.Proofs.Tryz.f48.ntmps (bodyOf Go.Proofs.Tryz.f48) Go.Proofs.Tryz.f48.results.toList brindlewoodref3_Small.A brindlewoodref3_Small.B (.seq .nil (.seq .nil (.seq (.block (brindlewoodref3_Small.an0 k)) .nil))) x = brindlewoodref3_Small k x := by kernel_rfl

theorem brindlewoodref3_Value.ev (k : Nat) (x : denA brindlewoodref3_Value.A) :
    evalF Go.Sh.tt (brindlewoodref3_Value.tab k) Go.Proofs.Tryz.f61.ntmps (bodyOf Go.Proofs.Tryz.f61) Go.Proofs.Tryz.f61.results.toList brindlewoodref3_Value.A brindlewoodref3_Value.B .nil x = brindlewoodref3_Value k x := by kernel_rfl

theorem brindlewoodref3_Limbs.l0_ev (k n : Nat) (x : brindlewoodref3_Limbs.M0.den) :
    evalRound Go.Sh.tt (brindlewoodref3_Limbs.tab k) Go.Proofs.Tryz.f160.ntmps (finOf Go.Sh.tt brindlewoodref3_Limbs.B Go.Proofs.Tryz.f160.results.toList) (cAt [1, 1, 0, 1, 0, 0] (bodyOf Go.Proofs.Tryz.f160)) .nil brindlewoodref3_Limbs.M0 brindlewoodref3_Limbs.O0 0 (fun x => brindlewoodref3_Limbs.l0 k n x.1 x.2.1 x.2.2) x = brindlewoodref3_Limbs.l0 k (n + 1) x.1 x.2.1 x.2.2 := by kernel_rfl
theorem brindlewoodref3_Limbs.ev (k : Nat) (x : denA brindlewoodref3_Limbs.A) :
    evalF Go.Sh.tt (brindlewoodref3_Limbs.tab k) Go.Proofs.Tryz.f160.ntmps (bodyOf Go.Proofs.Tryz.f160) Go.Proofs.Tryz.f160.results.toList brindlewoodref3_Limbs.A brindlewoodref3_Limbs.B (.seq .nil (.seq .nil (.seq (.seq .nil (.block (brindlewoodref3_Limbs.an0 k))) .nil))) x = brindlewoodref3_Limbs k x := by kernel_rfl

theorem brindlewoodref3_Finite.ev (k : Nat) (x : denA brindlewoodref3_Finite.A) :
    evalF Go.Sh.tt (brindlewoodref3_Finite.tab k) Go.Proofs.Tryz.f85.ntmps (bodyOf Go.Proofs.Tryz.f85) Go.Proofs.Tryz.f85.results.toList brindlewoodref3_Finite.A brindlewoodref3_Finite.B .nil x = brindlewoodref3_Finite k x.1 x.2.1 x.2.2 := by kernel_rfl

theorem brindlewoodref3_Times.l1_ev (k n : Nat) (x : brindlewoodref3_Times.M1.den) :
    evalRound Go.Sh.tt (brindlewoodref3_Times.tab k) Go.Proofs.Tryz.f62.ntmps (finOf Go.Sh.tt brindlewoodref3_Times.B Go.Proofs.Tryz.f62.results.toList) (cAt [1, 1, 0, 1, 0, 0, 1, 0, 0, 1, 1, 0, 0] (bodyOf Go.Proofs.Tryz.f62)) .nil brindlewoodref3_Times.M1 brindlewoodref3_Times.O1 2 (fun x => brindlewoodref3_Times.l1 k n x.1 x.2.1 x.2.2.1 x.2.2.2.1 x.2.2.2.2.1 x.2.2.2.2.2) x = brindlewoodref3_Times.l1 k (n + 1) x.1 x.2.1 x.2.2.1 x.2.2.2.1 x.2.2.2.2.1 x.2.2.2.2.2 := by kernel_rfl
theorem brindlewoodref3_Times.l0_ev (k n : Nat) (x : brindlewoodref3_Times.M0.den) :
    evalRound Go.Sh.tt (brindlewoodref3_Times.tab k) Go.Proofs.Tryz.f62.ntmps (finOf Go.Sh.tt brindlewoodref3_Times.B Go.Proofs.Tryz.f62.results.toList) (cAt [1, 1, 0, 1, 0, 0] (bodyOf Go.Proofs.Tryz.f62)) (.seq .nil (.seq (.block (.seq .nil (.seq .nil (.block (brindlewoodref3_Times.an1 k))))) .nil)) brindlewoodref3_Times.M0 brindlewoodref3_Times.O0 0 (fun x => brindlewoodref3_Times.l0 k n x.1 x.2.1 x.2.2.1 x.2.2.2) x = brindlewoodref3_Times.l0 k (n + 1) x.1 x.2.1 x.2.2.1 x.2.2.2 := by kernel_rfl
theorem brindlewoodref3_Times.ev (k : Nat) (x : denA brindlewoodref3_Times.A) :
    evalF Go.Sh.tt (brindlewoodref3_Times.tab k) Go.Proofs.Tryz.f62.ntmps (bodyOf Go.Proofs.Tryz.f62) Go.Proofs.Tryz.f62.results.toList brindlewoodref3_Times.A brindlewoodref3_Times.B (.seq .nil (.seq .nil (.seq (.seq .nil (.block (brindlewoodref3_Times.an0 k))) .nil))) x = brindlewoodref3_Times k x.1 x.2 := by kernel_rfl

theorem brindlewoodref3_Ten.l1_ev (k n : Nat) (x : brindlewoodref3_Ten.M1.den) :
    evalRound Go.Sh.tt (brindlewoodref3_Ten.tab k) Go.Proofs.Tryz.f49.ntmps (finOf Go.Sh.tt brindlewoodref3_Ten.B Go.Proofs.Tryz.f49.results.toList) (cAt [1, 1, 1, 0, 0, 0] (bodyOf Go.Proofs.Tryz.f49)) .nil brindlewoodref3_Ten.M1 brindlewoodref3_Ten.O1 2 (fun x => brindlewoodref3_Ten.l1 k n x.1 x.2) x = brindlewoodref3_Ten.l1 k (n + 1) x.1 x.2 := by kernel_rfl
theorem brindlewoodref3_Ten.l0_ev (k n : Nat) (x : brindlewoodref3_Ten.M0.den) :
    evalRound Go.Sh.tt (brindlewoodref3_Ten.tab k) Go.Proofs.Tryz.f49.ntmps (finOf Go.Sh.tt brindlewoodref3_Ten.B Go.Proofs.Tryz.f49.results.toList) (cAt [1, 1, 0, 0, 0] (bodyOf Go.Proofs.Tryz.f49)) .nil brindlewoodref3_Ten.M0 brindlewoodref3_Ten.O0 0 (fun x => brindlewoodref3_Ten.l0 k n x.1 x.2) x = brindlewoodref3_Ten.l0 k (n + 1) x.1 x.2 := by kernel_rfl
theorem brindlewoodref3_Ten.ev (k : Nat) (x : denA brindlewoodref3_Ten.A) :
    evalF Go.Sh.tt (brindlewoodref3_Ten.tab k) Go.Proofs.Tryz.f49.ntmps (bodyOf Go.Proofs.Tryz.f49) Go.Proofs.Tryz.f49.results.toList brindlewoodref3_Ten.A brindlewoodref3_Ten.B (.seq .nil (.seq .nil (.seq (.block (brindlewoodref3_Ten.an0 k)) (.seq (.block (brindlewoodref3_Ten.an1 k)) .nil)))) x = brindlewoodref3_Ten k x := by kernel_rfl

theorem brindlewoodref3_Exact_parts.ev (k : Nat) (x : denA brindlewoodref3_Exact_parts.A) :
    evalF Go.Sh.tt (brindlewoodref3_Exact_parts.tab k) Go.Proofs.Tryz.f97.ntmps (bodyOf Go.Proofs.Tryz.f97) Go.Proofs.Tryz.f97.results.toList brindlewoodref3_Exact_parts.A brindlewoodref3_Exact_parts.B .nil x = brindlewoodref3_Exact_parts k x.1 x.2 := by kernel_rfl

theorem brindlewoodref3_Compare.l0_ev (k n : Nat) (x : brindlewoodref3_Compare.M0.den) :
    evalRound Go.Sh.tt (brindlewoodref3_Compare.tab k) Go.Proofs.Tryz.f115.ntmps (finOf Go.Sh.tt brindlewoodref3_Compare.B Go.Proofs.Tryz.f115.results.toList) (cAt [1, 1, 0, 1, 0, 0] (bodyOf Go.Proofs.Tryz.f115)) .nil brindlewoodref3_Compare.M0 brindlewoodref3_Compare.O0 0 (fun x => brindlewoodref3_Compare.l0 k n x.1 x.2.1 x.2.2) x = brindlewoodref3_Compare.l0 k (n + 1) x.1 x.2.1 x.2.2 := by kernel_rfl
theorem brindlewoodref3_Compare.ev (k : Nat) (x : denA brindlewoodref3_Compare.A) :
    evalF Go.Sh.tt (brindlewoodref3_Compare.tab k) Go.Proofs.Tryz.f115.ntmps (bodyOf Go.Proofs.Tryz.f115) Go.Proofs.Tryz.f115.results.toList brindlewoodref3_Compare.A brindlewoodref3_Compare.B (.seq .nil (.seq .nil (.seq (.seq .nil (.block (brindlewoodref3_Compare.an0 k))) .nil))) x = brindlewoodref3_Compare k x.1 x.2 := by kernel_rfl

theorem brindlewoodref3_Exact_First.l0_ev (k n : Nat) (x : brindlewoodref3_Exact_First.M0.den) :
    evalRound Go.Sh.tt (brindlewoodref3_Exact_First.tab k) Go.Proofs.Tryz.f113.ntmps (finOf Go.Sh.tt brindlewoodref3_Exact_First.B Go.Proofs.Tryz.f113.results.toList) (cAt [1, 1, 0, 0] (bodyOf Go.Proofs.Tryz.f113)) .nil brindlewoodref3_Exact_First.M0 brindlewoodref3_Exact_First.O0 0 (fun x => brindlewoodref3_Exact_First.l0 k n x.1 x.2) x = brindlewoodref3_Exact_First.l0 k (n + 1) x.1 x.2 := by kernel_rfl
theorem brindlewoodref3_Exact_First.ev (k : Nat) (x : denA brindlewoodref3_Exact_First.A) :
    evalF Go.Sh.tt (brindlewoodref3_Exact_First.tab k) Go.Proofs.Tryz.f113.ntmps (bodyOf Go.Proofs.Tryz.f113) Go.Proofs.Tryz.f113.results.toList brindlewoodref3_Exact_First.A brindlewoodref3_Exact_First.B (.seq .nil (.seq .nil (.block (brindlewoodref3_Exact_First.an0 k)))) x = brindlewoodref3_Exact_First k x := by kernel_rfl

theorem brindlewoodref3_Ones.l2_ev (k n : Nat) (x : brindlewoodref3_Ones.M2.den) :
    evalRound Go.Sh.tt (brindlewoodref3_Ones.tab k) Go.Proofs.Tryz.f166.ntmps (finOf Go.Sh.tt brindlewoodref3_Ones.B Go.Proofs.Tryz.f166.results.toList) (cAt [1, 1, 1, 0, 0, 0] (bodyOf Go.Proofs.Tryz.f166)) .nil brindlewoodref3_Ones.M2 brindlewoodref3_Ones.O2 4 (fun x => brindlewoodref3_Ones.l2 k n x) x = brindlewoodref3_Ones.l2 k (n + 1) x := by kernel_rfl
theorem brindlewoodref3_Ones.l1_ev (k n : Nat) (x : brindlewoodref3_Ones.M1.den) :
    evalRound Go.Sh.tt (brindlewoodref3_Ones.tab k) Go.Proofs.Tryz.f166.ntmps (finOf Go.Sh.tt brindlewoodref3_Ones.B Go.Proofs.Tryz.f166.results.toList) (cAt [1, 1, 0, 1, 0, 0, 1, 0, 0, 1, 1, 0, 0] (bodyOf Go.Proofs.Tryz.f166)) .nil brindlewoodref3_Ones.M1 brindlewoodref3_Ones.O1 2 (fun x => brindlewoodref3_Ones.l1 k n x.1 x.2.1 x.2.2.1 x.2.2.2.1 x.2.2.2.2) x = brindlewoodref3_Ones.l1 k (n + 1) x.1 x.2.1 x.2.2.1 x.2.2.2.1 x.2.2.2.2 := by kernel_rfl
theorem brindlewoodref3_Ones.l0_ev (k n : Nat) (x : brindlewoodref3_Ones.M0.den) :
    evalRound Go.Sh.tt (brindlewoodref3_Ones.tab k) Go.Proofs.Tryz.f166.ntmps (finOf Go.Sh.tt brindlewoodref3_Ones.B Go.Proofs.Tryz.f166.results.toList) (cAt [1, 1, 0, 1, 0, 0] (bodyOf Go.Proofs.Tryz.f166)) (.seq .nil (.seq (.block (.seq .nil (.seq .nil (.block (brindlewoodref3_Ones.an1 k))))) .nil)) brindlewoodref3_Ones.M0 brindlewoodref3_Ones.O0 0 (fun x => brindlewoodref3_Ones.l0 k n x.1 x.2.1 x.2.2) x = brindlewoodref3_Ones.l0 k (n + 1) x.1 x.2.1 x.2.2 := by kernel_rfl
theorem brindlewoodref3_Ones.ev (k : Nat) (x : denA brindlewoodref3_Ones.A) :
    evalF Go.Sh.tt (brindlewoodref3_Ones.tab k) Go.Proofs.Tryz.f166.ntmps (bodyOf Go.Proofs.Tryz.f166) Go.Proofs.Tryz.f166.results.toList brindlewoodref3_Ones.A brindlewoodref3_Ones.B (.seq .nil (.seq .nil (.seq (.seq .nil (.block (brindlewoodref3_Ones.an0 k))) (.seq (.block (brindlewoodref3_Ones.an2 k)) .nil)))) x = brindlewoodref3_Ones k x := by kernel_rfl

theorem brindlewoodref3_Double.l0_ev (k n : Nat) (x : brindlewoodref3_Double.M0.den) :
    evalRound Go.Sh.tt (brindlewoodref3_Double.tab k) Go.Proofs.Tryz.f116.ntmps (finOf Go.Sh.tt brindlewoodref3_Double.B Go.Proofs.Tryz.f116.results.toList) (cAt [1, 1, 1, 1, 0, 1, 0, 0] (bodyOf Go.Proofs.Tryz.f116)) .nil brindlewoodref3_Double.M0 brindlewoodref3_Double.O0 0 (fun x => brindlewoodref3_Double.l0 k n x.1 x.2.1 x.2.2.1 x.2.2.2) x = brindlewoodref3_Double.l0 k (n + 1) x.1 x.2.1 x.2.2.1 x.2.2.2 := by kernel_rfl
theorem brindlewoodref3_Double.ev (k : Nat) (x : denA brindlewoodref3_Double.A) :
    evalF Go.Sh.tt (brindlewoodref3_Double.tab k) Go.Proofs.Tryz.f116.ntmps (bodyOf Go.Proofs.Tryz.f116) Go.Proofs.Tryz.f116.results.toList brindlewoodref3_Double.A brindlewoodref3_Double.B (.seq .nil (.seq .nil (.jseq ⟨[.dat 0 (.list (.int .i64)), .dat 5 (.int .i64)], []⟩ .nil (.seq .nil (.seq (.seq .nil (.block (brindlewoodref3_Double.an0 k))) .nil))))) x = brindlewoodref3_Double k x.1 x.2 := by kernel_rfl

theorem brindlewoodref3_Minus.l0_ev (k n : Nat) (x : brindlewoodref3_Minus.M0.den) :
    evalRound Go.Sh.tt (brindlewoodref3_Minus.tab k) Go.Proofs.Tryz.f167.ntmps (finOf Go.Sh.tt brindlewoodref3_Minus.B Go.Proofs.Tryz.f167.results.toList) (cAt [1, 1, 1, 0, 1, 0, 0] (bodyOf Go.Proofs.Tryz.f167)) (.seq .nil (.seq (.block (.seq .nil (.jseq ⟨[.dat 0 (.list (.int .i64)), .dat 1 (.list (.int .i64)), .own 5 (.int .i64), .dat 7 (.int .i64), .dat 8 (.int .i64)], []⟩ .nil .nil))) .nil)) brindlewoodref3_Minus.M0 brindlewoodref3_Minus.O0 0 (fun x => brindlewoodref3_Minus.l0 k n x.1 x.2.1 x.2.2.1 x.2.2.2.1 x.2.2.2.2) x = brindlewoodref3_Minus.l0 k (n + 1) x.1 x.2.1 x.2.2.1 x.2.2.2.1 x.2.2.2.2 := by kernel_rfl
theorem brindlewoodref3_Minus.ev (k : Nat) (x : denA brindlewoodref3_Minus.A) :
    evalF Go.Sh.tt (brindlewoodref3_Minus.tab k) Go.Proofs.Tryz.f167.ntmps (bodyOf Go.Proofs.Tryz.f167) Go.Proofs.Tryz.f167.results.toList brindlewoodref3_Minus.A brindlewoodref3_Minus.B (.seq .nil (.seq .nil (.seq .nil (.seq (.seq .nil (.block (brindlewoodref3_Minus.an0 k))) .nil)))) x = brindlewoodref3_Minus k x.1 x.2 := by kernel_rfl

theorem brindlewoodref3_Binary.l1_ev (k n : Nat) (x : brindlewoodref3_Binary.M1.den) :
    evalRound Go.Sh.tt (brindlewoodref3_Binary.tab k) Go.Proofs.Tryz.f127.ntmps (finOf Go.Sh.tt brindlewoodref3_Binary.B Go.Proofs.Tryz.f127.results.toList) (cAt [1, 1, 0, 1, 0, 0, 1, 0, 0, 1, 0, 1, 0, 0] (bodyOf Go.Proofs.Tryz.f127)) .nil brindlewoodref3_Binary.M1 brindlewoodref3_Binary.O1 2 (fun x => brindlewoodref3_Binary.l1 k n x.1 x.2.1 x.2.2.1 x.2.2.2.1 x.2.2.2.2) x = brindlewoodref3_Binary.l1 k (n + 1) x.1 x.2.1 x.2.2.1 x.2.2.2.1 x.2.2.2.2 := by kernel_rfl
theorem brindlewoodref3_Binary.l0_ev (k n : Nat) (x : brindlewoodref3_Binary.M0.den) :
    evalRound Go.Sh.tt (brindlewoodref3_Binary.tab k) Go.Proofs.Tryz.f127.ntmps (finOf Go.Sh.tt brindlewoodref3_Binary.B Go.Proofs.Tryz.f127.results.toList) (cAt [1, 1, 0, 1, 0, 0] (bodyOf Go.Proofs.Tryz.f127)) (.seq .nil (.seq (.block (.seq .nil (.seq (.seq .nil (.block (brindlewoodref3_Binary.an1 k))) .nil))) .nil)) brindlewoodref3_Binary.M0 brindlewoodref3_Binary.O0 0 (fun x => brindlewoodref3_Binary.l0 k n x.1 x.2.1 x.2.2) x = brindlewoodref3_Binary.l0 k (n + 1) x.1 x.2.1 x.2.2 := by kernel_rfl
theorem brindlewoodref3_Binary.ev (k : Nat) (x : denA brindlewoodref3_Binary.A) :
    evalF Go.Sh.tt (brindlewoodref3_Binary.tab k) Go.Proofs.Tryz.f127.ntmps (bodyOf Go.Proofs.Tryz.f127) Go.Proofs.Tryz.f127.results.toList brindlewoodref3_Binary.A brindlewoodref3_Binary.B (.seq .nil (.seq .nil (.seq (.seq .nil (.block (brindlewoodref3_Binary.an0 k))) .nil))) x = brindlewoodref3_Binary k x := by kernel_rfl

theorem brindlewoodref3_Divide.l0_ev (k n : Nat) (x : brindlewoodref3_Divide.M0.den) :
    evalRound Go.Sh.tt (brindlewoodref3_Divide.tab k) Go.Proofs.Tryz.f98.ntmps (finOf Go.Sh.tt brindlewoodref3_Divide.B Go.Proofs.Tryz.f98.results.toList) (cAt [1, 1, 1, 1, 0, 1, 0, 0] (bodyOf Go.Proofs.Tryz.f98)) .nil brindlewoodref3_Divide.M0 brindlewoodref3_Divide.O0 0 (fun x => brindlewoodref3_Divide.l0 k n x.1 x.2.1 x.2.2.1 x.2.2.2.1 x.2.2.2.2) x = brindlewoodref3_Divide.l0 k (n + 1) x.1 x.2.1 x.2.2.1 x.2.2.2.1 x.2.2.2.2 := by kernel_rfl
theorem brindlewoodref3_Divide.ev (k : Nat) (x : denA brindlewoodref3_Divide.A) :
    evalF Go.Sh.tt (brindlewoodref3_Divide.tab k) Go.Proofs.Tryz.f98.ntmps (bodyOf Go.Proofs.Tryz.f98) Go.Proofs.Tryz.f98.results.toList brindlewoodref3_Divide.A brindlewoodref3_Divide.B (.seq .nil (.seq .nil (.seq .nil (.seq .nil (.seq (.seq .nil (.block (brindlewoodref3_Divide.an0 k))) .nil))))) x = brindlewoodref3_Divide k x.1 x.2 := by kernel_rfl

theorem brindlewoodref3_up.ev  (x : denA brindlewoodref3_up.A) :
    evalF Go.Sh.tt (brindlewoodref3_up.tab) Go.Proofs.Tryz.f117.ntmps (bodyOf Go.Proofs.Tryz.f117) Go.Proofs.Tryz.f117.results.toList brindlewoodref3_up.A brindlewoodref3_up.B .nil x = brindlewoodref3_up x.1 x.2.1 x.2.2.1 x.2.2.2 := by kernel_rfl

theorem brindlewoodref3_Plus.l0_ev (k n : Nat) (x : brindlewoodref3_Plus.M0.den) :
    evalRound Go.Sh.tt (brindlewoodref3_Plus.tab k) Go.Proofs.Tryz.f118.ntmps (finOf Go.Sh.tt brindlewoodref3_Plus.B Go.Proofs.Tryz.f118.results.toList) (cAt [1, 1, 1, 0, 1, 0, 0] (bodyOf Go.Proofs.Tryz.f118)) (.seq .nil (.seq (.block (.jseq ⟨[.dat 0 (.list (.int .i64)), .dat 1 (.list (.int .i64)), .own 5 (.int .i64), .dat 6 (.int .i64), .dat 7 (.int .i64)], []⟩ .nil .nil)) .nil)) brindlewoodref3_Plus.M0 brindlewoodref3_Plus.O0 0 (fun x => brindlewoodref3_Plus.l0 k n x.1 x.2.1 x.2.2.1 x.2.2.2.1 x.2.2.2.2) x = brindlewoodref3_Plus.l0 k (n + 1) x.1 x.2.1 x.2.2.1 x.2.2.2.1 x.2.2.2.2 := by kernel_rfl
theorem brindlewoodref3_Plus.ev (k : Nat) (x : denA brindlewoodref3_Plus.A) :
    evalF Go.Sh.tt (brindlewoodref3_Plus.tab k) Go.Proofs.Tryz.f118.ntmps (bodyOf Go.Proofs.Tryz.f118) Go.Proofs.Tryz.f118.results.toList brindlewoodref3_Plus.A brindlewoodref3_Plus.B (.seq .nil (.seq .nil (.seq .nil (.seq (.seq .nil (.block (brindlewoodref3_Plus.an0 k))) .nil)))) x = brindlewoodref3_Plus k x.1 x.2 := by kernel_rfl

theorem brindlewoodref3_Exact_Rounded.ev (k : Nat) (x : denA brindlewoodref3_Exact_Rounded.A) :
    evalF Go.Sh.tt (brindlewoodref3_Exact_Rounded.tab k) Go.Proofs.Tryz.f103.ntmps (bodyOf Go.Proofs.Tryz.f103) Go.Proofs.Tryz.f103.results.toList brindlewoodref3_Exact_Rounded.A brindlewoodref3_Exact_Rounded.B .nil x = brindlewoodref3_Exact_Rounded k x.1 x.2.1 x.2.2 := by kernel_rfl

theorem brindlewoodref3_endless.ev  (x : denA brindlewoodref3_endless.A) :
    evalF Go.Sh.tt (brindlewoodref3_endless.tab) Go.Proofs.Tryz.f83.ntmps (bodyOf Go.Proofs.Tryz.f83) Go.Proofs.Tryz.f83.results.toList brindlewoodref3_endless.A brindlewoodref3_endless.B .nil x = brindlewoodref3_endless x := by kernel_rfl

theorem brindlewoodref3_settle.l0_ev (k n : Nat) (x : brindlewoodref3_settle.M0.den) :
    evalRound Go.Sh.tt (brindlewoodref3_settle.tab k) Go.Proofs.Tryz.f119.ntmps (finOf Go.Sh.tt brindlewoodref3_settle.B Go.Proofs.Tryz.f119.results.toList) (cAt [1, 1, 1, 1, 0, 0, 0] (bodyOf Go.Proofs.Tryz.f119)) .nil brindlewoodref3_settle.M0 brindlewoodref3_settle.O0 0 (fun x => brindlewoodref3_settle.l0 k n x.1 x.2.1 x.2.2.1 x.2.2.2.1 x.2.2.2.2.1 x.2.2.2.2.2.1 x.2.2.2.2.2.2.1 x.2.2.2.2.2.2.2) x = brindlewoodref3_settle.l0 k (n + 1) x.1 x.2.1 x.2.2.1 x.2.2.2.1 x.2.2.2.2.1 x.2.2.2.2.2.1 x.2.2.2.2.2.2.1 x.2.2.2.2.2.2.2 := by kernel_rfl
theorem brindlewoodref3_settle.ev (k : Nat) (x : denA brindlewoodref3_settle.A) :
    evalF Go.Sh.tt (brindlewoodref3_settle.tab k) Go.Proofs.Tryz.f119.ntmps (bodyOf Go.Proofs.Tryz.f119) Go.Proofs.Tryz.f119.results.toList brindlewoodref3_settle.A brindlewoodref3_settle.B (.seq .nil (.seq .nil (.jseq ⟨[.dat 0 (.bool), .dat 1 (.list (.int .i64)), .dat 2 (.int .i64), .dat 3 (.int .i64), .dat 4 (.bool), .dat 5 (.int .i64), .box 137 [.st (.pair (.int .i64) (.pair (.int .i64) (.pair (.int .i64) (.int .i64))))], .box 138 [.st (.pair (.int .i64) (.pair (.bool) (.pair (.st (.pair (.bool) (.list (.int .u32)))) (.int .i64))))], .dat 16 (.int .i64)], [.ptr 13 137 0, .ptr 14 138 0]⟩ .nil (.jseq ⟨[.dat 0 (.bool), .dat 1 (.list (.int .i64)), .dat 2 (.int .i64), .dat 4 (.bool), .dat 5 (.int .i64), .box 137 [.st (.pair (.int .i64) (.pair (.int .i64) (.pair (.int .i64) (.int .i64))))], .box 138 [.st (.pair (.int .i64) (.pair (.bool) (.pair (.st (.pair (.bool) (.list (.int .u32)))) (.int .i64))))], .dat 16 (.int .i64)], [.ptr 13 137 0, .ptr 14 138 0]⟩ .nil (.seq (.block (brindlewoodref3_settle.an0 k)) (.jseq ⟨[.dat 0 (.bool), .dat 1 (.list (.int .i64)), .dat 2 (.int .i64), .box 137 [.st (.pair (.int .i64) (.pair (.int .i64) (.pair (.int .i64) (.int .i64))))], .box 138 [.st (.pair (.int .i64) (.pair (.bool) (.pair (.st (.pair (.bool) (.list (.int .u32)))) (.int .i64))))], .dat 16 (.int .i64)], [.ptr 13 137 0, .ptr 14 138 0]⟩ .nil (.seq (.seq .nil (.jseq ⟨[.dat 0 (.bool), .dat 1 (.list (.int .i64)), .dat 2 (.int .i64), .box 137 [.st (.pair (.int .i64) (.pair (.int .i64) (.pair (.int .i64) (.int .i64))))], .box 138 [.st (.pair (.int .i64) (.pair (.bool) (.pair (.st (.pair (.bool) (.list (.int .u32)))) (.int .i64))))], .dat 16 (.int .i64), .dat 76 (.bool)], [.ptr 13 137 0, .ptr 14 138 0]⟩ .nil (.cond (.seq .nil (.jseq ⟨[.dat 0 (.bool), .box 137 [.st (.pair (.int .i64) (.pair (.int .i64) (.pair (.int .i64) (.int .i64))))], .box 138 [.st (.pair (.int .i64) (.pair (.bool) (.pair (.st (.pair (.bool) (.list (.int .u32)))) (.int .i64))))], .dat 16 (.int .i64)], [.ptr 13 137 0, .ptr 14 138 0]⟩ .nil .nil)) .nil))) .nil))))))) x = brindlewoodref3_settle k x.1 x.2.1 x.2.2.1 x.2.2.2.1 x.2.2.2.2.1 x.2.2.2.2.2.1 x.2.2.2.2.2.2 := by kernel_rfl

theorem brindlewoodref3_Exact_Fit.ev (k : Nat) (x : denA brindlewoodref3_Exact_Fit.A) :
    evalF Go.Sh.tt (brindlewoodref3_Exact_Fit.tab k) Go.Proofs.Tryz.f58.ntmps (bodyOf Go.Proofs.Tryz.f58) Go.Proofs.Tryz.f58.results.toList brindlewoodref3_Exact_Fit.A brindlewoodref3_Exact_Fit.B (.seq .nil (.seq .nil (.seq .nil (.seq .nil (.seq .nil (.jseq ⟨[.dat 1 (.int .i64), .box 72 [.st (.pair (.bool) (.pair (.list (.int .i64)) (.pair (.list (.int .i64)) (.int .i64))))], .box 74 [.st (.pair (.int .i64) (.pair (.int .i64) (.pair (.int .i64) (.int .i64))))], .box 75 [.st (.pair (.int .i64) (.pair (.bool) (.pair (.st (.pair (.bool) (.list (.int .u32)))) (.int .i64))))], .dat 10 (.int .i64), .dat 11 (.int .i64)], [.ptr 3 72 0, .ptr 5 74 0, .ptr 6 75 0]⟩ .nil .nil)))))) x = brindlewoodref3_Exact_Fit k x.1 x.2.1 x.2.2 := by kernel_rfl

theorem brindlewoodref3_Fitted.ev (k : Nat) (x : denA brindlewoodref3_Fitted.A) :
    evalF Go.Sh.tt (brindlewoodref3_Fitted.tab k) Go.Proofs.Tryz.f30.ntmps (bodyOf Go.Proofs.Tryz.f30) Go.Proofs.Tryz.f30.results.toList brindlewoodref3_Fitted.A brindlewoodref3_Fitted.B .nil x = brindlewoodref3_Fitted k x.1 x.2 := by kernel_rfl

theorem brindlewoodref3_Reduced.l0_ev (k n : Nat) (x : brindlewoodref3_Reduced.M0.den) :
    evalRound Go.Sh.tt (brindlewoodref3_Reduced.tab k) Go.Proofs.Tryz.f31.ntmps (finOf Go.Sh.tt brindlewoodref3_Reduced.B Go.Proofs.Tryz.f31.results.toList) (cAt [1, 1, 1, 1, 1, 0, 0, 0] (bodyOf Go.Proofs.Tryz.f31)) .nil brindlewoodref3_Reduced.M0 brindlewoodref3_Reduced.O0 0 (fun x => brindlewoodref3_Reduced.l0 k n x.1 x.2.1 x.2.2.1 x.2.2.2.1 x.2.2.2.2) x = brindlewoodref3_Reduced.l0 k (n + 1) x.1 x.2.1 x.2.2.1 x.2.2.2.1 x.2.2.2.2 := by kernel_rfl
theorem brindlewoodref3_Reduced.ev (k : Nat) (x : denA brindlewoodref3_Reduced.A) :
    evalF Go.Sh.tt (brindlewoodref3_Reduced.tab k) Go.Proofs.Tryz.f31.ntmps (bodyOf Go.Proofs.Tryz.f31) Go.Proofs.Tryz.f31.results.toList brindlewoodref3_Reduced.A brindlewoodref3_Reduced.B (.seq .nil (.seq .nil (.seq .nil (.seq .nil (.seq .nil (.seq (.block (brindlewoodref3_Reduced.an0 k)) .nil)))))) x = brindlewoodref3_Reduced k x.1 x.2 := by kernel_rfl

theorem brindlewoodref3_nothing.ev  (x : denA brindlewoodref3_nothing.A) :
    evalF Go.Sh.tt (brindlewoodref3_nothing.tab) Go.Proofs.Tryz.f82.ntmps (bodyOf Go.Proofs.Tryz.f82) Go.Proofs.Tryz.f82.results.toList brindlewoodref3_nothing.A brindlewoodref3_nothing.B .nil x = brindlewoodref3_nothing  := by kernel_rfl

theorem brindlewoodref3_Quantized.ev (k : Nat) (x : denA brindlewoodref3_Quantized.A) :
    evalF Go.Sh.tt (brindlewoodref3_Quantized.tab k) Go.Proofs.Tryz.f32.ntmps (bodyOf Go.Proofs.Tryz.f32) Go.Proofs.Tryz.f32.results.toList brindlewoodref3_Quantized.A brindlewoodref3_Quantized.B (.seq .nil (.jseq ⟨[.dat 1 (.int .i64), .box 83 [.st (.pair (.int .i64) (.pair (.bool) (.pair (.st (.pair (.bool) (.list (.int .u32)))) (.int .i64))))], .box 85 [.st (.pair (.int .i64) (.pair (.int .i64) (.pair (.int .i64) (.int .i64))))], .box 86 [.st (.pair (.int .i64) (.pair (.bool) (.pair (.st (.pair (.bool) (.list (.int .u32)))) (.int .i64))))]], [.ptr 3 83 0, .ptr 5 85 0, .ptr 6 86 0]⟩ .nil (.seq .nil (.seq .nil (.seq (.block (.jseq ⟨[.dat 1 (.int .i64), .box 83 [.st (.pair (.int .i64) (.pair (.bool) (.pair (.st (.pair (.bool) (.list (.int .u32)))) (.int .i64))))], .box 86 [.st (.pair (.int .i64) (.pair (.bool) (.pair (.st (.pair (.bool) (.list (.int .u32)))) (.int .i64))))], .dat 8 (.list (.int .i64)), .dat 9 (.bool), .dat 49 (.bool)], [.ptr 3 83 0, .ptr 6 86 0]⟩ .nil .nil)) .nil))))) x = brindlewoodref3_Quantized k x.1 x.2.1 x.2.2 := by kernel_rfl

theorem stringslite_HasPrefix.ev  (x : denA stringslite_HasPrefix.A) :
    evalF Go.Sh.tt (stringslite_HasPrefix.tab) Go.Proofs.Tryz.f190.ntmps (bodyOf Go.Proofs.Tryz.f190) Go.Proofs.Tryz.f190.results.toList stringslite_HasPrefix.A stringslite_HasPrefix.B .nil x = stringslite_HasPrefix x.1 x.2 := by kernel_rfl

theorem stringslite_CutPrefix.ev  (x : denA stringslite_CutPrefix.A) :
    evalF Go.Sh.tt (stringslite_CutPrefix.tab) Go.Proofs.Tryz.f148.ntmps (bodyOf Go.Proofs.Tryz.f148) Go.Proofs.Tryz.f148.results.toList stringslite_CutPrefix.A stringslite_CutPrefix.B .nil x = stringslite_CutPrefix x.1 x.2 := by kernel_rfl

theorem strings_CutPrefix.ev  (x : denA strings_CutPrefix.A) :
    evalF Go.Sh.tt (strings_CutPrefix.tab) Go.Proofs.Tryz.f68.ntmps (bodyOf Go.Proofs.Tryz.f68) Go.Proofs.Tryz.f68.results.toList strings_CutPrefix.A strings_CutPrefix.B .nil x = strings_CutPrefix x.1 x.2 := by kernel_rfl



theorem stringslite_Index.ev  (x : denA stringslite_Index.A) :
    evalF Go.Sh.tt (stringslite_Index.tab) Go.Proofs.Tryz.f193.ntmps (bodyOf Go.Proofs.Tryz.f193) Go.Proofs.Tryz.f193.results.toList stringslite_Index.A stringslite_Index.B (.seq .nil (.seq .nil (.seq (.block (.jseq ⟨[.dat 0 (.str), .dat 1 (.str), .dat 5 (.int .i64), .dat 16 (.bool)], []⟩ .nil .nil)) .nil))) x = stringslite_Index x.1 x.2 := by kernel_rfl

theorem stringslite_Cut.ev  (x : denA stringslite_Cut.A) :
    evalF Go.Sh.tt (stringslite_Cut.tab) Go.Proofs.Tryz.f149.ntmps (bodyOf Go.Proofs.Tryz.f149) Go.Proofs.Tryz.f149.results.toList stringslite_Cut.A stringslite_Cut.B .nil x = stringslite_Cut x.1 x.2 := by kernel_rfl

theorem strings_Cut.ev  (x : denA strings_Cut.A) :
    evalF Go.Sh.tt (strings_Cut.tab) Go.Proofs.Tryz.f71.ntmps (bodyOf Go.Proofs.Tryz.f71) Go.Proofs.Tryz.f71.results.toList strings_Cut.A strings_Cut.B .nil x = strings_Cut x.1 x.2 := by kernel_rfl

theorem strings_HasPrefix.ev  (x : denA strings_HasPrefix.A) :
    evalF Go.Sh.tt (strings_HasPrefix.tab) Go.Proofs.Tryz.f143.ntmps (bodyOf Go.Proofs.Tryz.f143) Go.Proofs.Tryz.f143.results.toList strings_HasPrefix.A strings_HasPrefix.B .nil x = strings_HasPrefix x.1 x.2 := by kernel_rfl

theorem decimal_allDigits.l0_ev (k n : Nat) (x : decimal_allDigits.M0.den) :
    evalRound Go.Sh.tt (decimal_allDigits.tab k) Go.Proofs.Tryz.f73.ntmps (finOf Go.Sh.tt decimal_allDigits.B Go.Proofs.Tryz.f73.results.toList) (cAt [1, 0, 1, 0, 0] (bodyOf Go.Proofs.Tryz.f73)) .nil decimal_allDigits.M0 decimal_allDigits.O0 0 (fun x => decimal_allDigits.l0 k n x.1 x.2.1 x.2.2) x = decimal_allDigits.l0 k (n + 1) x.1 x.2.1 x.2.2 := by kernel_rfl
theorem decimal_allDigits.ev (k : Nat) (x : denA decimal_allDigits.A) :
    evalF Go.Sh.tt (decimal_allDigits.tab k) Go.Proofs.Tryz.f73.ntmps (bodyOf Go.Proofs.Tryz.f73) Go.Proofs.Tryz.f73.results.toList decimal_allDigits.A decimal_allDigits.B (.seq .nil (.seq (.seq .nil (.block (decimal_allDigits.an0 k))) .nil)) x = decimal_allDigits k x := by kernel_rfl

theorem decimal_exponent.ev (k : Nat) (x : denA decimal_exponent.A) :
    evalF Go.Sh.tt (decimal_exponent.tab k) Go.Proofs.Tryz.f72.ntmps (bodyOf Go.Proofs.Tryz.f72) Go.Proofs.Tryz.f72.results.toList decimal_exponent.A decimal_exponent.B (.seq .nil (.seq .nil (.jseq ⟨[.dat 0 (.str), .dat 4 (.bool)], []⟩ .nil (.jseq ⟨[.dat 0 (.str), .dat 4 (.bool)], []⟩ .nil .nil)))) x = decimal_exponent k x := by kernel_rfl

theorem strings_trimLeftByte.l0_ev (k n : Nat) (x : strings_trimLeftByte.M0.den) :
    evalRound Go.Sh.tt (strings_trimLeftByte.tab k) Go.Proofs.Tryz.f151.ntmps (finOf Go.Sh.tt strings_trimLeftByte.B Go.Proofs.Tryz.f151.results.toList) (cAt [1, 0, 0, 0] (bodyOf Go.Proofs.Tryz.f151)) .nil strings_trimLeftByte.M0 strings_trimLeftByte.O0 0 (fun x => strings_trimLeftByte.l0 k n x.1 x.2) x = strings_trimLeftByte.l0 k (n + 1) x.1 x.2 := by kernel_rfl
theorem strings_trimLeftByte.ev (k : Nat) (x : denA strings_trimLeftByte.A) :
    evalF Go.Sh.tt (strings_trimLeftByte.tab k) Go.Proofs.Tryz.f151.ntmps (bodyOf Go.Proofs.Tryz.f151) Go.Proofs.Tryz.f151.results.toList strings_trimLeftByte.A strings_trimLeftByte.B (.seq .nil (.seq (.block (strings_trimLeftByte.an0 k)) .nil)) x = strings_trimLeftByte k x.1 x.2 := by kernel_rfl

theorem strings_TrimLeft.ev (k : Nat) (x : denA strings_TrimLeft.A) :
    evalF Go.Sh.tt (strings_TrimLeft.tab k) Go.Proofs.Tryz.f74.ntmps (bodyOf Go.Proofs.Tryz.f74) Go.Proofs.Tryz.f74.results.toList strings_TrimLeft.A strings_TrimLeft.B (.seq .nil (.jseq ⟨[.dat 0 (.str), .dat 1 (.str)], []⟩ .nil (.jseq ⟨[.dat 0 (.str), .dat 1 (.str)], []⟩ .nil .nil))) x = strings_TrimLeft k x.1 x.2 := by kernel_rfl

theorem integer_at.ev  (x : denA integer_at.A) :
    evalF Go.Sh.tt (integer_at.tab) Go.Proofs.Tryz.f155.ntmps (bodyOf Go.Proofs.Tryz.f155) Go.Proofs.Tryz.f155.results.toList integer_at.A integer_at.B .nil x = integer_at x.1 x.2 := by kernel_rfl

theorem slices_Index_bytebyte.l0_ev (k n : Nat) (x : slices_Index_bytebyte.M0.den) :
    evalRound Go.Sh.tt (slices_Index_bytebyte.tab k) Go.Proofs.Tryz.f156.ntmps (finOf Go.Sh.tt slices_Index_bytebyte.B Go.Proofs.Tryz.f156.results.toList) (cAt [1, 0, 1, 0, 0] (bodyOf Go.Proofs.Tryz.f156)) .nil slices_Index_bytebyte.M0 slices_Index_bytebyte.O0 0 (fun x => slices_Index_bytebyte.l0 k n x.1 x.2.1 x.2.2.1 x.2.2.2) x = slices_Index_bytebyte.l0 k (n + 1) x.1 x.2.1 x.2.2.1 x.2.2.2 := by kernel_rfl
theorem slices_Index_bytebyte.ev (k : Nat) (x : denA slices_Index_bytebyte.A) :
    evalF Go.Sh.tt (slices_Index_bytebyte.tab k) Go.Proofs.Tryz.f156.ntmps (bodyOf Go.Proofs.Tryz.f156) Go.Proofs.Tryz.f156.results.toList slices_Index_bytebyte.A slices_Index_bytebyte.B (.seq .nil (.seq (.seq .nil (.block (slices_Index_bytebyte.an0 k))) .nil)) x = slices_Index_bytebyte k x.1 x.2 := by kernel_rfl

theorem natural_From.l0_ev (k n : Nat) (x : natural_From.M0.den) :
    evalRound Go.Sh.tt (natural_From.tab k) Go.Proofs.Tryz.f157.ntmps (finOf Go.Sh.tt natural_From.B Go.Proofs.Tryz.f157.results.toList) (cAt [1, 1, 1, 0, 1, 0, 0] (bodyOf Go.Proofs.Tryz.f157)) (.seq .nil (.seq .nil (.seq (.block (.seq .nil (.jseq ⟨[.dat 1 (.int .i64), .box 55 [.st (.pair (.int .i64) (.int .i64))], .own 6 (.int .u32), .dat 8 (.int .i64), .dat 16 (.list (.int .i64)), .dat 17 (.int .i64), .dat 18 (.int .i64), .dat 26 (.int .i64), .dat 27 (.int .i64), .dat 28 (.bool)], [.ptr 5 55 0]⟩ .nil .nil))) .nil))) natural_From.M0 natural_From.O0 0 (fun x => natural_From.l0 k n x.1 x.2.1 x.2.2.1 x.2.2.2.1 x.2.2.2.2.1 x.2.2.2.2.2) x = natural_From.l0 k (n + 1) x.1 x.2.1 x.2.2.1 x.2.2.2.1 x.2.2.2.2.1 x.2.2.2.2.2 := by kernel_rfl
theorem natural_From.ev (k : Nat) (x : denA natural_From.A) :
    evalF Go.Sh.tt (natural_From.tab k) Go.Proofs.Tryz.f157.ntmps (bodyOf Go.Proofs.Tryz.f157) Go.Proofs.Tryz.f157.results.toList natural_From.A natural_From.B (.seq .nil (.jseq ⟨[.dat 0 (.list (.int .i64)), .dat 1 (.int .i64), .box 55 [.st (.pair (.int .i64) (.int .i64))]], [.ptr 5 55 0]⟩ .nil (.seq .nil (.seq (.seq .nil (.block (natural_From.an0 k))) .nil)))) x = natural_From k x.1 x.2 := by kernel_rfl

theorem integer_signed.ev  (x : denA integer_signed.A) :
    evalF Go.Sh.tt (integer_signed.tab) Go.Proofs.Tryz.f158.ntmps (bodyOf Go.Proofs.Tryz.f158) Go.Proofs.Tryz.f158.results.toList integer_signed.A integer_signed.B .nil x = integer_signed x.1 x.2 := by kernel_rfl

theorem integer_Parse.l0_ev (k n : Nat) (x : integer_Parse.M0.den) :
    evalRound Go.Sh.tt (integer_Parse.tab k) Go.Proofs.Tryz.f75.ntmps (finOf Go.Sh.tt integer_Parse.B Go.Proofs.Tryz.f75.results.toList) (cAt [1, 1, 1, 1, 1, 1, 0, 1, 0, 0] (bodyOf Go.Proofs.Tryz.f75)) .nil integer_Parse.M0 integer_Parse.O0 1 (fun x => integer_Parse.l0 k n x.1 x.2.1 x.2.2.1 x.2.2.2.1 x.2.2.2.2.1 x.2.2.2.2.2.1 x.2.2.2.2.2.2.1 x.2.2.2.2.2.2.2) x = integer_Parse.l0 k (n + 1) x.1 x.2.1 x.2.2.1 x.2.2.2.1 x.2.2.2.2.1 x.2.2.2.2.2.1 x.2.2.2.2.2.2.1 x.2.2.2.2.2.2.2 := by kernel_rfl
theorem integer_Parse.ev (k : Nat) (x : denA integer_Parse.A) :
    evalF Go.Sh.tt (integer_Parse.tab k) Go.Proofs.Tryz.f75.ntmps (bodyOf Go.Proofs.Tryz.f75) Go.Proofs.Tryz.f75.results.toList integer_Parse.A integer_Parse.B (.seq .nil (.seq (.block (.jseq ⟨[.dat 0 (.str), .dat 1 (.int .i64), .box 93 [.st (.pair (.bool) (.list (.int .u32)))], .box 94 [.st (.pair (.int .i64) (.int .i64))], .dat 13 (.bool)], [.ptr 4 93 0, .ptr 5 94 0]⟩ .nil .nil)) (.seq .nil (.jseq ⟨[.dat 0 (.str), .dat 1 (.int .i64), .box 93 [.st (.pair (.bool) (.list (.int .u32)))], .box 94 [.st (.pair (.int .i64) (.int .i64))], .dat 6 (.str), .dat 7 (.bool)], [.ptr 4 93 0, .ptr 5 94 0]⟩ .nil (.jseq ⟨[.dat 1 (.int .i64), .box 93 [.st (.pair (.bool) (.list (.int .u32)))], .box 94 [.st (.pair (.int .i64) (.int .i64))], .dat 6 (.str), .dat 7 (.bool)], [.ptr 4 93 0, .ptr 5 94 0]⟩ .nil (.seq .nil (.seq (.seq .nil (.block (integer_Parse.an0 k))) .nil))))))) x = integer_Parse k x.1 x.2 := by kernel_rfl

theorem decimal_Parse.ev (k : Nat) (x : denA decimal_Parse.A) :
    evalF Go.Sh.tt (decimal_Parse.tab k) Go.Proofs.Tryz.f14.ntmps (bodyOf Go.Proofs.Tryz.f14) Go.Proofs.Tryz.f14.results.toList decimal_Parse.A decimal_Parse.B (.seq .nil (.seq .nil (.seq .nil (.seq .nil (.seq .nil (.seq .nil (.jseq ⟨[.box 108 [.st (.pair (.int .i64) (.pair (.bool) (.pair (.st (.pair (.bool) (.list (.int .u32)))) (.int .i64))))], .box 109 [.st (.pair (.int .i64) (.int .i64))], .dat 5 (.bool), .dat 6 (.str), .dat 9 (.int .i64), .dat 10 (.bool)], [.ptr 2 108 0, .ptr 3 109 0]⟩ .nil (.seq .nil (.jseq ⟨[.box 108 [.st (.pair (.int .i64) (.pair (.bool) (.pair (.st (.pair (.bool) (.list (.int .u32)))) (.int .i64))))], .box 109 [.st (.pair (.int .i64) (.int .i64))], .dat 5 (.bool), .dat 9 (.int .i64), .dat 11 (.str), .dat 12 (.str)], [.ptr 2 108 0, .ptr 3 109 0]⟩ .nil (.seq .nil (.seq .nil (.jseq ⟨[.box 108 [.st (.pair (.int .i64) (.pair (.bool) (.pair (.st (.pair (.bool) (.list (.int .u32)))) (.int .i64))))], .box 109 [.st (.pair (.int .i64) (.int .i64))], .dat 5 (.bool), .dat 9 (.int .i64), .dat 14 (.str)], [.ptr 2 108 0, .ptr 3 109 0]⟩ .nil (.jseq ⟨[.box 108 [.st (.pair (.int .i64) (.pair (.bool) (.pair (.st (.pair (.bool) (.list (.int .u32)))) (.int .i64))))], .box 109 [.st (.pair (.int .i64) (.int .i64))], .dat 5 (.bool), .dat 9 (.int .i64), .dat 14 (.str)], [.ptr 2 108 0, .ptr 3 109 0]⟩ .nil .nil))))))))))))) x = decimal_Parse k x := by kernel_rfl

theorem decimal_special.ev  (x : denA decimal_special.A) :
    evalF Go.Sh.tt (decimal_special.tab) Go.Proofs.Tryz.f106.ntmps (bodyOf Go.Proofs.Tryz.f106) Go.Proofs.Tryz.f106.results.toList decimal_special.A decimal_special.B (.seq .nil (.seq (.block (.jseq ⟨[.box 45 [.st (.pair (.int .i64) (.pair (.bool) (.pair (.st (.pair (.bool) (.list (.int .u32)))) (.int .i64))))], .box 46 [.st (.pair (.int .i64) (.pair (.bool) (.pair (.st (.pair (.bool) (.list (.int .u32)))) (.int .i64))))], .box 47 [.st (.pair (.int .i64) (.pair (.bool) (.pair (.st (.pair (.bool) (.list (.int .u32)))) (.int .i64))))], .dat 6 (.bool)], [.ptr 2 45 0, .ptr 3 46 0, .ptr 4 47 0]⟩ .nil (.cond .nil (.jseq ⟨[.box 45 [.st (.pair (.int .i64) (.pair (.bool) (.pair (.st (.pair (.bool) (.list (.int .u32)))) (.int .i64))))], .box 46 [.st (.pair (.int .i64) (.pair (.bool) (.pair (.st (.pair (.bool) (.list (.int .u32)))) (.int .i64))))], .box 47 [.st (.pair (.int .i64) (.pair (.bool) (.pair (.st (.pair (.bool) (.list (.int .u32)))) (.int .i64))))], .dat 16 (.bool)], [.ptr 2 45 0, .ptr 3 46 0, .ptr 4 47 0]⟩ .nil .nil)))) .nil)) x = decimal_special x.1 x.2 := by kernel_rfl

theorem decimal_plus.ev (k : Nat) (x : denA decimal_plus.A) :
    evalF Go.Sh.tt (decimal_plus.tab k) Go.Proofs.Tryz.f105.ntmps (bodyOf Go.Proofs.Tryz.f105) Go.Proofs.Tryz.f105.results.toList decimal_plus.A decimal_plus.B (.seq .nil (.seq .nil (.seq .nil (.seq .nil (.seq .nil (.jseq ⟨[.box 77 [.st (.pair (.int .i64) (.pair (.int .i64) (.pair (.int .i64) (.int .i64))))], .box 78 [.st (.pair (.bool) (.pair (.list (.int .u32)) (.pair (.list (.int .u32)) (.int .i64))))], .dat 8 (.list (.int .u32)), .dat 9 (.list (.int .u32)), .box 82 [.st (.pair (.bool) (.pair (.list (.int .u32)) (.pair (.list (.int .u32)) (.int .i64))))]], [.ptr 5 77 0, .ptr 6 78 0, .ptr 10 82 0]⟩ .nil .nil)))))) x = decimal_plus k x.1 x.2.1 x.2.2 := by kernel_rfl

theorem decimal_Add.ev (k : Nat) (x : denA decimal_Add.A) :
    evalF Go.Sh.tt (decimal_Add.tab k) Go.Proofs.Tryz.f34.ntmps (bodyOf Go.Proofs.Tryz.f34) Go.Proofs.Tryz.f34.results.toList decimal_Add.A decimal_Add.B (.seq .nil (.seq .nil (.seq (.jseq ⟨[.box 63 [.st (.pair (.int .i64) (.pair (.bool) (.pair (.st (.pair (.bool) (.list (.int .u32)))) (.int .i64))))], .box 64 [.st (.pair (.int .i64) (.pair (.bool) (.pair (.st (.pair (.bool) (.list (.int .u32)))) (.int .i64))))], .box 65 [.st (.pair (.int .i64) (.pair (.int .i64) (.pair (.int .i64) (.int .i64))))], .box 66 [.st (.pair (.int .i64) (.pair (.bool) (.pair (.st (.pair (.bool) (.list (.int .u32)))) (.int .i64))))], .box 68 [.st (.pair (.int .i64) (.int .i64))], .dat 31 (.bool)], [.ptr 3 63 0, .ptr 4 64 0, .ptr 5 65 0, .ptr 6 66 0, .ptr 8 68 0]⟩ .nil .nil) .nil))) x = decimal_Add k x.1 x.2.1 x.2.2 := by kernel_rfl

theorem integer_check.l0_ev (k n : Nat) (x : integer_check.M0.den) :
    evalRound Go.Sh.tt (integer_check.tab k) Go.Proofs.Tryz.f139.ntmps (finOf Go.Sh.tt integer_check.B Go.Proofs.Tryz.f139.results.toList) (cAt [1, 0, 1, 0, 0] (bodyOf Go.Proofs.Tryz.f139)) .nil integer_check.M0 integer_check.O0 0 (fun x => integer_check.l0 k n x.1 x.2.1 x.2.2.1 x.2.2.2) x = integer_check.l0 k (n + 1) x.1 x.2.1 x.2.2.1 x.2.2.2 := by kernel_rfl
theorem integer_check.ev (k : Nat) (x : denA integer_check.A) :
    evalF Go.Sh.tt (integer_check.tab k) Go.Proofs.Tryz.f139.ntmps (bodyOf Go.Proofs.Tryz.f139) Go.Proofs.Tryz.f139.results.toList integer_check.A integer_check.B (.seq .nil (.seq (.seq .nil (.block (integer_check.an0 k))) .nil)) x = integer_check k x := by kernel_rfl

theorem integer_Text.l0_ev (k n : Nat) (x : integer_Text.M0.den) :
    evalRound Go.Sh.tt (integer_Text.tab k) Go.Proofs.Tryz.f65.ntmps (finOf Go.Sh.tt integer_Text.B Go.Proofs.Tryz.f65.results.toList) (cAt [1, 1, 1, 1, 1, 1, 0, 1, 0, 0] (bodyOf Go.Proofs.Tryz.f65)) .nil integer_Text.M0 integer_Text.O0 0 (fun x => integer_Text.l0 k n x.1 x.2.1 x.2.2.1 x.2.2.2.1 x.2.2.2.2.1 x.2.2.2.2.2) x = integer_Text.l0 k (n + 1) x.1 x.2.1 x.2.2.1 x.2.2.2.1 x.2.2.2.2.1 x.2.2.2.2.2 := by kernel_rfl
theorem integer_Text.ev (k : Nat) (x : denA integer_Text.A) :
    evalF Go.Sh.tt (integer_Text.tab k) Go.Proofs.Tryz.f65.ntmps (bodyOf Go.Proofs.Tryz.f65) Go.Proofs.Tryz.f65.results.toList integer_Text.A integer_Text.B (.seq .nil (.seq .nil (.seq .nil (.seq .nil (.seq .nil (.jseq ⟨[.box 61 [.st (.pair (.int .i64) (.int .i64))], .dat 7 (.list (.int .i64)), .own 9 (.int .u8)], [.ptr 5 61 0]⟩ .nil (.seq (.seq .nil (.block (integer_Text.an0 k))) .nil))))))) x = integer_Text k x.1 x.2 := by kernel_rfl

theorem decimal_Text.ev (k : Nat) (x : denA decimal_Text.A) :
    evalF Go.Sh.tt (decimal_Text.tab k) Go.Proofs.Tryz.f13.ntmps (bodyOf Go.Proofs.Tryz.f13) Go.Proofs.Tryz.f13.results.toList decimal_Text.A decimal_Text.B (.seq .nil (.seq .nil (.seq .nil (.jseq ⟨[.box 101 [.st (.pair (.int .i64) (.pair (.bool) (.pair (.st (.pair (.bool) (.list (.int .u32)))) (.int .i64))))], .box 103 [.st (.pair (.int .i64) (.int .i64))], .dat 4 (.str)], [.ptr 1 101 0, .ptr 3 103 0]⟩ .nil (.seq .nil (.seq .nil (.seq .nil (.jseq ⟨[.box 101 [.st (.pair (.int .i64) (.pair (.bool) (.pair (.st (.pair (.bool) (.list (.int .u32)))) (.int .i64))))], .box 103 [.st (.pair (.int .i64) (.int .i64))], .dat 4 (.str), .dat 5 (.str)], [.ptr 1 101 0, .ptr 3 103 0]⟩ (.block (.jseq ⟨[.box 101 [.st (.pair (.int .i64) (.pair (.bool) (.pair (.st (.pair (.bool) (.list (.int .u32)))) (.int .i64))))], .box 103 [.st (.pair (.int .i64) (.int .i64))], .dat 4 (.str), .dat 5 (.str), .dat 7 (.int .i64), .dat 38 (.bool)], [.ptr 1 101 0, .ptr 3 103 0]⟩ .nil (.cond (.jseq ⟨[.box 103 [.st (.pair (.int .i64) (.int .i64))], .dat 4 (.str), .dat 5 (.str), .dat 7 (.int .i64)], [.ptr 3 103 0]⟩ .nil .nil) .nil))) .nil)))))))) x = decimal_Text k x := by kernel_rfl

theorem brindlewoodlaw3_tenths.ev (k : Nat) (x : denA brindlewoodlaw3_tenths.A) :
    evalF Go.Sh.tt (brindlewoodlaw3_tenths.tab k) Go.Proofs.Tryz.f15.ntmps (bodyOf Go.Proofs.Tryz.f15) Go.Proofs.Tryz.f15.results.toList brindlewoodlaw3_tenths.A brindlewoodlaw3_tenths.B .nil x = brindlewoodlaw3_tenths k  := by kernel_rfl

theorem brindlewoodref3_SameLimbs.l0_ev (k n : Nat) (x : brindlewoodref3_SameLimbs.M0.den) :
    evalRound Go.Sh.tt (brindlewoodref3_SameLimbs.tab k) Go.Proofs.Tryz.f159.ntmps (finOf Go.Sh.tt brindlewoodref3_SameLimbs.B Go.Proofs.Tryz.f159.results.toList) (cAt [1, 1, 0, 1, 0, 0] (bodyOf Go.Proofs.Tryz.f159)) .nil brindlewoodref3_SameLimbs.M0 brindlewoodref3_SameLimbs.O0 0 (fun x => brindlewoodref3_SameLimbs.l0 k n x.1 x.2.1 x.2.2) x = brindlewoodref3_SameLimbs.l0 k (n + 1) x.1 x.2.1 x.2.2 := by kernel_rfl
theorem brindlewoodref3_SameLimbs.ev (k : Nat) (x : denA brindlewoodref3_SameLimbs.A) :
    evalF Go.Sh.tt (brindlewoodref3_SameLimbs.tab k) Go.Proofs.Tryz.f159.ntmps (bodyOf Go.Proofs.Tryz.f159) Go.Proofs.Tryz.f159.results.toList brindlewoodref3_SameLimbs.A brindlewoodref3_SameLimbs.B (.seq .nil (.seq .nil (.seq (.seq .nil (.block (brindlewoodref3_SameLimbs.an0 k))) .nil))) x = brindlewoodref3_SameLimbs k x.1 x.2 := by kernel_rfl

theorem brindlewoodref3_SameInts.ev (k : Nat) (x : denA brindlewoodref3_SameInts.A) :
    evalF Go.Sh.tt (brindlewoodref3_SameInts.tab k) Go.Proofs.Tryz.f81.ntmps (bodyOf Go.Proofs.Tryz.f81) Go.Proofs.Tryz.f81.results.toList brindlewoodref3_SameInts.A brindlewoodref3_SameInts.B .nil x = brindlewoodref3_SameInts k x.1 x.2 := by kernel_rfl

theorem brindlewoodref3_SameDecimal.ev (k : Nat) (x : denA brindlewoodref3_SameDecimal.A) :
    evalF Go.Sh.tt (brindlewoodref3_SameDecimal.tab k) Go.Proofs.Tryz.f19.ntmps (bodyOf Go.Proofs.Tryz.f19) Go.Proofs.Tryz.f19.results.toList brindlewoodref3_SameDecimal.A brindlewoodref3_SameDecimal.B .nil x = brindlewoodref3_SameDecimal k x.1 x.2 := by kernel_rfl

theorem brindlewoodlaw3_comes.ev (k : Nat) (x : denA brindlewoodlaw3_comes.A) :
    evalF Go.Sh.tt (brindlewoodlaw3_comes.tab k) Go.Proofs.Tryz.f26.ntmps (bodyOf Go.Proofs.Tryz.f26) Go.Proofs.Tryz.f26.results.toList brindlewoodlaw3_comes.A brindlewoodlaw3_comes.B .nil x = brindlewoodlaw3_comes k x.1 x.2.1 x.2.2.1 x.2.2.2.1 x.2.2.2.2.1 x.2.2.2.2.2 := by kernel_rfl

theorem brindlewoodlaw3_DecimalRounds.ev (k : Nat) (x : denA brindlewoodlaw3_DecimalRounds.A) :
    evalF Go.Sh.tt (brindlewoodlaw3_DecimalRounds.tab k) Go.Proofs.Tryz.f5.ntmps (bodyOf Go.Proofs.Tryz.f5) Go.Proofs.Tryz.f5.results.toList brindlewoodlaw3_DecimalRounds.A brindlewoodlaw3_DecimalRounds.B (.seq .nil (.seq .nil (.seq .nil (.seq .nil (.seq .nil (.seq .nil (.seq .nil (.jseq ⟨[.box 106 [.st (.pair (.int .i64) (.int .i64))], .box 107 [.st (.pair (.int .i64) (.pair (.bool) (.pair (.st (.pair (.bool) (.list (.int .u32)))) (.int .i64))))], .dat 9 (.int .i64), .box 109 [.st (.pair (.int .i64) (.int .i64))], .box 110 [.st (.pair (.int .i64) (.pair (.bool) (.pair (.st (.pair (.bool) (.list (.int .u32)))) (.int .i64))))], .dat 12 (.int .i64), .box 112 [.st (.pair (.int .i64) (.int .i64))], .box 113 [.st (.pair (.int .i64) (.pair (.bool) (.pair (.st (.pair (.bool) (.list (.int .u32)))) (.int .i64))))], .dat 15 (.int .i64), .box 115 [.st (.pair (.int .i64) (.int .i64))], .box 116 [.st (.pair (.int .i64) (.pair (.bool) (.pair (.st (.pair (.bool) (.list (.int .u32)))) (.int .i64))))], .box 117 [.st (.pair (.int .i64) (.pair (.bool) (.pair (.st (.pair (.bool) (.list (.int .u32)))) (.int .i64))))], .box 118 [.st (.pair (.int .i64) (.pair (.bool) (.pair (.st (.pair (.bool) (.list (.int .u32)))) (.int .i64))))], .dat 20 (.int .i64), .dat 21 (.int .i64), .dat 22 (.int .i64)], [.ptr 7 106 0, .ptr 8 107 0, .ptr 10 109 0, .ptr 11 110 0, .ptr 13 112 0, .ptr 14 113 0, .ptr 16 115 0, .ptr 17 116 0, .ptr 18 117 0, .ptr 19 118 0]⟩ .nil .nil)))))))) x = brindlewoodlaw3_DecimalRounds k x.1 x.2.1 x.2.2 := by kernel_rfl
end Go.Sh
