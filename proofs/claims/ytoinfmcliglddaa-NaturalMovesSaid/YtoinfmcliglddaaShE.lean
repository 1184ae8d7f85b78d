/- The evaluator's answers are those of the plain functions, by wip/gen/gen.py.  Conditions: none. -/
import Derived.Test.YtoinfmcliglddaaShD
set_option linter.unusedVariables false
set_option maxRecDepth 100000
set_option maxHeartbeats 0
namespace Go.Sh
open Go Go.Ev

theorem brindlewoodref3_NaturalOk.ev  (x : denA brindlewoodref3_NaturalOk.A) :
    evalF Go.Sh.tt (brindlewoodref3_NaturalOk.tab) Go.Proofs.Try.f17.ntmps (bodyOf Go.Proofs.Try.f17) Go.Proofs.Try.f17.results.toList brindlewoodref3_NaturalOk.A brindlewoodref3_NaturalOk.B .nil x = brindlewoodref3_NaturalOk x := by kernel_rfl

theorem brindlewoodref3_At.ev  (x : denA brindlewoodref3_At.A) :
    evalF Go.Sh.tt (brindlewoodref3_At.tab) Go.Proofs.Try.f12.ntmps (bodyOf Go.Proofs.Try.f12) Go.Proofs.Try.f12.results.toList brindlewoodref3_At.A brindlewoodref3_At.B .nil x = brindlewoodref3_At x.1 x.2 := by kernel_rfl

theorem brindlewoodlaw3_pairFault.ev  (x : denA brindlewoodlaw3_pairFault.A) :
    evalF Go.Sh.tt (brindlewoodlaw3_pairFault.tab) Go.Proofs.Try.f8.ntmps (bodyOf Go.Proofs.Try.f8) Go.Proofs.Try.f8.results.toList brindlewoodlaw3_pairFault.A brindlewoodlaw3_pairFault.B .nil x = brindlewoodlaw3_pairFault x.1 x.2 := by kernel_rfl

theorem natural_Valid.ev  (x : denA natural_Valid.A) :
    evalF Go.Sh.tt (natural_Valid.tab) Go.Proofs.Try.f32.ntmps (bodyOf Go.Proofs.Try.f32) Go.Proofs.Try.f32.results.toList natural_Valid.A natural_Valid.B .nil x = natural_Valid x := by kernel_rfl

theorem natural_at.ev  (x : denA natural_at.A) :
    evalF Go.Sh.tt (natural_at.tab) Go.Proofs.Try.f40.ntmps (bodyOf Go.Proofs.Try.f40) Go.Proofs.Try.f40.results.toList natural_at.A natural_at.B .nil x = natural_at x.1 x.2 := by kernel_rfl

theorem natural_check.ev  (x : denA natural_check.A) :
    evalF Go.Sh.tt (natural_check.tab) Go.Proofs.Try.f39.ntmps (bodyOf Go.Proofs.Try.f39) Go.Proofs.Try.f39.results.toList natural_check.A natural_check.B .nil x = natural_check x.1 x.2 := by kernel_rfl

theorem natural_compare.l0_ev (k n : Nat) (x : natural_compare.M0.den) :
    evalRound Go.Sh.tt (natural_compare.tab k) Go.Proofs.Try.f50.ntmps (finOf Go.Sh.tt natural_compare.B Go.Proofs.Try.f50.results.toList) (cAt [1, 1, 0, 1, 0, 0] (bodyOf Go.Proofs.Try.f50)) .nil natural_compare.M0 natural_compare.O0 0 (fun x => natural_compare.l0 k n x.1 x.2.1 x.2.2) x = natural_compare.l0 k (n + 1) x.1 x.2.1 x.2.2 := by kernel_rfl
theorem natural_compare.ev (k : Nat) (x : denA natural_compare.A) :
    evalF Go.Sh.tt (natural_compare.tab k) Go.Proofs.Try.f50.ntmps (bodyOf Go.Proofs.Try.f50) Go.Proofs.Try.f50.results.toList natural_compare.A natural_compare.B (.seq .nil (.seq .nil (.seq (.seq .nil (.block (natural_compare.an0 k))) .nil))) x = natural_compare k x.1 x.2 := by kernel_rfl



theorem bits_Div32.ev  (x : denA bits_Div32.A) :
    evalF Go.Sh.tt (bits_Div32.tab) Go.Proofs.Try.f61.ntmps (bodyOf Go.Proofs.Try.f61) Go.Proofs.Try.f61.results.toList bits_Div32.A bits_Div32.B (.seq .nil (.jseq ⟨[.dat 0 (.int .u32), .dat 1 (.int .u32), .dat 2 (.int .u32)], []⟩ .nil .nil)) x = bits_Div32 x.1 x.2.1 x.2.2 := by kernel_rfl

theorem natural_trim_v.l0_ev (k n : Nat) (x : natural_trim_v.M0.den) :
    evalRound Go.Sh.tt (natural_trim_v.tab k) Go.Proofs.Try.f58.ntmps (finOf Go.Sh.tt natural_trim_v.B Go.Proofs.Try.f58.results.toList) (cAt [1, 0, 0, 0] (bodyOf Go.Proofs.Try.f58)) .nil natural_trim_v.M0 natural_trim_v.O0 0 (fun x => natural_trim_v.l0 k n x.1 x.2) x = natural_trim_v.l0 k (n + 1) x.1 x.2 := by kernel_rfl
theorem natural_trim_v.ev (k : Nat) (x : denA natural_trim_v.A) :
    evalF Go.Sh.tt (natural_trim_v.tab k) Go.Proofs.Try.f58.ntmps (bodyOf Go.Proofs.Try.f58) Go.Proofs.Try.f58.results.toList natural_trim_v.A natural_trim_v.B (.seq .nil (.seq (.block (natural_trim_v.an0 k)) .nil)) x = natural_trim_v k x := by kernel_rfl

theorem natural_short.l0_ev (k n : Nat) (x : natural_short.M0.den) :
    evalRound Go.Sh.tt (natural_short.tab k) Go.Proofs.Try.f56.ntmps (finOf Go.Sh.tt natural_short.B Go.Proofs.Try.f56.results.toList) (cAt [1, 1, 1, 0, 1, 0, 0] (bodyOf Go.Proofs.Try.f56)) .nil natural_short.M0 natural_short.O0 0 (fun x => natural_short.l0 k n x.1 x.2.1 x.2.2.1 x.2.2.2.1 x.2.2.2.2) x = natural_short.l0 k (n + 1) x.1 x.2.1 x.2.2.1 x.2.2.2.1 x.2.2.2.2 := by kernel_rfl
theorem natural_short.ev (k : Nat) (x : denA natural_short.A) :
    evalF Go.Sh.tt (natural_short.tab k) Go.Proofs.Try.f56.ntmps (bodyOf Go.Proofs.Try.f56) Go.Proofs.Try.f56.results.toList natural_short.A natural_short.B (.seq .nil (.seq .nil (.seq .nil (.seq (.seq .nil (.block (natural_short.an0 k))) .nil)))) x = natural_short k x.1 x.2 := by kernel_rfl

theorem bits_Len32.ev  (x : denA bits_Len32.A) :
    evalF Go.Sh.tt (bits_Len32.tab) Go.Proofs.Try.f46.ntmps (bodyOf Go.Proofs.Try.f46) Go.Proofs.Try.f46.results.toList bits_Len32.A bits_Len32.B (.seq .nil (.jseq ⟨[.dat 0 (.int .u32), .dat 2 (.int .i64)], []⟩ .nil .nil)) x = bits_Len32 x := by kernel_rfl

theorem bits_LeadingZeros32.ev  (x : denA bits_LeadingZeros32.A) :
    evalF Go.Sh.tt (bits_LeadingZeros32.tab) Go.Proofs.Try.f62.ntmps (bodyOf Go.Proofs.Try.f62) Go.Proofs.Try.f62.results.toList bits_LeadingZeros32.A bits_LeadingZeros32.B .nil x = bits_LeadingZeros32 x := by kernel_rfl

theorem natural_left.l0_ev (k n : Nat) (x : natural_left.M0.den) :
    evalRound Go.Sh.tt (natural_left.tab k) Go.Proofs.Try.f48.ntmps (finOf Go.Sh.tt natural_left.B Go.Proofs.Try.f48.results.toList) (cAt [1, 1, 1, 0, 1, 0, 0] (bodyOf Go.Proofs.Try.f48)) .nil natural_left.M0 natural_left.O0 0 (fun x => natural_left.l0 k n x.1 x.2.1 x.2.2.1 x.2.2.2.1 x.2.2.2.2.1 x.2.2.2.2.2) x = natural_left.l0 k (n + 1) x.1 x.2.1 x.2.2.1 x.2.2.2.1 x.2.2.2.2.1 x.2.2.2.2.2 := by kernel_rfl
theorem natural_left.ev (k : Nat) (x : denA natural_left.A) :
    evalF Go.Sh.tt (natural_left.tab k) Go.Proofs.Try.f48.ntmps (bodyOf Go.Proofs.Try.f48) Go.Proofs.Try.f48.results.toList natural_left.A natural_left.B (.seq .nil (.seq .nil (.seq .nil (.seq (.seq .nil (.block (natural_left.an0 k))) .nil)))) x = natural_left k x.1 x.2 := by kernel_rfl

theorem bits_Sub32.ev  (x : denA bits_Sub32.A) :
    evalF Go.Sh.tt (bits_Sub32.tab) Go.Proofs.Try.f60.ntmps (bodyOf Go.Proofs.Try.f60) Go.Proofs.Try.f60.results.toList bits_Sub32.A bits_Sub32.B .nil x = bits_Sub32 x.1 x.2.1 x.2.2 := by kernel_rfl

theorem bits_Add32.ev  (x : denA bits_Add32.A) :
    evalF Go.Sh.tt (bits_Add32.tab) Go.Proofs.Try.f64.ntmps (bodyOf Go.Proofs.Try.f64) Go.Proofs.Try.f64.results.toList bits_Add32.A bits_Add32.B .nil x = bits_Add32 x.1 x.2.1 x.2.2 := by kernel_rfl

theorem natural_digit_ld.l2_ev (k n : Nat) (x : natural_digit_ld.M2.den) :
    evalRound Go.Sh.tt (natural_digit_ld.tab k) Go.Proofs.Try.f63.ntmps (finOf Go.Sh.tt natural_digit_ld.B Go.Proofs.Try.f63.results.toList) (cAt [1, 1, 1, 1, 1, 1, 1, 0, 1, 0, 1, 1, 0, 1, 0, 0] (bodyOf Go.Proofs.Try.f63)) .nil natural_digit_ld.M2 natural_digit_ld.O2 4 (fun x => natural_digit_ld.l2 k n x.1 x.2.1 x.2.2.1 x.2.2.2.1 x.2.2.2.2.1 x.2.2.2.2.2.1 x.2.2.2.2.2.2) x = natural_digit_ld.l2 k (n + 1) x.1 x.2.1 x.2.2.1 x.2.2.2.1 x.2.2.2.2.1 x.2.2.2.2.2.1 x.2.2.2.2.2.2 := by kernel_rfl
theorem natural_digit_ld.l1_ev (k n : Nat) (x : natural_digit_ld.M1.den) :
    evalRound Go.Sh.tt (natural_digit_ld.tab k) Go.Proofs.Try.f63.ntmps (finOf Go.Sh.tt natural_digit_ld.B Go.Proofs.Try.f63.results.toList) (cAt [1, 1, 1, 1, 1, 1, 0, 1, 0, 0] (bodyOf Go.Proofs.Try.f63)) (.seq .nil (.seq .nil (.seq (.block (.seq .nil (.jseq ⟨[.blk 0 (.int .u32) 1, .dat 1 (.list (.int .u32)), .dat 5 (.int .i64), .dat 8 (.int .u64), .dat 10 (.int .u64), .dat 11 (.int .u32), .dat 12 (.int .i64), .dat 74 (.int .i64), .dat 75 (.int .i64)], [.ref 0 0]⟩ .nil .nil))) .nil))) natural_digit_ld.M1 natural_digit_ld.O1 2 (fun x => natural_digit_ld.l1 k n x.1 x.2.1 x.2.2.1 x.2.2.2.1 x.2.2.2.2.1 x.2.2.2.2.2.1 x.2.2.2.2.2.2.1 x.2.2.2.2.2.2.2) x = natural_digit_ld.l1 k (n + 1) x.1 x.2.1 x.2.2.1 x.2.2.2.1 x.2.2.2.2.1 x.2.2.2.2.2.1 x.2.2.2.2.2.2.1 x.2.2.2.2.2.2.2 := by kernel_rfl
theorem natural_digit_ld.l0_ev (k n : Nat) (x : natural_digit_ld.M0.den) :
    evalRound Go.Sh.tt (natural_digit_ld.tab k) Go.Proofs.Try.f63.ntmps (finOf Go.Sh.tt natural_digit_ld.B Go.Proofs.Try.f63.results.toList) (cAt [1, 1, 1, 1, 0, 0, 0] (bodyOf Go.Proofs.Try.f63)) .nil natural_digit_ld.M0 natural_digit_ld.O0 0 (fun x => natural_digit_ld.l0 k n x.1 x.2.1 x.2.2.1 x.2.2.2.1 x.2.2.2.2.1 x.2.2.2.2.2) x = natural_digit_ld.l0 k (n + 1) x.1 x.2.1 x.2.2.1 x.2.2.2.1 x.2.2.2.2.1 x.2.2.2.2.2 := by kernel_rfl
theorem natural_digit_ld.ev (k : Nat) (x : denA natural_digit_ld.A) :
    evalF Go.Sh.tt (natural_digit_ld.tab k) Go.Proofs.Try.f63.ntmps (bodyOf Go.Proofs.Try.f63) Go.Proofs.Try.f63.results.toList natural_digit_ld.A natural_digit_ld.B (.seq .nil (.seq .nil (.seq .nil (.seq .nil (.seq (.block (natural_digit_ld.an0 k)) (.seq .nil (.seq (.seq .nil (.block (natural_digit_ld.an1 k))) (.seq (.seq .nil (.cond (.seq .nil (.seq .nil (.seq (.seq .nil (.block (natural_digit_ld.an2 k))) .nil))) .nil)) .nil)))))))) x = natural_digit_ld k x.1 x.2 := by kernel_rfl

theorem natural_right.l0_ev (k n : Nat) (x : natural_right.M0.den) :
    evalRound Go.Sh.tt (natural_right.tab k) Go.Proofs.Try.f47.ntmps (finOf Go.Sh.tt natural_right.B Go.Proofs.Try.f47.results.toList) (cAt [1, 1, 0, 1, 0, 0] (bodyOf Go.Proofs.Try.f47)) .nil natural_right.M0 natural_right.O0 0 (fun x => natural_right.l0 k n x.1 x.2.1 x.2.2.1 x.2.2.2) x = natural_right.l0 k (n + 1) x.1 x.2.1 x.2.2.1 x.2.2.2 := by kernel_rfl
theorem natural_right.ev (k : Nat) (x : denA natural_right.A) :
    evalF Go.Sh.tt (natural_right.tab k) Go.Proofs.Try.f47.ntmps (bodyOf Go.Proofs.Try.f47) Go.Proofs.Try.f47.results.toList natural_right.A natural_right.B (.seq .nil (.seq .nil (.seq (.seq .nil (.block (natural_right.an0 k))) .nil))) x = natural_right k x.1 x.2 := by kernel_rfl

theorem natural_divide.l1_ev (k n : Nat) (x : natural_divide.M1.den) :
    evalRound Go.Sh.tt (natural_divide.tab k) Go.Proofs.Try.f59.ntmps (finOf Go.Sh.tt natural_divide.B Go.Proofs.Try.f59.results.toList) (cAt [1, 1, 1, 1, 1, 1, 0, 1, 0, 0] (bodyOf Go.Proofs.Try.f59)) .nil natural_divide.M1 natural_divide.O1 2 (fun x => natural_divide.l1 k n x.1 x.2.1 x.2.2.1 x.2.2.2.1 x.2.2.2.2.1 x.2.2.2.2.2) x = natural_divide.l1 k (n + 1) x.1 x.2.1 x.2.2.1 x.2.2.2.1 x.2.2.2.2.1 x.2.2.2.2.2 := by kernel_rfl
theorem natural_divide.l0_ev (k n : Nat) (x : natural_divide.M0.den) :
    evalRound Go.Sh.tt (natural_divide.tab k) Go.Proofs.Try.f59.ntmps (finOf Go.Sh.tt natural_divide.B Go.Proofs.Try.f59.results.toList) (cAt [1, 1, 1, 1, 0, 0, 0] (bodyOf Go.Proofs.Try.f59)) .nil natural_divide.M0 natural_divide.O0 0 (fun x => natural_divide.l0 k n x.1 x.2.1 x.2.2.1 x.2.2.2.1 x.2.2.2.2) x = natural_divide.l0 k (n + 1) x.1 x.2.1 x.2.2.1 x.2.2.2.1 x.2.2.2.2 := by kernel_rfl
theorem natural_divide.ev (k : Nat) (x : denA natural_divide.A) :
    evalF Go.Sh.tt (natural_divide.tab k) Go.Proofs.Try.f59.ntmps (bodyOf Go.Proofs.Try.f59) Go.Proofs.Try.f59.results.toList natural_divide.A natural_divide.B (.seq .nil (.seq .nil (.seq .nil (.seq .nil (.seq (.block (natural_divide.an0 k)) (.seq .nil (.seq (.seq .nil (.block (natural_divide.an1 k))) .nil))))))) x = natural_divide k x.1 x.2 := by kernel_rfl

theorem natural_divMod.ev (k : Nat) (x : denA natural_divMod.A) :
    evalF Go.Sh.tt (natural_divMod.tab k) Go.Proofs.Try.f41.ntmps (bodyOf Go.Proofs.Try.f41) Go.Proofs.Try.f41.results.toList natural_divMod.A natural_divMod.B .nil x = natural_divMod k x.1 x.2 := by kernel_rfl

theorem natural_DivMod.ev (k : Nat) (x : denA natural_DivMod.A) :
    evalF Go.Sh.tt (natural_DivMod.tab k) Go.Proofs.Try.f9.ntmps (bodyOf Go.Proofs.Try.f9) Go.Proofs.Try.f9.results.toList natural_DivMod.A natural_DivMod.B .nil x = natural_DivMod k x.1 x.2 := by kernel_rfl

theorem natural_Gcd.l0_ev (k n : Nat) (x : natural_Gcd.M0.den) :
    evalRound Go.Sh.tt (natural_Gcd.tab k) Go.Proofs.Try.f10.ntmps (finOf Go.Sh.tt natural_Gcd.B Go.Proofs.Try.f10.results.toList) (cAt [1, 1, 1, 0, 0, 0] (bodyOf Go.Proofs.Try.f10)) .nil natural_Gcd.M0 natural_Gcd.O0 0 (fun x => natural_Gcd.l0 k n x.1 x.2.1 x.2.2) x = natural_Gcd.l0 k (n + 1) x.1 x.2.1 x.2.2 := by kernel_rfl
theorem natural_Gcd.ev (k : Nat) (x : denA natural_Gcd.A) :
    evalF Go.Sh.tt (natural_Gcd.tab k) Go.Proofs.Try.f10.ntmps (bodyOf Go.Proofs.Try.f10) Go.Proofs.Try.f10.results.toList natural_Gcd.A natural_Gcd.B (.seq .nil (.seq .nil (.seq .nil (.seq (.block (natural_Gcd.an0 k)) .nil)))) x = natural_Gcd k x.1 x.2 := by kernel_rfl

theorem natural_add.l0_ev (k n : Nat) (x : natural_add.M0.den) :
    evalRound Go.Sh.tt (natural_add.tab k) Go.Proofs.Try.f49.ntmps (finOf Go.Sh.tt natural_add.B Go.Proofs.Try.f49.results.toList) (cAt [1, 1, 1, 1, 0, 1, 0, 0] (bodyOf Go.Proofs.Try.f49)) .nil natural_add.M0 natural_add.O0 0 (fun x => natural_add.l0 k n x.1 x.2.1 x.2.2.1 x.2.2.2.1 x.2.2.2.2.1 x.2.2.2.2.2) x = natural_add.l0 k (n + 1) x.1 x.2.1 x.2.2.1 x.2.2.2.1 x.2.2.2.2.1 x.2.2.2.2.2 := by kernel_rfl
theorem natural_add.ev (k : Nat) (x : denA natural_add.A) :
    evalF Go.Sh.tt (natural_add.tab k) Go.Proofs.Try.f49.ntmps (bodyOf Go.Proofs.Try.f49) Go.Proofs.Try.f49.results.toList natural_add.A natural_add.B (.seq .nil (.jseq ⟨[.dat 0 (.list (.int .u32)), .dat 1 (.list (.int .u32))], []⟩ .nil (.seq .nil (.seq .nil (.seq (.seq .nil (.block (natural_add.an0 k))) .nil))))) x = natural_add k x.1 x.2 := by kernel_rfl

theorem natural_trim.l0_ev (k n : Nat) (x : natural_trim.M0.den) :
    evalRound Go.Sh.tt (natural_trim.tab k) Go.Proofs.Try.f58.ntmps (finOf Go.Sh.tt natural_trim.B Go.Proofs.Try.f58.results.toList) (cAt [1, 0, 0, 0] (bodyOf Go.Proofs.Try.f58)) .nil natural_trim.M0 natural_trim.O0 0 (fun x => natural_trim.l0 k n x) x = natural_trim.l0 k (n + 1) x := by kernel_rfl
theorem natural_trim.ev (k : Nat) (x : denA natural_trim.A) :
    evalF Go.Sh.tt (natural_trim.tab k) Go.Proofs.Try.f58.ntmps (bodyOf Go.Proofs.Try.f58) Go.Proofs.Try.f58.results.toList natural_trim.A natural_trim.B (.seq .nil (.seq (.block (natural_trim.an0 k)) .nil)) x = natural_trim k x := by kernel_rfl

theorem natural_fit.ev (k : Nat) (x : denA natural_fit.A) :
    evalF Go.Sh.tt (natural_fit.tab k) Go.Proofs.Try.f52.ntmps (bodyOf Go.Proofs.Try.f52) Go.Proofs.Try.f52.results.toList natural_fit.A natural_fit.B .nil x = natural_fit k x := by kernel_rfl

theorem natural_Add.ev (k : Nat) (x : denA natural_Add.A) :
    evalF Go.Sh.tt (natural_Add.tab k) Go.Proofs.Try.f28.ntmps (bodyOf Go.Proofs.Try.f28) Go.Proofs.Try.f28.results.toList natural_Add.A natural_Add.B .nil x = natural_Add k x.1 x.2 := by kernel_rfl

theorem natural_Bits.ev  (x : denA natural_Bits.A) :
    evalF Go.Sh.tt (natural_Bits.tab) Go.Proofs.Try.f21.ntmps (bodyOf Go.Proofs.Try.f21) Go.Proofs.Try.f21.results.toList natural_Bits.A natural_Bits.B .nil x = natural_Bits x := by kernel_rfl

theorem natural_Sqrt.l0_ev (k n : Nat) (x : natural_Sqrt.M0.den) :
    evalRound Go.Sh.tt (natural_Sqrt.tab k) Go.Proofs.Try.f23.ntmps (finOf Go.Sh.tt natural_Sqrt.B Go.Proofs.Try.f23.results.toList) (cAt [1, 1, 1, 1, 0, 0] (bodyOf Go.Proofs.Try.f23)) .nil natural_Sqrt.M0 natural_Sqrt.O0 0 (fun x => natural_Sqrt.l0 k n x.1 x.2.1 x.2.2) x = natural_Sqrt.l0 k (n + 1) x.1 x.2.1 x.2.2 := by kernel_rfl
theorem natural_Sqrt.ev (k : Nat) (x : denA natural_Sqrt.A) :
    evalF Go.Sh.tt (natural_Sqrt.tab k) Go.Proofs.Try.f23.ntmps (bodyOf Go.Proofs.Try.f23) Go.Proofs.Try.f23.results.toList natural_Sqrt.A natural_Sqrt.B (.seq .nil (.seq .nil (.jseq ⟨[.dat 0 (.list (.int .u32)), .box 48 [.st (.pair (.int .i64) (.int .i64))], .dat 4 (.int .i64)], [.ptr 3 48 0]⟩ .nil (.seq .nil (.block (natural_Sqrt.an0 k)))))) x = natural_Sqrt k x := by kernel_rfl

theorem brindlewoodref3_SameLimbs.l0_ev (k n : Nat) (x : brindlewoodref3_SameLimbs.M0.den) :
    evalRound Go.Sh.tt (brindlewoodref3_SameLimbs.tab k) Go.Proofs.Try.f13.ntmps (finOf Go.Sh.tt brindlewoodref3_SameLimbs.B Go.Proofs.Try.f13.results.toList) (cAt [1, 1, 0, 1, 0, 0] (bodyOf Go.Proofs.Try.f13)) .nil brindlewoodref3_SameLimbs.M0 brindlewoodref3_SameLimbs.O0 0 (fun x => brindlewoodref3_SameLimbs.l0 k n x.1 x.2.1 x.2.2) x = brindlewoodref3_SameLimbs.l0 k (n + 1) x.1 x.2.1 x.2.2 := by kernel_rfl
theorem brindlewoodref3_SameLimbs.ev (k : Nat) (x : denA brindlewoodref3_SameLimbs.A) :
    evalF Go.Sh.tt (brindlewoodref3_SameLimbs.tab k) Go.Proofs.Try.f13.ntmps (bodyOf Go.Proofs.Try.f13) Go.Proofs.Try.f13.results.toList brindlewoodref3_SameLimbs.A brindlewoodref3_SameLimbs.B (.seq .nil (.seq .nil (.seq (.seq .nil (.block (brindlewoodref3_SameLimbs.an0 k))) .nil))) x = brindlewoodref3_SameLimbs k x.1 x.2 := by kernel_rfl

theorem brindlewoodlaw3_sums.ev (k : Nat) (x : denA brindlewoodlaw3_sums.A) :
    evalF Go.Sh.tt (brindlewoodlaw3_sums.tab k) Go.Proofs.Try.f11.ntmps (bodyOf Go.Proofs.Try.f11) Go.Proofs.Try.f11.results.toList brindlewoodlaw3_sums.A brindlewoodlaw3_sums.B .nil x = brindlewoodlaw3_sums k  := by kernel_rfl

theorem brindlewoodref3_trim_v.l0_ev (k n : Nat) (x : brindlewoodref3_trim_v.M0.den) :
    evalRound Go.Sh.tt (brindlewoodref3_trim_v.tab k) Go.Proofs.Try.f45.ntmps (finOf Go.Sh.tt brindlewoodref3_trim_v.B Go.Proofs.Try.f45.results.toList) (cAt [1, 0, 0, 0] (bodyOf Go.Proofs.Try.f45)) .nil brindlewoodref3_trim_v.M0 brindlewoodref3_trim_v.O0 0 (fun x => brindlewoodref3_trim_v.l0 k n x.1 x.2) x = brindlewoodref3_trim_v.l0 k (n + 1) x.1 x.2 := by kernel_rfl
theorem brindlewoodref3_trim_v.ev (k : Nat) (x : denA brindlewoodref3_trim_v.A) :
    evalF Go.Sh.tt (brindlewoodref3_trim_v.tab k) Go.Proofs.Try.f45.ntmps (bodyOf Go.Proofs.Try.f45) Go.Proofs.Try.f45.results.toList brindlewoodref3_trim_v.A brindlewoodref3_trim_v.B (.seq .nil (.seq (.block (brindlewoodref3_trim_v.an0 k)) .nil)) x = brindlewoodref3_trim_v k x := by kernel_rfl

theorem brindlewoodref3_Of.l0_ev (k n : Nat) (x : brindlewoodref3_Of.M0.den) :
    evalRound Go.Sh.tt (brindlewoodref3_Of.tab k) Go.Proofs.Try.f16.ntmps (finOf Go.Sh.tt brindlewoodref3_Of.B Go.Proofs.Try.f16.results.toList) (cAt [1, 1, 0, 1, 0, 0] (bodyOf Go.Proofs.Try.f16)) .nil brindlewoodref3_Of.M0 brindlewoodref3_Of.O0 0 (fun x => brindlewoodref3_Of.l0 k n x.1 x.2.1 x.2.2) x = brindlewoodref3_Of.l0 k (n + 1) x.1 x.2.1 x.2.2 := by kernel_rfl
theorem brindlewoodref3_Of.ev (k : Nat) (x : denA brindlewoodref3_Of.A) :
    evalF Go.Sh.tt (brindlewoodref3_Of.tab k) Go.Proofs.Try.f16.ntmps (bodyOf Go.Proofs.Try.f16) Go.Proofs.Try.f16.results.toList brindlewoodref3_Of.A brindlewoodref3_Of.B (.seq .nil (.seq .nil (.seq (.seq .nil (.block (brindlewoodref3_Of.an0 k))) .nil))) x = brindlewoodref3_Of k x := by kernel_rfl

theorem brindlewoodref3_Halve.l0_ev (k n : Nat) (x : brindlewoodref3_Halve.M0.den) :
    evalRound Go.Sh.tt (brindlewoodref3_Halve.tab k) Go.Proofs.Try.f43.ntmps (finOf Go.Sh.tt brindlewoodref3_Halve.B Go.Proofs.Try.f43.results.toList) (cAt [1, 1, 1, 0, 1, 0, 0] (bodyOf Go.Proofs.Try.f43)) .nil brindlewoodref3_Halve.M0 brindlewoodref3_Halve.O0 0 (fun x => brindlewoodref3_Halve.l0 k n x.1 x.2.1 x.2.2.1 x.2.2.2.1 x.2.2.2.2) x = brindlewoodref3_Halve.l0 k (n + 1) x.1 x.2.1 x.2.2.1 x.2.2.2.1 x.2.2.2.2 := by kernel_rfl
theorem brindlewoodref3_Halve.ev (k : Nat) (x : denA brindlewoodref3_Halve.A) :
    evalF Go.Sh.tt (brindlewoodref3_Halve.tab k) Go.Proofs.Try.f43.ntmps (bodyOf Go.Proofs.Try.f43) Go.Proofs.Try.f43.results.toList brindlewoodref3_Halve.A brindlewoodref3_Halve.B (.seq .nil (.seq .nil (.seq .nil (.seq (.seq .nil (.block (brindlewoodref3_Halve.an0 k))) .nil)))) x = brindlewoodref3_Halve k x.1 x.2 := by kernel_rfl

theorem brindlewoodref3_Compare.l0_ev (k n : Nat) (x : brindlewoodref3_Compare.M0.den) :
    evalRound Go.Sh.tt (brindlewoodref3_Compare.tab k) Go.Proofs.Try.f18.ntmps (finOf Go.Sh.tt brindlewoodref3_Compare.B Go.Proofs.Try.f18.results.toList) (cAt [1, 1, 0, 1, 0, 0] (bodyOf Go.Proofs.Try.f18)) .nil brindlewoodref3_Compare.M0 brindlewoodref3_Compare.O0 0 (fun x => brindlewoodref3_Compare.l0 k n x.1 x.2.1 x.2.2) x = brindlewoodref3_Compare.l0 k (n + 1) x.1 x.2.1 x.2.2 := by kernel_rfl
theorem brindlewoodref3_Compare.ev (k : Nat) (x : denA brindlewoodref3_Compare.A) :
    evalF Go.Sh.tt (brindlewoodref3_Compare.tab k) Go.Proofs.Try.f18.ntmps (bodyOf Go.Proofs.Try.f18) Go.Proofs.Try.f18.results.toList brindlewoodref3_Compare.A brindlewoodref3_Compare.B (.seq .nil (.seq .nil (.seq (.seq .nil (.block (brindlewoodref3_Compare.an0 k))) .nil))) x = brindlewoodref3_Compare k x.1 x.2 := by kernel_rfl

theorem brindlewoodref3_Minus.l0_ev (k n : Nat) (x : brindlewoodref3_Minus.M0.den) :
    evalRound Go.Sh.tt (brindlewoodref3_Minus.tab k) Go.Proofs.Try.f33.ntmps (finOf Go.Sh.tt brindlewoodref3_Minus.B Go.Proofs.Try.f33.results.toList) (cAt [1, 1, 1, 0, 1, 0, 0] (bodyOf Go.Proofs.Try.f33)) (.seq .nil (.seq (.block (.seq .nil (.jseq ⟨[.dat 0 (.list (.int .i64)), .dat 1 (.list (.int .i64)), .own 5 (.int .i64), .dat 7 (.int .i64), .dat 8 (.int .i64)], []⟩ .nil .nil))) .nil)) brindlewoodref3_Minus.M0 brindlewoodref3_Minus.O0 0 (fun x => brindlewoodref3_Minus.l0 k n x.1 x.2.1 x.2.2.1 x.2.2.2.1 x.2.2.2.2) x = brindlewoodref3_Minus.l0 k (n + 1) x.1 x.2.1 x.2.2.1 x.2.2.2.1 x.2.2.2.2 := by kernel_rfl
theorem brindlewoodref3_Minus.ev (k : Nat) (x : denA brindlewoodref3_Minus.A) :
    evalF Go.Sh.tt (brindlewoodref3_Minus.tab k) Go.Proofs.Try.f33.ntmps (bodyOf Go.Proofs.Try.f33) Go.Proofs.Try.f33.results.toList brindlewoodref3_Minus.A brindlewoodref3_Minus.B (.seq .nil (.seq .nil (.seq .nil (.seq (.seq .nil (.block (brindlewoodref3_Minus.an0 k))) .nil)))) x = brindlewoodref3_Minus k x.1 x.2 := by kernel_rfl

theorem brindlewoodref3_Plus.l0_ev (k n : Nat) (x : brindlewoodref3_Plus.M0.den) :
    evalRound Go.Sh.tt (brindlewoodref3_Plus.tab k) Go.Proofs.Try.f19.ntmps (finOf Go.Sh.tt brindlewoodref3_Plus.B Go.Proofs.Try.f19.results.toList) (cAt [1, 1, 1, 0, 1, 0, 0] (bodyOf Go.Proofs.Try.f19)) (.seq .nil (.seq (.block (.jseq ⟨[.dat 0 (.list (.int .i64)), .dat 1 (.list (.int .i64)), .own 5 (.int .i64), .dat 6 (.int .i64), .dat 7 (.int .i64)], []⟩ .nil .nil)) .nil)) brindlewoodref3_Plus.M0 brindlewoodref3_Plus.O0 0 (fun x => brindlewoodref3_Plus.l0 k n x.1 x.2.1 x.2.2.1 x.2.2.2.1 x.2.2.2.2) x = brindlewoodref3_Plus.l0 k (n + 1) x.1 x.2.1 x.2.2.1 x.2.2.2.1 x.2.2.2.2 := by kernel_rfl
theorem brindlewoodref3_Plus.ev (k : Nat) (x : denA brindlewoodref3_Plus.A) :
    evalF Go.Sh.tt (brindlewoodref3_Plus.tab k) Go.Proofs.Try.f19.ntmps (bodyOf Go.Proofs.Try.f19) Go.Proofs.Try.f19.results.toList brindlewoodref3_Plus.A brindlewoodref3_Plus.B (.seq .nil (.seq .nil (.seq .nil (.seq (.seq .nil (.block (brindlewoodref3_Plus.an0 k))) .nil)))) x = brindlewoodref3_Plus k x.1 x.2 := by kernel_rfl

theorem brindlewoodref3_Double.l0_ev (k n : Nat) (x : brindlewoodref3_Double.M0.den) :
    evalRound Go.Sh.tt (brindlewoodref3_Double.tab k) Go.Proofs.Try.f44.ntmps (finOf Go.Sh.tt brindlewoodref3_Double.B Go.Proofs.Try.f44.results.toList) (cAt [1, 1, 1, 1, 0, 1, 0, 0] (bodyOf Go.Proofs.Try.f44)) .nil brindlewoodref3_Double.M0 brindlewoodref3_Double.O0 0 (fun x => brindlewoodref3_Double.l0 k n x.1 x.2.1 x.2.2.1 x.2.2.2) x = brindlewoodref3_Double.l0 k (n + 1) x.1 x.2.1 x.2.2.1 x.2.2.2 := by kernel_rfl
theorem brindlewoodref3_Double.ev (k : Nat) (x : denA brindlewoodref3_Double.A) :
    evalF Go.Sh.tt (brindlewoodref3_Double.tab k) Go.Proofs.Try.f44.ntmps (bodyOf Go.Proofs.Try.f44) Go.Proofs.Try.f44.results.toList brindlewoodref3_Double.A brindlewoodref3_Double.B (.seq .nil (.seq .nil (.jseq ⟨[.dat 0 (.list (.int .i64)), .dat 5 (.int .i64)], []⟩ .nil (.seq .nil (.seq (.seq .nil (.block (brindlewoodref3_Double.an0 k))) .nil))))) x = brindlewoodref3_Double k x.1 x.2 := by kernel_rfl

theorem brindlewoodref3_Common.l1_ev (k n : Nat) (x : brindlewoodref3_Common.M1.den) :
    evalRound Go.Sh.tt (brindlewoodref3_Common.tab k) Go.Proofs.Try.f15.ntmps (finOf Go.Sh.tt brindlewoodref3_Common.B Go.Proofs.Try.f15.results.toList) (cAt [1, 1, 1, 1, 0, 0, 0] (bodyOf Go.Proofs.Try.f15)) .nil brindlewoodref3_Common.M1 brindlewoodref3_Common.O1 3 (fun x => brindlewoodref3_Common.l1 k n x.1 x.2) x = brindlewoodref3_Common.l1 k (n + 1) x.1 x.2 := by kernel_rfl
theorem brindlewoodref3_Common.l0_ev (k n : Nat) (x : brindlewoodref3_Common.M0.den) :
    evalRound Go.Sh.tt (brindlewoodref3_Common.tab k) Go.Proofs.Try.f15.ntmps (finOf Go.Sh.tt brindlewoodref3_Common.B Go.Proofs.Try.f15.results.toList) (cAt [1, 1, 0, 0, 0] (bodyOf Go.Proofs.Try.f15)) (.seq .nil (.block (.block (.jseq ⟨[.dat 0 (.list (.int .i64)), .dat 1 (.list (.int .i64)), .dat 5 (.int .i64), .dat 11 (.list (.int .i64)), .dat 12 (.int .i64), .dat 13 (.bool), .dat 18 (.bool)], []⟩ .nil .nil)))) brindlewoodref3_Common.M0 brindlewoodref3_Common.O0 0 (fun x => brindlewoodref3_Common.l0 k n x.1 x.2.1 x.2.2) x = brindlewoodref3_Common.l0 k (n + 1) x.1 x.2.1 x.2.2 := by kernel_rfl
theorem brindlewoodref3_Common.ev (k : Nat) (x : denA brindlewoodref3_Common.A) :
    evalF Go.Sh.tt (brindlewoodref3_Common.tab k) Go.Proofs.Try.f15.ntmps (bodyOf Go.Proofs.Try.f15) Go.Proofs.Try.f15.results.toList brindlewoodref3_Common.A brindlewoodref3_Common.B (.seq .nil (.seq .nil (.seq (.block (brindlewoodref3_Common.an0 k)) (.seq .nil (.seq (.block (brindlewoodref3_Common.an1 k)) .nil))))) x = brindlewoodref3_Common k x.1 x.2 := by kernel_rfl

theorem brindlewoodref3_Limbs.l0_ev (k n : Nat) (x : brindlewoodref3_Limbs.M0.den) :
    evalRound Go.Sh.tt (brindlewoodref3_Limbs.tab k) Go.Proofs.Try.f14.ntmps (finOf Go.Sh.tt brindlewoodref3_Limbs.B Go.Proofs.Try.f14.results.toList) (cAt [1, 1, 0, 1, 0, 0] (bodyOf Go.Proofs.Try.f14)) .nil brindlewoodref3_Limbs.M0 brindlewoodref3_Limbs.O0 0 (fun x => brindlewoodref3_Limbs.l0 k n x.1 x.2.1 x.2.2) x = brindlewoodref3_Limbs.l0 k (n + 1) x.1 x.2.1 x.2.2 := by kernel_rfl
theorem brindlewoodref3_Limbs.ev (k : Nat) (x : denA brindlewoodref3_Limbs.A) :
    evalF Go.Sh.tt (brindlewoodref3_Limbs.tab k) Go.Proofs.Try.f14.ntmps (bodyOf Go.Proofs.Try.f14) Go.Proofs.Try.f14.results.toList brindlewoodref3_Limbs.A brindlewoodref3_Limbs.B (.seq .nil (.seq .nil (.seq (.seq .nil (.block (brindlewoodref3_Limbs.an0 k))) .nil))) x = brindlewoodref3_Limbs k x := by kernel_rfl

theorem brindlewoodref3_Times.l1_ev (k n : Nat) (x : brindlewoodref3_Times.M1.den) :
    evalRound Go.Sh.tt (brindlewoodref3_Times.tab k) Go.Proofs.Try.f20.ntmps (finOf Go.Sh.tt brindlewoodref3_Times.B Go.Proofs.Try.f20.results.toList) (cAt [1, 1, 0, 1, 0, 0, 1, 0, 0, 1, 1, 0, 0] (bodyOf Go.Proofs.Try.f20)) .nil brindlewoodref3_Times.M1 brindlewoodref3_Times.O1 2 (fun x => brindlewoodref3_Times.l1 k n x.1 x.2.1 x.2.2.1 x.2.2.2.1 x.2.2.2.2.1 x.2.2.2.2.2) x = brindlewoodref3_Times.l1 k (n + 1) x.1 x.2.1 x.2.2.1 x.2.2.2.1 x.2.2.2.2.1 x.2.2.2.2.2 := by kernel_rfl
theorem brindlewoodref3_Times.l0_ev (k n : Nat) (x : brindlewoodref3_Times.M0.den) :
    evalRound Go.Sh.tt (brindlewoodref3_Times.tab k) Go.Proofs.Try.f20.ntmps (finOf Go.Sh.tt brindlewoodref3_Times.B Go.Proofs.Try.f20.results.toList) (cAt [1, 1, 0, 1, 0, 0] (bodyOf Go.Proofs.Try.f20)) (.seq .nil (.seq (.block (.seq .nil (.seq .nil (.block (brindlewoodref3_Times.an1 k))))) .nil)) brindlewoodref3_Times.M0 brindlewoodref3_Times.O0 0 (fun x => brindlewoodref3_Times.l0 k n x.1 x.2.1 x.2.2.1 x.2.2.2) x = brindlewoodref3_Times.l0 k (n + 1) x.1 x.2.1 x.2.2.1 x.2.2.2 := by kernel_rfl
theorem brindlewoodref3_Times.ev (k : Nat) (x : denA brindlewoodref3_Times.A) :
    evalF Go.Sh.tt (brindlewoodref3_Times.tab k) Go.Proofs.Try.f20.ntmps (bodyOf Go.Proofs.Try.f20) Go.Proofs.Try.f20.results.toList brindlewoodref3_Times.A brindlewoodref3_Times.B (.seq .nil (.seq .nil (.seq (.seq .nil (.block (brindlewoodref3_Times.an0 k))) .nil))) x = brindlewoodref3_Times k x.1 x.2 := by kernel_rfl

theorem brindlewoodlaw3_NaturalDivides.ev (k : Nat) (x : denA brindlewoodlaw3_NaturalDivides.A) :
    evalF Go.Sh.tt (brindlewoodlaw3_NaturalDivides.tab k) Go.Proofs.Try.f3.ntmps (bodyOf Go.Proofs.Try.f3) Go.Proofs.Try.f3.results.toList brindlewoodlaw3_NaturalDivides.A brindlewoodlaw3_NaturalDivides.B (.seq .nil (.seq .nil (.seq .nil (.seq .nil (.jseq ⟨[.dat 0 (.list (.int .u32)), .dat 1 (.list (.int .u32)), .box 123 [.st (.pair (.int .i64) (.int .i64))], .dat 6 (.list (.int .u32)), .dat 7 (.list (.int .u32)), .box 126 [.st (.pair (.int .i64) (.int .i64))], .dat 9 (.list (.int .u32)), .box 128 [.st (.pair (.int .i64) (.int .i64))]], [.ptr 5 123 0, .ptr 8 126 0, .ptr 10 128 0]⟩ .nil (.jseq ⟨[.dat 0 (.list (.int .u32)), .dat 1 (.list (.int .u32)), .box 123 [.st (.pair (.int .i64) (.int .i64))], .dat 6 (.list (.int .u32)), .dat 7 (.list (.int .u32)), .box 126 [.st (.pair (.int .i64) (.int .i64))], .dat 9 (.list (.int .u32)), .box 128 [.st (.pair (.int .i64) (.int .i64))]], [.ptr 5 123 0, .ptr 8 126 0, .ptr 10 128 0]⟩ .nil (.jseq ⟨[.dat 0 (.list (.int .u32)), .dat 1 (.list (.int .u32)), .box 123 [.st (.pair (.int .i64) (.int .i64))], .dat 6 (.list (.int .u32)), .dat 7 (.list (.int .u32)), .dat 9 (.list (.int .u32)), .box 128 [.st (.pair (.int .i64) (.int .i64))]], [.ptr 5 123 0, .ptr 10 128 0]⟩ .nil (.seq .nil (.jseq ⟨[.dat 0 (.list (.int .u32)), .dat 1 (.list (.int .u32)), .box 123 [.st (.pair (.int .i64) (.int .i64))], .dat 6 (.list (.int .u32)), .dat 7 (.list (.int .u32))], [.ptr 5 123 0]⟩ .nil .nil))))))))) x = brindlewoodlaw3_NaturalDivides k x.1 x.2 := by kernel_rfl

theorem natural_Shift.ev (k : Nat) (x : denA natural_Shift.A) :
    evalF Go.Sh.tt (natural_Shift.tab k) Go.Proofs.Try.f22.ntmps (bodyOf Go.Proofs.Try.f22) Go.Proofs.Try.f22.results.toList natural_Shift.A natural_Shift.B (.seq .nil (.seq .nil (.seq (.block (.seq .nil (.cond .nil (.jseq ⟨[.dat 0 (.list (.int .u32)), .dat 1 (.int .i64), .box 51 [.st (.pair (.int .i64) (.int .i64))], .dat 6 (.int .i64), .dat 18 (.bool)], [.ptr 5 51 0]⟩ .nil .nil)))) .nil))) x = natural_Shift k x.1 x.2 := by kernel_rfl

theorem brindlewoodref3_Ones.l2_ev (k n : Nat) (x : brindlewoodref3_Ones.M2.den) :
    evalRound Go.Sh.tt (brindlewoodref3_Ones.tab k) Go.Proofs.Try.f24.ntmps (finOf Go.Sh.tt brindlewoodref3_Ones.B Go.Proofs.Try.f24.results.toList) (cAt [1, 1, 1, 0, 0, 0] (bodyOf Go.Proofs.Try.f24)) .nil brindlewoodref3_Ones.M2 brindlewoodref3_Ones.O2 4 (fun x => brindlewoodref3_Ones.l2 k n x) x = brindlewoodref3_Ones.l2 k (n + 1) x := by kernel_rfl
theorem brindlewoodref3_Ones.l1_ev (k n : Nat) (x : brindlewoodref3_Ones.M1.den) :
    evalRound Go.Sh.tt (brindlewoodref3_Ones.tab k) Go.Proofs.Try.f24.ntmps (finOf Go.Sh.tt brindlewoodref3_Ones.B Go.Proofs.Try.f24.results.toList) (cAt [1, 1, 0, 1, 0, 0, 1, 0, 0, 1, 1, 0, 0] (bodyOf Go.Proofs.Try.f24)) .nil brindlewoodref3_Ones.M1 brindlewoodref3_Ones.O1 2 (fun x => brindlewoodref3_Ones.l1 k n x.1 x.2.1 x.2.2.1 x.2.2.2.1 x.2.2.2.2) x = brindlewoodref3_Ones.l1 k (n + 1) x.1 x.2.1 x.2.2.1 x.2.2.2.1 x.2.2.2.2 := by kernel_rfl
theorem brindlewoodref3_Ones.l0_ev (k n : Nat) (x : brindlewoodref3_Ones.M0.den) :
    evalRound Go.Sh.tt (brindlewoodref3_Ones.tab k) Go.Proofs.Try.f24.ntmps (finOf Go.Sh.tt brindlewoodref3_Ones.B Go.Proofs.Try.f24.results.toList) (cAt [1, 1, 0, 1, 0, 0] (bodyOf Go.Proofs.Try.f24)) (.seq .nil (.seq (.block (.seq .nil (.seq .nil (.block (brindlewoodref3_Ones.an1 k))))) .nil)) brindlewoodref3_Ones.M0 brindlewoodref3_Ones.O0 0 (fun x => brindlewoodref3_Ones.l0 k n x.1 x.2.1 x.2.2) x = brindlewoodref3_Ones.l0 k (n + 1) x.1 x.2.1 x.2.2 := by kernel_rfl
theorem brindlewoodref3_Ones.ev (k : Nat) (x : denA brindlewoodref3_Ones.A) :
    evalF Go.Sh.tt (brindlewoodref3_Ones.tab k) Go.Proofs.Try.f24.ntmps (bodyOf Go.Proofs.Try.f24) Go.Proofs.Try.f24.results.toList brindlewoodref3_Ones.A brindlewoodref3_Ones.B (.seq .nil (.seq .nil (.seq (.seq .nil (.block (brindlewoodref3_Ones.an0 k))) (.seq (.block (brindlewoodref3_Ones.an2 k)) .nil)))) x = brindlewoodref3_Ones k x := by kernel_rfl

theorem brindlewoodref3_Small.l0_ev (k n : Nat) (x : brindlewoodref3_Small.M0.den) :
    evalRound Go.Sh.tt (brindlewoodref3_Small.tab k) Go.Proofs.Try.f25.ntmps (finOf Go.Sh.tt brindlewoodref3_Small.B Go.Proofs.Try.f25.results.toList) (cAt [1, 1, 0, 0, 0] (bodyOf Go.Proofs.Try.f25)) .nil brindlewoodref3_Small.M0 brindlewoodref3_Small.O0 0 (fun x => brindlewoodref3_Small.l0 k n x.1 x.2) x = brindlewoodref3_Small.l0 k (n + 1) x.1 x.2 := by kernel_rfl
theorem brindlewoodref3_Small.ev (k : Nat) (x : denA brindlewoodref3_Small.A) :
    evalF Go.Sh.tt (brindlewoodref3_Small.tab k) Go.Proofs.Try.f25.ntmps (bodyOf Go.Proofs.Try.f25) Go.Proofs.Try.f25.results.toList brindlewoodref3_Small.A brindlewoodref3_Small.B (.seq .nil (.seq .nil (.seq (.block (brindlewoodref3_Small.an0 k)) .nil))) x = brindlewoodref3_Small k x := by kernel_rfl

theorem brindlewoodref3_Binary.l1_ev (k n : Nat) (x : brindlewoodref3_Binary.M1.den) :
    evalRound Go.Sh.tt (brindlewoodref3_Binary.tab k) Go.Proofs.Try.f51.ntmps (finOf Go.Sh.tt brindlewoodref3_Binary.B Go.Proofs.Try.f51.results.toList) (cAt [1, 1, 0, 1, 0, 0, 1, 0, 0, 1, 0, 1, 0, 0] (bodyOf Go.Proofs.Try.f51)) .nil brindlewoodref3_Binary.M1 brindlewoodref3_Binary.O1 2 (fun x => brindlewoodref3_Binary.l1 k n x.1 x.2.1 x.2.2.1 x.2.2.2.1 x.2.2.2.2) x = brindlewoodref3_Binary.l1 k (n + 1) x.1 x.2.1 x.2.2.1 x.2.2.2.1 x.2.2.2.2 := by kernel_rfl
theorem brindlewoodref3_Binary.l0_ev (k n : Nat) (x : brindlewoodref3_Binary.M0.den) :
    evalRound Go.Sh.tt (brindlewoodref3_Binary.tab k) Go.Proofs.Try.f51.ntmps (finOf Go.Sh.tt brindlewoodref3_Binary.B Go.Proofs.Try.f51.results.toList) (cAt [1, 1, 0, 1, 0, 0] (bodyOf Go.Proofs.Try.f51)) (.seq .nil (.seq (.block (.seq .nil (.seq (.seq .nil (.block (brindlewoodref3_Binary.an1 k))) .nil))) .nil)) brindlewoodref3_Binary.M0 brindlewoodref3_Binary.O0 0 (fun x => brindlewoodref3_Binary.l0 k n x.1 x.2.1 x.2.2) x = brindlewoodref3_Binary.l0 k (n + 1) x.1 x.2.1 x.2.2 := by kernel_rfl
theorem brindlewoodref3_Binary.ev (k : Nat) (x : denA brindlewoodref3_Binary.A) :
    evalF Go.Sh.tt (brindlewoodref3_Binary.tab k) Go.Proofs.Try.f51.ntmps (bodyOf Go.Proofs.Try.f51) Go.Proofs.Try.f51.results.toList brindlewoodref3_Binary.A brindlewoodref3_Binary.B (.seq .nil (.seq .nil (.seq (.seq .nil (.block (brindlewoodref3_Binary.an0 k))) .nil))) x = brindlewoodref3_Binary k x := by kernel_rfl

theorem brindlewoodref3_Moved.ev (k : Nat) (x : denA brindlewoodref3_Moved.A) :
    evalF Go.Sh.tt (brindlewoodref3_Moved.tab k) Go.Proofs.Try.f27.ntmps (bodyOf Go.Proofs.Try.f27) Go.Proofs.Try.f27.results.toList brindlewoodref3_Moved.A brindlewoodref3_Moved.B .nil x = brindlewoodref3_Moved k x.1 x.2 := by kernel_rfl

theorem brindlewoodlaw3_is.ev (k : Nat) (x : denA brindlewoodlaw3_is.A) :
    evalF Go.Sh.tt (brindlewoodlaw3_is.tab k) Go.Proofs.Try.f26.ntmps (bodyOf Go.Proofs.Try.f26) Go.Proofs.Try.f26.results.toList brindlewoodlaw3_is.A brindlewoodlaw3_is.B (.seq .nil (.jseq ⟨[.dat 0 (.list (.int .u32)), .dat 2 (.list (.int .i64)), .box 43 [.st (.pair (.int .i64) (.int .i64))], .box 45 [.st (.pair (.int .i64) (.int .i64))]], [.ptr 5 43 0, .ptr 7 45 0]⟩ .nil .nil)) x = brindlewoodlaw3_is k x.1 x.2.1 x.2.2.1 x.2.2.2 := by kernel_rfl

theorem brindlewoodlaw3_NaturalMoves.ev (k : Nat) (x : denA brindlewoodlaw3_NaturalMoves.A) :
    evalF Go.Sh.tt (brindlewoodlaw3_NaturalMoves.tab k) Go.Proofs.Try.f4.ntmps (bodyOf Go.Proofs.Try.f4) Go.Proofs.Try.f4.results.toList brindlewoodlaw3_NaturalMoves.A brindlewoodlaw3_NaturalMoves.B (.seq .nil (.seq .nil (.seq .nil (.seq .nil (.seq .nil (.seq .nil (.seq .nil (.seq .nil (.jseq ⟨[.dat 1 (.int .i64), .dat 7 (.list (.int .u32)), .box 136 [.st (.pair (.int .i64) (.int .i64))], .dat 9 (.list (.int .u32)), .own 12 (.int .i64), .dat 13 (.int .i64)], [.ptr 8 136 0]⟩ .nil (.seq .nil (.seq .nil (.jseq ⟨[.dat 1 (.int .i64), .dat 7 (.list (.int .u32)), .box 136 [.st (.pair (.int .i64) (.int .i64))], .own 12 (.int .i64), .dat 13 (.int .i64)], [.ptr 8 136 0]⟩ .nil .nil)))))))))))) x = brindlewoodlaw3_NaturalMoves k x.1 x.2 := by kernel_rfl

theorem natural_sub.l0_ev (k n : Nat) (x : natural_sub.M0.den) :
    evalRound Go.Sh.tt (natural_sub.tab k) Go.Proofs.Try.f53.ntmps (finOf Go.Sh.tt natural_sub.B Go.Proofs.Try.f53.results.toList) (cAt [1, 1, 1, 0, 1, 0, 0] (bodyOf Go.Proofs.Try.f53)) (.seq .nil (.seq .nil (.seq (.block (.seq .nil (.seq .nil (.jseq ⟨[.dat 1 (.list (.int .u32)), .own 5 (.int .u32), .dat 6 (.int .u32), .dat 7 (.int .i64), .dat 8 (.int .u32), .dat 12 (.int .i64), .dat 13 (.int .i64)], []⟩ .nil .nil)))) .nil))) natural_sub.M0 natural_sub.O0 0 (fun x => natural_sub.l0 k n x.1 x.2.1 x.2.2.1 x.2.2.2.1 x.2.2.2.2) x = natural_sub.l0 k (n + 1) x.1 x.2.1 x.2.2.1 x.2.2.2.1 x.2.2.2.2 := by kernel_rfl
theorem natural_sub.ev (k : Nat) (x : denA natural_sub.A) :
    evalF Go.Sh.tt (natural_sub.tab k) Go.Proofs.Try.f53.ntmps (bodyOf Go.Proofs.Try.f53) Go.Proofs.Try.f53.results.toList natural_sub.A natural_sub.B (.seq .nil (.seq .nil (.seq .nil (.seq (.seq .nil (.block (natural_sub.an0 k))) .nil)))) x = natural_sub k x.1 x.2 := by kernel_rfl

theorem natural_Sub.ev (k : Nat) (x : denA natural_Sub.A) :
    evalF Go.Sh.tt (natural_Sub.tab k) Go.Proofs.Try.f29.ntmps (bodyOf Go.Proofs.Try.f29) Go.Proofs.Try.f29.results.toList natural_Sub.A natural_Sub.B .nil x = natural_Sub k x.1 x.2 := by kernel_rfl

theorem natural_mul.l1_ev (k n : Nat) (x : natural_mul.M1.den) :
    evalRound Go.Sh.tt (natural_mul.tab k) Go.Proofs.Try.f54.ntmps (finOf Go.Sh.tt natural_mul.B Go.Proofs.Try.f54.results.toList) (cAt [1, 1, 0, 1, 0, 0, 1, 1, 0, 0, 1, 1, 0, 1, 0, 0] (bodyOf Go.Proofs.Try.f54)) .nil natural_mul.M1 natural_mul.O1 2 (fun x => natural_mul.l1 k n x.1 x.2.1 x.2.2.1 x.2.2.2.1 x.2.2.2.2.1 x.2.2.2.2.2.1 x.2.2.2.2.2.2.1 x.2.2.2.2.2.2.2.1 x.2.2.2.2.2.2.2.2.1 x.2.2.2.2.2.2.2.2.2.1 x.2.2.2.2.2.2.2.2.2.2) x = natural_mul.l1 k (n + 1) x.1 x.2.1 x.2.2.1 x.2.2.2.1 x.2.2.2.2.1 x.2.2.2.2.2.1 x.2.2.2.2.2.2.1 x.2.2.2.2.2.2.2.1 x.2.2.2.2.2.2.2.2.1 x.2.2.2.2.2.2.2.2.2.1 x.2.2.2.2.2.2.2.2.2.2 := by kernel_rfl
theorem natural_mul.l0_ev (k n : Nat) (x : natural_mul.M0.den) :
    evalRound Go.Sh.tt (natural_mul.tab k) Go.Proofs.Try.f54.ntmps (finOf Go.Sh.tt natural_mul.B Go.Proofs.Try.f54.results.toList) (cAt [1, 1, 0, 1, 0, 0] (bodyOf Go.Proofs.Try.f54)) (.seq .nil (.seq .nil (.seq (.block (.seq .nil (.seq .nil (.seq (.seq .nil (.block (natural_mul.an1 k))) .nil)))) .nil))) natural_mul.M0 natural_mul.O0 0 (fun x => natural_mul.l0 k n x.1 x.2.1 x.2.2.1 x.2.2.2.1 x.2.2.2.2) x = natural_mul.l0 k (n + 1) x.1 x.2.1 x.2.2.1 x.2.2.2.1 x.2.2.2.2 := by kernel_rfl
theorem natural_mul.ev (k : Nat) (x : denA natural_mul.A) :
    evalF Go.Sh.tt (natural_mul.tab k) Go.Proofs.Try.f54.ntmps (bodyOf Go.Proofs.Try.f54) Go.Proofs.Try.f54.results.toList natural_mul.A natural_mul.B (.seq .nil (.seq .nil (.seq (.seq .nil (.block (natural_mul.an0 k))) .nil))) x = natural_mul k x.1 x.2 := by kernel_rfl

theorem natural_Mul.ev (k : Nat) (x : denA natural_Mul.A) :
    evalF Go.Sh.tt (natural_Mul.tab k) Go.Proofs.Try.f30.ntmps (bodyOf Go.Proofs.Try.f30) Go.Proofs.Try.f30.results.toList natural_Mul.A natural_Mul.B .nil x = natural_Mul k x.1 x.2 := by kernel_rfl

theorem natural_Cmp.ev (k : Nat) (x : denA natural_Cmp.A) :
    evalF Go.Sh.tt (natural_Cmp.tab k) Go.Proofs.Try.f31.ntmps (bodyOf Go.Proofs.Try.f31) Go.Proofs.Try.f31.results.toList natural_Cmp.A natural_Cmp.B .nil x = natural_Cmp k x.1 x.2 := by kernel_rfl

theorem brindlewoodlaw3_NaturalArithmetic.ev (k : Nat) (x : denA brindlewoodlaw3_NaturalArithmetic.A) :
    evalF Go.Sh.tt (brindlewoodlaw3_NaturalArithmetic.tab k) Go.Proofs.Try.f5.ntmps (bodyOf Go.Proofs.Try.f5) Go.Proofs.Try.f5.results.toList brindlewoodlaw3_NaturalArithmetic.A brindlewoodlaw3_NaturalArithmetic.B (.seq .nil (.seq .nil (.seq .nil (.seq .nil (.seq .nil (.seq .nil (.jseq ⟨[.dat 0 (.list (.int .u32)), .dat 1 (.list (.int .u32)), .box 155 [.st (.pair (.int .i64) (.int .i64))], .dat 6 (.list (.int .u32)), .box 157 [.st (.pair (.int .i64) (.int .i64))], .dat 8 (.list (.int .u32)), .box 159 [.st (.pair (.int .i64) (.int .i64))], .dat 10 (.list (.int .u32)), .box 161 [.st (.pair (.int .i64) (.int .i64))], .dat 12 (.int .i64), .box 163 [.st (.pair (.int .i64) (.int .i64))]], [.ptr 5 155 0, .ptr 7 157 0, .ptr 9 159 0, .ptr 11 161 0, .ptr 13 163 0]⟩ .nil (.seq .nil (.seq .nil (.seq .nil (.jseq ⟨[.box 155 [.st (.pair (.int .i64) (.int .i64))], .dat 6 (.list (.int .u32)), .box 157 [.st (.pair (.int .i64) (.int .i64))], .dat 8 (.list (.int .u32)), .box 159 [.st (.pair (.int .i64) (.int .i64))], .dat 10 (.list (.int .u32)), .box 161 [.st (.pair (.int .i64) (.int .i64))], .dat 12 (.int .i64), .box 163 [.st (.pair (.int .i64) (.int .i64))], .own 14 (.int .i64), .own 15 (.int .i64), .dat 16 (.int .i64)], [.ptr 5 155 0, .ptr 7 157 0, .ptr 9 159 0, .ptr 11 161 0, .ptr 13 163 0]⟩ .nil (.jseq ⟨[.box 155 [.st (.pair (.int .i64) (.int .i64))], .dat 8 (.list (.int .u32)), .box 159 [.st (.pair (.int .i64) (.int .i64))], .own 14 (.int .i64), .own 15 (.int .i64), .dat 16 (.int .i64)], [.ptr 5 155 0, .ptr 9 159 0]⟩ .nil .nil)))))))))))) x = brindlewoodlaw3_NaturalArithmetic k x.1 x.2 := by kernel_rfl

theorem natural_chunk.l0_ev (k n : Nat) (x : natural_chunk.M0.den) :
    evalRound Go.Sh.tt (natural_chunk.tab k) Go.Proofs.Try.f55.ntmps (finOf Go.Sh.tt natural_chunk.B Go.Proofs.Try.f55.results.toList) (cAt [1, 1, 0, 0, 0] (bodyOf Go.Proofs.Try.f55)) .nil natural_chunk.M0 natural_chunk.O0 0 (fun x => natural_chunk.l0 k n x.1 x.2.1 x.2.2) x = natural_chunk.l0 k (n + 1) x.1 x.2.1 x.2.2 := by kernel_rfl
theorem natural_chunk.ev (k : Nat) (x : denA natural_chunk.A) :
    evalF Go.Sh.tt (natural_chunk.tab k) Go.Proofs.Try.f55.ntmps (bodyOf Go.Proofs.Try.f55) Go.Proofs.Try.f55.results.toList natural_chunk.A natural_chunk.B (.seq .nil (.seq .nil (.seq (.block (natural_chunk.an0 k)) .nil))) x = natural_chunk k x := by kernel_rfl

theorem slices_Reverse_intint_l.l0_ev (k n : Nat) (x : slices_Reverse_intint_l.M0.den) :
    evalRound Go.Sh.tt (slices_Reverse_intint_l.tab k) Go.Proofs.Try.f57.ntmps (finOf Go.Sh.tt slices_Reverse_intint_l.B Go.Proofs.Try.f57.results.toList) (cAt [1, 0, 0] (bodyOf Go.Proofs.Try.f57)) .nil slices_Reverse_intint_l.M0 slices_Reverse_intint_l.O0 0 (fun x => slices_Reverse_intint_l.l0 k n x.1 x.2.1 x.2.2) x = slices_Reverse_intint_l.l0 k (n + 1) x.1 x.2.1 x.2.2 := by kernel_rfl
theorem slices_Reverse_intint_l.ev (k : Nat) (x : denA slices_Reverse_intint_l.A) :
    evalF Go.Sh.tt (slices_Reverse_intint_l.tab k) Go.Proofs.Try.f57.ntmps (bodyOf Go.Proofs.Try.f57) Go.Proofs.Try.f57.results.toList slices_Reverse_intint_l.A slices_Reverse_intint_l.B (.seq .nil (.block (slices_Reverse_intint_l.an0 k))) x = slices_Reverse_intint_l k x := by kernel_rfl

theorem natural_Digits.l1_ev (k n : Nat) (x : natural_Digits.M1.den) :
    evalRound Go.Sh.tt (natural_Digits.tab k) Go.Proofs.Try.f34.ntmps (finOf Go.Sh.tt natural_Digits.B Go.Proofs.Try.f34.results.toList) (cAt [1, 1, 1, 1, 0, 0, 0, 1, 0, 1, 1, 1, 0, 0] (bodyOf Go.Proofs.Try.f34)) .nil natural_Digits.M1 natural_Digits.O1 3 (fun x => natural_Digits.l1 k n x.1 x.2.1 x.2.2.1 x.2.2.2.1 x.2.2.2.2.1 x.2.2.2.2.2.1 x.2.2.2.2.2.2.1 x.2.2.2.2.2.2.2) x = natural_Digits.l1 k (n + 1) x.1 x.2.1 x.2.2.1 x.2.2.2.1 x.2.2.2.2.1 x.2.2.2.2.2.1 x.2.2.2.2.2.2.1 x.2.2.2.2.2.2.2 := by kernel_rfl
theorem natural_Digits.l0_ev (k n : Nat) (x : natural_Digits.M0.den) :
    evalRound Go.Sh.tt (natural_Digits.tab k) Go.Proofs.Try.f34.ntmps (finOf Go.Sh.tt natural_Digits.B Go.Proofs.Try.f34.results.toList) (cAt [1, 1, 1, 1, 0, 0, 0] (bodyOf Go.Proofs.Try.f34)) (.seq .nil (.block (.seq .nil (.seq .nil (.seq .nil (.block (natural_Digits.an1 k))))))) natural_Digits.M0 natural_Digits.O0 1 (fun x => natural_Digits.l0 k n x.1 x.2.1 x.2.2.1 x.2.2.2.1 x.2.2.2.2.1 x.2.2.2.2.2) x = natural_Digits.l0 k (n + 1) x.1 x.2.1 x.2.2.1 x.2.2.2.1 x.2.2.2.2.1 x.2.2.2.2.2 := by kernel_rfl
theorem natural_Digits.ev (k : Nat) (x : denA natural_Digits.A) :
    evalF Go.Sh.tt (natural_Digits.tab k) Go.Proofs.Try.f34.ntmps (bodyOf Go.Proofs.Try.f34) Go.Proofs.Try.f34.results.toList natural_Digits.A natural_Digits.B (.seq .nil (.jseq ⟨[.dat 0 (.list (.int .u32)), .dat 1 (.int .i64), .box 72 [.st (.pair (.int .i64) (.int .i64))]], [.ptr 5 72 0]⟩ .nil (.seq .nil (.seq .nil (.seq (.block (natural_Digits.an0 k)) .nil))))) x = natural_Digits k x.1 x.2 := by kernel_rfl

theorem natural_From.l0_ev (k n : Nat) (x : natural_From.M0.den) :
    evalRound Go.Sh.tt (natural_From.tab k) Go.Proofs.Try.f35.ntmps (finOf Go.Sh.tt natural_From.B Go.Proofs.Try.f35.results.toList) (cAt [1, 1, 1, 0, 1, 0, 0] (bodyOf Go.Proofs.Try.f35)) (.seq .nil (.seq .nil (.seq (.block (.seq .nil (.jseq ⟨[.dat 1 (.int .i64), .box 55 [.st (.pair (.int .i64) (.int .i64))], .own 6 (.int .u32), .dat 8 (.int .i64), .dat 16 (.list (.int .i64)), .dat 17 (.int .i64), .dat 18 (.int .i64), .dat 26 (.int .i64), .dat 27 (.int .i64), .dat 28 (.bool)], [.ptr 5 55 0]⟩ .nil .nil))) .nil))) natural_From.M0 natural_From.O0 0 (fun x => natural_From.l0 k n x.1 x.2.1 x.2.2.1 x.2.2.2.1 x.2.2.2.2.1 x.2.2.2.2.2) x = natural_From.l0 k (n + 1) x.1 x.2.1 x.2.2.1 x.2.2.2.1 x.2.2.2.2.1 x.2.2.2.2.2 := by kernel_rfl
theorem natural_From.ev (k : Nat) (x : denA natural_From.A) :
    evalF Go.Sh.tt (natural_From.tab k) Go.Proofs.Try.f35.ntmps (bodyOf Go.Proofs.Try.f35) Go.Proofs.Try.f35.results.toList natural_From.A natural_From.B (.seq .nil (.jseq ⟨[.dat 0 (.list (.int .i64)), .dat 1 (.int .i64), .box 55 [.st (.pair (.int .i64) (.int .i64))]], [.ptr 5 55 0]⟩ .nil (.seq .nil (.seq (.seq .nil (.block (natural_From.an0 k))) .nil)))) x = natural_From k x.1 x.2 := by kernel_rfl

theorem brindlewoodref3_Figures.l1_ev (k n : Nat) (x : brindlewoodref3_Figures.M1.den) :
    evalRound Go.Sh.tt (brindlewoodref3_Figures.tab k) Go.Proofs.Try.f37.ntmps (finOf Go.Sh.tt brindlewoodref3_Figures.B Go.Proofs.Try.f37.results.toList) (cAt [1, 1, 1, 1, 0, 1, 0, 0] (bodyOf Go.Proofs.Try.f37)) .nil brindlewoodref3_Figures.M1 brindlewoodref3_Figures.O1 2 (fun x => brindlewoodref3_Figures.l1 k n x.1 x.2.1 x.2.2) x = brindlewoodref3_Figures.l1 k (n + 1) x.1 x.2.1 x.2.2 := by kernel_rfl
theorem brindlewoodref3_Figures.l0_ev (k n : Nat) (x : brindlewoodref3_Figures.M0.den) :
    evalRound Go.Sh.tt (brindlewoodref3_Figures.tab k) Go.Proofs.Try.f37.ntmps (finOf Go.Sh.tt brindlewoodref3_Figures.B Go.Proofs.Try.f37.results.toList) (cAt [1, 1, 0, 0, 0] (bodyOf Go.Proofs.Try.f37)) .nil brindlewoodref3_Figures.M0 brindlewoodref3_Figures.O0 0 (fun x => brindlewoodref3_Figures.l0 k n x.1 x.2.1 x.2.2) x = brindlewoodref3_Figures.l0 k (n + 1) x.1 x.2.1 x.2.2 := by kernel_rfl
theorem brindlewoodref3_Figures.ev (k : Nat) (x : denA brindlewoodref3_Figures.A) :
    evalF Go.Sh.tt (brindlewoodref3_Figures.tab k) Go.Proofs.Try.f37.ntmps (bodyOf Go.Proofs.Try.f37) Go.Proofs.Try.f37.results.toList brindlewoodref3_Figures.A brindlewoodref3_Figures.B (.seq .nil (.seq .nil (.seq (.block (brindlewoodref3_Figures.an0 k)) (.seq .nil (.seq (.seq .nil (.block (brindlewoodref3_Figures.an1 k))) .nil))))) x = brindlewoodref3_Figures k x.1 x.2 := by kernel_rfl

theorem brindlewoodref3_Numbers.l0_ev (k n : Nat) (x : brindlewoodref3_Numbers.M0.den) :
    evalRound Go.Sh.tt (brindlewoodref3_Numbers.tab k) Go.Proofs.Try.f36.ntmps (finOf Go.Sh.tt brindlewoodref3_Numbers.B Go.Proofs.Try.f36.results.toList) (cAt [1, 1, 0, 1, 0, 0] (bodyOf Go.Proofs.Try.f36)) .nil brindlewoodref3_Numbers.M0 brindlewoodref3_Numbers.O0 0 (fun x => brindlewoodref3_Numbers.l0 k n x.1 x.2.1 x.2.2) x = brindlewoodref3_Numbers.l0 k (n + 1) x.1 x.2.1 x.2.2 := by kernel_rfl
theorem brindlewoodref3_Numbers.ev (k : Nat) (x : denA brindlewoodref3_Numbers.A) :
    evalF Go.Sh.tt (brindlewoodref3_Numbers.tab k) Go.Proofs.Try.f36.ntmps (bodyOf Go.Proofs.Try.f36) Go.Proofs.Try.f36.results.toList brindlewoodref3_Numbers.A brindlewoodref3_Numbers.B (.seq .nil (.seq .nil (.seq (.seq .nil (.block (brindlewoodref3_Numbers.an0 k))) .nil))) x = brindlewoodref3_Numbers k x.1 x.2 := by kernel_rfl

theorem brindlewoodref3_Read.l0_ev (k n : Nat) (x : brindlewoodref3_Read.M0.den) :
    evalRound Go.Sh.tt (brindlewoodref3_Read.tab k) Go.Proofs.Try.f38.ntmps (finOf Go.Sh.tt brindlewoodref3_Read.B Go.Proofs.Try.f38.results.toList) (cAt [1, 1, 0, 1, 0, 0] (bodyOf Go.Proofs.Try.f38)) .nil brindlewoodref3_Read.M0 brindlewoodref3_Read.O0 0 (fun x => brindlewoodref3_Read.l0 k n x.1 x.2.1 x.2.2.1 x.2.2.2) x = brindlewoodref3_Read.l0 k (n + 1) x.1 x.2.1 x.2.2.1 x.2.2.2 := by kernel_rfl
theorem brindlewoodref3_Read.ev (k : Nat) (x : denA brindlewoodref3_Read.A) :
    evalF Go.Sh.tt (brindlewoodref3_Read.tab k) Go.Proofs.Try.f38.ntmps (bodyOf Go.Proofs.Try.f38) Go.Proofs.Try.f38.results.toList brindlewoodref3_Read.A brindlewoodref3_Read.B (.seq .nil (.seq .nil (.seq (.seq .nil (.block (brindlewoodref3_Read.an0 k))) .nil))) x = brindlewoodref3_Read k x.1 x.2 := by kernel_rfl

theorem brindlewoodlaw3_NaturalDigits.l0_ev (k n : Nat) (x : brindlewoodlaw3_NaturalDigits.M0.den) :
    evalRound Go.Sh.tt (brindlewoodlaw3_NaturalDigits.tab k) Go.Proofs.Try.f6.ntmps (finOf Go.Sh.tt brindlewoodlaw3_NaturalDigits.B Go.Proofs.Try.f6.results.toList) (cAt [1, 1, 1, 1, 1, 1, 1, 1, 0, 1, 0, 0] (bodyOf Go.Proofs.Try.f6)) .nil brindlewoodlaw3_NaturalDigits.M0 brindlewoodlaw3_NaturalDigits.O0 0 (fun x => brindlewoodlaw3_NaturalDigits.l0 k n x.1 x.2.1 x.2.2.1 x.2.2.2.1 x.2.2.2.2.1 x.2.2.2.2.2.1 x.2.2.2.2.2.2.1 x.2.2.2.2.2.2.2.1 x.2.2.2.2.2.2.2.2.1 x.2.2.2.2.2.2.2.2.2) x = brindlewoodlaw3_NaturalDigits.l0 k (n + 1) x.1 x.2.1 x.2.2.1 x.2.2.2.1 x.2.2.2.2.1 x.2.2.2.2.2.1 x.2.2.2.2.2.2.1 x.2.2.2.2.2.2.2.1 x.2.2.2.2.2.2.2.2.1 x.2.2.2.2.2.2.2.2.2 := by kernel_rfl
theorem brindlewoodlaw3_NaturalDigits.ev (k : Nat) (x : denA brindlewoodlaw3_NaturalDigits.A) :
    evalF Go.Sh.tt (brindlewoodlaw3_NaturalDigits.tab k) Go.Proofs.Try.f6.ntmps (bodyOf Go.Proofs.Try.f6) Go.Proofs.Try.f6.results.toList brindlewoodlaw3_NaturalDigits.A brindlewoodlaw3_NaturalDigits.B (.seq .nil (.seq .nil (.seq .nil (.seq .nil (.seq .nil (.jseq ⟨[.dat 0 (.list (.int .u32)), .dat 1 (.int .i64), .dat 2 (.list (.int .i64)), .dat 7 (.list (.int .i64)), .box 114 [.st (.pair (.int .i64) (.int .i64))], .dat 9 (.list (.int .u32)), .box 116 [.st (.pair (.int .i64) (.int .i64))], .box 117 [.st (.pair (.int .i64) (.int .i64))]], [.ptr 8 114 0, .ptr 10 116 0, .ptr 11 117 0]⟩ .nil (.seq .nil (.jseq ⟨[.dat 0 (.list (.int .u32)), .dat 1 (.int .i64), .dat 2 (.list (.int .i64)), .dat 7 (.list (.int .i64)), .box 114 [.st (.pair (.int .i64) (.int .i64))], .dat 9 (.list (.int .u32)), .box 116 [.st (.pair (.int .i64) (.int .i64))], .box 117 [.st (.pair (.int .i64) (.int .i64))], .box 118 [.st (.pair (.int .i64) (.int .i64))]], [.ptr 8 114 0, .ptr 10 116 0, .ptr 11 117 0, .ptr 12 118 0]⟩ .nil (.seq (.seq .nil (.block (brindlewoodlaw3_NaturalDigits.an0 k))) (.jseq ⟨[.dat 0 (.list (.int .u32)), .dat 1 (.int .i64), .dat 2 (.list (.int .i64)), .dat 7 (.list (.int .i64)), .dat 9 (.list (.int .u32)), .box 116 [.st (.pair (.int .i64) (.int .i64))], .box 117 [.st (.pair (.int .i64) (.int .i64))], .box 118 [.st (.pair (.int .i64) (.int .i64))]], [.ptr 10 116 0, .ptr 11 117 0, .ptr 12 118 0]⟩ .nil (.jseq ⟨[.dat 1 (.int .i64), .dat 2 (.list (.int .i64)), .dat 9 (.list (.int .u32)), .box 116 [.st (.pair (.int .i64) (.int .i64))], .box 117 [.st (.pair (.int .i64) (.int .i64))]], [.ptr 10 116 0, .ptr 11 117 0]⟩ .nil .nil))))))))))) x = brindlewoodlaw3_NaturalDigits k x.1 x.2.1 x.2.2 := by kernel_rfl

theorem brindlewoodlaw3_NaturalDigitsMove.l0_ev (k n : Nat) (x : brindlewoodlaw3_NaturalDigitsMove.M0.den) :
    evalRound Go.Sh.tt (brindlewoodlaw3_NaturalDigitsMove.tab k) Go.Proofs.Try.f7.ntmps (finOf Go.Sh.tt brindlewoodlaw3_NaturalDigitsMove.B Go.Proofs.Try.f7.results.toList) (cAt [1, 1, 1, 1, 1, 1, 1, 0, 1, 0, 0] (bodyOf Go.Proofs.Try.f7)) .nil brindlewoodlaw3_NaturalDigitsMove.M0 brindlewoodlaw3_NaturalDigitsMove.O0 0 (fun x => brindlewoodlaw3_NaturalDigitsMove.l0 k n x.1 x.2.1 x.2.2.1 x.2.2.2.1 x.2.2.2.2.1 x.2.2.2.2.2.1 x.2.2.2.2.2.2) x = brindlewoodlaw3_NaturalDigitsMove.l0 k (n + 1) x.1 x.2.1 x.2.2.1 x.2.2.2.1 x.2.2.2.2.1 x.2.2.2.2.2.1 x.2.2.2.2.2.2 := by kernel_rfl
theorem brindlewoodlaw3_NaturalDigitsMove.ev (k : Nat) (x : denA brindlewoodlaw3_NaturalDigitsMove.A) :
    evalF Go.Sh.tt (brindlewoodlaw3_NaturalDigitsMove.tab k) Go.Proofs.Try.f7.ntmps (bodyOf Go.Proofs.Try.f7) Go.Proofs.Try.f7.results.toList brindlewoodlaw3_NaturalDigitsMove.A brindlewoodlaw3_NaturalDigitsMove.B (.seq .nil (.seq .nil (.seq .nil (.jseq ⟨[.dat 0 (.list (.int .u32)), .dat 1 (.list (.int .u32)), .dat 2 (.int .i64), .dat 7 (.list (.int .i64)), .box 124 [.st (.pair (.int .i64) (.int .i64))], .dat 9 (.list (.int .i64)), .box 126 [.st (.pair (.int .i64) (.int .i64))]], [.ptr 8 124 0, .ptr 10 126 0]⟩ .nil (.seq (.jseq ⟨[.dat 0 (.list (.int .u32)), .dat 1 (.list (.int .u32)), .dat 2 (.int .i64), .dat 7 (.list (.int .i64)), .box 124 [.st (.pair (.int .i64) (.int .i64))], .dat 9 (.list (.int .i64)), .box 126 [.st (.pair (.int .i64) (.int .i64))], .dat 48 (.bool)], [.ptr 8 124 0, .ptr 10 126 0]⟩ .nil .nil) (.seq .nil (.seq .nil (.seq (.seq .nil (.block (brindlewoodlaw3_NaturalDigitsMove.an0 k))) .nil)))))))) x = brindlewoodlaw3_NaturalDigitsMove k x.1 x.2.1 x.2.2 := by kernel_rfl
end Go.Sh
