/- The evaluator's answers are those of the plain functions, by wip/gen/gen.py.  Conditions: none. -/
import Derived.Test.YtjimnjkgpdoacaaShD
set_option linter.unusedVariables false
set_option maxRecDepth 100000
set_option maxHeartbeats 0
namespace Go.Sh
open Go Go.Ev

theorem integer_Of.l0_ev (k n : Nat) (x : integer_Of.M0.den) :
    evalRound Go.Sh.tt (integer_Of.tab k) Go.Proofs.Try.f17.ntmps (finOf Go.Sh.tt integer_Of.B Go.Proofs.Try.f17.results.toList) (cAt [1, 1, 1, 1, 0, 0, 0] (bodyOf Go.Proofs.Try.f17)) .nil integer_Of.M0 integer_Of.O0 0 (fun x => integer_Of.l0 k n x.1 x.2.1 x.2.2) x = integer_Of.l0 k (n + 1) x.1 x.2.1 x.2.2 := by kernel_rfl
theorem integer_Of.ev (k : Nat) (x : denA integer_Of.A) :
    evalF Go.Sh.tt (integer_Of.tab k) Go.Proofs.Try.f17.ntmps (bodyOf Go.Proofs.Try.f17) Go.Proofs.Try.f17.results.toList integer_Of.A integer_Of.B (.seq .nil (.seq .nil (.jseq ⟨[.dat 0 (.int .i64), .box 40 [.st (.pair (.bool) (.list (.int .u32)))], .dat 3 (.int .u64)], [.ptr 2 40 0]⟩ .nil (.seq .nil (.seq (.block (integer_Of.an0 k)) .nil))))) x = integer_Of k x := by kernel_rfl

theorem integer_Valid.ev  (x : denA integer_Valid.A) :
    evalF Go.Sh.tt (integer_Valid.tab) Go.Proofs.Try.f36.ntmps (bodyOf Go.Proofs.Try.f36) Go.Proofs.Try.f36.results.toList integer_Valid.A integer_Valid.B .nil x = integer_Valid x := by kernel_rfl

theorem integer_at.ev  (x : denA integer_at.A) :
    evalF Go.Sh.tt (integer_at.tab) Go.Proofs.Try.f75.ntmps (bodyOf Go.Proofs.Try.f75) Go.Proofs.Try.f75.results.toList integer_at.A integer_at.B .nil x = integer_at x.1 x.2 := by kernel_rfl

theorem integer_check.l0_ev (k n : Nat) (x : integer_check.M0.den) :
    evalRound Go.Sh.tt (integer_check.tab k) Go.Proofs.Try.f51.ntmps (finOf Go.Sh.tt integer_check.B Go.Proofs.Try.f51.results.toList) (cAt [1, 0, 1, 0, 0] (bodyOf Go.Proofs.Try.f51)) .nil integer_check.M0 integer_check.O0 0 (fun x => integer_check.l0 k n x.1 x.2.1 x.2.2.1 x.2.2.2) x = integer_check.l0 k (n + 1) x.1 x.2.1 x.2.2.1 x.2.2.2 := by kernel_rfl
theorem integer_check.ev (k : Nat) (x : denA integer_check.A) :
    evalF Go.Sh.tt (integer_check.tab k) Go.Proofs.Try.f51.ntmps (bodyOf Go.Proofs.Try.f51) Go.Proofs.Try.f51.results.toList integer_check.A integer_check.B (.seq .nil (.seq (.seq .nil (.block (integer_check.an0 k))) .nil)) x = integer_check k x := by kernel_rfl

theorem natural_Valid.ev  (x : denA natural_Valid.A) :
    evalF Go.Sh.tt (natural_Valid.tab) Go.Proofs.Try.f91.ntmps (bodyOf Go.Proofs.Try.f91) Go.Proofs.Try.f91.results.toList natural_Valid.A natural_Valid.B .nil x = natural_Valid x := by kernel_rfl

theorem natural_at.ev  (x : denA natural_at.A) :
    evalF Go.Sh.tt (natural_at.tab) Go.Proofs.Try.f78.ntmps (bodyOf Go.Proofs.Try.f78) Go.Proofs.Try.f78.results.toList natural_at.A natural_at.B .nil x = natural_at x.1 x.2 := by kernel_rfl

theorem natural_check.ev  (x : denA natural_check.A) :
    evalF Go.Sh.tt (natural_check.tab) Go.Proofs.Try.f76.ntmps (bodyOf Go.Proofs.Try.f76) Go.Proofs.Try.f76.results.toList natural_check.A natural_check.B .nil x = natural_check x.1 x.2 := by kernel_rfl

theorem natural_compare.l0_ev (k n : Nat) (x : natural_compare.M0.den) :
    evalRound Go.Sh.tt (natural_compare.tab k) Go.Proofs.Try.f77.ntmps (finOf Go.Sh.tt natural_compare.B Go.Proofs.Try.f77.results.toList) (cAt [1, 1, 0, 1, 0, 0] (bodyOf Go.Proofs.Try.f77)) .nil natural_compare.M0 natural_compare.O0 0 (fun x => natural_compare.l0 k n x.1 x.2.1 x.2.2) x = natural_compare.l0 k (n + 1) x.1 x.2.1 x.2.2 := by kernel_rfl
theorem natural_compare.ev (k : Nat) (x : denA natural_compare.A) :
    evalF Go.Sh.tt (natural_compare.tab k) Go.Proofs.Try.f77.ntmps (bodyOf Go.Proofs.Try.f77) Go.Proofs.Try.f77.results.toList natural_compare.A natural_compare.B (.seq .nil (.seq .nil (.seq (.seq .nil (.block (natural_compare.an0 k))) .nil))) x = natural_compare k x.1 x.2 := by kernel_rfl



theorem bits_Div32.ev  (x : denA bits_Div32.A) :
    evalF Go.Sh.tt (bits_Div32.tab) Go.Proofs.Try.f101.ntmps (bodyOf Go.Proofs.Try.f101) Go.Proofs.Try.f101.results.toList bits_Div32.A bits_Div32.B (.seq .nil (.jseq ⟨[.dat 0 (.int .u32), .dat 1 (.int .u32), .dat 2 (.int .u32)], []⟩ .nil .nil)) x = bits_Div32 x.1 x.2.1 x.2.2 := by kernel_rfl

theorem natural_trim_v.l0_ev (k n : Nat) (x : natural_trim_v.M0.den) :
    evalRound Go.Sh.tt (natural_trim_v.tab k) Go.Proofs.Try.f94.ntmps (finOf Go.Sh.tt natural_trim_v.B Go.Proofs.Try.f94.results.toList) (cAt [1, 0, 0, 0] (bodyOf Go.Proofs.Try.f94)) .nil natural_trim_v.M0 natural_trim_v.O0 0 (fun x => natural_trim_v.l0 k n x.1 x.2) x = natural_trim_v.l0 k (n + 1) x.1 x.2 := by kernel_rfl
theorem natural_trim_v.ev (k : Nat) (x : denA natural_trim_v.A) :
    evalF Go.Sh.tt (natural_trim_v.tab k) Go.Proofs.Try.f94.ntmps (bodyOf Go.Proofs.Try.f94) Go.Proofs.Try.f94.results.toList natural_trim_v.A natural_trim_v.B (.seq .nil (.seq (.block (natural_trim_v.an0 k)) .nil)) x = natural_trim_v k x := by kernel_rfl

theorem natural_short.l0_ev (k n : Nat) (x : natural_short.M0.den) :
    evalRound Go.Sh.tt (natural_short.tab k) Go.Proofs.Try.f98.ntmps (finOf Go.Sh.tt natural_short.B Go.Proofs.Try.f98.results.toList) (cAt [1, 1, 1, 0, 1, 0, 0] (bodyOf Go.Proofs.Try.f98)) .nil natural_short.M0 natural_short.O0 0 (fun x => natural_short.l0 k n x.1 x.2.1 x.2.2.1 x.2.2.2.1 x.2.2.2.2) x = natural_short.l0 k (n + 1) x.1 x.2.1 x.2.2.1 x.2.2.2.1 x.2.2.2.2 := by kernel_rfl
theorem natural_short.ev (k : Nat) (x : denA natural_short.A) :
    evalF Go.Sh.tt (natural_short.tab k) Go.Proofs.Try.f98.ntmps (bodyOf Go.Proofs.Try.f98) Go.Proofs.Try.f98.results.toList natural_short.A natural_short.B (.seq .nil (.seq .nil (.seq .nil (.seq (.seq .nil (.block (natural_short.an0 k))) .nil)))) x = natural_short k x.1 x.2 := by kernel_rfl

theorem bits_Len32.ev  (x : denA bits_Len32.A) :
    evalF Go.Sh.tt (bits_Len32.tab) Go.Proofs.Try.f95.ntmps (bodyOf Go.Proofs.Try.f95) Go.Proofs.Try.f95.results.toList bits_Len32.A bits_Len32.B (.seq .nil (.jseq ⟨[.dat 0 (.int .u32), .dat 2 (.int .i64)], []⟩ .nil .nil)) x = bits_Len32 x := by kernel_rfl

theorem bits_LeadingZeros32.ev  (x : denA bits_LeadingZeros32.A) :
    evalF Go.Sh.tt (bits_LeadingZeros32.tab) Go.Proofs.Try.f102.ntmps (bodyOf Go.Proofs.Try.f102) Go.Proofs.Try.f102.results.toList bits_LeadingZeros32.A bits_LeadingZeros32.B .nil x = bits_LeadingZeros32 x := by kernel_rfl

theorem natural_left.l0_ev (k n : Nat) (x : natural_left.M0.den) :
    evalRound Go.Sh.tt (natural_left.tab k) Go.Proofs.Try.f82.ntmps (finOf Go.Sh.tt natural_left.B Go.Proofs.Try.f82.results.toList) (cAt [1, 1, 1, 0, 1, 0, 0] (bodyOf Go.Proofs.Try.f82)) .nil natural_left.M0 natural_left.O0 0 (fun x => natural_left.l0 k n x.1 x.2.1 x.2.2.1 x.2.2.2.1 x.2.2.2.2.1 x.2.2.2.2.2) x = natural_left.l0 k (n + 1) x.1 x.2.1 x.2.2.1 x.2.2.2.1 x.2.2.2.2.1 x.2.2.2.2.2 := by kernel_rfl
theorem natural_left.ev (k : Nat) (x : denA natural_left.A) :
    evalF Go.Sh.tt (natural_left.tab k) Go.Proofs.Try.f82.ntmps (bodyOf Go.Proofs.Try.f82) Go.Proofs.Try.f82.results.toList natural_left.A natural_left.B (.seq .nil (.seq .nil (.seq .nil (.seq (.seq .nil (.block (natural_left.an0 k))) .nil)))) x = natural_left k x.1 x.2 := by kernel_rfl

theorem bits_Sub32.ev  (x : denA bits_Sub32.A) :
    evalF Go.Sh.tt (bits_Sub32.tab) Go.Proofs.Try.f93.ntmps (bodyOf Go.Proofs.Try.f93) Go.Proofs.Try.f93.results.toList bits_Sub32.A bits_Sub32.B .nil x = bits_Sub32 x.1 x.2.1 x.2.2 := by kernel_rfl

theorem bits_Add32.ev  (x : denA bits_Add32.A) :
    evalF Go.Sh.tt (bits_Add32.tab) Go.Proofs.Try.f104.ntmps (bodyOf Go.Proofs.Try.f104) Go.Proofs.Try.f104.results.toList bits_Add32.A bits_Add32.B .nil x = bits_Add32 x.1 x.2.1 x.2.2 := by kernel_rfl

theorem natural_digit_ld.l2_ev (k n : Nat) (x : natural_digit_ld.M2.den) :
    evalRound Go.Sh.tt (natural_digit_ld.tab k) Go.Proofs.Try.f103.ntmps (finOf Go.Sh.tt natural_digit_ld.B Go.Proofs.Try.f103.results.toList) (cAt [1, 1, 1, 1, 1, 1, 1, 0, 1, 0, 1, 1, 0, 1, 0, 0] (bodyOf Go.Proofs.Try.f103)) .nil natural_digit_ld.M2 natural_digit_ld.O2 4 (fun x => natural_digit_ld.l2 k n x.1 x.2.1 x.2.2.1 x.2.2.2.1 x.2.2.2.2.1 x.2.2.2.2.2.1 x.2.2.2.2.2.2) x = natural_digit_ld.l2 k (n + 1) x.1 x.2.1 x.2.2.1 x.2.2.2.1 x.2.2.2.2.1 x.2.2.2.2.2.1 x.2.2.2.2.2.2 := by kernel_rfl
theorem natural_digit_ld.l1_ev (k n : Nat) (x : natural_digit_ld.M1.den) :
    evalRound Go.Sh.tt (natural_digit_ld.tab k) Go.Proofs.Try.f103.ntmps (finOf Go.Sh.tt natural_digit_ld.B Go.Proofs.Try.f103.results.toList) (cAt [1, 1, 1, 1, 1, 1, 0, 1, 0, 0] (bodyOf Go.Proofs.Try.f103)) (.seq .nil (.seq .nil (.seq (.block (.seq .nil (.jseq ⟨[.blk 0 (.int .u32) 1, .dat 1 (.list (.int .u32)), .dat 5 (.int .i64), .dat 8 (.int .u64), .dat 10 (.int .u64), .dat 11 (.int .u32), .dat 12 (.int .i64), .dat 74 (.int .i64), .dat 75 (.int .i64)], [.ref 0 0]⟩ .nil .nil))) .nil))) natural_digit_ld.M1 natural_digit_ld.O1 2 (fun x => natural_digit_ld.l1 k n x.1 x.2.1 x.2.2.1 x.2.2.2.1 x.2.2.2.2.1 x.2.2.2.2.2.1 x.2.2.2.2.2.2.1 x.2.2.2.2.2.2.2) x = natural_digit_ld.l1 k (n + 1) x.1 x.2.1 x.2.2.1 x.2.2.2.1 x.2.2.2.2.1 x.2.2.2.2.2.1 x.2.2.2.2.2.2.1 x.2.2.2.2.2.2.2 := by kernel_rfl
theorem natural_digit_ld.l0_ev (k n : Nat) (x : natural_digit_ld.M0.den) :
    evalRound Go.Sh.tt (natural_digit_ld.tab k) Go.Proofs.Try.f103.ntmps (finOf Go.Sh.tt natural_digit_ld.B Go.Proofs.Try.f103.results.toList) (cAt [1, 1, 1, 1, 0, 0, 0] (bodyOf Go.Proofs.Try.f103)) .nil natural_digit_ld.M0 natural_digit_ld.O0 0 (fun x => natural_digit_ld.l0 k n x.1 x.2.1 x.2.2.1 x.2.2.2.1 x.2.2.2.2.1 x.2.2.2.2.2) x = natural_digit_ld.l0 k (n + 1) x.1 x.2.1 x.2.2.1 x.2.2.2.1 x.2.2.2.2.1 x.2.2.2.2.2 := by kernel_rfl
theorem natural_digit_ld.ev (k : Nat) (x : denA natural_digit_ld.A) :
    evalF Go.Sh.tt (natural_digit_ld.tab k) Go.Proofs.Try.f103.ntmps (bodyOf Go.Proofs.Try.f103) Go.Proofs.Try.f103.results.toList natural_digit_ld.A natural_digit_ld.B (.seq .nil (.seq .nil (.seq .nil (.seq .nil (.seq (.block (natural_digit_ld.an0 k)) (.seq .nil (.seq (.seq .nil (.block (natural_digit_ld.an1 k))) (.seq (.seq .nil (.cond (.seq .nil (.seq .nil (.seq (.seq .nil (.block (natural_digit_ld.an2 k))) .nil))) .nil)) .nil)))))))) x = natural_digit_ld k x.1 x.2 := by kernel_rfl

theorem natural_right.l0_ev (k n : Nat) (x : natural_right.M0.den) :
    evalRound Go.Sh.tt (natural_right.tab k) Go.Proofs.Try.f81.ntmps (finOf Go.Sh.tt natural_right.B Go.Proofs.Try.f81.results.toList) (cAt [1, 1, 0, 1, 0, 0] (bodyOf Go.Proofs.Try.f81)) .nil natural_right.M0 natural_right.O0 0 (fun x => natural_right.l0 k n x.1 x.2.1 x.2.2.1 x.2.2.2) x = natural_right.l0 k (n + 1) x.1 x.2.1 x.2.2.1 x.2.2.2 := by kernel_rfl
theorem natural_right.ev (k : Nat) (x : denA natural_right.A) :
    evalF Go.Sh.tt (natural_right.tab k) Go.Proofs.Try.f81.ntmps (bodyOf Go.Proofs.Try.f81) Go.Proofs.Try.f81.results.toList natural_right.A natural_right.B (.seq .nil (.seq .nil (.seq (.seq .nil (.block (natural_right.an0 k))) .nil))) x = natural_right k x.1 x.2 := by kernel_rfl

theorem natural_divide.l1_ev (k n : Nat) (x : natural_divide.M1.den) :
    evalRound Go.Sh.tt (natural_divide.tab k) Go.Proofs.Try.f100.ntmps (finOf Go.Sh.tt natural_divide.B Go.Proofs.Try.f100.results.toList) (cAt [1, 1, 1, 1, 1, 1, 0, 1, 0, 0] (bodyOf Go.Proofs.Try.f100)) .nil natural_divide.M1 natural_divide.O1 2 (fun x => natural_divide.l1 k n x.1 x.2.1 x.2.2.1 x.2.2.2.1 x.2.2.2.2.1 x.2.2.2.2.2) x = natural_divide.l1 k (n + 1) x.1 x.2.1 x.2.2.1 x.2.2.2.1 x.2.2.2.2.1 x.2.2.2.2.2 := by kernel_rfl
theorem natural_divide.l0_ev (k n : Nat) (x : natural_divide.M0.den) :
    evalRound Go.Sh.tt (natural_divide.tab k) Go.Proofs.Try.f100.ntmps (finOf Go.Sh.tt natural_divide.B Go.Proofs.Try.f100.results.toList) (cAt [1, 1, 1, 1, 0, 0, 0] (bodyOf Go.Proofs.Try.f100)) .nil natural_divide.M0 natural_divide.O0 0 (fun x => natural_divide.l0 k n x.1 x.2.1 x.2.2.1 x.2.2.2.1 x.2.2.2.2) x = natural_divide.l0 k (n + 1) x.1 x.2.1 x.2.2.1 x.2.2.2.1 x.2.2.2.2 := by kernel_rfl
theorem natural_divide.ev (k : Nat) (x : denA natural_divide.A) :
    evalF Go.Sh.tt (natural_divide.tab k) Go.Proofs.Try.f100.ntmps (bodyOf Go.Proofs.Try.f100) Go.Proofs.Try.f100.results.toList natural_divide.A natural_divide.B (.seq .nil (.seq .nil (.seq .nil (.seq .nil (.seq (.block (natural_divide.an0 k)) (.seq .nil (.seq (.seq .nil (.block (natural_divide.an1 k))) .nil))))))) x = natural_divide k x.1 x.2 := by kernel_rfl

theorem natural_divMod.ev (k : Nat) (x : denA natural_divMod.A) :
    evalF Go.Sh.tt (natural_divMod.tab k) Go.Proofs.Try.f96.ntmps (bodyOf Go.Proofs.Try.f96) Go.Proofs.Try.f96.results.toList natural_divMod.A natural_divMod.B .nil x = natural_divMod k x.1 x.2 := by kernel_rfl

theorem natural_DivMod.ev (k : Nat) (x : denA natural_DivMod.A) :
    evalF Go.Sh.tt (natural_DivMod.tab k) Go.Proofs.Try.f85.ntmps (bodyOf Go.Proofs.Try.f85) Go.Proofs.Try.f85.results.toList natural_DivMod.A natural_DivMod.B .nil x = natural_DivMod k x.1 x.2 := by kernel_rfl

theorem natural_add.l0_ev (k n : Nat) (x : natural_add.M0.den) :
    evalRound Go.Sh.tt (natural_add.tab k) Go.Proofs.Try.f84.ntmps (finOf Go.Sh.tt natural_add.B Go.Proofs.Try.f84.results.toList) (cAt [1, 1, 1, 1, 0, 1, 0, 0] (bodyOf Go.Proofs.Try.f84)) .nil natural_add.M0 natural_add.O0 0 (fun x => natural_add.l0 k n x.1 x.2.1 x.2.2.1 x.2.2.2.1 x.2.2.2.2.1 x.2.2.2.2.2) x = natural_add.l0 k (n + 1) x.1 x.2.1 x.2.2.1 x.2.2.2.1 x.2.2.2.2.1 x.2.2.2.2.2 := by kernel_rfl
theorem natural_add.ev (k : Nat) (x : denA natural_add.A) :
    evalF Go.Sh.tt (natural_add.tab k) Go.Proofs.Try.f84.ntmps (bodyOf Go.Proofs.Try.f84) Go.Proofs.Try.f84.results.toList natural_add.A natural_add.B (.seq .nil (.jseq ⟨[.dat 0 (.list (.int .u32)), .dat 1 (.list (.int .u32))], []⟩ .nil (.seq .nil (.seq .nil (.seq (.seq .nil (.block (natural_add.an0 k))) .nil))))) x = natural_add k x.1 x.2 := by kernel_rfl

theorem natural_trim.l0_ev (k n : Nat) (x : natural_trim.M0.den) :
    evalRound Go.Sh.tt (natural_trim.tab k) Go.Proofs.Try.f94.ntmps (finOf Go.Sh.tt natural_trim.B Go.Proofs.Try.f94.results.toList) (cAt [1, 0, 0, 0] (bodyOf Go.Proofs.Try.f94)) .nil natural_trim.M0 natural_trim.O0 0 (fun x => natural_trim.l0 k n x) x = natural_trim.l0 k (n + 1) x := by kernel_rfl
theorem natural_trim.ev (k : Nat) (x : denA natural_trim.A) :
    evalF Go.Sh.tt (natural_trim.tab k) Go.Proofs.Try.f94.ntmps (bodyOf Go.Proofs.Try.f94) Go.Proofs.Try.f94.results.toList natural_trim.A natural_trim.B (.seq .nil (.seq (.block (natural_trim.an0 k)) .nil)) x = natural_trim k x := by kernel_rfl

theorem natural_fit.ev (k : Nat) (x : denA natural_fit.A) :
    evalF Go.Sh.tt (natural_fit.tab k) Go.Proofs.Try.f83.ntmps (bodyOf Go.Proofs.Try.f83) Go.Proofs.Try.f83.results.toList natural_fit.A natural_fit.B .nil x = natural_fit k x := by kernel_rfl

theorem natural_Add.ev (k : Nat) (x : denA natural_Add.A) :
    evalF Go.Sh.tt (natural_Add.tab k) Go.Proofs.Try.f54.ntmps (bodyOf Go.Proofs.Try.f54) Go.Proofs.Try.f54.results.toList natural_Add.A natural_Add.B .nil x = natural_Add k x.1 x.2 := by kernel_rfl

theorem natural_sub.l0_ev (k n : Nat) (x : natural_sub.M0.den) :
    evalRound Go.Sh.tt (natural_sub.tab k) Go.Proofs.Try.f79.ntmps (finOf Go.Sh.tt natural_sub.B Go.Proofs.Try.f79.results.toList) (cAt [1, 1, 1, 0, 1, 0, 0] (bodyOf Go.Proofs.Try.f79)) (.seq .nil (.seq .nil (.seq (.block (.seq .nil (.seq .nil (.jseq ⟨[.dat 1 (.list (.int .u32)), .own 5 (.int .u32), .dat 6 (.int .u32), .dat 7 (.int .i64), .dat 8 (.int .u32), .dat 12 (.int .i64), .dat 13 (.int .i64)], []⟩ .nil .nil)))) .nil))) natural_sub.M0 natural_sub.O0 0 (fun x => natural_sub.l0 k n x.1 x.2.1 x.2.2.1 x.2.2.2.1 x.2.2.2.2) x = natural_sub.l0 k (n + 1) x.1 x.2.1 x.2.2.1 x.2.2.2.1 x.2.2.2.2 := by kernel_rfl
theorem natural_sub.ev (k : Nat) (x : denA natural_sub.A) :
    evalF Go.Sh.tt (natural_sub.tab k) Go.Proofs.Try.f79.ntmps (bodyOf Go.Proofs.Try.f79) Go.Proofs.Try.f79.results.toList natural_sub.A natural_sub.B (.seq .nil (.seq .nil (.seq .nil (.seq (.seq .nil (.block (natural_sub.an0 k))) .nil)))) x = natural_sub k x.1 x.2 := by kernel_rfl

theorem natural_Sub.ev (k : Nat) (x : denA natural_Sub.A) :
    evalF Go.Sh.tt (natural_Sub.tab k) Go.Proofs.Try.f52.ntmps (bodyOf Go.Proofs.Try.f52) Go.Proofs.Try.f52.results.toList natural_Sub.A natural_Sub.B .nil x = natural_Sub k x.1 x.2 := by kernel_rfl

theorem integer_signed.ev  (x : denA integer_signed.A) :
    evalF Go.Sh.tt (integer_signed.tab) Go.Proofs.Try.f55.ntmps (bodyOf Go.Proofs.Try.f55) Go.Proofs.Try.f55.results.toList integer_signed.A integer_signed.B .nil x = integer_signed x.1 x.2 := by kernel_rfl

theorem integer_DivMod.ev (k : Nat) (x : denA integer_DivMod.A) :
    evalF Go.Sh.tt (integer_DivMod.tab k) Go.Proofs.Try.f56.ntmps (bodyOf Go.Proofs.Try.f56) Go.Proofs.Try.f56.results.toList integer_DivMod.A integer_DivMod.B (.seq .nil (.seq .nil (.seq .nil (.seq .nil (.jseq ⟨[.box 90 [.st (.pair (.bool) (.list (.int .u32)))], .box 91 [.st (.pair (.bool) (.list (.int .u32)))], .box 92 [.st (.pair (.bool) (.list (.int .u32)))], .box 93 [.st (.pair (.bool) (.list (.int .u32)))], .box 94 [.st (.pair (.int .i64) (.int .i64))], .dat 8 (.list (.int .u32)), .dat 9 (.list (.int .u32)), .box 98 [.st (.pair (.int .i64) (.int .i64))]], [.ptr 2 90 0, .ptr 3 91 0, .ptr 4 92 0, .ptr 5 93 0, .ptr 6 94 0, .ptr 10 98 0]⟩ (.jseq ⟨[.box 90 [.st (.pair (.bool) (.list (.int .u32)))], .box 91 [.st (.pair (.bool) (.list (.int .u32)))], .box 92 [.st (.pair (.bool) (.list (.int .u32)))], .box 93 [.st (.pair (.bool) (.list (.int .u32)))], .box 94 [.st (.pair (.int .i64) (.int .i64))], .dat 8 (.list (.int .u32)), .dat 9 (.list (.int .u32)), .box 98 [.st (.pair (.int .i64) (.int .i64))], .dat 48 (.bool)], [.ptr 2 90 0, .ptr 3 91 0, .ptr 4 92 0, .ptr 5 93 0, .ptr 6 94 0, .ptr 10 98 0]⟩ .nil .nil) .nil))))) x = integer_DivMod k x.1 x.2 := by kernel_rfl

theorem natural_chunk.l0_ev (k n : Nat) (x : natural_chunk.M0.den) :
    evalRound Go.Sh.tt (natural_chunk.tab k) Go.Proofs.Try.f97.ntmps (finOf Go.Sh.tt natural_chunk.B Go.Proofs.Try.f97.results.toList) (cAt [1, 1, 0, 0, 0] (bodyOf Go.Proofs.Try.f97)) .nil natural_chunk.M0 natural_chunk.O0 0 (fun x => natural_chunk.l0 k n x.1 x.2.1 x.2.2) x = natural_chunk.l0 k (n + 1) x.1 x.2.1 x.2.2 := by kernel_rfl
theorem natural_chunk.ev (k : Nat) (x : denA natural_chunk.A) :
    evalF Go.Sh.tt (natural_chunk.tab k) Go.Proofs.Try.f97.ntmps (bodyOf Go.Proofs.Try.f97) Go.Proofs.Try.f97.results.toList natural_chunk.A natural_chunk.B (.seq .nil (.seq .nil (.seq (.block (natural_chunk.an0 k)) .nil))) x = natural_chunk k x := by kernel_rfl

theorem slices_Reverse_intint_l.l0_ev (k n : Nat) (x : slices_Reverse_intint_l.M0.den) :
    evalRound Go.Sh.tt (slices_Reverse_intint_l.tab k) Go.Proofs.Try.f99.ntmps (finOf Go.Sh.tt slices_Reverse_intint_l.B Go.Proofs.Try.f99.results.toList) (cAt [1, 0, 0] (bodyOf Go.Proofs.Try.f99)) .nil slices_Reverse_intint_l.M0 slices_Reverse_intint_l.O0 0 (fun x => slices_Reverse_intint_l.l0 k n x.1 x.2.1 x.2.2) x = slices_Reverse_intint_l.l0 k (n + 1) x.1 x.2.1 x.2.2 := by kernel_rfl
theorem slices_Reverse_intint_l.ev (k : Nat) (x : denA slices_Reverse_intint_l.A) :
    evalF Go.Sh.tt (slices_Reverse_intint_l.tab k) Go.Proofs.Try.f99.ntmps (bodyOf Go.Proofs.Try.f99) Go.Proofs.Try.f99.results.toList slices_Reverse_intint_l.A slices_Reverse_intint_l.B (.seq .nil (.block (slices_Reverse_intint_l.an0 k))) x = slices_Reverse_intint_l k x := by kernel_rfl

theorem natural_Digits.l1_ev (k n : Nat) (x : natural_Digits.M1.den) :
    evalRound Go.Sh.tt (natural_Digits.tab k) Go.Proofs.Try.f86.ntmps (finOf Go.Sh.tt natural_Digits.B Go.Proofs.Try.f86.results.toList) (cAt [1, 1, 1, 1, 0, 0, 0, 1, 0, 1, 1, 1, 0, 0] (bodyOf Go.Proofs.Try.f86)) .nil natural_Digits.M1 natural_Digits.O1 3 (fun x => natural_Digits.l1 k n x.1 x.2.1 x.2.2.1 x.2.2.2.1 x.2.2.2.2.1 x.2.2.2.2.2.1 x.2.2.2.2.2.2.1 x.2.2.2.2.2.2.2) x = natural_Digits.l1 k (n + 1) x.1 x.2.1 x.2.2.1 x.2.2.2.1 x.2.2.2.2.1 x.2.2.2.2.2.1 x.2.2.2.2.2.2.1 x.2.2.2.2.2.2.2 := by kernel_rfl
theorem natural_Digits.l0_ev (k n : Nat) (x : natural_Digits.M0.den) :
    evalRound Go.Sh.tt (natural_Digits.tab k) Go.Proofs.Try.f86.ntmps (finOf Go.Sh.tt natural_Digits.B Go.Proofs.Try.f86.results.toList) (cAt [1, 1, 1, 1, 0, 0, 0] (bodyOf Go.Proofs.Try.f86)) (.seq .nil (.block (.seq .nil (.seq .nil (.seq .nil (.block (natural_Digits.an1 k))))))) natural_Digits.M0 natural_Digits.O0 1 (fun x => natural_Digits.l0 k n x.1 x.2.1 x.2.2.1 x.2.2.2.1 x.2.2.2.2.1 x.2.2.2.2.2) x = natural_Digits.l0 k (n + 1) x.1 x.2.1 x.2.2.1 x.2.2.2.1 x.2.2.2.2.1 x.2.2.2.2.2 := by kernel_rfl
theorem natural_Digits.ev (k : Nat) (x : denA natural_Digits.A) :
    evalF Go.Sh.tt (natural_Digits.tab k) Go.Proofs.Try.f86.ntmps (bodyOf Go.Proofs.Try.f86) Go.Proofs.Try.f86.results.toList natural_Digits.A natural_Digits.B (.seq .nil (.jseq ⟨[.dat 0 (.list (.int .u32)), .dat 1 (.int .i64), .box 72 [.st (.pair (.int .i64) (.int .i64))]], [.ptr 5 72 0]⟩ .nil (.seq .nil (.seq .nil (.seq (.block (natural_Digits.an0 k)) .nil))))) x = natural_Digits k x.1 x.2 := by kernel_rfl

theorem integer_Text.l0_ev (k n : Nat) (x : integer_Text.M0.den) :
    evalRound Go.Sh.tt (integer_Text.tab k) Go.Proofs.Try.f57.ntmps (finOf Go.Sh.tt integer_Text.B Go.Proofs.Try.f57.results.toList) (cAt [1, 1, 1, 1, 1, 1, 0, 1, 0, 0] (bodyOf Go.Proofs.Try.f57)) .nil integer_Text.M0 integer_Text.O0 0 (fun x => integer_Text.l0 k n x.1 x.2.1 x.2.2.1 x.2.2.2.1 x.2.2.2.2.1 x.2.2.2.2.2) x = integer_Text.l0 k (n + 1) x.1 x.2.1 x.2.2.1 x.2.2.2.1 x.2.2.2.2.1 x.2.2.2.2.2 := by kernel_rfl
theorem integer_Text.ev (k : Nat) (x : denA integer_Text.A) :
    evalF Go.Sh.tt (integer_Text.tab k) Go.Proofs.Try.f57.ntmps (bodyOf Go.Proofs.Try.f57) Go.Proofs.Try.f57.results.toList integer_Text.A integer_Text.B (.seq .nil (.seq .nil (.seq .nil (.seq .nil (.seq .nil (.jseq ⟨[.box 61 [.st (.pair (.int .i64) (.int .i64))], .dat 7 (.list (.int .i64)), .own 9 (.int .u8)], [.ptr 5 61 0]⟩ .nil (.seq (.seq .nil (.block (integer_Text.an0 k))) .nil))))))) x = integer_Text k x.1 x.2 := by kernel_rfl

theorem brindlewoodref3_trim_v.l0_ev (k n : Nat) (x : brindlewoodref3_trim_v.M0.den) :
    evalRound Go.Sh.tt (brindlewoodref3_trim_v.tab k) Go.Proofs.Try.f88.ntmps (finOf Go.Sh.tt brindlewoodref3_trim_v.B Go.Proofs.Try.f88.results.toList) (cAt [1, 0, 0, 0] (bodyOf Go.Proofs.Try.f88)) .nil brindlewoodref3_trim_v.M0 brindlewoodref3_trim_v.O0 0 (fun x => brindlewoodref3_trim_v.l0 k n x.1 x.2) x = brindlewoodref3_trim_v.l0 k (n + 1) x.1 x.2 := by kernel_rfl
theorem brindlewoodref3_trim_v.ev (k : Nat) (x : denA brindlewoodref3_trim_v.A) :
    evalF Go.Sh.tt (brindlewoodref3_trim_v.tab k) Go.Proofs.Try.f88.ntmps (bodyOf Go.Proofs.Try.f88) Go.Proofs.Try.f88.results.toList brindlewoodref3_trim_v.A brindlewoodref3_trim_v.B (.seq .nil (.seq (.block (brindlewoodref3_trim_v.an0 k)) .nil)) x = brindlewoodref3_trim_v k x := by kernel_rfl

theorem brindlewoodref3_Binary.l1_ev (k n : Nat) (x : brindlewoodref3_Binary.M1.den) :
    evalRound Go.Sh.tt (brindlewoodref3_Binary.tab k) Go.Proofs.Try.f64.ntmps (finOf Go.Sh.tt brindlewoodref3_Binary.B Go.Proofs.Try.f64.results.toList) (cAt [1, 1, 0, 1, 0, 0, 1, 0, 0, 1, 0, 1, 0, 0] (bodyOf Go.Proofs.Try.f64)) .nil brindlewoodref3_Binary.M1 brindlewoodref3_Binary.O1 2 (fun x => brindlewoodref3_Binary.l1 k n x.1 x.2.1 x.2.2.1 x.2.2.2.1 x.2.2.2.2) x = brindlewoodref3_Binary.l1 k (n + 1) x.1 x.2.1 x.2.2.1 x.2.2.2.1 x.2.2.2.2 := by kernel_rfl
theorem brindlewoodref3_Binary.l0_ev (k n : Nat) (x : brindlewoodref3_Binary.M0.den) :
    evalRound Go.Sh.tt (brindlewoodref3_Binary.tab k) Go.Proofs.Try.f64.ntmps (finOf Go.Sh.tt brindlewoodref3_Binary.B Go.Proofs.Try.f64.results.toList) (cAt [1, 1, 0, 1, 0, 0] (bodyOf Go.Proofs.Try.f64)) (.seq .nil (.seq (.block (.seq .nil (.seq (.seq .nil (.block (brindlewoodref3_Binary.an1 k))) .nil))) .nil)) brindlewoodref3_Binary.M0 brindlewoodref3_Binary.O0 0 (fun x => brindlewoodref3_Binary.l0 k n x.1 x.2.1 x.2.2) x = brindlewoodref3_Binary.l0 k (n + 1) x.1 x.2.1 x.2.2 := by kernel_rfl
theorem brindlewoodref3_Binary.ev (k : Nat) (x : denA brindlewoodref3_Binary.A) :
    evalF Go.Sh.tt (brindlewoodref3_Binary.tab k) Go.Proofs.Try.f64.ntmps (bodyOf Go.Proofs.Try.f64) Go.Proofs.Try.f64.results.toList brindlewoodref3_Binary.A brindlewoodref3_Binary.B (.seq .nil (.seq .nil (.seq (.seq .nil (.block (brindlewoodref3_Binary.an0 k))) .nil))) x = brindlewoodref3_Binary k x := by kernel_rfl

theorem brindlewoodref3_Number.l0_ev (k n : Nat) (x : brindlewoodref3_Number.M0.den) :
    evalRound Go.Sh.tt (brindlewoodref3_Number.tab k) Go.Proofs.Try.f30.ntmps (finOf Go.Sh.tt brindlewoodref3_Number.B Go.Proofs.Try.f30.results.toList) (cAt [1, 1, 1, 0, 0, 0] (bodyOf Go.Proofs.Try.f30)) .nil brindlewoodref3_Number.M0 brindlewoodref3_Number.O0 0 (fun x => brindlewoodref3_Number.l0 k n x.1 x.2.1 x.2.2.1 x.2.2.2) x = brindlewoodref3_Number.l0 k (n + 1) x.1 x.2.1 x.2.2.1 x.2.2.2 := by kernel_rfl
theorem brindlewoodref3_Number.ev (k : Nat) (x : denA brindlewoodref3_Number.A) :
    evalF Go.Sh.tt (brindlewoodref3_Number.tab k) Go.Proofs.Try.f30.ntmps (bodyOf Go.Proofs.Try.f30) Go.Proofs.Try.f30.results.toList brindlewoodref3_Number.A brindlewoodref3_Number.B (.seq .nil (.seq .nil (.seq .nil (.seq (.block (brindlewoodref3_Number.an0 k)) .nil)))) x = brindlewoodref3_Number k x := by kernel_rfl

theorem brindlewoodref3_Limbs.l0_ev (k n : Nat) (x : brindlewoodref3_Limbs.M0.den) :
    evalRound Go.Sh.tt (brindlewoodref3_Limbs.tab k) Go.Proofs.Try.f87.ntmps (finOf Go.Sh.tt brindlewoodref3_Limbs.B Go.Proofs.Try.f87.results.toList) (cAt [1, 1, 0, 1, 0, 0] (bodyOf Go.Proofs.Try.f87)) .nil brindlewoodref3_Limbs.M0 brindlewoodref3_Limbs.O0 0 (fun x => brindlewoodref3_Limbs.l0 k n x.1 x.2.1 x.2.2) x = brindlewoodref3_Limbs.l0 k (n + 1) x.1 x.2.1 x.2.2 := by kernel_rfl
theorem brindlewoodref3_Limbs.ev (k : Nat) (x : denA brindlewoodref3_Limbs.A) :
    evalF Go.Sh.tt (brindlewoodref3_Limbs.tab k) Go.Proofs.Try.f87.ntmps (bodyOf Go.Proofs.Try.f87) Go.Proofs.Try.f87.results.toList brindlewoodref3_Limbs.A brindlewoodref3_Limbs.B (.seq .nil (.seq .nil (.seq (.seq .nil (.block (brindlewoodref3_Limbs.an0 k))) .nil))) x = brindlewoodref3_Limbs k x := by kernel_rfl

theorem brindlewoodref3_SameLimbs.l0_ev (k n : Nat) (x : brindlewoodref3_SameLimbs.M0.den) :
    evalRound Go.Sh.tt (brindlewoodref3_SameLimbs.tab k) Go.Proofs.Try.f69.ntmps (finOf Go.Sh.tt brindlewoodref3_SameLimbs.B Go.Proofs.Try.f69.results.toList) (cAt [1, 1, 0, 1, 0, 0] (bodyOf Go.Proofs.Try.f69)) .nil brindlewoodref3_SameLimbs.M0 brindlewoodref3_SameLimbs.O0 0 (fun x => brindlewoodref3_SameLimbs.l0 k n x.1 x.2.1 x.2.2) x = brindlewoodref3_SameLimbs.l0 k (n + 1) x.1 x.2.1 x.2.2 := by kernel_rfl
theorem brindlewoodref3_SameLimbs.ev (k : Nat) (x : denA brindlewoodref3_SameLimbs.A) :
    evalF Go.Sh.tt (brindlewoodref3_SameLimbs.tab k) Go.Proofs.Try.f69.ntmps (bodyOf Go.Proofs.Try.f69) Go.Proofs.Try.f69.results.toList brindlewoodref3_SameLimbs.A brindlewoodref3_SameLimbs.B (.seq .nil (.seq .nil (.seq (.seq .nil (.block (brindlewoodref3_SameLimbs.an0 k))) .nil))) x = brindlewoodref3_SameLimbs k x.1 x.2 := by kernel_rfl

theorem brindlewoodref3_SameInt.ev (k : Nat) (x : denA brindlewoodref3_SameInt.A) :
    evalF Go.Sh.tt (brindlewoodref3_SameInt.tab k) Go.Proofs.Try.f58.ntmps (bodyOf Go.Proofs.Try.f58) Go.Proofs.Try.f58.results.toList brindlewoodref3_SameInt.A brindlewoodref3_SameInt.B .nil x = brindlewoodref3_SameInt k x.1 x.2 := by kernel_rfl

theorem brindlewoodlaw3_counts.ev (k : Nat) (x : denA brindlewoodlaw3_counts.A) :
    evalF Go.Sh.tt (brindlewoodlaw3_counts.tab k) Go.Proofs.Try.f24.ntmps (bodyOf Go.Proofs.Try.f24) Go.Proofs.Try.f24.results.toList brindlewoodlaw3_counts.A brindlewoodlaw3_counts.B .nil x = brindlewoodlaw3_counts k  := by kernel_rfl

theorem brindlewoodref3_IntOk.ev  (x : denA brindlewoodref3_IntOk.A) :
    evalF Go.Sh.tt (brindlewoodref3_IntOk.tab) Go.Proofs.Try.f13.ntmps (bodyOf Go.Proofs.Try.f13) Go.Proofs.Try.f13.results.toList brindlewoodref3_IntOk.A brindlewoodref3_IntOk.B .nil x = brindlewoodref3_IntOk x := by kernel_rfl

theorem brindlewoodref3_At.ev  (x : denA brindlewoodref3_At.A) :
    evalF Go.Sh.tt (brindlewoodref3_At.tab) Go.Proofs.Try.f12.ntmps (bodyOf Go.Proofs.Try.f12) Go.Proofs.Try.f12.results.toList brindlewoodref3_At.A brindlewoodref3_At.B .nil x = brindlewoodref3_At x.1 x.2 := by kernel_rfl

theorem brindlewoodref3_Faults.l0_ev (k n : Nat) (x : brindlewoodref3_Faults.M0.den) :
    evalRound Go.Sh.tt (brindlewoodref3_Faults.tab k) Go.Proofs.Try.f18.ntmps (finOf Go.Sh.tt brindlewoodref3_Faults.B Go.Proofs.Try.f18.results.toList) (cAt [1, 0, 1, 0, 0] (bodyOf Go.Proofs.Try.f18)) .nil brindlewoodref3_Faults.M0 brindlewoodref3_Faults.O0 0 (fun x => brindlewoodref3_Faults.l0 k n x.1 x.2.1 x.2.2) x = brindlewoodref3_Faults.l0 k (n + 1) x.1 x.2.1 x.2.2 := by kernel_rfl
theorem brindlewoodref3_Faults.ev (k : Nat) (x : denA brindlewoodref3_Faults.A) :
    evalF Go.Sh.tt (brindlewoodref3_Faults.tab k) Go.Proofs.Try.f18.ntmps (bodyOf Go.Proofs.Try.f18) Go.Proofs.Try.f18.results.toList brindlewoodref3_Faults.A brindlewoodref3_Faults.B (.seq .nil (.seq (.seq .nil (.block (brindlewoodref3_Faults.an0 k))) .nil)) x = brindlewoodref3_Faults k x := by kernel_rfl

theorem integer_twos.l0_ev (k n : Nat) (x : integer_twos.M0.den) :
    evalRound Go.Sh.tt (integer_twos.tab k) Go.Proofs.Try.f73.ntmps (finOf Go.Sh.tt integer_twos.B Go.Proofs.Try.f73.results.toList) (cAt [1, 1, 1, 1, 1, 0, 1, 0, 0] (bodyOf Go.Proofs.Try.f73)) .nil integer_twos.M0 integer_twos.O0 0 (fun x => integer_twos.l0 k n x.1 x.2.1 x.2.2.1 x.2.2.2) x = integer_twos.l0 k (n + 1) x.1 x.2.1 x.2.2.1 x.2.2.2 := by kernel_rfl
theorem integer_twos.ev (k : Nat) (x : denA integer_twos.A) :
    evalF Go.Sh.tt (integer_twos.tab k) Go.Proofs.Try.f73.ntmps (bodyOf Go.Proofs.Try.f73) Go.Proofs.Try.f73.results.toList integer_twos.A integer_twos.B (.seq .nil (.seq .nil (.seq .nil (.seq .nil (.seq .nil (.seq (.seq .nil (.block (integer_twos.an0 k))) .nil)))))) x = integer_twos k x.1 x.2 := by kernel_rfl

theorem integer_Xor_1.ev  (x : denA integer_Xor_1.A) :
    evalF Go.Sh.tt (integer_Xor_1.tab) Go.Proofs.Try.f49.ntmps (bodyOf Go.Proofs.Try.f49) Go.Proofs.Try.f49.results.toList integer_Xor_1.A integer_Xor_1.B .nil x = integer_Xor_1 x.1 x.2 := by kernel_rfl

theorem integer_back.l0_ev (k n : Nat) (x : integer_back.M0.den) :
    evalRound Go.Sh.tt (integer_back.tab k) Go.Proofs.Try.f74.ntmps (finOf Go.Sh.tt integer_back.B Go.Proofs.Try.f74.results.toList) (cAt [1, 1, 1, 0, 0, 0] (bodyOf Go.Proofs.Try.f74)) .nil integer_back.M0 integer_back.O0 0 (fun x => integer_back.l0 k n x.1 x.2.1 x.2.2.1 x.2.2.2) x = integer_back.l0 k (n + 1) x.1 x.2.1 x.2.2.1 x.2.2.2 := by kernel_rfl
theorem integer_back.ev (k : Nat) (x : denA integer_back.A) :
    evalF Go.Sh.tt (integer_back.tab k) Go.Proofs.Try.f74.ntmps (bodyOf Go.Proofs.Try.f74) Go.Proofs.Try.f74.results.toList integer_back.A integer_back.B (.seq .nil (.seq .nil (.jseq ⟨[.dat 0 (.list (.int .u32)), .box 43 [.st (.pair (.bool) (.list (.int .u32)))], .box 44 [.st (.pair (.int .i64) (.int .i64))], .dat 4 (.bool)], [.ptr 2 43 0, .ptr 3 44 0]⟩ .nil (.seq (.block (integer_back.an0 k)) .nil)))) x = integer_back k x := by kernel_rfl

theorem integer_bitwise_ddFinteger_Xor_1.l0_ev (k n : Nat) (x : integer_bitwise_ddFinteger_Xor_1.M0.den) :
    evalRound Go.Sh.tt (integer_bitwise_ddFinteger_Xor_1.tab k) Go.Proofs.Try.f46.ntmps (finOf Go.Sh.tt integer_bitwise_ddFinteger_Xor_1.B Go.Proofs.Try.f46.results.toList) (cAt [1, 1, 1, 1, 0, 1, 0, 0] (bodyOf Go.Proofs.Try.f46)) .nil integer_bitwise_ddFinteger_Xor_1.M0 integer_bitwise_ddFinteger_Xor_1.O0 0 (fun x => integer_bitwise_ddFinteger_Xor_1.l0 k n x.1 x.2.1 x.2.2.1 x.2.2.2.1 x.2.2.2.2.1 x.2.2.2.2.2.1 x.2.2.2.2.2.2) x = integer_bitwise_ddFinteger_Xor_1.l0 k (n + 1) x.1 x.2.1 x.2.2.1 x.2.2.2.1 x.2.2.2.2.1 x.2.2.2.2.2.1 x.2.2.2.2.2.2 := by kernel_rfl
theorem integer_bitwise_ddFinteger_Xor_1.ev (k : Nat) (x : denA integer_bitwise_ddFinteger_Xor_1.A) :
    evalF Go.Sh.tt (integer_bitwise_ddFinteger_Xor_1.tab k) Go.Proofs.Try.f46.ntmps (bodyOf Go.Proofs.Try.f46) Go.Proofs.Try.f46.results.toList integer_bitwise_ddFinteger_Xor_1.A integer_bitwise_ddFinteger_Xor_1.B (.seq .nil (.seq .nil (.seq .nil (.seq .nil (.seq (.seq .nil (.block (integer_bitwise_ddFinteger_Xor_1.an0 k))) .nil))))) x = integer_bitwise_ddFinteger_Xor_1 k x.1 x.2.1 x.2.2 := by kernel_rfl

theorem integer_Xor.ev (k : Nat) (x : denA integer_Xor.A) :
    evalF Go.Sh.tt (integer_Xor.tab k) Go.Proofs.Try.f21.ntmps (bodyOf Go.Proofs.Try.f21) Go.Proofs.Try.f21.results.toList integer_Xor.A integer_Xor.B .nil x = integer_Xor k x.1 x.2 := by kernel_rfl

theorem integer_And_1.ev  (x : denA integer_And_1.A) :
    evalF Go.Sh.tt (integer_And_1.tab) Go.Proofs.Try.f47.ntmps (bodyOf Go.Proofs.Try.f47) Go.Proofs.Try.f47.results.toList integer_And_1.A integer_And_1.B .nil x = integer_And_1 x.1 x.2 := by kernel_rfl

theorem integer_bitwise_ddFinteger_And_1.l0_ev (k n : Nat) (x : integer_bitwise_ddFinteger_And_1.M0.den) :
    evalRound Go.Sh.tt (integer_bitwise_ddFinteger_And_1.tab k) Go.Proofs.Try.f46.ntmps (finOf Go.Sh.tt integer_bitwise_ddFinteger_And_1.B Go.Proofs.Try.f46.results.toList) (cAt [1, 1, 1, 1, 0, 1, 0, 0] (bodyOf Go.Proofs.Try.f46)) .nil integer_bitwise_ddFinteger_And_1.M0 integer_bitwise_ddFinteger_And_1.O0 0 (fun x => integer_bitwise_ddFinteger_And_1.l0 k n x.1 x.2.1 x.2.2.1 x.2.2.2.1 x.2.2.2.2.1 x.2.2.2.2.2.1 x.2.2.2.2.2.2) x = integer_bitwise_ddFinteger_And_1.l0 k (n + 1) x.1 x.2.1 x.2.2.1 x.2.2.2.1 x.2.2.2.2.1 x.2.2.2.2.2.1 x.2.2.2.2.2.2 := by kernel_rfl
theorem integer_bitwise_ddFinteger_And_1.ev (k : Nat) (x : denA integer_bitwise_ddFinteger_And_1.A) :
    evalF Go.Sh.tt (integer_bitwise_ddFinteger_And_1.tab k) Go.Proofs.Try.f46.ntmps (bodyOf Go.Proofs.Try.f46) Go.Proofs.Try.f46.results.toList integer_bitwise_ddFinteger_And_1.A integer_bitwise_ddFinteger_And_1.B (.seq .nil (.seq .nil (.seq .nil (.seq .nil (.seq (.seq .nil (.block (integer_bitwise_ddFinteger_And_1.an0 k))) .nil))))) x = integer_bitwise_ddFinteger_And_1 k x.1 x.2.1 x.2.2 := by kernel_rfl

theorem integer_And.ev (k : Nat) (x : denA integer_And.A) :
    evalF Go.Sh.tt (integer_And.tab k) Go.Proofs.Try.f19.ntmps (bodyOf Go.Proofs.Try.f19) Go.Proofs.Try.f19.results.toList integer_And.A integer_And.B .nil x = integer_And k x.1 x.2 := by kernel_rfl

theorem natural_Bits.ev  (x : denA natural_Bits.A) :
    evalF Go.Sh.tt (natural_Bits.tab) Go.Proofs.Try.f80.ntmps (bodyOf Go.Proofs.Try.f80) Go.Proofs.Try.f80.results.toList natural_Bits.A natural_Bits.B .nil x = natural_Bits x := by kernel_rfl

theorem natural_Shift.ev (k : Nat) (x : denA natural_Shift.A) :
    evalF Go.Sh.tt (natural_Shift.tab k) Go.Proofs.Try.f53.ntmps (bodyOf Go.Proofs.Try.f53) Go.Proofs.Try.f53.results.toList natural_Shift.A natural_Shift.B (.seq .nil (.seq .nil (.seq (.block (.seq .nil (.cond .nil (.jseq ⟨[.dat 0 (.list (.int .u32)), .dat 1 (.int .i64), .box 51 [.st (.pair (.int .i64) (.int .i64))], .dat 6 (.int .i64), .dat 18 (.bool)], [.ptr 5 51 0]⟩ .nil .nil)))) .nil))) x = natural_Shift k x.1 x.2 := by kernel_rfl

theorem integer_Shift.ev (k : Nat) (x : denA integer_Shift.A) :
    evalF Go.Sh.tt (integer_Shift.tab k) Go.Proofs.Try.f23.ntmps (bodyOf Go.Proofs.Try.f23) Go.Proofs.Try.f23.results.toList integer_Shift.A integer_Shift.B (.seq .nil (.seq .nil (.seq (.jseq ⟨[.dat 1 (.int .i64), .box 68 [.st (.pair (.bool) (.list (.int .u32)))], .box 70 [.st (.pair (.bool) (.list (.int .u32)))], .box 71 [.st (.pair (.int .i64) (.int .i64))], .dat 24 (.bool)], [.ptr 2 68 0, .ptr 4 70 0, .ptr 5 71 0]⟩ .nil .nil) .nil))) x = integer_Shift k x.1 x.2 := by kernel_rfl

theorem natural_Cmp.ev (k : Nat) (x : denA natural_Cmp.A) :
    evalF Go.Sh.tt (natural_Cmp.tab k) Go.Proofs.Try.f89.ntmps (bodyOf Go.Proofs.Try.f89) Go.Proofs.Try.f89.results.toList natural_Cmp.A natural_Cmp.B .nil x = natural_Cmp k x.1 x.2 := by kernel_rfl

theorem integer_plus.ev (k : Nat) (x : denA integer_plus.A) :
    evalF Go.Sh.tt (integer_plus.tab k) Go.Proofs.Try.f68.ntmps (bodyOf Go.Proofs.Try.f68) Go.Proofs.Try.f68.results.toList integer_plus.A integer_plus.B (.seq .nil (.seq .nil (.jseq ⟨[.box 59 [.st (.pair (.bool) (.list (.int .u32)))], .box 60 [.st (.pair (.bool) (.list (.int .u32)))], .box 61 [.st (.pair (.bool) (.list (.int .u32)))], .box 62 [.st (.pair (.int .i64) (.int .i64))]], [.ptr 2 59 0, .ptr 3 60 0, .ptr 4 61 0, .ptr 5 62 0]⟩ .nil .nil))) x = integer_plus k x.1 x.2 := by kernel_rfl

theorem integer_Add.ev (k : Nat) (x : denA integer_Add.A) :
    evalF Go.Sh.tt (integer_Add.tab k) Go.Proofs.Try.f34.ntmps (bodyOf Go.Proofs.Try.f34) Go.Proofs.Try.f34.results.toList integer_Add.A integer_Add.B .nil x = integer_Add k x.1 x.2 := by kernel_rfl

theorem integer_Not_1.ev  (x : denA integer_Not_1.A) :
    evalF Go.Sh.tt (integer_Not_1.tab) Go.Proofs.Try.f50.ntmps (bodyOf Go.Proofs.Try.f50) Go.Proofs.Try.f50.results.toList integer_Not_1.A integer_Not_1.B .nil x = integer_Not_1 x.1 x.2 := by kernel_rfl

theorem integer_bitwise_ddFinteger_Not_1.l0_ev (k n : Nat) (x : integer_bitwise_ddFinteger_Not_1.M0.den) :
    evalRound Go.Sh.tt (integer_bitwise_ddFinteger_Not_1.tab k) Go.Proofs.Try.f46.ntmps (finOf Go.Sh.tt integer_bitwise_ddFinteger_Not_1.B Go.Proofs.Try.f46.results.toList) (cAt [1, 1, 1, 1, 0, 1, 0, 0] (bodyOf Go.Proofs.Try.f46)) .nil integer_bitwise_ddFinteger_Not_1.M0 integer_bitwise_ddFinteger_Not_1.O0 0 (fun x => integer_bitwise_ddFinteger_Not_1.l0 k n x.1 x.2.1 x.2.2.1 x.2.2.2.1 x.2.2.2.2.1 x.2.2.2.2.2.1 x.2.2.2.2.2.2) x = integer_bitwise_ddFinteger_Not_1.l0 k (n + 1) x.1 x.2.1 x.2.2.1 x.2.2.2.1 x.2.2.2.2.1 x.2.2.2.2.2.1 x.2.2.2.2.2.2 := by kernel_rfl
theorem integer_bitwise_ddFinteger_Not_1.ev (k : Nat) (x : denA integer_bitwise_ddFinteger_Not_1.A) :
    evalF Go.Sh.tt (integer_bitwise_ddFinteger_Not_1.tab k) Go.Proofs.Try.f46.ntmps (bodyOf Go.Proofs.Try.f46) Go.Proofs.Try.f46.results.toList integer_bitwise_ddFinteger_Not_1.A integer_bitwise_ddFinteger_Not_1.B (.seq .nil (.seq .nil (.seq .nil (.seq .nil (.seq (.seq .nil (.block (integer_bitwise_ddFinteger_Not_1.an0 k))) .nil))))) x = integer_bitwise_ddFinteger_Not_1 k x.1 x.2.1 x.2.2 := by kernel_rfl

theorem integer_Not.ev (k : Nat) (x : denA integer_Not.A) :
    evalF Go.Sh.tt (integer_Not.tab k) Go.Proofs.Try.f22.ntmps (bodyOf Go.Proofs.Try.f22) Go.Proofs.Try.f22.results.toList integer_Not.A integer_Not.B .nil x = integer_Not k x := by kernel_rfl

theorem integer_Or_1.ev  (x : denA integer_Or_1.A) :
    evalF Go.Sh.tt (integer_Or_1.tab) Go.Proofs.Try.f48.ntmps (bodyOf Go.Proofs.Try.f48) Go.Proofs.Try.f48.results.toList integer_Or_1.A integer_Or_1.B .nil x = integer_Or_1 x.1 x.2 := by kernel_rfl

theorem integer_bitwise_ddFinteger_Or_1.l0_ev (k n : Nat) (x : integer_bitwise_ddFinteger_Or_1.M0.den) :
    evalRound Go.Sh.tt (integer_bitwise_ddFinteger_Or_1.tab k) Go.Proofs.Try.f46.ntmps (finOf Go.Sh.tt integer_bitwise_ddFinteger_Or_1.B Go.Proofs.Try.f46.results.toList) (cAt [1, 1, 1, 1, 0, 1, 0, 0] (bodyOf Go.Proofs.Try.f46)) .nil integer_bitwise_ddFinteger_Or_1.M0 integer_bitwise_ddFinteger_Or_1.O0 0 (fun x => integer_bitwise_ddFinteger_Or_1.l0 k n x.1 x.2.1 x.2.2.1 x.2.2.2.1 x.2.2.2.2.1 x.2.2.2.2.2.1 x.2.2.2.2.2.2) x = integer_bitwise_ddFinteger_Or_1.l0 k (n + 1) x.1 x.2.1 x.2.2.1 x.2.2.2.1 x.2.2.2.2.1 x.2.2.2.2.2.1 x.2.2.2.2.2.2 := by kernel_rfl
theorem integer_bitwise_ddFinteger_Or_1.ev (k : Nat) (x : denA integer_bitwise_ddFinteger_Or_1.A) :
    evalF Go.Sh.tt (integer_bitwise_ddFinteger_Or_1.tab k) Go.Proofs.Try.f46.ntmps (bodyOf Go.Proofs.Try.f46) Go.Proofs.Try.f46.results.toList integer_bitwise_ddFinteger_Or_1.A integer_bitwise_ddFinteger_Or_1.B (.seq .nil (.seq .nil (.seq .nil (.seq .nil (.seq (.seq .nil (.block (integer_bitwise_ddFinteger_Or_1.an0 k))) .nil))))) x = integer_bitwise_ddFinteger_Or_1 k x.1 x.2.1 x.2.2 := by kernel_rfl

theorem integer_Or.ev (k : Nat) (x : denA integer_Or.A) :
    evalF Go.Sh.tt (integer_Or.tab k) Go.Proofs.Try.f20.ntmps (bodyOf Go.Proofs.Try.f20) Go.Proofs.Try.f20.results.toList integer_Or.A integer_Or.B .nil x = integer_Or k x.1 x.2 := by kernel_rfl

theorem brindlewoodref3_SameInts.ev (k : Nat) (x : denA brindlewoodref3_SameInts.A) :
    evalF Go.Sh.tt (brindlewoodref3_SameInts.tab k) Go.Proofs.Try.f35.ntmps (bodyOf Go.Proofs.Try.f35) Go.Proofs.Try.f35.results.toList brindlewoodref3_SameInts.A brindlewoodref3_SameInts.B .nil x = brindlewoodref3_SameInts k x.1 x.2 := by kernel_rfl

theorem brindlewoodlaw3_IntegerBitSums.ev (k : Nat) (x : denA brindlewoodlaw3_IntegerBitSums.A) :
    evalF Go.Sh.tt (brindlewoodlaw3_IntegerBitSums.tab k) Go.Proofs.Try.f6.ntmps (bodyOf Go.Proofs.Try.f6) Go.Proofs.Try.f6.results.toList brindlewoodlaw3_IntegerBitSums.A brindlewoodlaw3_IntegerBitSums.B (.seq .nil (.seq .nil (.jseq ⟨[.box 158 [.st (.pair (.bool) (.list (.int .u32)))], .box 159 [.st (.pair (.bool) (.list (.int .u32)))]], [.ptr 2 158 0, .ptr 3 159 0]⟩ .nil .nil))) x = brindlewoodlaw3_IntegerBitSums k x.1 x.2 := by kernel_rfl
end Go.Sh
