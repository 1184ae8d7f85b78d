/- The evaluator's answers are those of the plain functions, by wip/gen/gen.py.  Conditions: none. -/
import Derived.Test.YtpjcoihlcklncaaShD
set_option linter.unusedVariables false
set_option maxRecDepth 100000
set_option maxHeartbeats 0
namespace Go.Sh
open Go Go.Ev

theorem integer_Of.l0_ev (k n : Nat) (x : integer_Of.M0.den) :
    evalRound Go.Sh.tt (integer_Of.tab k) Go.Proofs.Try.f42.ntmps (finOf Go.Sh.tt integer_Of.B Go.Proofs.Try.f42.results.toList) (cAt [1, 1, 1, 1, 0, 0, 0] (bodyOf Go.Proofs.Try.f42)) .nil integer_Of.M0 integer_Of.O0 0 (fun x => integer_Of.l0 k n x.1 x.2.1 x.2.2) x = integer_Of.l0 k (n + 1) x.1 x.2.1 x.2.2 := by kernel_rfl
theorem integer_Of.ev (k : Nat) (x : denA integer_Of.A) :
    evalF Go.Sh.tt (integer_Of.tab k) Go.Proofs.Try.f42.ntmps (bodyOf Go.Proofs.Try.f42) Go.Proofs.Try.f42.results.toList integer_Of.A integer_Of.B (.seq .nil (.seq .nil (.jseq ⟨[.dat 0 (.int .i64), .box 40 [.st (.pair (.bool) (.list (.int .u32)))], .dat 3 (.int .u64)], [.ptr 2 40 0]⟩ .nil (.seq .nil (.seq (.block (integer_Of.an0 k)) .nil))))) x = integer_Of k x := by kernel_rfl

theorem integer_Valid.ev  (x : denA integer_Valid.A) :
    evalF Go.Sh.tt (integer_Valid.tab) Go.Proofs.Try.f41.ntmps (bodyOf Go.Proofs.Try.f41) Go.Proofs.Try.f41.results.toList integer_Valid.A integer_Valid.B .nil x = integer_Valid x := by kernel_rfl

theorem integer_at.ev  (x : denA integer_at.A) :
    evalF Go.Sh.tt (integer_at.tab) Go.Proofs.Try.f70.ntmps (bodyOf Go.Proofs.Try.f70) Go.Proofs.Try.f70.results.toList integer_at.A integer_at.B .nil x = integer_at x.1 x.2 := by kernel_rfl

theorem integer_check.l0_ev (k n : Nat) (x : integer_check.M0.den) :
    evalRound Go.Sh.tt (integer_check.tab k) Go.Proofs.Try.f61.ntmps (finOf Go.Sh.tt integer_check.B Go.Proofs.Try.f61.results.toList) (cAt [1, 0, 1, 0, 0] (bodyOf Go.Proofs.Try.f61)) .nil integer_check.M0 integer_check.O0 0 (fun x => integer_check.l0 k n x.1 x.2.1 x.2.2.1 x.2.2.2) x = integer_check.l0 k (n + 1) x.1 x.2.1 x.2.2.1 x.2.2.2 := by kernel_rfl
theorem integer_check.ev (k : Nat) (x : denA integer_check.A) :
    evalF Go.Sh.tt (integer_check.tab k) Go.Proofs.Try.f61.ntmps (bodyOf Go.Proofs.Try.f61) Go.Proofs.Try.f61.results.toList integer_check.A integer_check.B (.seq .nil (.seq (.seq .nil (.block (integer_check.an0 k))) .nil)) x = integer_check k x := by kernel_rfl

theorem natural_Valid.ev  (x : denA natural_Valid.A) :
    evalF Go.Sh.tt (natural_Valid.tab) Go.Proofs.Try.f109.ntmps (bodyOf Go.Proofs.Try.f109) Go.Proofs.Try.f109.results.toList natural_Valid.A natural_Valid.B .nil x = natural_Valid x := by kernel_rfl

theorem natural_at.ev  (x : denA natural_at.A) :
    evalF Go.Sh.tt (natural_at.tab) Go.Proofs.Try.f101.ntmps (bodyOf Go.Proofs.Try.f101) Go.Proofs.Try.f101.results.toList natural_at.A natural_at.B .nil x = natural_at x.1 x.2 := by kernel_rfl

theorem natural_check.ev  (x : denA natural_check.A) :
    evalF Go.Sh.tt (natural_check.tab) Go.Proofs.Try.f99.ntmps (bodyOf Go.Proofs.Try.f99) Go.Proofs.Try.f99.results.toList natural_check.A natural_check.B .nil x = natural_check x.1 x.2 := by kernel_rfl

theorem natural_compare.l0_ev (k n : Nat) (x : natural_compare.M0.den) :
    evalRound Go.Sh.tt (natural_compare.tab k) Go.Proofs.Try.f104.ntmps (finOf Go.Sh.tt natural_compare.B Go.Proofs.Try.f104.results.toList) (cAt [1, 1, 0, 1, 0, 0] (bodyOf Go.Proofs.Try.f104)) .nil natural_compare.M0 natural_compare.O0 0 (fun x => natural_compare.l0 k n x.1 x.2.1 x.2.2) x = natural_compare.l0 k (n + 1) x.1 x.2.1 x.2.2 := by kernel_rfl
theorem natural_compare.ev (k : Nat) (x : denA natural_compare.A) :
    evalF Go.Sh.tt (natural_compare.tab k) Go.Proofs.Try.f104.ntmps (bodyOf Go.Proofs.Try.f104) Go.Proofs.Try.f104.results.toList natural_compare.A natural_compare.B (.seq .nil (.seq .nil (.seq (.seq .nil (.block (natural_compare.an0 k))) .nil))) x = natural_compare k x.1 x.2 := by kernel_rfl



theorem bits_Div32.ev  (x : denA bits_Div32.A) :
    evalF Go.Sh.tt (bits_Div32.tab) Go.Proofs.Try.f119.ntmps (bodyOf Go.Proofs.Try.f119) Go.Proofs.Try.f119.results.toList bits_Div32.A bits_Div32.B (.seq .nil (.jseq ⟨[.dat 0 (.int .u32), .dat 1 (.int .u32), .dat 2 (.int .u32)], []⟩ .nil .nil)) x = bits_Div32 x.1 x.2.1 x.2.2 := by kernel_rfl

theorem natural_trim_v.l0_ev (k n : Nat) (x : natural_trim_v.M0.den) :
    evalRound Go.Sh.tt (natural_trim_v.tab k) Go.Proofs.Try.f113.ntmps (finOf Go.Sh.tt natural_trim_v.B Go.Proofs.Try.f113.results.toList) (cAt [1, 0, 0, 0] (bodyOf Go.Proofs.Try.f113)) .nil natural_trim_v.M0 natural_trim_v.O0 0 (fun x => natural_trim_v.l0 k n x.1 x.2) x = natural_trim_v.l0 k (n + 1) x.1 x.2 := by kernel_rfl
theorem natural_trim_v.ev (k : Nat) (x : denA natural_trim_v.A) :
    evalF Go.Sh.tt (natural_trim_v.tab k) Go.Proofs.Try.f113.ntmps (bodyOf Go.Proofs.Try.f113) Go.Proofs.Try.f113.results.toList natural_trim_v.A natural_trim_v.B (.seq .nil (.seq (.block (natural_trim_v.an0 k)) .nil)) x = natural_trim_v k x := by kernel_rfl

theorem natural_short.l0_ev (k n : Nat) (x : natural_short.M0.den) :
    evalRound Go.Sh.tt (natural_short.tab k) Go.Proofs.Try.f111.ntmps (finOf Go.Sh.tt natural_short.B Go.Proofs.Try.f111.results.toList) (cAt [1, 1, 1, 0, 1, 0, 0] (bodyOf Go.Proofs.Try.f111)) .nil natural_short.M0 natural_short.O0 0 (fun x => natural_short.l0 k n x.1 x.2.1 x.2.2.1 x.2.2.2.1 x.2.2.2.2) x = natural_short.l0 k (n + 1) x.1 x.2.1 x.2.2.1 x.2.2.2.1 x.2.2.2.2 := by kernel_rfl
theorem natural_short.ev (k : Nat) (x : denA natural_short.A) :
    evalF Go.Sh.tt (natural_short.tab k) Go.Proofs.Try.f111.ntmps (bodyOf Go.Proofs.Try.f111) Go.Proofs.Try.f111.results.toList natural_short.A natural_short.B (.seq .nil (.seq .nil (.seq .nil (.seq (.seq .nil (.block (natural_short.an0 k))) .nil)))) x = natural_short k x.1 x.2 := by kernel_rfl

theorem bits_Len32.ev  (x : denA bits_Len32.A) :
    evalF Go.Sh.tt (bits_Len32.tab) Go.Proofs.Try.f114.ntmps (bodyOf Go.Proofs.Try.f114) Go.Proofs.Try.f114.results.toList bits_Len32.A bits_Len32.B (.seq .nil (.jseq ⟨[.dat 0 (.int .u32), .dat 2 (.int .i64)], []⟩ .nil .nil)) x = bits_Len32 x := by kernel_rfl

theorem bits_LeadingZeros32.ev  (x : denA bits_LeadingZeros32.A) :
    evalF Go.Sh.tt (bits_LeadingZeros32.tab) Go.Proofs.Try.f120.ntmps (bodyOf Go.Proofs.Try.f120) Go.Proofs.Try.f120.results.toList bits_LeadingZeros32.A bits_LeadingZeros32.B .nil x = bits_LeadingZeros32 x := by kernel_rfl

theorem natural_left.l0_ev (k n : Nat) (x : natural_left.M0.den) :
    evalRound Go.Sh.tt (natural_left.tab k) Go.Proofs.Try.f106.ntmps (finOf Go.Sh.tt natural_left.B Go.Proofs.Try.f106.results.toList) (cAt [1, 1, 1, 0, 1, 0, 0] (bodyOf Go.Proofs.Try.f106)) .nil natural_left.M0 natural_left.O0 0 (fun x => natural_left.l0 k n x.1 x.2.1 x.2.2.1 x.2.2.2.1 x.2.2.2.2.1 x.2.2.2.2.2) x = natural_left.l0 k (n + 1) x.1 x.2.1 x.2.2.1 x.2.2.2.1 x.2.2.2.2.1 x.2.2.2.2.2 := by kernel_rfl
theorem natural_left.ev (k : Nat) (x : denA natural_left.A) :
    evalF Go.Sh.tt (natural_left.tab k) Go.Proofs.Try.f106.ntmps (bodyOf Go.Proofs.Try.f106) Go.Proofs.Try.f106.results.toList natural_left.A natural_left.B (.seq .nil (.seq .nil (.seq .nil (.seq (.seq .nil (.block (natural_left.an0 k))) .nil)))) x = natural_left k x.1 x.2 := by kernel_rfl

theorem bits_Sub32.ev  (x : denA bits_Sub32.A) :
    evalF Go.Sh.tt (bits_Sub32.tab) Go.Proofs.Try.f118.ntmps (bodyOf Go.Proofs.Try.f118) Go.Proofs.Try.f118.results.toList bits_Sub32.A bits_Sub32.B .nil x = bits_Sub32 x.1 x.2.1 x.2.2 := by kernel_rfl

theorem bits_Add32.ev  (x : denA bits_Add32.A) :
    evalF Go.Sh.tt (bits_Add32.tab) Go.Proofs.Try.f122.ntmps (bodyOf Go.Proofs.Try.f122) Go.Proofs.Try.f122.results.toList bits_Add32.A bits_Add32.B .nil x = bits_Add32 x.1 x.2.1 x.2.2 := by kernel_rfl

theorem natural_digit_ld.l2_ev (k n : Nat) (x : natural_digit_ld.M2.den) :
    evalRound Go.Sh.tt (natural_digit_ld.tab k) Go.Proofs.Try.f121.ntmps (finOf Go.Sh.tt natural_digit_ld.B Go.Proofs.Try.f121.results.toList) (cAt [1, 1, 1, 1, 1, 1, 1, 0, 1, 0, 1, 1, 0, 1, 0, 0] (bodyOf Go.Proofs.Try.f121)) .nil natural_digit_ld.M2 natural_digit_ld.O2 4 (fun x => natural_digit_ld.l2 k n x.1 x.2.1 x.2.2.1 x.2.2.2.1 x.2.2.2.2.1 x.2.2.2.2.2.1 x.2.2.2.2.2.2) x = natural_digit_ld.l2 k (n + 1) x.1 x.2.1 x.2.2.1 x.2.2.2.1 x.2.2.2.2.1 x.2.2.2.2.2.1 x.2.2.2.2.2.2 := by kernel_rfl
theorem natural_digit_ld.l1_ev (k n : Nat) (x : natural_digit_ld.M1.den) :
    evalRound Go.Sh.tt (natural_digit_ld.tab k) Go.Proofs.Try.f121.ntmps (finOf Go.Sh.tt natural_digit_ld.B Go.Proofs.Try.f121.results.toList) (cAt [1, 1, 1, 1, 1, 1, 0, 1, 0, 0] (bodyOf Go.Proofs.Try.f121)) (.seq .nil (.seq .nil (.seq (.block (.seq .nil (.jseq ⟨[.blk 0 (.int .u32) 1, .dat 1 (.list (.int .u32)), .dat 5 (.int .i64), .dat 8 (.int .u64), .dat 10 (.int .u64), .dat 11 (.int .u32), .dat 12 (.int .i64), .dat 74 (.int .i64), .dat 75 (.int .i64)], [.ref 0 0]⟩ .nil .nil))) .nil))) natural_digit_ld.M1 natural_digit_ld.O1 2 (fun x => natural_digit_ld.l1 k n x.1 x.2.1 x.2.2.1 x.2.2.2.1 x.2.2.2.2.1 x.2.2.2.2.2.1 x.2.2.2.2.2.2.1 x.2.2.2.2.2.2.2) x = natural_digit_ld.l1 k (n + 1) x.1 x.2.1 x.2.2.1 x.2.2.2.1 x.2.2.2.2.1 x.2.2.2.2.2.1 x.2.2.2.2.2.2.1 x.2.2.2.2.2.2.2 := by kernel_rfl
theorem natural_digit_ld.l0_ev (k n : Nat) (x : natural_digit_ld.M0.den) :
    evalRound Go.Sh.tt (natural_digit_ld.tab k) Go.Proofs.Try.f121.ntmps (finOf Go.Sh.tt natural_digit_ld.B Go.Proofs.Try.f121.results.toList) (cAt [1, 1, 1, 1, 0, 0, 0] (bodyOf Go.Proofs.Try.f121)) .nil natural_digit_ld.M0 natural_digit_ld.O0 0 (fun x => natural_digit_ld.l0 k n x.1 x.2.1 x.2.2.1 x.2.2.2.1 x.2.2.2.2.1 x.2.2.2.2.2) x = natural_digit_ld.l0 k (n + 1) x.1 x.2.1 x.2.2.1 x.2.2.2.1 x.2.2.2.2.1 x.2.2.2.2.2 := by kernel_rfl
theorem natural_digit_ld.ev (k : Nat) (x : denA natural_digit_ld.A) :
    evalF Go.Sh.tt (natural_digit_ld.tab k) Go.Proofs.Try.f121.ntmps (bodyOf Go.Proofs.Try.f121) Go.Proofs.Try.f121.results.toList natural_digit_ld.A natural_digit_ld.B (.seq .nil (.seq .nil (.seq .nil (.seq .nil (.seq (.block (natural_digit_ld.an0 k)) (.seq .nil (.seq (.seq .nil (.block (natural_digit_ld.an1 k))) (.seq (.seq .nil (.cond (.seq .nil (.seq .nil (.seq (.seq .nil (.block (natural_digit_ld.an2 k))) .nil))) .nil)) .nil)))))))) x = natural_digit_ld k x.1 x.2 := by kernel_rfl

theorem natural_right.l0_ev (k n : Nat) (x : natural_right.M0.den) :
    evalRound Go.Sh.tt (natural_right.tab k) Go.Proofs.Try.f107.ntmps (finOf Go.Sh.tt natural_right.B Go.Proofs.Try.f107.results.toList) (cAt [1, 1, 0, 1, 0, 0] (bodyOf Go.Proofs.Try.f107)) .nil natural_right.M0 natural_right.O0 0 (fun x => natural_right.l0 k n x.1 x.2.1 x.2.2.1 x.2.2.2) x = natural_right.l0 k (n + 1) x.1 x.2.1 x.2.2.1 x.2.2.2 := by kernel_rfl
theorem natural_right.ev (k : Nat) (x : denA natural_right.A) :
    evalF Go.Sh.tt (natural_right.tab k) Go.Proofs.Try.f107.ntmps (bodyOf Go.Proofs.Try.f107) Go.Proofs.Try.f107.results.toList natural_right.A natural_right.B (.seq .nil (.seq .nil (.seq (.seq .nil (.block (natural_right.an0 k))) .nil))) x = natural_right k x.1 x.2 := by kernel_rfl

theorem natural_divide.l1_ev (k n : Nat) (x : natural_divide.M1.den) :
    evalRound Go.Sh.tt (natural_divide.tab k) Go.Proofs.Try.f117.ntmps (finOf Go.Sh.tt natural_divide.B Go.Proofs.Try.f117.results.toList) (cAt [1, 1, 1, 1, 1, 1, 0, 1, 0, 0] (bodyOf Go.Proofs.Try.f117)) .nil natural_divide.M1 natural_divide.O1 2 (fun x => natural_divide.l1 k n x.1 x.2.1 x.2.2.1 x.2.2.2.1 x.2.2.2.2.1 x.2.2.2.2.2) x = natural_divide.l1 k (n + 1) x.1 x.2.1 x.2.2.1 x.2.2.2.1 x.2.2.2.2.1 x.2.2.2.2.2 := by kernel_rfl
theorem natural_divide.l0_ev (k n : Nat) (x : natural_divide.M0.den) :
    evalRound Go.Sh.tt (natural_divide.tab k) Go.Proofs.Try.f117.ntmps (finOf Go.Sh.tt natural_divide.B Go.Proofs.Try.f117.results.toList) (cAt [1, 1, 1, 1, 0, 0, 0] (bodyOf Go.Proofs.Try.f117)) .nil natural_divide.M0 natural_divide.O0 0 (fun x => natural_divide.l0 k n x.1 x.2.1 x.2.2.1 x.2.2.2.1 x.2.2.2.2) x = natural_divide.l0 k (n + 1) x.1 x.2.1 x.2.2.1 x.2.2.2.1 x.2.2.2.2 := by kernel_rfl
theorem natural_divide.ev (k : Nat) (x : denA natural_divide.A) :
    evalF Go.Sh.tt (natural_divide.tab k) Go.Proofs.Try.f117.ntmps (bodyOf Go.Proofs.Try.f117) Go.Proofs.Try.f117.results.toList natural_divide.A natural_divide.B (.seq .nil (.seq .nil (.seq .nil (.seq .nil (.seq (.block (natural_divide.an0 k)) (.seq .nil (.seq (.seq .nil (.block (natural_divide.an1 k))) .nil))))))) x = natural_divide k x.1 x.2 := by kernel_rfl

theorem natural_divMod.ev (k : Nat) (x : denA natural_divMod.A) :
    evalF Go.Sh.tt (natural_divMod.tab k) Go.Proofs.Try.f100.ntmps (bodyOf Go.Proofs.Try.f100) Go.Proofs.Try.f100.results.toList natural_divMod.A natural_divMod.B .nil x = natural_divMod k x.1 x.2 := by kernel_rfl

theorem natural_DivMod.ev (k : Nat) (x : denA natural_DivMod.A) :
    evalF Go.Sh.tt (natural_DivMod.tab k) Go.Proofs.Try.f66.ntmps (bodyOf Go.Proofs.Try.f66) Go.Proofs.Try.f66.results.toList natural_DivMod.A natural_DivMod.B .nil x = natural_DivMod k x.1 x.2 := by kernel_rfl

theorem natural_add.l0_ev (k n : Nat) (x : natural_add.M0.den) :
    evalRound Go.Sh.tt (natural_add.tab k) Go.Proofs.Try.f103.ntmps (finOf Go.Sh.tt natural_add.B Go.Proofs.Try.f103.results.toList) (cAt [1, 1, 1, 1, 0, 1, 0, 0] (bodyOf Go.Proofs.Try.f103)) .nil natural_add.M0 natural_add.O0 0 (fun x => natural_add.l0 k n x.1 x.2.1 x.2.2.1 x.2.2.2.1 x.2.2.2.2.1 x.2.2.2.2.2) x = natural_add.l0 k (n + 1) x.1 x.2.1 x.2.2.1 x.2.2.2.1 x.2.2.2.2.1 x.2.2.2.2.2 := by kernel_rfl
theorem natural_add.ev (k : Nat) (x : denA natural_add.A) :
    evalF Go.Sh.tt (natural_add.tab k) Go.Proofs.Try.f103.ntmps (bodyOf Go.Proofs.Try.f103) Go.Proofs.Try.f103.results.toList natural_add.A natural_add.B (.seq .nil (.jseq ⟨[.dat 0 (.list (.int .u32)), .dat 1 (.list (.int .u32))], []⟩ .nil (.seq .nil (.seq .nil (.seq (.seq .nil (.block (natural_add.an0 k))) .nil))))) x = natural_add k x.1 x.2 := by kernel_rfl

theorem natural_trim.l0_ev (k n : Nat) (x : natural_trim.M0.den) :
    evalRound Go.Sh.tt (natural_trim.tab k) Go.Proofs.Try.f113.ntmps (finOf Go.Sh.tt natural_trim.B Go.Proofs.Try.f113.results.toList) (cAt [1, 0, 0, 0] (bodyOf Go.Proofs.Try.f113)) .nil natural_trim.M0 natural_trim.O0 0 (fun x => natural_trim.l0 k n x) x = natural_trim.l0 k (n + 1) x := by kernel_rfl
theorem natural_trim.ev (k : Nat) (x : denA natural_trim.A) :
    evalF Go.Sh.tt (natural_trim.tab k) Go.Proofs.Try.f113.ntmps (bodyOf Go.Proofs.Try.f113) Go.Proofs.Try.f113.results.toList natural_trim.A natural_trim.B (.seq .nil (.seq (.block (natural_trim.an0 k)) .nil)) x = natural_trim k x := by kernel_rfl

theorem natural_fit.ev (k : Nat) (x : denA natural_fit.A) :
    evalF Go.Sh.tt (natural_fit.tab k) Go.Proofs.Try.f102.ntmps (bodyOf Go.Proofs.Try.f102) Go.Proofs.Try.f102.results.toList natural_fit.A natural_fit.B .nil x = natural_fit k x := by kernel_rfl

theorem natural_Add.ev (k : Nat) (x : denA natural_Add.A) :
    evalF Go.Sh.tt (natural_Add.tab k) Go.Proofs.Try.f67.ntmps (bodyOf Go.Proofs.Try.f67) Go.Proofs.Try.f67.results.toList natural_Add.A natural_Add.B .nil x = natural_Add k x.1 x.2 := by kernel_rfl

theorem natural_sub.l0_ev (k n : Nat) (x : natural_sub.M0.den) :
    evalRound Go.Sh.tt (natural_sub.tab k) Go.Proofs.Try.f105.ntmps (finOf Go.Sh.tt natural_sub.B Go.Proofs.Try.f105.results.toList) (cAt [1, 1, 1, 0, 1, 0, 0] (bodyOf Go.Proofs.Try.f105)) (.seq .nil (.seq .nil (.seq (.block (.seq .nil (.seq .nil (.jseq ⟨[.dat 1 (.list (.int .u32)), .own 5 (.int .u32), .dat 6 (.int .u32), .dat 7 (.int .i64), .dat 8 (.int .u32), .dat 12 (.int .i64), .dat 13 (.int .i64)], []⟩ .nil .nil)))) .nil))) natural_sub.M0 natural_sub.O0 0 (fun x => natural_sub.l0 k n x.1 x.2.1 x.2.2.1 x.2.2.2.1 x.2.2.2.2) x = natural_sub.l0 k (n + 1) x.1 x.2.1 x.2.2.1 x.2.2.2.1 x.2.2.2.2 := by kernel_rfl
theorem natural_sub.ev (k : Nat) (x : denA natural_sub.A) :
    evalF Go.Sh.tt (natural_sub.tab k) Go.Proofs.Try.f105.ntmps (bodyOf Go.Proofs.Try.f105) Go.Proofs.Try.f105.results.toList natural_sub.A natural_sub.B (.seq .nil (.seq .nil (.seq .nil (.seq (.seq .nil (.block (natural_sub.an0 k))) .nil)))) x = natural_sub k x.1 x.2 := by kernel_rfl

theorem natural_Sub.ev (k : Nat) (x : denA natural_Sub.A) :
    evalF Go.Sh.tt (natural_Sub.tab k) Go.Proofs.Try.f68.ntmps (bodyOf Go.Proofs.Try.f68) Go.Proofs.Try.f68.results.toList natural_Sub.A natural_Sub.B .nil x = natural_Sub k x.1 x.2 := by kernel_rfl

theorem integer_signed.ev  (x : denA integer_signed.A) :
    evalF Go.Sh.tt (integer_signed.tab) Go.Proofs.Try.f63.ntmps (bodyOf Go.Proofs.Try.f63) Go.Proofs.Try.f63.results.toList integer_signed.A integer_signed.B .nil x = integer_signed x.1 x.2 := by kernel_rfl

theorem integer_DivMod.ev (k : Nat) (x : denA integer_DivMod.A) :
    evalF Go.Sh.tt (integer_DivMod.tab k) Go.Proofs.Try.f19.ntmps (bodyOf Go.Proofs.Try.f19) Go.Proofs.Try.f19.results.toList integer_DivMod.A integer_DivMod.B (.seq .nil (.seq .nil (.seq .nil (.seq .nil (.jseq ⟨[.box 90 [.st (.pair (.bool) (.list (.int .u32)))], .box 91 [.st (.pair (.bool) (.list (.int .u32)))], .box 92 [.st (.pair (.bool) (.list (.int .u32)))], .box 93 [.st (.pair (.bool) (.list (.int .u32)))], .box 94 [.st (.pair (.int .i64) (.int .i64))], .dat 8 (.list (.int .u32)), .dat 9 (.list (.int .u32)), .box 98 [.st (.pair (.int .i64) (.int .i64))]], [.ptr 2 90 0, .ptr 3 91 0, .ptr 4 92 0, .ptr 5 93 0, .ptr 6 94 0, .ptr 10 98 0]⟩ (.jseq ⟨[.box 90 [.st (.pair (.bool) (.list (.int .u32)))], .box 91 [.st (.pair (.bool) (.list (.int .u32)))], .box 92 [.st (.pair (.bool) (.list (.int .u32)))], .box 93 [.st (.pair (.bool) (.list (.int .u32)))], .box 94 [.st (.pair (.int .i64) (.int .i64))], .dat 8 (.list (.int .u32)), .dat 9 (.list (.int .u32)), .box 98 [.st (.pair (.int .i64) (.int .i64))], .dat 48 (.bool)], [.ptr 2 90 0, .ptr 3 91 0, .ptr 4 92 0, .ptr 5 93 0, .ptr 6 94 0, .ptr 10 98 0]⟩ .nil .nil) .nil))))) x = integer_DivMod k x.1 x.2 := by kernel_rfl

theorem natural_chunk.l0_ev (k n : Nat) (x : natural_chunk.M0.den) :
    evalRound Go.Sh.tt (natural_chunk.tab k) Go.Proofs.Try.f110.ntmps (finOf Go.Sh.tt natural_chunk.B Go.Proofs.Try.f110.results.toList) (cAt [1, 1, 0, 0, 0] (bodyOf Go.Proofs.Try.f110)) .nil natural_chunk.M0 natural_chunk.O0 0 (fun x => natural_chunk.l0 k n x.1 x.2.1 x.2.2) x = natural_chunk.l0 k (n + 1) x.1 x.2.1 x.2.2 := by kernel_rfl
theorem natural_chunk.ev (k : Nat) (x : denA natural_chunk.A) :
    evalF Go.Sh.tt (natural_chunk.tab k) Go.Proofs.Try.f110.ntmps (bodyOf Go.Proofs.Try.f110) Go.Proofs.Try.f110.results.toList natural_chunk.A natural_chunk.B (.seq .nil (.seq .nil (.seq (.block (natural_chunk.an0 k)) .nil))) x = natural_chunk k x := by kernel_rfl

theorem slices_Reverse_intint_l.l0_ev (k n : Nat) (x : slices_Reverse_intint_l.M0.den) :
    evalRound Go.Sh.tt (slices_Reverse_intint_l.tab k) Go.Proofs.Try.f112.ntmps (finOf Go.Sh.tt slices_Reverse_intint_l.B Go.Proofs.Try.f112.results.toList) (cAt [1, 0, 0] (bodyOf Go.Proofs.Try.f112)) .nil slices_Reverse_intint_l.M0 slices_Reverse_intint_l.O0 0 (fun x => slices_Reverse_intint_l.l0 k n x.1 x.2.1 x.2.2) x = slices_Reverse_intint_l.l0 k (n + 1) x.1 x.2.1 x.2.2 := by kernel_rfl
theorem slices_Reverse_intint_l.ev (k : Nat) (x : denA slices_Reverse_intint_l.A) :
    evalF Go.Sh.tt (slices_Reverse_intint_l.tab k) Go.Proofs.Try.f112.ntmps (bodyOf Go.Proofs.Try.f112) Go.Proofs.Try.f112.results.toList slices_Reverse_intint_l.A slices_Reverse_intint_l.B (.seq .nil (.block (slices_Reverse_intint_l.an0 k))) x = slices_Reverse_intint_l k x := by kernel_rfl

theorem natural_Digits.l1_ev (k n : Nat) (x : natural_Digits.M1.den) :
    evalRound Go.Sh.tt (natural_Digits.tab k) Go.Proofs.Try.f83.ntmps (finOf Go.Sh.tt natural_Digits.B Go.Proofs.Try.f83.results.toList) (cAt [1, 1, 1, 1, 0, 0, 0, 1, 0, 1, 1, 1, 0, 0] (bodyOf Go.Proofs.Try.f83)) .nil natural_Digits.M1 natural_Digits.O1 3 (fun x => natural_Digits.l1 k n x.1 x.2.1 x.2.2.1 x.2.2.2.1 x.2.2.2.2.1 x.2.2.2.2.2.1 x.2.2.2.2.2.2.1 x.2.2.2.2.2.2.2) x = natural_Digits.l1 k (n + 1) x.1 x.2.1 x.2.2.1 x.2.2.2.1 x.2.2.2.2.1 x.2.2.2.2.2.1 x.2.2.2.2.2.2.1 x.2.2.2.2.2.2.2 := by kernel_rfl
theorem natural_Digits.l0_ev (k n : Nat) (x : natural_Digits.M0.den) :
    evalRound Go.Sh.tt (natural_Digits.tab k) Go.Proofs.Try.f83.ntmps (finOf Go.Sh.tt natural_Digits.B Go.Proofs.Try.f83.results.toList) (cAt [1, 1, 1, 1, 0, 0, 0] (bodyOf Go.Proofs.Try.f83)) (.seq .nil (.block (.seq .nil (.seq .nil (.seq .nil (.block (natural_Digits.an1 k))))))) natural_Digits.M0 natural_Digits.O0 1 (fun x => natural_Digits.l0 k n x.1 x.2.1 x.2.2.1 x.2.2.2.1 x.2.2.2.2.1 x.2.2.2.2.2) x = natural_Digits.l0 k (n + 1) x.1 x.2.1 x.2.2.1 x.2.2.2.1 x.2.2.2.2.1 x.2.2.2.2.2 := by kernel_rfl
theorem natural_Digits.ev (k : Nat) (x : denA natural_Digits.A) :
    evalF Go.Sh.tt (natural_Digits.tab k) Go.Proofs.Try.f83.ntmps (bodyOf Go.Proofs.Try.f83) Go.Proofs.Try.f83.results.toList natural_Digits.A natural_Digits.B (.seq .nil (.jseq ⟨[.dat 0 (.list (.int .u32)), .dat 1 (.int .i64), .box 72 [.st (.pair (.int .i64) (.int .i64))]], [.ptr 5 72 0]⟩ .nil (.seq .nil (.seq .nil (.seq (.block (natural_Digits.an0 k)) .nil))))) x = natural_Digits k x.1 x.2 := by kernel_rfl

theorem integer_Text.l0_ev (k n : Nat) (x : integer_Text.M0.den) :
    evalRound Go.Sh.tt (integer_Text.tab k) Go.Proofs.Try.f36.ntmps (finOf Go.Sh.tt integer_Text.B Go.Proofs.Try.f36.results.toList) (cAt [1, 1, 1, 1, 1, 1, 0, 1, 0, 0] (bodyOf Go.Proofs.Try.f36)) .nil integer_Text.M0 integer_Text.O0 0 (fun x => integer_Text.l0 k n x.1 x.2.1 x.2.2.1 x.2.2.2.1 x.2.2.2.2.1 x.2.2.2.2.2) x = integer_Text.l0 k (n + 1) x.1 x.2.1 x.2.2.1 x.2.2.2.1 x.2.2.2.2.1 x.2.2.2.2.2 := by kernel_rfl
theorem integer_Text.ev (k : Nat) (x : denA integer_Text.A) :
    evalF Go.Sh.tt (integer_Text.tab k) Go.Proofs.Try.f36.ntmps (bodyOf Go.Proofs.Try.f36) Go.Proofs.Try.f36.results.toList integer_Text.A integer_Text.B (.seq .nil (.seq .nil (.seq .nil (.seq .nil (.seq .nil (.jseq ⟨[.box 61 [.st (.pair (.int .i64) (.int .i64))], .dat 7 (.list (.int .i64)), .own 9 (.int .u8)], [.ptr 5 61 0]⟩ .nil (.seq (.seq .nil (.block (integer_Text.an0 k))) .nil))))))) x = integer_Text k x.1 x.2 := by kernel_rfl

theorem brindlewoodref3_trim_v.l0_ev (k n : Nat) (x : brindlewoodref3_trim_v.M0.den) :
    evalRound Go.Sh.tt (brindlewoodref3_trim_v.tab k) Go.Proofs.Try.f74.ntmps (finOf Go.Sh.tt brindlewoodref3_trim_v.B Go.Proofs.Try.f74.results.toList) (cAt [1, 0, 0, 0] (bodyOf Go.Proofs.Try.f74)) .nil brindlewoodref3_trim_v.M0 brindlewoodref3_trim_v.O0 0 (fun x => brindlewoodref3_trim_v.l0 k n x.1 x.2) x = brindlewoodref3_trim_v.l0 k (n + 1) x.1 x.2 := by kernel_rfl
theorem brindlewoodref3_trim_v.ev (k : Nat) (x : denA brindlewoodref3_trim_v.A) :
    evalF Go.Sh.tt (brindlewoodref3_trim_v.tab k) Go.Proofs.Try.f74.ntmps (bodyOf Go.Proofs.Try.f74) Go.Proofs.Try.f74.results.toList brindlewoodref3_trim_v.A brindlewoodref3_trim_v.B (.seq .nil (.seq (.block (brindlewoodref3_trim_v.an0 k)) .nil)) x = brindlewoodref3_trim_v k x := by kernel_rfl

theorem brindlewoodref3_Binary.l1_ev (k n : Nat) (x : brindlewoodref3_Binary.M1.den) :
    evalRound Go.Sh.tt (brindlewoodref3_Binary.tab k) Go.Proofs.Try.f69.ntmps (finOf Go.Sh.tt brindlewoodref3_Binary.B Go.Proofs.Try.f69.results.toList) (cAt [1, 1, 0, 1, 0, 0, 1, 0, 0, 1, 0, 1, 0, 0] (bodyOf Go.Proofs.Try.f69)) .nil brindlewoodref3_Binary.M1 brindlewoodref3_Binary.O1 2 (fun x => brindlewoodref3_Binary.l1 k n x.1 x.2.1 x.2.2.1 x.2.2.2.1 x.2.2.2.2) x = brindlewoodref3_Binary.l1 k (n + 1) x.1 x.2.1 x.2.2.1 x.2.2.2.1 x.2.2.2.2 := by kernel_rfl
theorem brindlewoodref3_Binary.l0_ev (k n : Nat) (x : brindlewoodref3_Binary.M0.den) :
    evalRound Go.Sh.tt (brindlewoodref3_Binary.tab k) Go.Proofs.Try.f69.ntmps (finOf Go.Sh.tt brindlewoodref3_Binary.B Go.Proofs.Try.f69.results.toList) (cAt [1, 1, 0, 1, 0, 0] (bodyOf Go.Proofs.Try.f69)) (.seq .nil (.seq (.block (.seq .nil (.seq (.seq .nil (.block (brindlewoodref3_Binary.an1 k))) .nil))) .nil)) brindlewoodref3_Binary.M0 brindlewoodref3_Binary.O0 0 (fun x => brindlewoodref3_Binary.l0 k n x.1 x.2.1 x.2.2) x = brindlewoodref3_Binary.l0 k (n + 1) x.1 x.2.1 x.2.2 := by kernel_rfl
theorem brindlewoodref3_Binary.ev (k : Nat) (x : denA brindlewoodref3_Binary.A) :
    evalF Go.Sh.tt (brindlewoodref3_Binary.tab k) Go.Proofs.Try.f69.ntmps (bodyOf Go.Proofs.Try.f69) Go.Proofs.Try.f69.results.toList brindlewoodref3_Binary.A brindlewoodref3_Binary.B (.seq .nil (.seq .nil (.seq (.seq .nil (.block (brindlewoodref3_Binary.an0 k))) .nil))) x = brindlewoodref3_Binary k x := by kernel_rfl

theorem brindlewoodref3_Number.l0_ev (k n : Nat) (x : brindlewoodref3_Number.M0.den) :
    evalRound Go.Sh.tt (brindlewoodref3_Number.tab k) Go.Proofs.Try.f21.ntmps (finOf Go.Sh.tt brindlewoodref3_Number.B Go.Proofs.Try.f21.results.toList) (cAt [1, 1, 1, 0, 0, 0] (bodyOf Go.Proofs.Try.f21)) .nil brindlewoodref3_Number.M0 brindlewoodref3_Number.O0 0 (fun x => brindlewoodref3_Number.l0 k n x.1 x.2.1 x.2.2.1 x.2.2.2) x = brindlewoodref3_Number.l0 k (n + 1) x.1 x.2.1 x.2.2.1 x.2.2.2 := by kernel_rfl
theorem brindlewoodref3_Number.ev (k : Nat) (x : denA brindlewoodref3_Number.A) :
    evalF Go.Sh.tt (brindlewoodref3_Number.tab k) Go.Proofs.Try.f21.ntmps (bodyOf Go.Proofs.Try.f21) Go.Proofs.Try.f21.results.toList brindlewoodref3_Number.A brindlewoodref3_Number.B (.seq .nil (.seq .nil (.seq .nil (.seq (.block (brindlewoodref3_Number.an0 k)) .nil)))) x = brindlewoodref3_Number k x := by kernel_rfl

theorem brindlewoodref3_Limbs.l0_ev (k n : Nat) (x : brindlewoodref3_Limbs.M0.den) :
    evalRound Go.Sh.tt (brindlewoodref3_Limbs.tab k) Go.Proofs.Try.f53.ntmps (finOf Go.Sh.tt brindlewoodref3_Limbs.B Go.Proofs.Try.f53.results.toList) (cAt [1, 1, 0, 1, 0, 0] (bodyOf Go.Proofs.Try.f53)) .nil brindlewoodref3_Limbs.M0 brindlewoodref3_Limbs.O0 0 (fun x => brindlewoodref3_Limbs.l0 k n x.1 x.2.1 x.2.2) x = brindlewoodref3_Limbs.l0 k (n + 1) x.1 x.2.1 x.2.2 := by kernel_rfl
theorem brindlewoodref3_Limbs.ev (k : Nat) (x : denA brindlewoodref3_Limbs.A) :
    evalF Go.Sh.tt (brindlewoodref3_Limbs.tab k) Go.Proofs.Try.f53.ntmps (bodyOf Go.Proofs.Try.f53) Go.Proofs.Try.f53.results.toList brindlewoodref3_Limbs.A brindlewoodref3_Limbs.B (.seq .nil (.seq .nil (.seq (.seq .nil (.block (brindlewoodref3_Limbs.an0 k))) .nil))) x = brindlewoodref3_Limbs k x := by kernel_rfl

theorem brindlewoodref3_SameLimbs.l0_ev (k n : Nat) (x : brindlewoodref3_SameLimbs.M0.den) :
    evalRound Go.Sh.tt (brindlewoodref3_SameLimbs.tab k) Go.Proofs.Try.f65.ntmps (finOf Go.Sh.tt brindlewoodref3_SameLimbs.B Go.Proofs.Try.f65.results.toList) (cAt [1, 1, 0, 1, 0, 0] (bodyOf Go.Proofs.Try.f65)) .nil brindlewoodref3_SameLimbs.M0 brindlewoodref3_SameLimbs.O0 0 (fun x => brindlewoodref3_SameLimbs.l0 k n x.1 x.2.1 x.2.2) x = brindlewoodref3_SameLimbs.l0 k (n + 1) x.1 x.2.1 x.2.2 := by kernel_rfl
theorem brindlewoodref3_SameLimbs.ev (k : Nat) (x : denA brindlewoodref3_SameLimbs.A) :
    evalF Go.Sh.tt (brindlewoodref3_SameLimbs.tab k) Go.Proofs.Try.f65.ntmps (bodyOf Go.Proofs.Try.f65) Go.Proofs.Try.f65.results.toList brindlewoodref3_SameLimbs.A brindlewoodref3_SameLimbs.B (.seq .nil (.seq .nil (.seq (.seq .nil (.block (brindlewoodref3_SameLimbs.an0 k))) .nil))) x = brindlewoodref3_SameLimbs k x.1 x.2 := by kernel_rfl

theorem brindlewoodref3_SameInt.ev (k : Nat) (x : denA brindlewoodref3_SameInt.A) :
    evalF Go.Sh.tt (brindlewoodref3_SameInt.tab k) Go.Proofs.Try.f20.ntmps (bodyOf Go.Proofs.Try.f20) Go.Proofs.Try.f20.results.toList brindlewoodref3_SameInt.A brindlewoodref3_SameInt.B .nil x = brindlewoodref3_SameInt k x.1 x.2 := by kernel_rfl

theorem brindlewoodlaw3_counts.ev (k : Nat) (x : denA brindlewoodlaw3_counts.A) :
    evalF Go.Sh.tt (brindlewoodlaw3_counts.tab k) Go.Proofs.Try.f13.ntmps (bodyOf Go.Proofs.Try.f13) Go.Proofs.Try.f13.results.toList brindlewoodlaw3_counts.A brindlewoodlaw3_counts.B .nil x = brindlewoodlaw3_counts k  := by kernel_rfl

theorem brindlewoodref3_IntOk.ev  (x : denA brindlewoodref3_IntOk.A) :
    evalF Go.Sh.tt (brindlewoodref3_IntOk.tab) Go.Proofs.Try.f23.ntmps (bodyOf Go.Proofs.Try.f23) Go.Proofs.Try.f23.results.toList brindlewoodref3_IntOk.A brindlewoodref3_IntOk.B .nil x = brindlewoodref3_IntOk x := by kernel_rfl

theorem brindlewoodref3_At.ev  (x : denA brindlewoodref3_At.A) :
    evalF Go.Sh.tt (brindlewoodref3_At.tab) Go.Proofs.Try.f24.ntmps (bodyOf Go.Proofs.Try.f24) Go.Proofs.Try.f24.results.toList brindlewoodref3_At.A brindlewoodref3_At.B .nil x = brindlewoodref3_At x.1 x.2 := by kernel_rfl

theorem brindlewoodref3_Faults.l0_ev (k n : Nat) (x : brindlewoodref3_Faults.M0.den) :
    evalRound Go.Sh.tt (brindlewoodref3_Faults.tab k) Go.Proofs.Try.f14.ntmps (finOf Go.Sh.tt brindlewoodref3_Faults.B Go.Proofs.Try.f14.results.toList) (cAt [1, 0, 1, 0, 0] (bodyOf Go.Proofs.Try.f14)) .nil brindlewoodref3_Faults.M0 brindlewoodref3_Faults.O0 0 (fun x => brindlewoodref3_Faults.l0 k n x.1 x.2.1 x.2.2) x = brindlewoodref3_Faults.l0 k (n + 1) x.1 x.2.1 x.2.2 := by kernel_rfl
theorem brindlewoodref3_Faults.ev (k : Nat) (x : denA brindlewoodref3_Faults.A) :
    evalF Go.Sh.tt (brindlewoodref3_Faults.tab k) Go.Proofs.Try.f14.ntmps (bodyOf Go.Proofs.Try.f14) Go.Proofs.Try.f14.results.toList brindlewoodref3_Faults.A brindlewoodref3_Faults.B (.seq .nil (.seq (.seq .nil (.block (brindlewoodref3_Faults.an0 k))) .nil)) x = brindlewoodref3_Faults k x := by kernel_rfl

theorem natural_Gcd.l0_ev (k n : Nat) (x : natural_Gcd.M0.den) :
    evalRound Go.Sh.tt (natural_Gcd.tab k) Go.Proofs.Try.f62.ntmps (finOf Go.Sh.tt natural_Gcd.B Go.Proofs.Try.f62.results.toList) (cAt [1, 1, 1, 0, 0, 0] (bodyOf Go.Proofs.Try.f62)) .nil natural_Gcd.M0 natural_Gcd.O0 0 (fun x => natural_Gcd.l0 k n x.1 x.2.1 x.2.2) x = natural_Gcd.l0 k (n + 1) x.1 x.2.1 x.2.2 := by kernel_rfl
theorem natural_Gcd.ev (k : Nat) (x : denA natural_Gcd.A) :
    evalF Go.Sh.tt (natural_Gcd.tab k) Go.Proofs.Try.f62.ntmps (bodyOf Go.Proofs.Try.f62) Go.Proofs.Try.f62.results.toList natural_Gcd.A natural_Gcd.B (.seq .nil (.seq .nil (.seq .nil (.seq (.block (natural_Gcd.an0 k)) .nil)))) x = natural_Gcd k x.1 x.2 := by kernel_rfl

theorem integer_Gcd.ev (k : Nat) (x : denA integer_Gcd.A) :
    evalF Go.Sh.tt (integer_Gcd.tab k) Go.Proofs.Try.f15.ntmps (bodyOf Go.Proofs.Try.f15) Go.Proofs.Try.f15.results.toList integer_Gcd.A integer_Gcd.B .nil x = integer_Gcd k x.1 x.2 := by kernel_rfl

theorem natural_Cmp.ev (k : Nat) (x : denA natural_Cmp.A) :
    evalF Go.Sh.tt (natural_Cmp.tab k) Go.Proofs.Try.f88.ntmps (bodyOf Go.Proofs.Try.f88) Go.Proofs.Try.f88.results.toList natural_Cmp.A natural_Cmp.B .nil x = natural_Cmp k x.1 x.2 := by kernel_rfl

theorem integer_plus.ev (k : Nat) (x : denA integer_plus.A) :
    evalF Go.Sh.tt (integer_plus.tab k) Go.Proofs.Try.f64.ntmps (bodyOf Go.Proofs.Try.f64) Go.Proofs.Try.f64.results.toList integer_plus.A integer_plus.B (.seq .nil (.seq .nil (.jseq ⟨[.box 59 [.st (.pair (.bool) (.list (.int .u32)))], .box 60 [.st (.pair (.bool) (.list (.int .u32)))], .box 61 [.st (.pair (.bool) (.list (.int .u32)))], .box 62 [.st (.pair (.int .i64) (.int .i64))]], [.ptr 2 59 0, .ptr 3 60 0, .ptr 4 61 0, .ptr 5 62 0]⟩ .nil .nil))) x = integer_plus k x.1 x.2 := by kernel_rfl

theorem integer_Sub.ev (k : Nat) (x : denA integer_Sub.A) :
    evalF Go.Sh.tt (integer_Sub.tab k) Go.Proofs.Try.f16.ntmps (bodyOf Go.Proofs.Try.f16) Go.Proofs.Try.f16.results.toList integer_Sub.A integer_Sub.B .nil x = integer_Sub k x.1 x.2 := by kernel_rfl

theorem brindlewoodref3_SameInts.ev (k : Nat) (x : denA brindlewoodref3_SameInts.A) :
    evalF Go.Sh.tt (brindlewoodref3_SameInts.tab k) Go.Proofs.Try.f17.ntmps (bodyOf Go.Proofs.Try.f17) Go.Proofs.Try.f17.results.toList brindlewoodref3_SameInts.A brindlewoodref3_SameInts.B .nil x = brindlewoodref3_SameInts k x.1 x.2 := by kernel_rfl

theorem brindlewoodref3_NoInt.ev  (x : denA brindlewoodref3_NoInt.A) :
    evalF Go.Sh.tt (brindlewoodref3_NoInt.tab) Go.Proofs.Try.f18.ntmps (bodyOf Go.Proofs.Try.f18) Go.Proofs.Try.f18.results.toList brindlewoodref3_NoInt.A brindlewoodref3_NoInt.B .nil x = brindlewoodref3_NoInt x := by kernel_rfl

theorem brindlewoodlaw3_IntegerDivisors.ev (k : Nat) (x : denA brindlewoodlaw3_IntegerDivisors.A) :
    evalF Go.Sh.tt (brindlewoodlaw3_IntegerDivisors.tab k) Go.Proofs.Try.f3.ntmps (bodyOf Go.Proofs.Try.f3) Go.Proofs.Try.f3.results.toList brindlewoodlaw3_IntegerDivisors.A brindlewoodlaw3_IntegerDivisors.B (.seq .nil (.seq .nil (.jseq ⟨[.box 133 [.st (.pair (.bool) (.list (.int .u32)))], .box 134 [.st (.pair (.bool) (.list (.int .u32)))]], [.ptr 2 133 0, .ptr 3 134 0]⟩ .nil (.seq .nil (.seq .nil (.seq .nil (.jseq ⟨[.box 133 [.st (.pair (.bool) (.list (.int .u32)))], .box 134 [.st (.pair (.bool) (.list (.int .u32)))], .box 136 [.st (.pair (.bool) (.list (.int .u32)))], .box 137 [.st (.pair (.int .i64) (.int .i64))], .box 139 [.st (.pair (.int .i64) (.int .i64))], .box 141 [.st (.pair (.int .i64) (.int .i64))]], [.ptr 2 133 0, .ptr 3 134 0, .ptr 5 136 0, .ptr 6 137 0, .ptr 8 139 0, .ptr 10 141 0]⟩ .nil .nil))))))) x = brindlewoodlaw3_IntegerDivisors k x.1 x.2 := by kernel_rfl

theorem natural_Bits.ev  (x : denA natural_Bits.A) :
    evalF Go.Sh.tt (natural_Bits.tab) Go.Proofs.Try.f89.ntmps (bodyOf Go.Proofs.Try.f89) Go.Proofs.Try.f89.results.toList natural_Bits.A natural_Bits.B .nil x = natural_Bits x := by kernel_rfl

theorem natural_Sqrt.l0_ev (k n : Nat) (x : natural_Sqrt.M0.den) :
    evalRound Go.Sh.tt (natural_Sqrt.tab k) Go.Proofs.Try.f71.ntmps (finOf Go.Sh.tt natural_Sqrt.B Go.Proofs.Try.f71.results.toList) (cAt [1, 1, 1, 1, 0, 0] (bodyOf Go.Proofs.Try.f71)) .nil natural_Sqrt.M0 natural_Sqrt.O0 0 (fun x => natural_Sqrt.l0 k n x.1 x.2.1 x.2.2) x = natural_Sqrt.l0 k (n + 1) x.1 x.2.1 x.2.2 := by kernel_rfl
theorem natural_Sqrt.ev (k : Nat) (x : denA natural_Sqrt.A) :
    evalF Go.Sh.tt (natural_Sqrt.tab k) Go.Proofs.Try.f71.ntmps (bodyOf Go.Proofs.Try.f71) Go.Proofs.Try.f71.results.toList natural_Sqrt.A natural_Sqrt.B (.seq .nil (.seq .nil (.jseq ⟨[.dat 0 (.list (.int .u32)), .box 48 [.st (.pair (.int .i64) (.int .i64))], .dat 4 (.int .i64)], [.ptr 3 48 0]⟩ .nil (.seq .nil (.block (natural_Sqrt.an0 k)))))) x = natural_Sqrt k x := by kernel_rfl

theorem integer_Sqrt.ev (k : Nat) (x : denA integer_Sqrt.A) :
    evalF Go.Sh.tt (integer_Sqrt.tab k) Go.Proofs.Try.f22.ntmps (bodyOf Go.Proofs.Try.f22) Go.Proofs.Try.f22.results.toList integer_Sqrt.A integer_Sqrt.B .nil x = integer_Sqrt k x := by kernel_rfl

theorem brindlewoodref3_Of.l0_ev (k n : Nat) (x : brindlewoodref3_Of.M0.den) :
    evalRound Go.Sh.tt (brindlewoodref3_Of.tab k) Go.Proofs.Try.f26.ntmps (finOf Go.Sh.tt brindlewoodref3_Of.B Go.Proofs.Try.f26.results.toList) (cAt [1, 1, 0, 1, 0, 0] (bodyOf Go.Proofs.Try.f26)) .nil brindlewoodref3_Of.M0 brindlewoodref3_Of.O0 0 (fun x => brindlewoodref3_Of.l0 k n x.1 x.2.1 x.2.2) x = brindlewoodref3_Of.l0 k (n + 1) x.1 x.2.1 x.2.2 := by kernel_rfl
theorem brindlewoodref3_Of.ev (k : Nat) (x : denA brindlewoodref3_Of.A) :
    evalF Go.Sh.tt (brindlewoodref3_Of.tab k) Go.Proofs.Try.f26.ntmps (bodyOf Go.Proofs.Try.f26) Go.Proofs.Try.f26.results.toList brindlewoodref3_Of.A brindlewoodref3_Of.B (.seq .nil (.seq .nil (.seq (.seq .nil (.block (brindlewoodref3_Of.an0 k))) .nil))) x = brindlewoodref3_Of k x := by kernel_rfl

theorem brindlewoodref3_Ones.l2_ev (k n : Nat) (x : brindlewoodref3_Ones.M2.den) :
    evalRound Go.Sh.tt (brindlewoodref3_Ones.tab k) Go.Proofs.Try.f48.ntmps (finOf Go.Sh.tt brindlewoodref3_Ones.B Go.Proofs.Try.f48.results.toList) (cAt [1, 1, 1, 0, 0, 0] (bodyOf Go.Proofs.Try.f48)) .nil brindlewoodref3_Ones.M2 brindlewoodref3_Ones.O2 4 (fun x => brindlewoodref3_Ones.l2 k n x) x = brindlewoodref3_Ones.l2 k (n + 1) x := by kernel_rfl
theorem brindlewoodref3_Ones.l1_ev (k n : Nat) (x : brindlewoodref3_Ones.M1.den) :
    evalRound Go.Sh.tt (brindlewoodref3_Ones.tab k) Go.Proofs.Try.f48.ntmps (finOf Go.Sh.tt brindlewoodref3_Ones.B Go.Proofs.Try.f48.results.toList) (cAt [1, 1, 0, 1, 0, 0, 1, 0, 0, 1, 1, 0, 0] (bodyOf Go.Proofs.Try.f48)) .nil brindlewoodref3_Ones.M1 brindlewoodref3_Ones.O1 2 (fun x => brindlewoodref3_Ones.l1 k n x.1 x.2.1 x.2.2.1 x.2.2.2.1 x.2.2.2.2) x = brindlewoodref3_Ones.l1 k (n + 1) x.1 x.2.1 x.2.2.1 x.2.2.2.1 x.2.2.2.2 := by kernel_rfl
theorem brindlewoodref3_Ones.l0_ev (k n : Nat) (x : brindlewoodref3_Ones.M0.den) :
    evalRound Go.Sh.tt (brindlewoodref3_Ones.tab k) Go.Proofs.Try.f48.ntmps (finOf Go.Sh.tt brindlewoodref3_Ones.B Go.Proofs.Try.f48.results.toList) (cAt [1, 1, 0, 1, 0, 0] (bodyOf Go.Proofs.Try.f48)) (.seq .nil (.seq (.block (.seq .nil (.seq .nil (.block (brindlewoodref3_Ones.an1 k))))) .nil)) brindlewoodref3_Ones.M0 brindlewoodref3_Ones.O0 0 (fun x => brindlewoodref3_Ones.l0 k n x.1 x.2.1 x.2.2) x = brindlewoodref3_Ones.l0 k (n + 1) x.1 x.2.1 x.2.2 := by kernel_rfl
theorem brindlewoodref3_Ones.ev (k : Nat) (x : denA brindlewoodref3_Ones.A) :
    evalF Go.Sh.tt (brindlewoodref3_Ones.tab k) Go.Proofs.Try.f48.ntmps (bodyOf Go.Proofs.Try.f48) Go.Proofs.Try.f48.results.toList brindlewoodref3_Ones.A brindlewoodref3_Ones.B (.seq .nil (.seq .nil (.seq (.seq .nil (.block (brindlewoodref3_Ones.an0 k))) (.seq (.block (brindlewoodref3_Ones.an2 k)) .nil)))) x = brindlewoodref3_Ones k x := by kernel_rfl

theorem brindlewoodref3_Times.l1_ev (k n : Nat) (x : brindlewoodref3_Times.M1.den) :
    evalRound Go.Sh.tt (brindlewoodref3_Times.tab k) Go.Proofs.Try.f73.ntmps (finOf Go.Sh.tt brindlewoodref3_Times.B Go.Proofs.Try.f73.results.toList) (cAt [1, 1, 0, 1, 0, 0, 1, 0, 0, 1, 1, 0, 0] (bodyOf Go.Proofs.Try.f73)) .nil brindlewoodref3_Times.M1 brindlewoodref3_Times.O1 2 (fun x => brindlewoodref3_Times.l1 k n x.1 x.2.1 x.2.2.1 x.2.2.2.1 x.2.2.2.2.1 x.2.2.2.2.2) x = brindlewoodref3_Times.l1 k (n + 1) x.1 x.2.1 x.2.2.1 x.2.2.2.1 x.2.2.2.2.1 x.2.2.2.2.2 := by kernel_rfl
theorem brindlewoodref3_Times.l0_ev (k n : Nat) (x : brindlewoodref3_Times.M0.den) :
    evalRound Go.Sh.tt (brindlewoodref3_Times.tab k) Go.Proofs.Try.f73.ntmps (finOf Go.Sh.tt brindlewoodref3_Times.B Go.Proofs.Try.f73.results.toList) (cAt [1, 1, 0, 1, 0, 0] (bodyOf Go.Proofs.Try.f73)) (.seq .nil (.seq (.block (.seq .nil (.seq .nil (.block (brindlewoodref3_Times.an1 k))))) .nil)) brindlewoodref3_Times.M0 brindlewoodref3_Times.O0 0 (fun x => brindlewoodref3_Times.l0 k n x.1 x.2.1 x.2.2.1 x.2.2.2) x = brindlewoodref3_Times.l0 k (n + 1) x.1 x.2.1 x.2.2.1 x.2.2.2 := by kernel_rfl
theorem brindlewoodref3_Times.ev (k : Nat) (x : denA brindlewoodref3_Times.A) :
    evalF Go.Sh.tt (brindlewoodref3_Times.tab k) Go.Proofs.Try.f73.ntmps (bodyOf Go.Proofs.Try.f73) Go.Proofs.Try.f73.results.toList brindlewoodref3_Times.A brindlewoodref3_Times.B (.seq .nil (.seq .nil (.seq (.seq .nil (.block (brindlewoodref3_Times.an0 k))) .nil))) x = brindlewoodref3_Times k x.1 x.2 := by kernel_rfl

theorem brindlewoodref3_Compare.l0_ev (k n : Nat) (x : brindlewoodref3_Compare.M0.den) :
    evalRound Go.Sh.tt (brindlewoodref3_Compare.tab k) Go.Proofs.Try.f72.ntmps (finOf Go.Sh.tt brindlewoodref3_Compare.B Go.Proofs.Try.f72.results.toList) (cAt [1, 1, 0, 1, 0, 0] (bodyOf Go.Proofs.Try.f72)) .nil brindlewoodref3_Compare.M0 brindlewoodref3_Compare.O0 0 (fun x => brindlewoodref3_Compare.l0 k n x.1 x.2.1 x.2.2) x = brindlewoodref3_Compare.l0 k (n + 1) x.1 x.2.1 x.2.2 := by kernel_rfl
theorem brindlewoodref3_Compare.ev (k : Nat) (x : denA brindlewoodref3_Compare.A) :
    evalF Go.Sh.tt (brindlewoodref3_Compare.tab k) Go.Proofs.Try.f72.ntmps (bodyOf Go.Proofs.Try.f72) Go.Proofs.Try.f72.results.toList brindlewoodref3_Compare.A brindlewoodref3_Compare.B (.seq .nil (.seq .nil (.seq (.seq .nil (.block (brindlewoodref3_Compare.an0 k))) .nil))) x = brindlewoodref3_Compare k x.1 x.2 := by kernel_rfl

theorem brindlewoodref3_Root.l0_ev (k n : Nat) (x : brindlewoodref3_Root.M0.den) :
    evalRound Go.Sh.tt (brindlewoodref3_Root.tab k) Go.Proofs.Try.f25.ntmps (finOf Go.Sh.tt brindlewoodref3_Root.B Go.Proofs.Try.f25.results.toList) (cAt [1, 1, 1, 0, 1, 0, 0] (bodyOf Go.Proofs.Try.f25)) .nil brindlewoodref3_Root.M0 brindlewoodref3_Root.O0 0 (fun x => brindlewoodref3_Root.l0 k n x.1 x.2.1 x.2.2) x = brindlewoodref3_Root.l0 k (n + 1) x.1 x.2.1 x.2.2 := by kernel_rfl
theorem brindlewoodref3_Root.ev (k : Nat) (x : denA brindlewoodref3_Root.A) :
    evalF Go.Sh.tt (brindlewoodref3_Root.tab k) Go.Proofs.Try.f25.ntmps (bodyOf Go.Proofs.Try.f25) Go.Proofs.Try.f25.results.toList brindlewoodref3_Root.A brindlewoodref3_Root.B (.seq .nil (.seq .nil (.seq .nil (.seq (.seq .nil (.block (brindlewoodref3_Root.an0 k))) .nil)))) x = brindlewoodref3_Root k x := by kernel_rfl

theorem brindlewoodref3_Halve.l0_ev (k n : Nat) (x : brindlewoodref3_Halve.M0.den) :
    evalRound Go.Sh.tt (brindlewoodref3_Halve.tab k) Go.Proofs.Try.f75.ntmps (finOf Go.Sh.tt brindlewoodref3_Halve.B Go.Proofs.Try.f75.results.toList) (cAt [1, 1, 1, 0, 1, 0, 0] (bodyOf Go.Proofs.Try.f75)) .nil brindlewoodref3_Halve.M0 brindlewoodref3_Halve.O0 0 (fun x => brindlewoodref3_Halve.l0 k n x.1 x.2.1 x.2.2.1 x.2.2.2.1 x.2.2.2.2) x = brindlewoodref3_Halve.l0 k (n + 1) x.1 x.2.1 x.2.2.1 x.2.2.2.1 x.2.2.2.2 := by kernel_rfl
theorem brindlewoodref3_Halve.ev (k : Nat) (x : denA brindlewoodref3_Halve.A) :
    evalF Go.Sh.tt (brindlewoodref3_Halve.tab k) Go.Proofs.Try.f75.ntmps (bodyOf Go.Proofs.Try.f75) Go.Proofs.Try.f75.results.toList brindlewoodref3_Halve.A brindlewoodref3_Halve.B (.seq .nil (.seq .nil (.seq .nil (.seq (.seq .nil (.block (brindlewoodref3_Halve.an0 k))) .nil)))) x = brindlewoodref3_Halve k x.1 x.2 := by kernel_rfl

theorem brindlewoodref3_Minus.l0_ev (k n : Nat) (x : brindlewoodref3_Minus.M0.den) :
    evalRound Go.Sh.tt (brindlewoodref3_Minus.tab k) Go.Proofs.Try.f76.ntmps (finOf Go.Sh.tt brindlewoodref3_Minus.B Go.Proofs.Try.f76.results.toList) (cAt [1, 1, 1, 0, 1, 0, 0] (bodyOf Go.Proofs.Try.f76)) (.seq .nil (.seq (.block (.seq .nil (.jseq ⟨[.dat 0 (.list (.int .i64)), .dat 1 (.list (.int .i64)), .own 5 (.int .i64), .dat 7 (.int .i64), .dat 8 (.int .i64)], []⟩ .nil .nil))) .nil)) brindlewoodref3_Minus.M0 brindlewoodref3_Minus.O0 0 (fun x => brindlewoodref3_Minus.l0 k n x.1 x.2.1 x.2.2.1 x.2.2.2.1 x.2.2.2.2) x = brindlewoodref3_Minus.l0 k (n + 1) x.1 x.2.1 x.2.2.1 x.2.2.2.1 x.2.2.2.2 := by kernel_rfl
theorem brindlewoodref3_Minus.ev (k : Nat) (x : denA brindlewoodref3_Minus.A) :
    evalF Go.Sh.tt (brindlewoodref3_Minus.tab k) Go.Proofs.Try.f76.ntmps (bodyOf Go.Proofs.Try.f76) Go.Proofs.Try.f76.results.toList brindlewoodref3_Minus.A brindlewoodref3_Minus.B (.seq .nil (.seq .nil (.seq .nil (.seq (.seq .nil (.block (brindlewoodref3_Minus.an0 k))) .nil)))) x = brindlewoodref3_Minus k x.1 x.2 := by kernel_rfl

theorem brindlewoodref3_Plus.l0_ev (k n : Nat) (x : brindlewoodref3_Plus.M0.den) :
    evalRound Go.Sh.tt (brindlewoodref3_Plus.tab k) Go.Proofs.Try.f77.ntmps (finOf Go.Sh.tt brindlewoodref3_Plus.B Go.Proofs.Try.f77.results.toList) (cAt [1, 1, 1, 0, 1, 0, 0] (bodyOf Go.Proofs.Try.f77)) (.seq .nil (.seq (.block (.jseq ⟨[.dat 0 (.list (.int .i64)), .dat 1 (.list (.int .i64)), .own 5 (.int .i64), .dat 6 (.int .i64), .dat 7 (.int .i64)], []⟩ .nil .nil)) .nil)) brindlewoodref3_Plus.M0 brindlewoodref3_Plus.O0 0 (fun x => brindlewoodref3_Plus.l0 k n x.1 x.2.1 x.2.2.1 x.2.2.2.1 x.2.2.2.2) x = brindlewoodref3_Plus.l0 k (n + 1) x.1 x.2.1 x.2.2.1 x.2.2.2.1 x.2.2.2.2 := by kernel_rfl
theorem brindlewoodref3_Plus.ev (k : Nat) (x : denA brindlewoodref3_Plus.A) :
    evalF Go.Sh.tt (brindlewoodref3_Plus.tab k) Go.Proofs.Try.f77.ntmps (bodyOf Go.Proofs.Try.f77) Go.Proofs.Try.f77.results.toList brindlewoodref3_Plus.A brindlewoodref3_Plus.B (.seq .nil (.seq .nil (.seq .nil (.seq (.seq .nil (.block (brindlewoodref3_Plus.an0 k))) .nil)))) x = brindlewoodref3_Plus k x.1 x.2 := by kernel_rfl

theorem brindlewoodref3_Double.l0_ev (k n : Nat) (x : brindlewoodref3_Double.M0.den) :
    evalRound Go.Sh.tt (brindlewoodref3_Double.tab k) Go.Proofs.Try.f78.ntmps (finOf Go.Sh.tt brindlewoodref3_Double.B Go.Proofs.Try.f78.results.toList) (cAt [1, 1, 1, 1, 0, 1, 0, 0] (bodyOf Go.Proofs.Try.f78)) .nil brindlewoodref3_Double.M0 brindlewoodref3_Double.O0 0 (fun x => brindlewoodref3_Double.l0 k n x.1 x.2.1 x.2.2.1 x.2.2.2) x = brindlewoodref3_Double.l0 k (n + 1) x.1 x.2.1 x.2.2.1 x.2.2.2 := by kernel_rfl
theorem brindlewoodref3_Double.ev (k : Nat) (x : denA brindlewoodref3_Double.A) :
    evalF Go.Sh.tt (brindlewoodref3_Double.tab k) Go.Proofs.Try.f78.ntmps (bodyOf Go.Proofs.Try.f78) Go.Proofs.Try.f78.results.toList brindlewoodref3_Double.A brindlewoodref3_Double.B (.seq .nil (.seq .nil (.jseq ⟨[.dat 0 (.list (.int .i64)), .dat 5 (.int .i64)], []⟩ .nil (.seq .nil (.seq (.seq .nil (.block (brindlewoodref3_Double.an0 k))) .nil))))) x = brindlewoodref3_Double k x.1 x.2 := by kernel_rfl

theorem brindlewoodref3_Common.l1_ev (k n : Nat) (x : brindlewoodref3_Common.M1.den) :
    evalRound Go.Sh.tt (brindlewoodref3_Common.tab k) Go.Proofs.Try.f27.ntmps (finOf Go.Sh.tt brindlewoodref3_Common.B Go.Proofs.Try.f27.results.toList) (cAt [1, 1, 1, 1, 0, 0, 0] (bodyOf Go.Proofs.Try.f27)) .nil brindlewoodref3_Common.M1 brindlewoodref3_Common.O1 3 (fun x => brindlewoodref3_Common.l1 k n x.1 x.2) x = brindlewoodref3_Common.l1 k (n + 1) x.1 x.2 := by kernel_rfl
theorem brindlewoodref3_Common.l0_ev (k n : Nat) (x : brindlewoodref3_Common.M0.den) :
    evalRound Go.Sh.tt (brindlewoodref3_Common.tab k) Go.Proofs.Try.f27.ntmps (finOf Go.Sh.tt brindlewoodref3_Common.B Go.Proofs.Try.f27.results.toList) (cAt [1, 1, 0, 0, 0] (bodyOf Go.Proofs.Try.f27)) (.seq .nil (.block (.block (.jseq ⟨[.dat 0 (.list (.int .i64)), .dat 1 (.list (.int .i64)), .dat 5 (.int .i64), .dat 11 (.list (.int .i64)), .dat 12 (.int .i64), .dat 13 (.bool), .dat 18 (.bool)], []⟩ .nil .nil)))) brindlewoodref3_Common.M0 brindlewoodref3_Common.O0 0 (fun x => brindlewoodref3_Common.l0 k n x.1 x.2.1 x.2.2) x = brindlewoodref3_Common.l0 k (n + 1) x.1 x.2.1 x.2.2 := by kernel_rfl
theorem brindlewoodref3_Common.ev (k : Nat) (x : denA brindlewoodref3_Common.A) :
    evalF Go.Sh.tt (brindlewoodref3_Common.tab k) Go.Proofs.Try.f27.ntmps (bodyOf Go.Proofs.Try.f27) Go.Proofs.Try.f27.results.toList brindlewoodref3_Common.A brindlewoodref3_Common.B (.seq .nil (.seq .nil (.seq (.block (brindlewoodref3_Common.an0 k)) (.seq .nil (.seq (.block (brindlewoodref3_Common.an1 k)) .nil))))) x = brindlewoodref3_Common k x.1 x.2 := by kernel_rfl

theorem brindlewoodref3_IntOf.ev (k : Nat) (x : denA brindlewoodref3_IntOf.A) :
    evalF Go.Sh.tt (brindlewoodref3_IntOf.tab k) Go.Proofs.Try.f28.ntmps (bodyOf Go.Proofs.Try.f28) Go.Proofs.Try.f28.results.toList brindlewoodref3_IntOf.A brindlewoodref3_IntOf.B .nil x = brindlewoodref3_IntOf k x := by kernel_rfl

theorem brindlewoodref3_Divide.l0_ev (k n : Nat) (x : brindlewoodref3_Divide.M0.den) :
    evalRound Go.Sh.tt (brindlewoodref3_Divide.tab k) Go.Proofs.Try.f79.ntmps (finOf Go.Sh.tt brindlewoodref3_Divide.B Go.Proofs.Try.f79.results.toList) (cAt [1, 1, 1, 1, 0, 1, 0, 0] (bodyOf Go.Proofs.Try.f79)) .nil brindlewoodref3_Divide.M0 brindlewoodref3_Divide.O0 0 (fun x => brindlewoodref3_Divide.l0 k n x.1 x.2.1 x.2.2.1 x.2.2.2.1 x.2.2.2.2) x = brindlewoodref3_Divide.l0 k (n + 1) x.1 x.2.1 x.2.2.1 x.2.2.2.1 x.2.2.2.2 := by kernel_rfl
theorem brindlewoodref3_Divide.ev (k : Nat) (x : denA brindlewoodref3_Divide.A) :
    evalF Go.Sh.tt (brindlewoodref3_Divide.tab k) Go.Proofs.Try.f79.ntmps (bodyOf Go.Proofs.Try.f79) Go.Proofs.Try.f79.results.toList brindlewoodref3_Divide.A brindlewoodref3_Divide.B (.seq .nil (.seq .nil (.seq .nil (.seq .nil (.seq (.seq .nil (.block (brindlewoodref3_Divide.an0 k))) .nil))))) x = brindlewoodref3_Divide k x.1 x.2 := by kernel_rfl

theorem brindlewoodref3_Small.l0_ev (k n : Nat) (x : brindlewoodref3_Small.M0.den) :
    evalRound Go.Sh.tt (brindlewoodref3_Small.tab k) Go.Proofs.Try.f80.ntmps (finOf Go.Sh.tt brindlewoodref3_Small.B Go.Proofs.Try.f80.results.toList) (cAt [1, 1, 0, 0, 0] (bodyOf Go.Proofs.Try.f80)) .nil brindlewoodref3_Small.M0 brindlewoodref3_Small.O0 0 (fun x => brindlewoodref3_Small.l0 k n x.1 x.2) x = brindlewoodref3_Small.l0 k (n + 1) x.1 x.2 := by kernel_rfl
theorem brindlewoodref3_Small.ev (k : Nat) (x : denA brindlewoodref3_Small.A) :
    evalF Go.Sh.tt (brindlewoodref3_Small.tab k) Go.Proofs.Try.f80.ntmps (bodyOf Go.Proofs.Try.f80) Go.Proofs.Try.f80.results.toList brindlewoodref3_Small.A brindlewoodref3_Small.B (.seq .nil (.seq .nil (.seq (.block (brindlewoodref3_Small.an0 k)) .nil))) x = brindlewoodref3_Small k x := by kernel_rfl

theorem brindlewoodref3_Int_Floor.ev (k : Nat) (x : denA brindlewoodref3_Int_Floor.A) :
    evalF Go.Sh.tt (brindlewoodref3_Int_Floor.tab k) Go.Proofs.Try.f29.ntmps (bodyOf Go.Proofs.Try.f29) Go.Proofs.Try.f29.results.toList brindlewoodref3_Int_Floor.A brindlewoodref3_Int_Floor.B (.seq .nil (.seq .nil (.jseq ⟨[.box 46 [.st (.pair (.bool) (.list (.int .i64)))], .box 47 [.st (.pair (.bool) (.list (.int .i64)))], .box 48 [.st (.pair (.bool) (.list (.int .i64)))], .box 49 [.st (.pair (.bool) (.list (.int .i64)))], .dat 6 (.list (.int .i64)), .dat 7 (.list (.int .i64))], [.ptr 2 46 0, .ptr 3 47 0, .ptr 4 48 0, .ptr 5 49 0]⟩ .nil .nil))) x = brindlewoodref3_Int_Floor k x.1 x.2 := by kernel_rfl

theorem brindlewoodlaw3_IntegerDivides.ev (k : Nat) (x : denA brindlewoodlaw3_IntegerDivides.A) :
    evalF Go.Sh.tt (brindlewoodlaw3_IntegerDivides.tab k) Go.Proofs.Try.f4.ntmps (bodyOf Go.Proofs.Try.f4) Go.Proofs.Try.f4.results.toList brindlewoodlaw3_IntegerDivides.A brindlewoodlaw3_IntegerDivides.B (.seq .nil (.seq .nil (.seq .nil (.seq .nil (.seq .nil (.jseq ⟨[.box 162 [.st (.pair (.bool) (.list (.int .u32)))], .box 163 [.st (.pair (.bool) (.list (.int .u32)))], .box 165 [.st (.pair (.int .i64) (.int .i64))], .box 166 [.st (.pair (.bool) (.list (.int .u32)))], .box 167 [.st (.pair (.bool) (.list (.int .u32)))], .box 168 [.st (.pair (.int .i64) (.int .i64))], .box 169 [.st (.pair (.bool) (.list (.int .u32)))], .box 171 [.st (.pair (.bool) (.list (.int .u32)))], .box 172 [.st (.pair (.int .i64) (.int .i64))]], [.ptr 2 162 0, .ptr 3 163 0, .ptr 5 165 0, .ptr 6 166 0, .ptr 7 167 0, .ptr 8 168 0, .ptr 9 169 0, .ptr 11 171 0, .ptr 12 172 0]⟩ .nil (.jseq ⟨[.box 162 [.st (.pair (.bool) (.list (.int .u32)))], .box 163 [.st (.pair (.bool) (.list (.int .u32)))], .box 165 [.st (.pair (.int .i64) (.int .i64))], .box 166 [.st (.pair (.bool) (.list (.int .u32)))], .box 167 [.st (.pair (.bool) (.list (.int .u32)))], .box 168 [.st (.pair (.int .i64) (.int .i64))], .box 169 [.st (.pair (.bool) (.list (.int .u32)))], .box 171 [.st (.pair (.bool) (.list (.int .u32)))], .box 172 [.st (.pair (.int .i64) (.int .i64))]], [.ptr 2 162 0, .ptr 3 163 0, .ptr 5 165 0, .ptr 6 166 0, .ptr 7 167 0, .ptr 8 168 0, .ptr 9 169 0, .ptr 11 171 0, .ptr 12 172 0]⟩ .nil (.jseq ⟨[.box 162 [.st (.pair (.bool) (.list (.int .u32)))], .box 163 [.st (.pair (.bool) (.list (.int .u32)))], .box 165 [.st (.pair (.int .i64) (.int .i64))], .box 166 [.st (.pair (.bool) (.list (.int .u32)))], .box 167 [.st (.pair (.bool) (.list (.int .u32)))], .box 168 [.st (.pair (.int .i64) (.int .i64))], .box 169 [.st (.pair (.bool) (.list (.int .u32)))]], [.ptr 2 162 0, .ptr 3 163 0, .ptr 5 165 0, .ptr 6 166 0, .ptr 7 167 0, .ptr 8 168 0, .ptr 9 169 0]⟩ .nil .nil)))))))) x = brindlewoodlaw3_IntegerDivides k x.1 x.2 := by kernel_rfl

theorem integer_Add.ev (k : Nat) (x : denA integer_Add.A) :
    evalF Go.Sh.tt (integer_Add.tab k) Go.Proofs.Try.f30.ntmps (bodyOf Go.Proofs.Try.f30) Go.Proofs.Try.f30.results.toList integer_Add.A integer_Add.B .nil x = integer_Add k x.1 x.2 := by kernel_rfl

theorem natural_mul.l1_ev (k n : Nat) (x : natural_mul.M1.den) :
    evalRound Go.Sh.tt (natural_mul.tab k) Go.Proofs.Try.f108.ntmps (finOf Go.Sh.tt natural_mul.B Go.Proofs.Try.f108.results.toList) (cAt [1, 1, 0, 1, 0, 0, 1, 1, 0, 0, 1, 1, 0, 1, 0, 0] (bodyOf Go.Proofs.Try.f108)) .nil natural_mul.M1 natural_mul.O1 2 (fun x => natural_mul.l1 k n x.1 x.2.1 x.2.2.1 x.2.2.2.1 x.2.2.2.2.1 x.2.2.2.2.2.1 x.2.2.2.2.2.2.1 x.2.2.2.2.2.2.2.1 x.2.2.2.2.2.2.2.2.1 x.2.2.2.2.2.2.2.2.2.1 x.2.2.2.2.2.2.2.2.2.2) x = natural_mul.l1 k (n + 1) x.1 x.2.1 x.2.2.1 x.2.2.2.1 x.2.2.2.2.1 x.2.2.2.2.2.1 x.2.2.2.2.2.2.1 x.2.2.2.2.2.2.2.1 x.2.2.2.2.2.2.2.2.1 x.2.2.2.2.2.2.2.2.2.1 x.2.2.2.2.2.2.2.2.2.2 := by kernel_rfl
theorem natural_mul.l0_ev (k n : Nat) (x : natural_mul.M0.den) :
    evalRound Go.Sh.tt (natural_mul.tab k) Go.Proofs.Try.f108.ntmps (finOf Go.Sh.tt natural_mul.B Go.Proofs.Try.f108.results.toList) (cAt [1, 1, 0, 1, 0, 0] (bodyOf Go.Proofs.Try.f108)) (.seq .nil (.seq .nil (.seq (.block (.seq .nil (.seq .nil (.seq (.seq .nil (.block (natural_mul.an1 k))) .nil)))) .nil))) natural_mul.M0 natural_mul.O0 0 (fun x => natural_mul.l0 k n x.1 x.2.1 x.2.2.1 x.2.2.2.1 x.2.2.2.2) x = natural_mul.l0 k (n + 1) x.1 x.2.1 x.2.2.1 x.2.2.2.1 x.2.2.2.2 := by kernel_rfl
theorem natural_mul.ev (k : Nat) (x : denA natural_mul.A) :
    evalF Go.Sh.tt (natural_mul.tab k) Go.Proofs.Try.f108.ntmps (bodyOf Go.Proofs.Try.f108) Go.Proofs.Try.f108.results.toList natural_mul.A natural_mul.B (.seq .nil (.seq .nil (.seq (.seq .nil (.block (natural_mul.an0 k))) .nil))) x = natural_mul k x.1 x.2 := by kernel_rfl

theorem natural_Mul.ev (k : Nat) (x : denA natural_Mul.A) :
    evalF Go.Sh.tt (natural_Mul.tab k) Go.Proofs.Try.f81.ntmps (bodyOf Go.Proofs.Try.f81) Go.Proofs.Try.f81.results.toList natural_Mul.A natural_Mul.B .nil x = natural_Mul k x.1 x.2 := by kernel_rfl

theorem integer_Mul.ev (k : Nat) (x : denA integer_Mul.A) :
    evalF Go.Sh.tt (integer_Mul.tab k) Go.Proofs.Try.f31.ntmps (bodyOf Go.Proofs.Try.f31) Go.Proofs.Try.f31.results.toList integer_Mul.A integer_Mul.B .nil x = integer_Mul k x.1 x.2 := by kernel_rfl

theorem brindlewoodref3_Int_Plus.ev (k : Nat) (x : denA brindlewoodref3_Int_Plus.A) :
    evalF Go.Sh.tt (brindlewoodref3_Int_Plus.tab k) Go.Proofs.Try.f33.ntmps (bodyOf Go.Proofs.Try.f33) Go.Proofs.Try.f33.results.toList brindlewoodref3_Int_Plus.A brindlewoodref3_Int_Plus.B .nil x = brindlewoodref3_Int_Plus k x.1 x.2 := by kernel_rfl

theorem brindlewoodref3_Int_Fits.ev  (x : denA brindlewoodref3_Int_Fits.A) :
    evalF Go.Sh.tt (brindlewoodref3_Int_Fits.tab) Go.Proofs.Try.f82.ntmps (bodyOf Go.Proofs.Try.f82) Go.Proofs.Try.f82.results.toList brindlewoodref3_Int_Fits.A brindlewoodref3_Int_Fits.B .nil x = brindlewoodref3_Int_Fits x.1 x.2 := by kernel_rfl

theorem brindlewoodlaw3_yields.ev (k : Nat) (x : denA brindlewoodlaw3_yields.A) :
    evalF Go.Sh.tt (brindlewoodlaw3_yields.tab k) Go.Proofs.Try.f32.ntmps (bodyOf Go.Proofs.Try.f32) Go.Proofs.Try.f32.results.toList brindlewoodlaw3_yields.A brindlewoodlaw3_yields.B (.seq .nil (.jseq ⟨[.box 40 [.st (.pair (.bool) (.list (.int .u32)))], .box 41 [.st (.pair (.int .i64) (.int .i64))], .box 42 [.st (.pair (.bool) (.list (.int .i64)))], .box 43 [.st (.pair (.int .i64) (.int .i64))]], [.ptr 4 40 0, .ptr 5 41 0, .ptr 6 42 0, .ptr 7 43 0]⟩ .nil .nil)) x = brindlewoodlaw3_yields k x.1 x.2.1 x.2.2.1 x.2.2.2 := by kernel_rfl

theorem brindlewoodref3_Int_Minus.ev  (x : denA brindlewoodref3_Int_Minus.A) :
    evalF Go.Sh.tt (brindlewoodref3_Int_Minus.tab) Go.Proofs.Try.f34.ntmps (bodyOf Go.Proofs.Try.f34) Go.Proofs.Try.f34.results.toList brindlewoodref3_Int_Minus.A brindlewoodref3_Int_Minus.B .nil x = brindlewoodref3_Int_Minus x := by kernel_rfl

theorem brindlewoodref3_Int_Times.ev (k : Nat) (x : denA brindlewoodref3_Int_Times.A) :
    evalF Go.Sh.tt (brindlewoodref3_Int_Times.tab k) Go.Proofs.Try.f35.ntmps (bodyOf Go.Proofs.Try.f35) Go.Proofs.Try.f35.results.toList brindlewoodref3_Int_Times.A brindlewoodref3_Int_Times.B .nil x = brindlewoodref3_Int_Times k x.1 x.2 := by kernel_rfl

theorem brindlewoodlaw3_IntegerArithmetic.ev (k : Nat) (x : denA brindlewoodlaw3_IntegerArithmetic.A) :
    evalF Go.Sh.tt (brindlewoodlaw3_IntegerArithmetic.tab k) Go.Proofs.Try.f5.ntmps (bodyOf Go.Proofs.Try.f5) Go.Proofs.Try.f5.results.toList brindlewoodlaw3_IntegerArithmetic.A brindlewoodlaw3_IntegerArithmetic.B .nil x = brindlewoodlaw3_IntegerArithmetic k x.1 x.2 := by kernel_rfl

theorem slices_Index_bytebyte.l0_ev (k n : Nat) (x : slices_Index_bytebyte.M0.den) :
    evalRound Go.Sh.tt (slices_Index_bytebyte.tab k) Go.Proofs.Try.f84.ntmps (finOf Go.Sh.tt slices_Index_bytebyte.B Go.Proofs.Try.f84.results.toList) (cAt [1, 0, 1, 0, 0] (bodyOf Go.Proofs.Try.f84)) .nil slices_Index_bytebyte.M0 slices_Index_bytebyte.O0 0 (fun x => slices_Index_bytebyte.l0 k n x.1 x.2.1 x.2.2.1 x.2.2.2) x = slices_Index_bytebyte.l0 k (n + 1) x.1 x.2.1 x.2.2.1 x.2.2.2 := by kernel_rfl
theorem slices_Index_bytebyte.ev (k : Nat) (x : denA slices_Index_bytebyte.A) :
    evalF Go.Sh.tt (slices_Index_bytebyte.tab k) Go.Proofs.Try.f84.ntmps (bodyOf Go.Proofs.Try.f84) Go.Proofs.Try.f84.results.toList slices_Index_bytebyte.A slices_Index_bytebyte.B (.seq .nil (.seq (.seq .nil (.block (slices_Index_bytebyte.an0 k))) .nil)) x = slices_Index_bytebyte k x.1 x.2 := by kernel_rfl

theorem natural_From.l0_ev (k n : Nat) (x : natural_From.M0.den) :
    evalRound Go.Sh.tt (natural_From.tab k) Go.Proofs.Try.f85.ntmps (finOf Go.Sh.tt natural_From.B Go.Proofs.Try.f85.results.toList) (cAt [1, 1, 1, 0, 1, 0, 0] (bodyOf Go.Proofs.Try.f85)) (.seq .nil (.seq .nil (.seq (.block (.seq .nil (.jseq ⟨[.dat 1 (.int .i64), .box 55 [.st (.pair (.int .i64) (.int .i64))], .own 6 (.int .u32), .dat 8 (.int .i64), .dat 16 (.list (.int .i64)), .dat 17 (.int .i64), .dat 18 (.int .i64), .dat 26 (.int .i64), .dat 27 (.int .i64), .dat 28 (.bool)], [.ptr 5 55 0]⟩ .nil .nil))) .nil))) natural_From.M0 natural_From.O0 0 (fun x => natural_From.l0 k n x.1 x.2.1 x.2.2.1 x.2.2.2.1 x.2.2.2.2.1 x.2.2.2.2.2) x = natural_From.l0 k (n + 1) x.1 x.2.1 x.2.2.1 x.2.2.2.1 x.2.2.2.2.1 x.2.2.2.2.2 := by kernel_rfl
theorem natural_From.ev (k : Nat) (x : denA natural_From.A) :
    evalF Go.Sh.tt (natural_From.tab k) Go.Proofs.Try.f85.ntmps (bodyOf Go.Proofs.Try.f85) Go.Proofs.Try.f85.results.toList natural_From.A natural_From.B (.seq .nil (.jseq ⟨[.dat 0 (.list (.int .i64)), .dat 1 (.int .i64), .box 55 [.st (.pair (.int .i64) (.int .i64))]], [.ptr 5 55 0]⟩ .nil (.seq .nil (.seq (.seq .nil (.block (natural_From.an0 k))) .nil)))) x = natural_From k x.1 x.2 := by kernel_rfl

theorem integer_Parse.l0_ev (k n : Nat) (x : integer_Parse.M0.den) :
    evalRound Go.Sh.tt (integer_Parse.tab k) Go.Proofs.Try.f37.ntmps (finOf Go.Sh.tt integer_Parse.B Go.Proofs.Try.f37.results.toList) (cAt [1, 1, 1, 1, 1, 1, 0, 1, 0, 0] (bodyOf Go.Proofs.Try.f37)) .nil integer_Parse.M0 integer_Parse.O0 1 (fun x => integer_Parse.l0 k n x.1 x.2.1 x.2.2.1 x.2.2.2.1 x.2.2.2.2.1 x.2.2.2.2.2.1 x.2.2.2.2.2.2.1 x.2.2.2.2.2.2.2) x = integer_Parse.l0 k (n + 1) x.1 x.2.1 x.2.2.1 x.2.2.2.1 x.2.2.2.2.1 x.2.2.2.2.2.1 x.2.2.2.2.2.2.1 x.2.2.2.2.2.2.2 := by kernel_rfl
theorem integer_Parse.ev (k : Nat) (x : denA integer_Parse.A) :
    evalF Go.Sh.tt (integer_Parse.tab k) Go.Proofs.Try.f37.ntmps (bodyOf Go.Proofs.Try.f37) Go.Proofs.Try.f37.results.toList integer_Parse.A integer_Parse.B (.seq .nil (.seq (.block (.jseq ⟨[.dat 0 (.str), .dat 1 (.int .i64), .box 93 [.st (.pair (.bool) (.list (.int .u32)))], .box 94 [.st (.pair (.int .i64) (.int .i64))], .dat 13 (.bool)], [.ptr 4 93 0, .ptr 5 94 0]⟩ .nil .nil)) (.seq .nil (.jseq ⟨[.dat 0 (.str), .dat 1 (.int .i64), .box 93 [.st (.pair (.bool) (.list (.int .u32)))], .box 94 [.st (.pair (.int .i64) (.int .i64))], .dat 6 (.str), .dat 7 (.bool)], [.ptr 4 93 0, .ptr 5 94 0]⟩ .nil (.jseq ⟨[.dat 1 (.int .i64), .box 93 [.st (.pair (.bool) (.list (.int .u32)))], .box 94 [.st (.pair (.int .i64) (.int .i64))], .dat 6 (.str), .dat 7 (.bool)], [.ptr 4 93 0, .ptr 5 94 0]⟩ .nil (.seq .nil (.seq (.seq .nil (.block (integer_Parse.an0 k))) .nil))))))) x = integer_Parse k x.1 x.2 := by kernel_rfl

theorem brindlewoodref3_Figures.l1_ev (k n : Nat) (x : brindlewoodref3_Figures.M1.den) :
    evalRound Go.Sh.tt (brindlewoodref3_Figures.tab k) Go.Proofs.Try.f86.ntmps (finOf Go.Sh.tt brindlewoodref3_Figures.B Go.Proofs.Try.f86.results.toList) (cAt [1, 1, 1, 1, 0, 1, 0, 0] (bodyOf Go.Proofs.Try.f86)) .nil brindlewoodref3_Figures.M1 brindlewoodref3_Figures.O1 2 (fun x => brindlewoodref3_Figures.l1 k n x.1 x.2.1 x.2.2) x = brindlewoodref3_Figures.l1 k (n + 1) x.1 x.2.1 x.2.2 := by kernel_rfl
theorem brindlewoodref3_Figures.l0_ev (k n : Nat) (x : brindlewoodref3_Figures.M0.den) :
    evalRound Go.Sh.tt (brindlewoodref3_Figures.tab k) Go.Proofs.Try.f86.ntmps (finOf Go.Sh.tt brindlewoodref3_Figures.B Go.Proofs.Try.f86.results.toList) (cAt [1, 1, 0, 0, 0] (bodyOf Go.Proofs.Try.f86)) .nil brindlewoodref3_Figures.M0 brindlewoodref3_Figures.O0 0 (fun x => brindlewoodref3_Figures.l0 k n x.1 x.2.1 x.2.2) x = brindlewoodref3_Figures.l0 k (n + 1) x.1 x.2.1 x.2.2 := by kernel_rfl
theorem brindlewoodref3_Figures.ev (k : Nat) (x : denA brindlewoodref3_Figures.A) :
    evalF Go.Sh.tt (brindlewoodref3_Figures.tab k) Go.Proofs.Try.f86.ntmps (bodyOf Go.Proofs.Try.f86) Go.Proofs.Try.f86.results.toList brindlewoodref3_Figures.A brindlewoodref3_Figures.B (.seq .nil (.seq .nil (.seq (.block (brindlewoodref3_Figures.an0 k)) (.seq .nil (.seq (.seq .nil (.block (brindlewoodref3_Figures.an1 k))) .nil))))) x = brindlewoodref3_Figures k x.1 x.2 := by kernel_rfl

theorem brindlewoodref3_TextOf.l0_ev (k n : Nat) (x : brindlewoodref3_TextOf.M0.den) :
    evalRound Go.Sh.tt (brindlewoodref3_TextOf.tab k) Go.Proofs.Try.f38.ntmps (finOf Go.Sh.tt brindlewoodref3_TextOf.B Go.Proofs.Try.f38.results.toList) (cAt [1, 1, 1, 1, 1, 1, 0, 1, 0, 0] (bodyOf Go.Proofs.Try.f38)) .nil brindlewoodref3_TextOf.M0 brindlewoodref3_TextOf.O0 0 (fun x => brindlewoodref3_TextOf.l0 k n x.1 x.2.1 x.2.2) x = brindlewoodref3_TextOf.l0 k (n + 1) x.1 x.2.1 x.2.2 := by kernel_rfl
theorem brindlewoodref3_TextOf.ev (k : Nat) (x : denA brindlewoodref3_TextOf.A) :
    evalF Go.Sh.tt (brindlewoodref3_TextOf.tab k) Go.Proofs.Try.f38.ntmps (bodyOf Go.Proofs.Try.f38) Go.Proofs.Try.f38.results.toList brindlewoodref3_TextOf.A brindlewoodref3_TextOf.B (.seq .nil (.seq .nil (.seq .nil (.seq .nil (.jseq ⟨[.own 5 (.int .i64), .dat 6 (.str)], []⟩ .nil (.seq .nil (.seq (.seq .nil (.block (brindlewoodref3_TextOf.an0 k))) .nil))))))) x = brindlewoodref3_TextOf k x.1 x.2 := by kernel_rfl

theorem brindlewoodref3_Read.l0_ev (k n : Nat) (x : brindlewoodref3_Read.M0.den) :
    evalRound Go.Sh.tt (brindlewoodref3_Read.tab k) Go.Proofs.Try.f87.ntmps (finOf Go.Sh.tt brindlewoodref3_Read.B Go.Proofs.Try.f87.results.toList) (cAt [1, 1, 0, 1, 0, 0] (bodyOf Go.Proofs.Try.f87)) .nil brindlewoodref3_Read.M0 brindlewoodref3_Read.O0 0 (fun x => brindlewoodref3_Read.l0 k n x.1 x.2.1 x.2.2.1 x.2.2.2) x = brindlewoodref3_Read.l0 k (n + 1) x.1 x.2.1 x.2.2.1 x.2.2.2 := by kernel_rfl
theorem brindlewoodref3_Read.ev (k : Nat) (x : denA brindlewoodref3_Read.A) :
    evalF Go.Sh.tt (brindlewoodref3_Read.tab k) Go.Proofs.Try.f87.ntmps (bodyOf Go.Proofs.Try.f87) Go.Proofs.Try.f87.results.toList brindlewoodref3_Read.A brindlewoodref3_Read.B (.seq .nil (.seq .nil (.seq (.seq .nil (.block (brindlewoodref3_Read.an0 k))) .nil))) x = brindlewoodref3_Read k x.1 x.2 := by kernel_rfl

theorem brindlewoodref3_IntText.l1_ev (k n : Nat) (x : brindlewoodref3_IntText.M1.den) :
    evalRound Go.Sh.tt (brindlewoodref3_IntText.tab k) Go.Proofs.Try.f39.ntmps (finOf Go.Sh.tt brindlewoodref3_IntText.B Go.Proofs.Try.f39.results.toList) (cAt [1, 1, 1, 1, 1, 0, 1, 0, 0, 1, 0, 0, 1, 0, 1, 0, 0] (bodyOf Go.Proofs.Try.f39)) .nil brindlewoodref3_IntText.M1 brindlewoodref3_IntText.O1 2 (fun x => brindlewoodref3_IntText.l1 k n x.1 x.2.1 x.2.2.1 x.2.2.2.1 x.2.2.2.2.1 x.2.2.2.2.2.1 x.2.2.2.2.2.2.1 x.2.2.2.2.2.2.2) x = brindlewoodref3_IntText.l1 k (n + 1) x.1 x.2.1 x.2.2.1 x.2.2.2.1 x.2.2.2.2.1 x.2.2.2.2.2.1 x.2.2.2.2.2.2.1 x.2.2.2.2.2.2.2 := by kernel_rfl
theorem brindlewoodref3_IntText.l0_ev (k n : Nat) (x : brindlewoodref3_IntText.M0.den) :
    evalRound Go.Sh.tt (brindlewoodref3_IntText.tab k) Go.Proofs.Try.f39.ntmps (finOf Go.Sh.tt brindlewoodref3_IntText.B Go.Proofs.Try.f39.results.toList) (cAt [1, 1, 1, 1, 1, 0, 1, 0, 0] (bodyOf Go.Proofs.Try.f39)) (.seq .nil (.seq (.block (.seq .nil (.seq (.seq .nil (.block (brindlewoodref3_IntText.an1 k))) .nil))) .nil)) brindlewoodref3_IntText.M0 brindlewoodref3_IntText.O0 0 (fun x => brindlewoodref3_IntText.l0 k n x.1 x.2.1 x.2.2.1 x.2.2.2.1 x.2.2.2.2.1 x.2.2.2.2.2) x = brindlewoodref3_IntText.l0 k (n + 1) x.1 x.2.1 x.2.2.1 x.2.2.2.1 x.2.2.2.2.1 x.2.2.2.2.2 := by kernel_rfl
theorem brindlewoodref3_IntText.ev (k : Nat) (x : denA brindlewoodref3_IntText.A) :
    evalF Go.Sh.tt (brindlewoodref3_IntText.tab k) Go.Proofs.Try.f39.ntmps (bodyOf Go.Proofs.Try.f39) Go.Proofs.Try.f39.results.toList brindlewoodref3_IntText.A brindlewoodref3_IntText.B (.seq .nil (.jseq ⟨[.dat 0 (.str), .dat 1 (.int .i64), .box 72 [.st (.pair (.bool) (.list (.int .i64)))], .dat 6 (.bool)], [.ptr 4 72 0]⟩ .nil (.jseq ⟨[.dat 0 (.str), .dat 1 (.int .i64), .box 72 [.st (.pair (.bool) (.list (.int .i64)))], .dat 6 (.bool)], [.ptr 4 72 0]⟩ .nil (.jseq ⟨[.dat 0 (.str), .dat 1 (.int .i64), .box 72 [.st (.pair (.bool) (.list (.int .i64)))], .dat 6 (.bool)], [.ptr 4 72 0]⟩ .nil (.seq .nil (.seq (.seq .nil (.block (brindlewoodref3_IntText.an0 k))) .nil)))))) x = brindlewoodref3_IntText k x.1 x.2 := by kernel_rfl

theorem brindlewoodlaw3_IntegerTexts.ev (k : Nat) (x : denA brindlewoodlaw3_IntegerTexts.A) :
    evalF Go.Sh.tt (brindlewoodlaw3_IntegerTexts.tab k) Go.Proofs.Try.f6.ntmps (bodyOf Go.Proofs.Try.f6) Go.Proofs.Try.f6.results.toList brindlewoodlaw3_IntegerTexts.A brindlewoodlaw3_IntegerTexts.B (.seq .nil (.seq .nil (.seq .nil (.seq .nil (.jseq ⟨[.dat 1 (.int .i64), .dat 2 (.str), .box 125 [.st (.pair (.bool) (.list (.int .u32)))], .dat 7 (.str), .box 130 [.st (.pair (.int .i64) (.int .i64))], .box 131 [.st (.pair (.bool) (.list (.int .u32)))], .box 132 [.st (.pair (.int .i64) (.int .i64))], .dat 11 (.bool)], [.ptr 3 125 0, .ptr 8 130 0, .ptr 9 131 0, .ptr 10 132 0]⟩ .nil (.seq .nil (.jseq ⟨[.dat 1 (.int .i64), .dat 2 (.str), .box 125 [.st (.pair (.bool) (.list (.int .u32)))], .dat 7 (.str), .box 130 [.st (.pair (.int .i64) (.int .i64))], .box 131 [.st (.pair (.bool) (.list (.int .u32)))], .box 132 [.st (.pair (.int .i64) (.int .i64))], .dat 11 (.bool), .box 134 [.st (.pair (.int .i64) (.int .i64))]], [.ptr 3 125 0, .ptr 8 130 0, .ptr 9 131 0, .ptr 10 132 0, .ptr 12 134 0]⟩ .nil (.jseq ⟨[.dat 1 (.int .i64), .dat 2 (.str), .box 125 [.st (.pair (.bool) (.list (.int .u32)))], .dat 7 (.str), .box 131 [.st (.pair (.bool) (.list (.int .u32)))], .box 132 [.st (.pair (.int .i64) (.int .i64))], .dat 11 (.bool), .box 134 [.st (.pair (.int .i64) (.int .i64))]], [.ptr 3 125 0, .ptr 9 131 0, .ptr 10 132 0, .ptr 12 134 0]⟩ .nil (.jseq ⟨[.dat 1 (.int .i64), .dat 2 (.str), .box 131 [.st (.pair (.bool) (.list (.int .u32)))], .box 132 [.st (.pair (.int .i64) (.int .i64))], .dat 11 (.bool)], [.ptr 9 131 0, .ptr 10 132 0]⟩ .nil .nil))))))))) x = brindlewoodlaw3_IntegerTexts k x.1 x.2.1 x.2.2 := by kernel_rfl

theorem integer_Cmp.ev (k : Nat) (x : denA integer_Cmp.A) :
    evalF Go.Sh.tt (integer_Cmp.tab k) Go.Proofs.Try.f40.ntmps (bodyOf Go.Proofs.Try.f40) Go.Proofs.Try.f40.results.toList integer_Cmp.A integer_Cmp.B (.seq .nil (.seq .nil (.seq .nil (.seq (.block (.jseq ⟨[.box 47 [.st (.pair (.bool) (.list (.int .u32)))], .box 48 [.st (.pair (.bool) (.list (.int .u32)))], .box 50 [.st (.pair (.int .i64) (.int .i64))], .dat 7 (.int .i64), .dat 25 (.bool)], [.ptr 2 47 0, .ptr 3 48 0, .ptr 5 50 0]⟩ .nil .nil)) .nil)))) x = integer_Cmp k x.1 x.2 := by kernel_rfl

theorem integer_Small.l0_ev (k n : Nat) (x : integer_Small.M0.den) :
    evalRound Go.Sh.tt (integer_Small.tab k) Go.Proofs.Try.f43.ntmps (finOf Go.Sh.tt integer_Small.B Go.Proofs.Try.f43.results.toList) (cAt [1, 1, 1, 0, 1, 0, 0] (bodyOf Go.Proofs.Try.f43)) .nil integer_Small.M0 integer_Small.O0 0 (fun x => integer_Small.l0 k n x.1 x.2.1 x.2.2.1 x.2.2.2.1 x.2.2.2.2.1 x.2.2.2.2.2) x = integer_Small.l0 k (n + 1) x.1 x.2.1 x.2.2.1 x.2.2.2.1 x.2.2.2.2.1 x.2.2.2.2.2 := by kernel_rfl
theorem integer_Small.ev (k : Nat) (x : denA integer_Small.A) :
    evalF Go.Sh.tt (integer_Small.tab k) Go.Proofs.Try.f43.ntmps (bodyOf Go.Proofs.Try.f43) Go.Proofs.Try.f43.results.toList integer_Small.A integer_Small.B (.seq .nil (.seq .nil (.seq .nil (.seq (.seq .nil (.block (integer_Small.an0 k))) (.seq .nil (.jseq ⟨[.box 50 [.st (.pair (.bool) (.list (.int .u32)))], .box 52 [.st (.pair (.int .i64) (.int .i64))], .dat 8 (.int .i64)], [.ptr 1 50 0, .ptr 3 52 0]⟩ .nil .nil)))))) x = integer_Small k x := by kernel_rfl

theorem integer_Bits.ev (k : Nat) (x : denA integer_Bits.A) :
    evalF Go.Sh.tt (integer_Bits.tab k) Go.Proofs.Try.f44.ntmps (bodyOf Go.Proofs.Try.f44) Go.Proofs.Try.f44.results.toList integer_Bits.A integer_Bits.B .nil x = integer_Bits k x := by kernel_rfl

theorem integer_Neg.ev (k : Nat) (x : denA integer_Neg.A) :
    evalF Go.Sh.tt (integer_Neg.tab k) Go.Proofs.Try.f45.ntmps (bodyOf Go.Proofs.Try.f45) Go.Proofs.Try.f45.results.toList integer_Neg.A integer_Neg.B .nil x = integer_Neg k x := by kernel_rfl

theorem integer_Abs.ev (k : Nat) (x : denA integer_Abs.A) :
    evalF Go.Sh.tt (integer_Abs.tab k) Go.Proofs.Try.f46.ntmps (bodyOf Go.Proofs.Try.f46) Go.Proofs.Try.f46.results.toList integer_Abs.A integer_Abs.B .nil x = integer_Abs k x := by kernel_rfl

theorem brindlewoodref3_Int_Order.ev (k : Nat) (x : denA brindlewoodref3_Int_Order.A) :
    evalF Go.Sh.tt (brindlewoodref3_Int_Order.tab k) Go.Proofs.Try.f47.ntmps (bodyOf Go.Proofs.Try.f47) Go.Proofs.Try.f47.results.toList brindlewoodref3_Int_Order.A brindlewoodref3_Int_Order.B (.seq .nil (.jseq ⟨[.box 44 [.st (.pair (.bool) (.list (.int .i64)))], .box 45 [.st (.pair (.bool) (.list (.int .i64)))], .dat 5 (.bool), .dat 6 (.bool)], [.ptr 2 44 0, .ptr 3 45 0]⟩ .nil (.seq (.block (.jseq ⟨[.box 44 [.st (.pair (.bool) (.list (.int .i64)))], .box 45 [.st (.pair (.bool) (.list (.int .i64)))], .dat 5 (.bool), .dat 6 (.bool), .dat 23 (.bool)], [.ptr 2 44 0, .ptr 3 45 0]⟩ .nil .nil)) .nil))) x = brindlewoodref3_Int_Order k x.1 x.2 := by kernel_rfl

theorem brindlewoodlaw3_IntegerValues.ev (k : Nat) (x : denA brindlewoodlaw3_IntegerValues.A) :
    evalF Go.Sh.tt (brindlewoodlaw3_IntegerValues.tab k) Go.Proofs.Try.f7.ntmps (bodyOf Go.Proofs.Try.f7) Go.Proofs.Try.f7.results.toList brindlewoodlaw3_IntegerValues.A brindlewoodlaw3_IntegerValues.B (.seq .nil (.seq .nil (.seq .nil (.jseq ⟨[.box 195 [.st (.pair (.bool) (.list (.int .u32)))], .box 196 [.st (.pair (.bool) (.list (.int .u32)))], .box 199 [.st (.pair (.int .i64) (.int .i64))], .dat 8 (.int .i64)], [.ptr 3 195 0, .ptr 4 196 0, .ptr 7 199 0]⟩ .nil (.seq .nil (.seq .nil (.seq .nil (.seq .nil (.seq .nil (.seq .nil (.jseq ⟨[.box 195 [.st (.pair (.bool) (.list (.int .u32)))], .box 196 [.st (.pair (.bool) (.list (.int .u32)))], .box 199 [.st (.pair (.int .i64) (.int .i64))], .dat 8 (.int .i64), .dat 10 (.int .i64), .box 203 [.st (.pair (.int .i64) (.int .i64))], .dat 12 (.int .i64), .box 205 [.st (.pair (.int .i64) (.int .i64))], .box 206 [.st (.pair (.bool) (.list (.int .u32)))], .box 207 [.st (.pair (.int .i64) (.int .i64))], .box 208 [.st (.pair (.bool) (.list (.int .u32)))], .box 209 [.st (.pair (.int .i64) (.int .i64))], .box 210 [.st (.pair (.bool) (.list (.int .i64)))], .dat 19 (.bool)], [.ptr 3 195 0, .ptr 4 196 0, .ptr 7 199 0, .ptr 11 203 0, .ptr 13 205 0, .ptr 14 206 0, .ptr 15 207 0, .ptr 16 208 0, .ptr 17 209 0, .ptr 18 210 0]⟩ .nil (.jseq ⟨[.box 196 [.st (.pair (.bool) (.list (.int .u32)))], .box 199 [.st (.pair (.int .i64) (.int .i64))], .dat 8 (.int .i64), .dat 12 (.int .i64), .box 205 [.st (.pair (.int .i64) (.int .i64))], .box 206 [.st (.pair (.bool) (.list (.int .u32)))], .box 207 [.st (.pair (.int .i64) (.int .i64))], .box 208 [.st (.pair (.bool) (.list (.int .u32)))], .box 209 [.st (.pair (.int .i64) (.int .i64))], .box 210 [.st (.pair (.bool) (.list (.int .i64)))]], [.ptr 4 196 0, .ptr 7 199 0, .ptr 13 205 0, .ptr 14 206 0, .ptr 15 207 0, .ptr 16 208 0, .ptr 17 209 0, .ptr 18 210 0]⟩ .nil (.jseq ⟨[.box 196 [.st (.pair (.bool) (.list (.int .u32)))], .box 199 [.st (.pair (.int .i64) (.int .i64))], .dat 8 (.int .i64), .box 210 [.st (.pair (.bool) (.list (.int .i64)))]], [.ptr 4 196 0, .ptr 7 199 0, .ptr 18 210 0]⟩ .nil .nil))))))))))))) x = brindlewoodlaw3_IntegerValues k x.1 x.2.1 x.2.2 := by kernel_rfl

theorem brindlewoodlaw3_IntegerRing.ev (k : Nat) (x : denA brindlewoodlaw3_IntegerRing.A) :
    evalF Go.Sh.tt (brindlewoodlaw3_IntegerRing.tab k) Go.Proofs.Try.f8.ntmps (bodyOf Go.Proofs.Try.f8) Go.Proofs.Try.f8.results.toList brindlewoodlaw3_IntegerRing.A brindlewoodlaw3_IntegerRing.B (.seq .nil (.seq .nil (.jseq ⟨[.box 227 [.st (.pair (.bool) (.list (.int .u32)))], .box 228 [.st (.pair (.bool) (.list (.int .u32)))], .box 229 [.st (.pair (.bool) (.list (.int .u32)))]], [.ptr 3 227 0, .ptr 4 228 0, .ptr 5 229 0]⟩ .nil (.seq .nil (.seq .nil (.seq .nil (.seq .nil (.seq .nil (.seq .nil (.jseq ⟨[.box 227 [.st (.pair (.bool) (.list (.int .u32)))], .box 228 [.st (.pair (.bool) (.list (.int .u32)))], .box 232 [.st (.pair (.int .i64) (.int .i64))], .box 234 [.st (.pair (.int .i64) (.int .i64))], .box 235 [.st (.pair (.bool) (.list (.int .u32)))], .box 236 [.st (.pair (.int .i64) (.int .i64))], .box 238 [.st (.pair (.int .i64) (.int .i64))], .box 239 [.st (.pair (.bool) (.list (.int .u32)))], .box 240 [.st (.pair (.int .i64) (.int .i64))], .box 242 [.st (.pair (.int .i64) (.int .i64))]], [.ptr 3 227 0, .ptr 4 228 0, .ptr 8 232 0, .ptr 10 234 0, .ptr 11 235 0, .ptr 12 236 0, .ptr 14 238 0, .ptr 15 239 0, .ptr 16 240 0, .ptr 18 242 0]⟩ .nil .nil)))))))))) x = brindlewoodlaw3_IntegerRing k x.1 x.2.1 x.2.2 := by kernel_rfl

theorem slices_Equal_uint32uint32.l0_ev (k n : Nat) (x : slices_Equal_uint32uint32.M0.den) :
    evalRound Go.Sh.tt (slices_Equal_uint32uint32.tab k) Go.Proofs.Try.f91.ntmps (finOf Go.Sh.tt slices_Equal_uint32uint32.B Go.Proofs.Try.f91.results.toList) (cAt [1, 1, 0, 1, 0, 0] (bodyOf Go.Proofs.Try.f91)) .nil slices_Equal_uint32uint32.M0 slices_Equal_uint32uint32.O0 0 (fun x => slices_Equal_uint32uint32.l0 k n x.1 x.2.1 x.2.2.1 x.2.2.2) x = slices_Equal_uint32uint32.l0 k (n + 1) x.1 x.2.1 x.2.2.1 x.2.2.2 := by kernel_rfl
theorem slices_Equal_uint32uint32.ev (k : Nat) (x : denA slices_Equal_uint32uint32.A) :
    evalF Go.Sh.tt (slices_Equal_uint32uint32.tab k) Go.Proofs.Try.f91.ntmps (bodyOf Go.Proofs.Try.f91) Go.Proofs.Try.f91.results.toList slices_Equal_uint32uint32.A slices_Equal_uint32uint32.B (.seq .nil (.seq .nil (.seq (.seq .nil (.block (slices_Equal_uint32uint32.an0 k))) .nil))) x = slices_Equal_uint32uint32 k x.1 x.2 := by kernel_rfl

theorem integer_Pow.l0_ev (k n : Nat) (x : integer_Pow.M0.den) :
    evalRound Go.Sh.tt (integer_Pow.tab k) Go.Proofs.Try.f49.ntmps (finOf Go.Sh.tt integer_Pow.B Go.Proofs.Try.f49.results.toList) (cAt [1, 1, 1, 1, 0, 1, 0, 0] (bodyOf Go.Proofs.Try.f49)) .nil integer_Pow.M0 integer_Pow.O0 0 (fun x => integer_Pow.l0 k n x.1 x.2.1 x.2.2.1 x.2.2.2.1 x.2.2.2.2.1 x.2.2.2.2.2.1 x.2.2.2.2.2.2) x = integer_Pow.l0 k (n + 1) x.1 x.2.1 x.2.2.1 x.2.2.2.1 x.2.2.2.2.1 x.2.2.2.2.2.1 x.2.2.2.2.2.2 := by kernel_rfl
theorem integer_Pow.ev (k : Nat) (x : denA integer_Pow.A) :
    evalF Go.Sh.tt (integer_Pow.tab k) Go.Proofs.Try.f49.ntmps (bodyOf Go.Proofs.Try.f49) Go.Proofs.Try.f49.results.toList integer_Pow.A integer_Pow.B (.seq .nil (.seq .nil (.jseq ⟨[.dat 1 (.int .i64), .box 65 [.st (.pair (.bool) (.list (.int .u32)))], .box 67 [.st (.pair (.bool) (.list (.int .u32)))], .box 68 [.st (.pair (.int .i64) (.int .i64))]], [.ptr 2 65 0, .ptr 4 67 0, .ptr 5 68 0]⟩ .nil (.seq .nil (.seq (.seq .nil (.block (integer_Pow.an0 k))) .nil))))) x = integer_Pow k x.1 x.2 := by kernel_rfl

theorem integer_PowMod.l0_ev (k n : Nat) (x : integer_PowMod.M0.den) :
    evalRound Go.Sh.tt (integer_PowMod.tab k) Go.Proofs.Try.f50.ntmps (finOf Go.Sh.tt integer_PowMod.B Go.Proofs.Try.f50.results.toList) (cAt [1, 1, 1, 1, 1, 1, 0, 1, 0, 0] (bodyOf Go.Proofs.Try.f50)) .nil integer_PowMod.M0 integer_PowMod.O0 1 (fun x => integer_PowMod.l0 k n x.1 x.2.1 x.2.2.1 x.2.2.2.1 x.2.2.2.2.1 x.2.2.2.2.2.1 x.2.2.2.2.2.2) x = integer_PowMod.l0 k (n + 1) x.1 x.2.1 x.2.2.1 x.2.2.2.1 x.2.2.2.2.1 x.2.2.2.2.2.1 x.2.2.2.2.2.2 := by kernel_rfl
theorem integer_PowMod.ev (k : Nat) (x : denA integer_PowMod.A) :
    evalF Go.Sh.tt (integer_PowMod.tab k) Go.Proofs.Try.f50.ntmps (bodyOf Go.Proofs.Try.f50) Go.Proofs.Try.f50.results.toList integer_PowMod.A integer_PowMod.B (.seq .nil (.seq .nil (.seq .nil (.seq .nil (.seq .nil (.seq .nil (.seq (.seq .nil (.block (integer_PowMod.an0 k))) .nil))))))) x = integer_PowMod k x.1 x.2.1 x.2.2 := by kernel_rfl

theorem brindlewoodref3_Int_Raised.l0_ev (k n : Nat) (x : brindlewoodref3_Int_Raised.M0.den) :
    evalRound Go.Sh.tt (brindlewoodref3_Int_Raised.tab k) Go.Proofs.Try.f51.ntmps (finOf Go.Sh.tt brindlewoodref3_Int_Raised.B Go.Proofs.Try.f51.results.toList) (cAt [1, 1, 1, 1, 0, 0, 0] (bodyOf Go.Proofs.Try.f51)) .nil brindlewoodref3_Int_Raised.M0 brindlewoodref3_Int_Raised.O0 0 (fun x => brindlewoodref3_Int_Raised.l0 k n x.1 x.2.1 x.2.2.1 x.2.2.2) x = brindlewoodref3_Int_Raised.l0 k (n + 1) x.1 x.2.1 x.2.2.1 x.2.2.2 := by kernel_rfl
theorem brindlewoodref3_Int_Raised.ev (k : Nat) (x : denA brindlewoodref3_Int_Raised.A) :
    evalF Go.Sh.tt (brindlewoodref3_Int_Raised.tab k) Go.Proofs.Try.f51.ntmps (bodyOf Go.Proofs.Try.f51) Go.Proofs.Try.f51.results.toList brindlewoodref3_Int_Raised.A brindlewoodref3_Int_Raised.B (.seq .nil (.jseq ⟨[.dat 1 (.int .i64), .box 46 [.st (.pair (.bool) (.list (.int .i64)))], .box 48 [.st (.pair (.bool) (.list (.int .i64)))]], [.ptr 2 46 0, .ptr 4 48 0]⟩ .nil (.seq .nil (.seq .nil (.seq (.block (brindlewoodref3_Int_Raised.an0 k)) .nil))))) x = brindlewoodref3_Int_Raised k x.1 x.2 := by kernel_rfl

theorem brindlewoodref3_Moved.ev (k : Nat) (x : denA brindlewoodref3_Moved.A) :
    evalF Go.Sh.tt (brindlewoodref3_Moved.tab k) Go.Proofs.Try.f52.ntmps (bodyOf Go.Proofs.Try.f52) Go.Proofs.Try.f52.results.toList brindlewoodref3_Moved.A brindlewoodref3_Moved.B .nil x = brindlewoodref3_Moved k x.1 x.2 := by kernel_rfl

theorem brindlewoodlaw3_IntegerPowers.ev (k : Nat) (x : denA brindlewoodlaw3_IntegerPowers.A) :
    evalF Go.Sh.tt (brindlewoodlaw3_IntegerPowers.tab k) Go.Proofs.Try.f9.ntmps (bodyOf Go.Proofs.Try.f9) Go.Proofs.Try.f9.results.toList brindlewoodlaw3_IntegerPowers.A brindlewoodlaw3_IntegerPowers.B (.seq .nil (.seq .nil (.seq .nil (.seq .nil (.jseq ⟨[.box 190 [.st (.pair (.bool) (.list (.int .u32)))], .box 192 [.st (.pair (.bool) (.list (.int .u32)))], .box 193 [.st (.pair (.bool) (.list (.int .u32)))], .box 197 [.st (.pair (.bool) (.list (.int .u32)))], .box 198 [.st (.pair (.int .i64) (.int .i64))]], [.ptr 4 190 0, .ptr 6 192 0, .ptr 7 193 0, .ptr 11 197 0, .ptr 12 198 0]⟩ (.block (.seq .nil (.cond .nil (.jseq ⟨[.dat 1 (.int .i64), .box 190 [.st (.pair (.bool) (.list (.int .u32)))], .box 192 [.st (.pair (.bool) (.list (.int .u32)))], .box 193 [.st (.pair (.bool) (.list (.int .u32)))], .box 195 [.st (.pair (.bool) (.list (.int .u32)))], .box 196 [.st (.pair (.int .i64) (.int .i64))], .box 197 [.st (.pair (.bool) (.list (.int .u32)))], .box 198 [.st (.pair (.int .i64) (.int .i64))], .dat 78 (.bool)], [.ptr 4 190 0, .ptr 6 192 0, .ptr 7 193 0, .ptr 9 195 0, .ptr 10 196 0, .ptr 11 197 0, .ptr 12 198 0]⟩ .nil .nil)))) (.seq .nil (.jseq ⟨[.box 190 [.st (.pair (.bool) (.list (.int .u32)))], .box 192 [.st (.pair (.bool) (.list (.int .u32)))], .box 193 [.st (.pair (.bool) (.list (.int .u32)))], .box 197 [.st (.pair (.bool) (.list (.int .u32)))], .box 198 [.st (.pair (.int .i64) (.int .i64))], .box 201 [.st (.pair (.int .i64) (.int .i64))]], [.ptr 4 190 0, .ptr 6 192 0, .ptr 7 193 0, .ptr 11 197 0, .ptr 12 198 0, .ptr 15 201 0]⟩ .nil (.seq .nil (.seq .nil (.jseq ⟨[.box 197 [.st (.pair (.bool) (.list (.int .u32)))], .box 198 [.st (.pair (.int .i64) (.int .i64))], .box 202 [.st (.pair (.bool) (.list (.int .i64)))], .box 203 [.st (.pair (.bool) (.list (.int .i64)))]], [.ptr 11 197 0, .ptr 12 198 0, .ptr 16 202 0, .ptr 17 203 0]⟩ (.seq .nil (.cond (.seq .nil (.seq .nil (.jseq ⟨[.box 190 [.st (.pair (.bool) (.list (.int .u32)))], .box 192 [.st (.pair (.bool) (.list (.int .u32)))], .box 197 [.st (.pair (.bool) (.list (.int .u32)))], .box 198 [.st (.pair (.int .i64) (.int .i64))], .box 202 [.st (.pair (.bool) (.list (.int .i64)))], .box 203 [.st (.pair (.bool) (.list (.int .i64)))], .box 205 [.st (.pair (.bool) (.list (.int .u32)))]], [.ptr 4 190 0, .ptr 6 192 0, .ptr 11 197 0, .ptr 12 198 0, .ptr 16 202 0, .ptr 17 203 0, .ptr 19 205 0]⟩ .nil .nil))) .nil)) .nil)))))))))) x = brindlewoodlaw3_IntegerPowers k x.1 x.2.1 x.2.2.1 x.2.2.2 := by kernel_rfl

theorem brindlewoodlaw3_IntegerPowersMultiply.ev (k : Nat) (x : denA brindlewoodlaw3_IntegerPowersMultiply.A) :
    evalF Go.Sh.tt (brindlewoodlaw3_IntegerPowersMultiply.tab k) Go.Proofs.Try.f11.ntmps (bodyOf Go.Proofs.Try.f11) Go.Proofs.Try.f11.results.toList brindlewoodlaw3_IntegerPowersMultiply.A brindlewoodlaw3_IntegerPowersMultiply.B (.seq .nil (.seq .nil (.jseq ⟨[.dat 1 (.int .i64), .dat 2 (.int .i64), .box 178 [.st (.pair (.bool) (.list (.int .u32)))], .box 181 [.st (.pair (.bool) (.list (.int .u32)))]], [.ptr 4 178 0, .ptr 7 181 0]⟩ .nil (.seq .nil (.seq .nil (.seq .nil (.jseq ⟨[.dat 1 (.int .i64), .dat 2 (.int .i64), .box 178 [.st (.pair (.bool) (.list (.int .u32)))], .box 181 [.st (.pair (.bool) (.list (.int .u32)))], .box 184 [.st (.pair (.int .i64) (.int .i64))], .box 186 [.st (.pair (.int .i64) (.int .i64))], .box 188 [.st (.pair (.int .i64) (.int .i64))]], [.ptr 4 178 0, .ptr 7 181 0, .ptr 10 184 0, .ptr 12 186 0, .ptr 14 188 0]⟩ (.jseq ⟨[.dat 1 (.int .i64), .dat 2 (.int .i64), .box 178 [.st (.pair (.bool) (.list (.int .u32)))], .box 181 [.st (.pair (.bool) (.list (.int .u32)))], .box 183 [.st (.pair (.bool) (.list (.int .u32)))], .box 184 [.st (.pair (.int .i64) (.int .i64))], .box 185 [.st (.pair (.bool) (.list (.int .u32)))], .box 186 [.st (.pair (.int .i64) (.int .i64))], .box 187 [.st (.pair (.bool) (.list (.int .u32)))], .box 188 [.st (.pair (.int .i64) (.int .i64))], .dat 88 (.bool)], [.ptr 4 178 0, .ptr 7 181 0, .ptr 9 183 0, .ptr 10 184 0, .ptr 11 185 0, .ptr 12 186 0, .ptr 13 187 0, .ptr 14 188 0]⟩ .nil .nil) .nil))))))) x = brindlewoodlaw3_IntegerPowersMultiply k x.1 x.2.1 x.2.2.1 x.2.2.2 := by kernel_rfl
end Go.Sh
