/- The evaluator's answers are those of the plain functions, by wip/gen/gen.py.  Conditions: none. -/
import Derived.Test.YtjodgimhfafecaaShD
set_option linter.unusedVariables false
set_option maxRecDepth 100000
set_option maxHeartbeats 0
namespace Go.Sh
open Go Go.Ev

theorem integer_Valid.ev  (x : denA integer_Valid.A) :
    evalF Go.Sh.tt (integer_Valid.tab) Go.Proofs.Try.f61.ntmps (bodyOf Go.Proofs.Try.f61) Go.Proofs.Try.f61.results.toList integer_Valid.A integer_Valid.B .nil x = integer_Valid x := by kernel_rfl

theorem ranges_fits.ev  (x : denA ranges_fits.A) :
    evalF Go.Sh.tt (ranges_fits.tab) Go.Proofs.Try.f62.ntmps (bodyOf Go.Proofs.Try.f62) Go.Proofs.Try.f62.results.toList ranges_fits.A ranges_fits.B .nil x = ranges_fits x := by kernel_rfl

theorem ranges_Valid.ev  (x : denA ranges_Valid.A) :
    evalF Go.Sh.tt (ranges_Valid.tab) Go.Proofs.Try.f35.ntmps (bodyOf Go.Proofs.Try.f35) Go.Proofs.Try.f35.results.toList ranges_Valid.A ranges_Valid.B .nil x = ranges_Valid x := by kernel_rfl

theorem ranges_at.ev  (x : denA ranges_at.A) :
    evalF Go.Sh.tt (ranges_at.tab) Go.Proofs.Try.f60.ntmps (bodyOf Go.Proofs.Try.f60) Go.Proofs.Try.f60.results.toList ranges_at.A ranges_at.B .nil x = ranges_at x.1 x.2 := by kernel_rfl

theorem ranges_check.l0_ev (k n : Nat) (x : ranges_check.M0.den) :
    evalRound Go.Sh.tt (ranges_check.tab k) Go.Proofs.Try.f38.ntmps (finOf Go.Sh.tt ranges_check.B Go.Proofs.Try.f38.results.toList) (cAt [1, 0, 1, 0, 0] (bodyOf Go.Proofs.Try.f38)) .nil ranges_check.M0 ranges_check.O0 0 (fun x => ranges_check.l0 k n x.1 x.2.1 x.2.2.1 x.2.2.2) x = ranges_check.l0 k (n + 1) x.1 x.2.1 x.2.2.1 x.2.2.2 := by kernel_rfl
theorem ranges_check.ev (k : Nat) (x : denA ranges_check.A) :
    evalF Go.Sh.tt (ranges_check.tab k) Go.Proofs.Try.f38.ntmps (bodyOf Go.Proofs.Try.f38) Go.Proofs.Try.f38.results.toList ranges_check.A ranges_check.B (.seq .nil (.seq (.seq .nil (.block (ranges_check.an0 k))) .nil)) x = ranges_check k x := by kernel_rfl

theorem integer_Of.l0_ev (k n : Nat) (x : integer_Of.M0.den) :
    evalRound Go.Sh.tt (integer_Of.tab k) Go.Proofs.Try.f39.ntmps (finOf Go.Sh.tt integer_Of.B Go.Proofs.Try.f39.results.toList) (cAt [1, 1, 1, 1, 0, 0, 0] (bodyOf Go.Proofs.Try.f39)) .nil integer_Of.M0 integer_Of.O0 0 (fun x => integer_Of.l0 k n x.1 x.2.1 x.2.2) x = integer_Of.l0 k (n + 1) x.1 x.2.1 x.2.2 := by kernel_rfl
theorem integer_Of.ev (k : Nat) (x : denA integer_Of.A) :
    evalF Go.Sh.tt (integer_Of.tab k) Go.Proofs.Try.f39.ntmps (bodyOf Go.Proofs.Try.f39) Go.Proofs.Try.f39.results.toList integer_Of.A integer_Of.B (.seq .nil (.seq .nil (.jseq ⟨[.dat 0 (.int .i64), .box 40 [.st (.pair (.bool) (.list (.int .u32)))], .dat 3 (.int .u64)], [.ptr 2 40 0]⟩ .nil (.seq .nil (.seq (.block (integer_Of.an0 k)) .nil))))) x = integer_Of k x := by kernel_rfl

theorem ranges_sign.ev (k : Nat) (x : denA ranges_sign.A) :
    evalF Go.Sh.tt (ranges_sign.tab k) Go.Proofs.Try.f64.ntmps (bodyOf Go.Proofs.Try.f64) Go.Proofs.Try.f64.results.toList ranges_sign.A ranges_sign.B .nil x = ranges_sign k x := by kernel_rfl

theorem integer_at.ev  (x : denA integer_at.A) :
    evalF Go.Sh.tt (integer_at.tab) Go.Proofs.Try.f81.ntmps (bodyOf Go.Proofs.Try.f81) Go.Proofs.Try.f81.results.toList integer_at.A integer_at.B .nil x = integer_at x.1 x.2 := by kernel_rfl

theorem integer_check.l0_ev (k n : Nat) (x : integer_check.M0.den) :
    evalRound Go.Sh.tt (integer_check.tab k) Go.Proofs.Try.f80.ntmps (finOf Go.Sh.tt integer_check.B Go.Proofs.Try.f80.results.toList) (cAt [1, 0, 1, 0, 0] (bodyOf Go.Proofs.Try.f80)) .nil integer_check.M0 integer_check.O0 0 (fun x => integer_check.l0 k n x.1 x.2.1 x.2.2.1 x.2.2.2) x = integer_check.l0 k (n + 1) x.1 x.2.1 x.2.2.1 x.2.2.2 := by kernel_rfl
theorem integer_check.ev (k : Nat) (x : denA integer_check.A) :
    evalF Go.Sh.tt (integer_check.tab k) Go.Proofs.Try.f80.ntmps (bodyOf Go.Proofs.Try.f80) Go.Proofs.Try.f80.results.toList integer_check.A integer_check.B (.seq .nil (.seq (.seq .nil (.block (integer_check.an0 k))) .nil)) x = integer_check k x := by kernel_rfl

theorem natural_Valid.ev  (x : denA natural_Valid.A) :
    evalF Go.Sh.tt (natural_Valid.tab) Go.Proofs.Try.f100.ntmps (bodyOf Go.Proofs.Try.f100) Go.Proofs.Try.f100.results.toList natural_Valid.A natural_Valid.B .nil x = natural_Valid x := by kernel_rfl

theorem natural_at.ev  (x : denA natural_at.A) :
    evalF Go.Sh.tt (natural_at.tab) Go.Proofs.Try.f95.ntmps (bodyOf Go.Proofs.Try.f95) Go.Proofs.Try.f95.results.toList natural_at.A natural_at.B .nil x = natural_at x.1 x.2 := by kernel_rfl

theorem natural_check.ev  (x : denA natural_check.A) :
    evalF Go.Sh.tt (natural_check.tab) Go.Proofs.Try.f91.ntmps (bodyOf Go.Proofs.Try.f91) Go.Proofs.Try.f91.results.toList natural_check.A natural_check.B .nil x = natural_check x.1 x.2 := by kernel_rfl

theorem natural_trim_v.l0_ev (k n : Nat) (x : natural_trim_v.M0.den) :
    evalRound Go.Sh.tt (natural_trim_v.tab k) Go.Proofs.Try.f102.ntmps (finOf Go.Sh.tt natural_trim_v.B Go.Proofs.Try.f102.results.toList) (cAt [1, 0, 0, 0] (bodyOf Go.Proofs.Try.f102)) .nil natural_trim_v.M0 natural_trim_v.O0 0 (fun x => natural_trim_v.l0 k n x.1 x.2) x = natural_trim_v.l0 k (n + 1) x.1 x.2 := by kernel_rfl
theorem natural_trim_v.ev (k : Nat) (x : denA natural_trim_v.A) :
    evalF Go.Sh.tt (natural_trim_v.tab k) Go.Proofs.Try.f102.ntmps (bodyOf Go.Proofs.Try.f102) Go.Proofs.Try.f102.results.toList natural_trim_v.A natural_trim_v.B (.seq .nil (.seq (.block (natural_trim_v.an0 k)) .nil)) x = natural_trim_v k x := by kernel_rfl

theorem natural_mul.l1_ev (k n : Nat) (x : natural_mul.M1.den) :
    evalRound Go.Sh.tt (natural_mul.tab k) Go.Proofs.Try.f99.ntmps (finOf Go.Sh.tt natural_mul.B Go.Proofs.Try.f99.results.toList) (cAt [1, 1, 0, 1, 0, 0, 1, 1, 0, 0, 1, 1, 0, 1, 0, 0] (bodyOf Go.Proofs.Try.f99)) .nil natural_mul.M1 natural_mul.O1 2 (fun x => natural_mul.l1 k n x.1 x.2.1 x.2.2.1 x.2.2.2.1 x.2.2.2.2.1 x.2.2.2.2.2.1 x.2.2.2.2.2.2.1 x.2.2.2.2.2.2.2.1 x.2.2.2.2.2.2.2.2.1 x.2.2.2.2.2.2.2.2.2.1 x.2.2.2.2.2.2.2.2.2.2) x = natural_mul.l1 k (n + 1) x.1 x.2.1 x.2.2.1 x.2.2.2.1 x.2.2.2.2.1 x.2.2.2.2.2.1 x.2.2.2.2.2.2.1 x.2.2.2.2.2.2.2.1 x.2.2.2.2.2.2.2.2.1 x.2.2.2.2.2.2.2.2.2.1 x.2.2.2.2.2.2.2.2.2.2 := by kernel_rfl
theorem natural_mul.l0_ev (k n : Nat) (x : natural_mul.M0.den) :
    evalRound Go.Sh.tt (natural_mul.tab k) Go.Proofs.Try.f99.ntmps (finOf Go.Sh.tt natural_mul.B Go.Proofs.Try.f99.results.toList) (cAt [1, 1, 0, 1, 0, 0] (bodyOf Go.Proofs.Try.f99)) (.seq .nil (.seq .nil (.seq (.block (.seq .nil (.seq .nil (.seq (.seq .nil (.block (natural_mul.an1 k))) .nil)))) .nil))) natural_mul.M0 natural_mul.O0 0 (fun x => natural_mul.l0 k n x.1 x.2.1 x.2.2.1 x.2.2.2.1 x.2.2.2.2) x = natural_mul.l0 k (n + 1) x.1 x.2.1 x.2.2.1 x.2.2.2.1 x.2.2.2.2 := by kernel_rfl
theorem natural_mul.ev (k : Nat) (x : denA natural_mul.A) :
    evalF Go.Sh.tt (natural_mul.tab k) Go.Proofs.Try.f99.ntmps (bodyOf Go.Proofs.Try.f99) Go.Proofs.Try.f99.results.toList natural_mul.A natural_mul.B (.seq .nil (.seq .nil (.seq (.seq .nil (.block (natural_mul.an0 k))) .nil))) x = natural_mul k x.1 x.2 := by kernel_rfl

theorem natural_trim.l0_ev (k n : Nat) (x : natural_trim.M0.den) :
    evalRound Go.Sh.tt (natural_trim.tab k) Go.Proofs.Try.f102.ntmps (finOf Go.Sh.tt natural_trim.B Go.Proofs.Try.f102.results.toList) (cAt [1, 0, 0, 0] (bodyOf Go.Proofs.Try.f102)) .nil natural_trim.M0 natural_trim.O0 0 (fun x => natural_trim.l0 k n x) x = natural_trim.l0 k (n + 1) x := by kernel_rfl
theorem natural_trim.ev (k : Nat) (x : denA natural_trim.A) :
    evalF Go.Sh.tt (natural_trim.tab k) Go.Proofs.Try.f102.ntmps (bodyOf Go.Proofs.Try.f102) Go.Proofs.Try.f102.results.toList natural_trim.A natural_trim.B (.seq .nil (.seq (.block (natural_trim.an0 k)) .nil)) x = natural_trim k x := by kernel_rfl

theorem natural_fit.ev (k : Nat) (x : denA natural_fit.A) :
    evalF Go.Sh.tt (natural_fit.tab k) Go.Proofs.Try.f96.ntmps (bodyOf Go.Proofs.Try.f96) Go.Proofs.Try.f96.results.toList natural_fit.A natural_fit.B .nil x = natural_fit k x := by kernel_rfl

theorem natural_Mul.ev (k : Nat) (x : denA natural_Mul.A) :
    evalF Go.Sh.tt (natural_Mul.tab k) Go.Proofs.Try.f89.ntmps (bodyOf Go.Proofs.Try.f89) Go.Proofs.Try.f89.results.toList natural_Mul.A natural_Mul.B .nil x = natural_Mul k x.1 x.2 := by kernel_rfl

theorem integer_signed.ev  (x : denA integer_signed.A) :
    evalF Go.Sh.tt (integer_signed.tab) Go.Proofs.Try.f83.ntmps (bodyOf Go.Proofs.Try.f83) Go.Proofs.Try.f83.results.toList integer_signed.A integer_signed.B .nil x = integer_signed x.1 x.2 := by kernel_rfl

theorem integer_Mul.ev (k : Nat) (x : denA integer_Mul.A) :
    evalF Go.Sh.tt (integer_Mul.tab k) Go.Proofs.Try.f74.ntmps (bodyOf Go.Proofs.Try.f74) Go.Proofs.Try.f74.results.toList integer_Mul.A integer_Mul.B .nil x = integer_Mul k x.1 x.2 := by kernel_rfl

theorem ranges_mul.ev (k : Nat) (x : denA ranges_mul.A) :
    evalF Go.Sh.tt (ranges_mul.tab k) Go.Proofs.Try.f48.ntmps (bodyOf Go.Proofs.Try.f48) Go.Proofs.Try.f48.results.toList ranges_mul.A ranges_mul.B .nil x = ranges_mul k x.1 x.2 := by kernel_rfl

theorem natural_compare.l0_ev (k n : Nat) (x : natural_compare.M0.den) :
    evalRound Go.Sh.tt (natural_compare.tab k) Go.Proofs.Try.f94.ntmps (finOf Go.Sh.tt natural_compare.B Go.Proofs.Try.f94.results.toList) (cAt [1, 1, 0, 1, 0, 0] (bodyOf Go.Proofs.Try.f94)) .nil natural_compare.M0 natural_compare.O0 0 (fun x => natural_compare.l0 k n x.1 x.2.1 x.2.2) x = natural_compare.l0 k (n + 1) x.1 x.2.1 x.2.2 := by kernel_rfl
theorem natural_compare.ev (k : Nat) (x : denA natural_compare.A) :
    evalF Go.Sh.tt (natural_compare.tab k) Go.Proofs.Try.f94.ntmps (bodyOf Go.Proofs.Try.f94) Go.Proofs.Try.f94.results.toList natural_compare.A natural_compare.B (.seq .nil (.seq .nil (.seq (.seq .nil (.block (natural_compare.an0 k))) .nil))) x = natural_compare k x.1 x.2 := by kernel_rfl

theorem natural_Cmp.ev (k : Nat) (x : denA natural_Cmp.A) :
    evalF Go.Sh.tt (natural_Cmp.tab k) Go.Proofs.Try.f84.ntmps (bodyOf Go.Proofs.Try.f84) Go.Proofs.Try.f84.results.toList natural_Cmp.A natural_Cmp.B .nil x = natural_Cmp k x.1 x.2 := by kernel_rfl

theorem integer_Cmp.ev (k : Nat) (x : denA integer_Cmp.A) :
    evalF Go.Sh.tt (integer_Cmp.tab k) Go.Proofs.Try.f70.ntmps (bodyOf Go.Proofs.Try.f70) Go.Proofs.Try.f70.results.toList integer_Cmp.A integer_Cmp.B (.seq .nil (.seq .nil (.seq .nil (.seq (.block (.jseq ⟨[.box 47 [.st (.pair (.bool) (.list (.int .u32)))], .box 48 [.st (.pair (.bool) (.list (.int .u32)))], .box 50 [.st (.pair (.int .i64) (.int .i64))], .dat 7 (.int .i64), .dat 25 (.bool)], [.ptr 2 47 0, .ptr 3 48 0, .ptr 5 50 0]⟩ .nil .nil)) .nil)))) x = integer_Cmp k x.1 x.2 := by kernel_rfl

theorem ranges_less.ev (k : Nat) (x : denA ranges_less.A) :
    evalF Go.Sh.tt (ranges_less.tab k) Go.Proofs.Try.f44.ntmps (bodyOf Go.Proofs.Try.f44) Go.Proofs.Try.f44.results.toList ranges_less.A ranges_less.B .nil x = ranges_less k x.1 x.2 := by kernel_rfl

theorem natural_add.l0_ev (k n : Nat) (x : natural_add.M0.den) :
    evalRound Go.Sh.tt (natural_add.tab k) Go.Proofs.Try.f97.ntmps (finOf Go.Sh.tt natural_add.B Go.Proofs.Try.f97.results.toList) (cAt [1, 1, 1, 1, 0, 1, 0, 0] (bodyOf Go.Proofs.Try.f97)) .nil natural_add.M0 natural_add.O0 0 (fun x => natural_add.l0 k n x.1 x.2.1 x.2.2.1 x.2.2.2.1 x.2.2.2.2.1 x.2.2.2.2.2) x = natural_add.l0 k (n + 1) x.1 x.2.1 x.2.2.1 x.2.2.2.1 x.2.2.2.2.1 x.2.2.2.2.2 := by kernel_rfl
theorem natural_add.ev (k : Nat) (x : denA natural_add.A) :
    evalF Go.Sh.tt (natural_add.tab k) Go.Proofs.Try.f97.ntmps (bodyOf Go.Proofs.Try.f97) Go.Proofs.Try.f97.results.toList natural_add.A natural_add.B (.seq .nil (.jseq ⟨[.dat 0 (.list (.int .u32)), .dat 1 (.list (.int .u32))], []⟩ .nil (.seq .nil (.seq .nil (.seq (.seq .nil (.block (natural_add.an0 k))) .nil))))) x = natural_add k x.1 x.2 := by kernel_rfl

theorem natural_Add.ev (k : Nat) (x : denA natural_Add.A) :
    evalF Go.Sh.tt (natural_Add.tab k) Go.Proofs.Try.f86.ntmps (bodyOf Go.Proofs.Try.f86) Go.Proofs.Try.f86.results.toList natural_Add.A natural_Add.B .nil x = natural_Add k x.1 x.2 := by kernel_rfl



theorem bits_Sub32.ev  (x : denA bits_Sub32.A) :
    evalF Go.Sh.tt (bits_Sub32.tab) Go.Proofs.Try.f104.ntmps (bodyOf Go.Proofs.Try.f104) Go.Proofs.Try.f104.results.toList bits_Sub32.A bits_Sub32.B .nil x = bits_Sub32 x.1 x.2.1 x.2.2 := by kernel_rfl

theorem natural_sub.l0_ev (k n : Nat) (x : natural_sub.M0.den) :
    evalRound Go.Sh.tt (natural_sub.tab k) Go.Proofs.Try.f98.ntmps (finOf Go.Sh.tt natural_sub.B Go.Proofs.Try.f98.results.toList) (cAt [1, 1, 1, 0, 1, 0, 0] (bodyOf Go.Proofs.Try.f98)) (.seq .nil (.seq .nil (.seq (.block (.seq .nil (.seq .nil (.jseq ⟨[.dat 1 (.list (.int .u32)), .own 5 (.int .u32), .dat 6 (.int .u32), .dat 7 (.int .i64), .dat 8 (.int .u32), .dat 12 (.int .i64), .dat 13 (.int .i64)], []⟩ .nil .nil)))) .nil))) natural_sub.M0 natural_sub.O0 0 (fun x => natural_sub.l0 k n x.1 x.2.1 x.2.2.1 x.2.2.2.1 x.2.2.2.2) x = natural_sub.l0 k (n + 1) x.1 x.2.1 x.2.2.1 x.2.2.2.1 x.2.2.2.2 := by kernel_rfl
theorem natural_sub.ev (k : Nat) (x : denA natural_sub.A) :
    evalF Go.Sh.tt (natural_sub.tab k) Go.Proofs.Try.f98.ntmps (bodyOf Go.Proofs.Try.f98) Go.Proofs.Try.f98.results.toList natural_sub.A natural_sub.B (.seq .nil (.seq .nil (.seq .nil (.seq (.seq .nil (.block (natural_sub.an0 k))) .nil)))) x = natural_sub k x.1 x.2 := by kernel_rfl

theorem natural_Sub.ev (k : Nat) (x : denA natural_Sub.A) :
    evalF Go.Sh.tt (natural_Sub.tab k) Go.Proofs.Try.f87.ntmps (bodyOf Go.Proofs.Try.f87) Go.Proofs.Try.f87.results.toList natural_Sub.A natural_Sub.B .nil x = natural_Sub k x.1 x.2 := by kernel_rfl

theorem integer_plus.ev (k : Nat) (x : denA integer_plus.A) :
    evalF Go.Sh.tt (integer_plus.tab k) Go.Proofs.Try.f88.ntmps (bodyOf Go.Proofs.Try.f88) Go.Proofs.Try.f88.results.toList integer_plus.A integer_plus.B (.seq .nil (.seq .nil (.jseq ⟨[.box 59 [.st (.pair (.bool) (.list (.int .u32)))], .box 60 [.st (.pair (.bool) (.list (.int .u32)))], .box 61 [.st (.pair (.bool) (.list (.int .u32)))], .box 62 [.st (.pair (.int .i64) (.int .i64))]], [.ptr 2 59 0, .ptr 3 60 0, .ptr 4 61 0, .ptr 5 62 0]⟩ .nil .nil))) x = integer_plus k x.1 x.2 := by kernel_rfl

theorem integer_Sub.ev (k : Nat) (x : denA integer_Sub.A) :
    evalF Go.Sh.tt (integer_Sub.tab k) Go.Proofs.Try.f73.ntmps (bodyOf Go.Proofs.Try.f73) Go.Proofs.Try.f73.results.toList integer_Sub.A integer_Sub.B .nil x = integer_Sub k x.1 x.2 := by kernel_rfl

theorem ranges_sub.ev (k : Nat) (x : denA ranges_sub.A) :
    evalF Go.Sh.tt (ranges_sub.tab k) Go.Proofs.Try.f47.ntmps (bodyOf Go.Proofs.Try.f47) Go.Proofs.Try.f47.results.toList ranges_sub.A ranges_sub.B .nil x = ranges_sub k x.1 x.2 := by kernel_rfl

theorem integer_Add.ev (k : Nat) (x : denA integer_Add.A) :
    evalF Go.Sh.tt (integer_Add.tab k) Go.Proofs.Try.f72.ntmps (bodyOf Go.Proofs.Try.f72) Go.Proofs.Try.f72.results.toList integer_Add.A integer_Add.B .nil x = integer_Add k x.1 x.2 := by kernel_rfl

theorem ranges_add.ev (k : Nat) (x : denA ranges_add.A) :
    evalF Go.Sh.tt (ranges_add.tab k) Go.Proofs.Try.f46.ntmps (bodyOf Go.Proofs.Try.f46) Go.Proofs.Try.f46.results.toList ranges_add.A ranges_add.B .nil x = ranges_add k x.1 x.2 := by kernel_rfl

theorem bits_Div32.ev  (x : denA bits_Div32.A) :
    evalF Go.Sh.tt (bits_Div32.tab) Go.Proofs.Try.f105.ntmps (bodyOf Go.Proofs.Try.f105) Go.Proofs.Try.f105.results.toList bits_Div32.A bits_Div32.B (.seq .nil (.jseq ⟨[.dat 0 (.int .u32), .dat 1 (.int .u32), .dat 2 (.int .u32)], []⟩ .nil .nil)) x = bits_Div32 x.1 x.2.1 x.2.2 := by kernel_rfl

theorem natural_short.l0_ev (k n : Nat) (x : natural_short.M0.den) :
    evalRound Go.Sh.tt (natural_short.tab k) Go.Proofs.Try.f101.ntmps (finOf Go.Sh.tt natural_short.B Go.Proofs.Try.f101.results.toList) (cAt [1, 1, 1, 0, 1, 0, 0] (bodyOf Go.Proofs.Try.f101)) .nil natural_short.M0 natural_short.O0 0 (fun x => natural_short.l0 k n x.1 x.2.1 x.2.2.1 x.2.2.2.1 x.2.2.2.2) x = natural_short.l0 k (n + 1) x.1 x.2.1 x.2.2.1 x.2.2.2.1 x.2.2.2.2 := by kernel_rfl
theorem natural_short.ev (k : Nat) (x : denA natural_short.A) :
    evalF Go.Sh.tt (natural_short.tab k) Go.Proofs.Try.f101.ntmps (bodyOf Go.Proofs.Try.f101) Go.Proofs.Try.f101.results.toList natural_short.A natural_short.B (.seq .nil (.seq .nil (.seq .nil (.seq (.seq .nil (.block (natural_short.an0 k))) .nil)))) x = natural_short k x.1 x.2 := by kernel_rfl

theorem bits_Len32.ev  (x : denA bits_Len32.A) :
    evalF Go.Sh.tt (bits_Len32.tab) Go.Proofs.Try.f110.ntmps (bodyOf Go.Proofs.Try.f110) Go.Proofs.Try.f110.results.toList bits_Len32.A bits_Len32.B (.seq .nil (.jseq ⟨[.dat 0 (.int .u32), .dat 2 (.int .i64)], []⟩ .nil .nil)) x = bits_Len32 x := by kernel_rfl

theorem bits_LeadingZeros32.ev  (x : denA bits_LeadingZeros32.A) :
    evalF Go.Sh.tt (bits_LeadingZeros32.tab) Go.Proofs.Try.f106.ntmps (bodyOf Go.Proofs.Try.f106) Go.Proofs.Try.f106.results.toList bits_LeadingZeros32.A bits_LeadingZeros32.B .nil x = bits_LeadingZeros32 x := by kernel_rfl

theorem natural_left.l0_ev (k n : Nat) (x : natural_left.M0.den) :
    evalRound Go.Sh.tt (natural_left.tab k) Go.Proofs.Try.f107.ntmps (finOf Go.Sh.tt natural_left.B Go.Proofs.Try.f107.results.toList) (cAt [1, 1, 1, 0, 1, 0, 0] (bodyOf Go.Proofs.Try.f107)) .nil natural_left.M0 natural_left.O0 0 (fun x => natural_left.l0 k n x.1 x.2.1 x.2.2.1 x.2.2.2.1 x.2.2.2.2.1 x.2.2.2.2.2) x = natural_left.l0 k (n + 1) x.1 x.2.1 x.2.2.1 x.2.2.2.1 x.2.2.2.2.1 x.2.2.2.2.2 := by kernel_rfl
theorem natural_left.ev (k : Nat) (x : denA natural_left.A) :
    evalF Go.Sh.tt (natural_left.tab k) Go.Proofs.Try.f107.ntmps (bodyOf Go.Proofs.Try.f107) Go.Proofs.Try.f107.results.toList natural_left.A natural_left.B (.seq .nil (.seq .nil (.seq .nil (.seq (.seq .nil (.block (natural_left.an0 k))) .nil)))) x = natural_left k x.1 x.2 := by kernel_rfl

theorem bits_Add32.ev  (x : denA bits_Add32.A) :
    evalF Go.Sh.tt (bits_Add32.tab) Go.Proofs.Try.f111.ntmps (bodyOf Go.Proofs.Try.f111) Go.Proofs.Try.f111.results.toList bits_Add32.A bits_Add32.B .nil x = bits_Add32 x.1 x.2.1 x.2.2 := by kernel_rfl

theorem natural_digit_ld.l2_ev (k n : Nat) (x : natural_digit_ld.M2.den) :
    evalRound Go.Sh.tt (natural_digit_ld.tab k) Go.Proofs.Try.f108.ntmps (finOf Go.Sh.tt natural_digit_ld.B Go.Proofs.Try.f108.results.toList) (cAt [1, 1, 1, 1, 1, 1, 1, 0, 1, 0, 1, 1, 0, 1, 0, 0] (bodyOf Go.Proofs.Try.f108)) .nil natural_digit_ld.M2 natural_digit_ld.O2 4 (fun x => natural_digit_ld.l2 k n x.1 x.2.1 x.2.2.1 x.2.2.2.1 x.2.2.2.2.1 x.2.2.2.2.2.1 x.2.2.2.2.2.2) x = natural_digit_ld.l2 k (n + 1) x.1 x.2.1 x.2.2.1 x.2.2.2.1 x.2.2.2.2.1 x.2.2.2.2.2.1 x.2.2.2.2.2.2 := by kernel_rfl
theorem natural_digit_ld.l1_ev (k n : Nat) (x : natural_digit_ld.M1.den) :
    evalRound Go.Sh.tt (natural_digit_ld.tab k) Go.Proofs.Try.f108.ntmps (finOf Go.Sh.tt natural_digit_ld.B Go.Proofs.Try.f108.results.toList) (cAt [1, 1, 1, 1, 1, 1, 0, 1, 0, 0] (bodyOf Go.Proofs.Try.f108)) (.seq .nil (.seq .nil (.seq (.block (.seq .nil (.jseq ⟨[.blk 0 (.int .u32) 1, .dat 1 (.list (.int .u32)), .dat 5 (.int .i64), .dat 8 (.int .u64), .dat 10 (.int .u64), .dat 11 (.int .u32), .dat 12 (.int .i64), .dat 74 (.int .i64), .dat 75 (.int .i64)], [.ref 0 0]⟩ .nil .nil))) .nil))) natural_digit_ld.M1 natural_digit_ld.O1 2 (fun x => natural_digit_ld.l1 k n x.1 x.2.1 x.2.2.1 x.2.2.2.1 x.2.2.2.2.1 x.2.2.2.2.2.1 x.2.2.2.2.2.2.1 x.2.2.2.2.2.2.2) x = natural_digit_ld.l1 k (n + 1) x.1 x.2.1 x.2.2.1 x.2.2.2.1 x.2.2.2.2.1 x.2.2.2.2.2.1 x.2.2.2.2.2.2.1 x.2.2.2.2.2.2.2 := by kernel_rfl
theorem natural_digit_ld.l0_ev (k n : Nat) (x : natural_digit_ld.M0.den) :
    evalRound Go.Sh.tt (natural_digit_ld.tab k) Go.Proofs.Try.f108.ntmps (finOf Go.Sh.tt natural_digit_ld.B Go.Proofs.Try.f108.results.toList) (cAt [1, 1, 1, 1, 0, 0, 0] (bodyOf Go.Proofs.Try.f108)) .nil natural_digit_ld.M0 natural_digit_ld.O0 0 (fun x => natural_digit_ld.l0 k n x.1 x.2.1 x.2.2.1 x.2.2.2.1 x.2.2.2.2.1 x.2.2.2.2.2) x = natural_digit_ld.l0 k (n + 1) x.1 x.2.1 x.2.2.1 x.2.2.2.1 x.2.2.2.2.1 x.2.2.2.2.2 := by kernel_rfl
theorem natural_digit_ld.ev (k : Nat) (x : denA natural_digit_ld.A) :
    evalF Go.Sh.tt (natural_digit_ld.tab k) Go.Proofs.Try.f108.ntmps (bodyOf Go.Proofs.Try.f108) Go.Proofs.Try.f108.results.toList natural_digit_ld.A natural_digit_ld.B (.seq .nil (.seq .nil (.seq .nil (.seq .nil (.seq (.block (natural_digit_ld.an0 k)) (.seq .nil (.seq (.seq .nil (.block (natural_digit_ld.an1 k))) (.seq (.seq .nil (.cond (.seq .nil (.seq .nil (.seq (.seq .nil (.block (natural_digit_ld.an2 k))) .nil))) .nil)) .nil)))))))) x = natural_digit_ld k x.1 x.2 := by kernel_rfl

theorem natural_right.l0_ev (k n : Nat) (x : natural_right.M0.den) :
    evalRound Go.Sh.tt (natural_right.tab k) Go.Proofs.Try.f109.ntmps (finOf Go.Sh.tt natural_right.B Go.Proofs.Try.f109.results.toList) (cAt [1, 1, 0, 1, 0, 0] (bodyOf Go.Proofs.Try.f109)) .nil natural_right.M0 natural_right.O0 0 (fun x => natural_right.l0 k n x.1 x.2.1 x.2.2.1 x.2.2.2) x = natural_right.l0 k (n + 1) x.1 x.2.1 x.2.2.1 x.2.2.2 := by kernel_rfl
theorem natural_right.ev (k : Nat) (x : denA natural_right.A) :
    evalF Go.Sh.tt (natural_right.tab k) Go.Proofs.Try.f109.ntmps (bodyOf Go.Proofs.Try.f109) Go.Proofs.Try.f109.results.toList natural_right.A natural_right.B (.seq .nil (.seq .nil (.seq (.seq .nil (.block (natural_right.an0 k))) .nil))) x = natural_right k x.1 x.2 := by kernel_rfl

theorem natural_divide.l1_ev (k n : Nat) (x : natural_divide.M1.den) :
    evalRound Go.Sh.tt (natural_divide.tab k) Go.Proofs.Try.f103.ntmps (finOf Go.Sh.tt natural_divide.B Go.Proofs.Try.f103.results.toList) (cAt [1, 1, 1, 1, 1, 1, 0, 1, 0, 0] (bodyOf Go.Proofs.Try.f103)) .nil natural_divide.M1 natural_divide.O1 2 (fun x => natural_divide.l1 k n x.1 x.2.1 x.2.2.1 x.2.2.2.1 x.2.2.2.2.1 x.2.2.2.2.2) x = natural_divide.l1 k (n + 1) x.1 x.2.1 x.2.2.1 x.2.2.2.1 x.2.2.2.2.1 x.2.2.2.2.2 := by kernel_rfl
theorem natural_divide.l0_ev (k n : Nat) (x : natural_divide.M0.den) :
    evalRound Go.Sh.tt (natural_divide.tab k) Go.Proofs.Try.f103.ntmps (finOf Go.Sh.tt natural_divide.B Go.Proofs.Try.f103.results.toList) (cAt [1, 1, 1, 1, 0, 0, 0] (bodyOf Go.Proofs.Try.f103)) .nil natural_divide.M0 natural_divide.O0 0 (fun x => natural_divide.l0 k n x.1 x.2.1 x.2.2.1 x.2.2.2.1 x.2.2.2.2) x = natural_divide.l0 k (n + 1) x.1 x.2.1 x.2.2.1 x.2.2.2.1 x.2.2.2.2 := by kernel_rfl
theorem natural_divide.ev (k : Nat) (x : denA natural_divide.A) :
    evalF Go.Sh.tt (natural_divide.tab k) Go.Proofs.Try.f103.ntmps (bodyOf Go.Proofs.Try.f103) Go.Proofs.Try.f103.results.toList natural_divide.A natural_divide.B (.seq .nil (.seq .nil (.seq .nil (.seq .nil (.seq (.block (natural_divide.an0 k)) (.seq .nil (.seq (.seq .nil (.block (natural_divide.an1 k))) .nil))))))) x = natural_divide k x.1 x.2 := by kernel_rfl

theorem natural_divMod.ev (k : Nat) (x : denA natural_divMod.A) :
    evalF Go.Sh.tt (natural_divMod.tab k) Go.Proofs.Try.f93.ntmps (bodyOf Go.Proofs.Try.f93) Go.Proofs.Try.f93.results.toList natural_divMod.A natural_divMod.B .nil x = natural_divMod k x.1 x.2 := by kernel_rfl

theorem natural_DivMod.ev (k : Nat) (x : denA natural_DivMod.A) :
    evalF Go.Sh.tt (natural_DivMod.tab k) Go.Proofs.Try.f85.ntmps (bodyOf Go.Proofs.Try.f85) Go.Proofs.Try.f85.results.toList natural_DivMod.A natural_DivMod.B .nil x = natural_DivMod k x.1 x.2 := by kernel_rfl

theorem integer_DivMod.ev (k : Nat) (x : denA integer_DivMod.A) :
    evalF Go.Sh.tt (integer_DivMod.tab k) Go.Proofs.Try.f71.ntmps (bodyOf Go.Proofs.Try.f71) Go.Proofs.Try.f71.results.toList integer_DivMod.A integer_DivMod.B (.seq .nil (.seq .nil (.seq .nil (.seq .nil (.jseq ⟨[.box 90 [.st (.pair (.bool) (.list (.int .u32)))], .box 91 [.st (.pair (.bool) (.list (.int .u32)))], .box 92 [.st (.pair (.bool) (.list (.int .u32)))], .box 93 [.st (.pair (.bool) (.list (.int .u32)))], .box 94 [.st (.pair (.int .i64) (.int .i64))], .dat 8 (.list (.int .u32)), .dat 9 (.list (.int .u32)), .box 98 [.st (.pair (.int .i64) (.int .i64))]], [.ptr 2 90 0, .ptr 3 91 0, .ptr 4 92 0, .ptr 5 93 0, .ptr 6 94 0, .ptr 10 98 0]⟩ (.jseq ⟨[.box 90 [.st (.pair (.bool) (.list (.int .u32)))], .box 91 [.st (.pair (.bool) (.list (.int .u32)))], .box 92 [.st (.pair (.bool) (.list (.int .u32)))], .box 93 [.st (.pair (.bool) (.list (.int .u32)))], .box 94 [.st (.pair (.int .i64) (.int .i64))], .dat 8 (.list (.int .u32)), .dat 9 (.list (.int .u32)), .box 98 [.st (.pair (.int .i64) (.int .i64))], .dat 48 (.bool)], [.ptr 2 90 0, .ptr 3 91 0, .ptr 4 92 0, .ptr 5 93 0, .ptr 6 94 0, .ptr 10 98 0]⟩ .nil .nil) .nil))))) x = integer_DivMod k x.1 x.2 := by kernel_rfl

theorem ranges_divMod.ev (k : Nat) (x : denA ranges_divMod.A) :
    evalF Go.Sh.tt (ranges_divMod.tab k) Go.Proofs.Try.f45.ntmps (bodyOf Go.Proofs.Try.f45) Go.Proofs.Try.f45.results.toList ranges_divMod.A ranges_divMod.B .nil x = ranges_divMod k x.1 x.2 := by kernel_rfl

theorem ranges_length.ev (k : Nat) (x : denA ranges_length.A) :
    evalF Go.Sh.tt (ranges_length.tab k) Go.Proofs.Try.f41.ntmps (bodyOf Go.Proofs.Try.f41) Go.Proofs.Try.f41.results.toList ranges_length.A ranges_length.B (.seq .nil (.seq .nil (.jseq ⟨[.box 42 [.st (.pair (.bool) (.list (.int .u32)))], .box 43 [.st (.pair (.bool) (.list (.int .u32)))], .box 44 [.st (.pair (.bool) (.list (.int .u32)))], .box 45 [.st (.pair (.bool) (.list (.int .u32)))]], [.ptr 2 42 0, .ptr 3 43 0, .ptr 4 44 0, .ptr 5 45 0]⟩ .nil .nil))) x = ranges_length k x := by kernel_rfl

theorem ranges_zero.ev  (x : denA ranges_zero.A) :
    evalF Go.Sh.tt (ranges_zero.tab) Go.Proofs.Try.f40.ntmps (bodyOf Go.Proofs.Try.f40) Go.Proofs.Try.f40.results.toList ranges_zero.A ranges_zero.B .nil x = ranges_zero x := by kernel_rfl

theorem ranges_element.ev (k : Nat) (x : denA ranges_element.A) :
    evalF Go.Sh.tt (ranges_element.tab k) Go.Proofs.Try.f65.ntmps (bodyOf Go.Proofs.Try.f65) Go.Proofs.Try.f65.results.toList ranges_element.A ranges_element.B .nil x = ranges_element k x.1 x.2 := by kernel_rfl

theorem ranges_upward.ev (k : Nat) (x : denA ranges_upward.A) :
    evalF Go.Sh.tt (ranges_upward.tab k) Go.Proofs.Try.f42.ntmps (bodyOf Go.Proofs.Try.f42) Go.Proofs.Try.f42.results.toList ranges_upward.A ranges_upward.B .nil x = ranges_upward k x := by kernel_rfl

theorem natural_Gcd.l0_ev (k n : Nat) (x : natural_Gcd.M0.den) :
    evalRound Go.Sh.tt (natural_Gcd.tab k) Go.Proofs.Try.f82.ntmps (finOf Go.Sh.tt natural_Gcd.B Go.Proofs.Try.f82.results.toList) (cAt [1, 1, 1, 0, 0, 0] (bodyOf Go.Proofs.Try.f82)) .nil natural_Gcd.M0 natural_Gcd.O0 0 (fun x => natural_Gcd.l0 k n x.1 x.2.1 x.2.2) x = natural_Gcd.l0 k (n + 1) x.1 x.2.1 x.2.2 := by kernel_rfl
theorem natural_Gcd.ev (k : Nat) (x : denA natural_Gcd.A) :
    evalF Go.Sh.tt (natural_Gcd.tab k) Go.Proofs.Try.f82.ntmps (bodyOf Go.Proofs.Try.f82) Go.Proofs.Try.f82.results.toList natural_Gcd.A natural_Gcd.B (.seq .nil (.seq .nil (.seq .nil (.seq (.block (natural_Gcd.an0 k)) .nil)))) x = natural_Gcd k x.1 x.2 := by kernel_rfl

theorem integer_Gcd.ev (k : Nat) (x : denA integer_Gcd.A) :
    evalF Go.Sh.tt (integer_Gcd.tab k) Go.Proofs.Try.f68.ntmps (bodyOf Go.Proofs.Try.f68) Go.Proofs.Try.f68.results.toList integer_Gcd.A integer_Gcd.B .nil x = integer_Gcd k x.1 x.2 := by kernel_rfl

theorem ranges_inverse.l0_ev (k n : Nat) (x : ranges_inverse.M0.den) :
    evalRound Go.Sh.tt (ranges_inverse.tab k) Go.Proofs.Try.f69.ntmps (finOf Go.Sh.tt ranges_inverse.B Go.Proofs.Try.f69.results.toList) (cAt [1, 1, 1, 1, 0, 0, 0] (bodyOf Go.Proofs.Try.f69)) .nil ranges_inverse.M0 ranges_inverse.O0 0 (fun x => ranges_inverse.l0 k n x.1 x.2.1 x.2.2.1 x.2.2.2.1 x.2.2.2.2.1 x.2.2.2.2.2) x = ranges_inverse.l0 k (n + 1) x.1 x.2.1 x.2.2.1 x.2.2.2.1 x.2.2.2.2.1 x.2.2.2.2.2 := by kernel_rfl
theorem ranges_inverse.ev (k : Nat) (x : denA ranges_inverse.A) :
    evalF Go.Sh.tt (ranges_inverse.tab k) Go.Proofs.Try.f69.ntmps (bodyOf Go.Proofs.Try.f69) Go.Proofs.Try.f69.results.toList ranges_inverse.A ranges_inverse.B (.seq .nil (.seq .nil (.seq .nil (.seq .nil (.seq (.block (ranges_inverse.an0 k)) .nil))))) x = ranges_inverse k x.1 x.2 := by kernel_rfl

theorem ranges_common.ev (k : Nat) (x : denA ranges_common.A) :
    evalF Go.Sh.tt (ranges_common.tab k) Go.Proofs.Try.f43.ntmps (bodyOf Go.Proofs.Try.f43) Go.Proofs.Try.f43.results.toList ranges_common.A ranges_common.B .nil x = ranges_common k x.1 x.2 := by kernel_rfl

theorem ranges_plain.ev (k : Nat) (x : denA ranges_plain.A) :
    evalF Go.Sh.tt (ranges_plain.tab k) Go.Proofs.Try.f50.ntmps (bodyOf Go.Proofs.Try.f50) Go.Proofs.Try.f50.results.toList ranges_plain.A ranges_plain.B .nil x = ranges_plain k x := by kernel_rfl

theorem ranges_whole.ev  (x : denA ranges_whole.A) :
    evalF Go.Sh.tt (ranges_whole.tab) Go.Proofs.Try.f49.ntmps (bodyOf Go.Proofs.Try.f49) Go.Proofs.Try.f49.results.toList ranges_whole.A ranges_whole.B .nil x = ranges_whole x := by kernel_rfl

theorem ranges_Meet.ev (k : Nat) (x : denA ranges_Meet.A) :
    evalF Go.Sh.tt (ranges_Meet.tab k) Go.Proofs.Try.f8.ntmps (bodyOf Go.Proofs.Try.f8) Go.Proofs.Try.f8.results.toList ranges_Meet.A ranges_Meet.B (.seq .nil (.seq .nil (.seq .nil (.jseq ⟨[.box 94 [.st (.pair (.st (.pair (.bool) (.list (.int .u32)))) (.pair (.st (.pair (.bool) (.list (.int .u32)))) (.st (.pair (.bool) (.list (.int .u32))))))], .box 95 [.st (.pair (.st (.pair (.bool) (.list (.int .u32)))) (.pair (.st (.pair (.bool) (.list (.int .u32)))) (.st (.pair (.bool) (.list (.int .u32))))))], .box 96 [.st (.pair (.st (.pair (.bool) (.list (.int .u32)))) (.pair (.st (.pair (.bool) (.list (.int .u32)))) (.st (.pair (.bool) (.list (.int .u32))))))], .box 97 [.st (.pair (.int .i64) (.int .i64))], .box 99 [.st (.pair (.st (.pair (.bool) (.list (.int .u32)))) (.pair (.st (.pair (.bool) (.list (.int .u32)))) (.st (.pair (.bool) (.list (.int .u32))))))]], [.ptr 2 94 0, .ptr 3 95 0, .ptr 4 96 0, .ptr 5 97 0, .ptr 7 99 0]⟩ .nil (.seq .nil (.seq .nil (.seq .nil (.jseq ⟨[.box 96 [.st (.pair (.st (.pair (.bool) (.list (.int .u32)))) (.pair (.st (.pair (.bool) (.list (.int .u32)))) (.st (.pair (.bool) (.list (.int .u32))))))], .box 97 [.st (.pair (.int .i64) (.int .i64))], .box 100 [.st (.pair (.st (.pair (.bool) (.list (.int .u32)))) (.pair (.st (.pair (.bool) (.list (.int .u32)))) (.st (.pair (.bool) (.list (.int .u32))))))], .box 101 [.st (.pair (.st (.pair (.bool) (.list (.int .u32)))) (.pair (.st (.pair (.bool) (.list (.int .u32)))) (.st (.pair (.bool) (.list (.int .u32))))))], .box 102 [.st (.pair (.bool) (.list (.int .u32)))], .box 103 [.st (.pair (.bool) (.list (.int .u32)))]], [.ptr 4 96 0, .ptr 5 97 0, .ptr 8 100 0, .ptr 9 101 0, .ptr 10 102 0, .ptr 11 103 0]⟩ .nil (.seq .nil (.jseq ⟨[.box 96 [.st (.pair (.st (.pair (.bool) (.list (.int .u32)))) (.pair (.st (.pair (.bool) (.list (.int .u32)))) (.st (.pair (.bool) (.list (.int .u32))))))], .box 97 [.st (.pair (.int .i64) (.int .i64))], .box 102 [.st (.pair (.bool) (.list (.int .u32)))], .box 103 [.st (.pair (.bool) (.list (.int .u32)))], .box 107 [.st (.pair (.bool) (.list (.int .u32)))]], [.ptr 4 96 0, .ptr 5 97 0, .ptr 10 102 0, .ptr 11 103 0, .ptr 15 107 0]⟩ .nil .nil)))))))))) x = ranges_Meet k x.1 x.2 := by kernel_rfl

theorem brindlewoodref3_IntOk.ev  (x : denA brindlewoodref3_IntOk.A) :
    evalF Go.Sh.tt (brindlewoodref3_IntOk.tab) Go.Proofs.Try.f21.ntmps (bodyOf Go.Proofs.Try.f21) Go.Proofs.Try.f21.results.toList brindlewoodref3_IntOk.A brindlewoodref3_IntOk.B .nil x = brindlewoodref3_IntOk x := by kernel_rfl

theorem brindlewoodref3_NoInt.ev  (x : denA brindlewoodref3_NoInt.A) :
    evalF Go.Sh.tt (brindlewoodref3_NoInt.tab) Go.Proofs.Try.f30.ntmps (bodyOf Go.Proofs.Try.f30) Go.Proofs.Try.f30.results.toList brindlewoodref3_NoInt.A brindlewoodref3_NoInt.B .nil x = brindlewoodref3_NoInt x := by kernel_rfl

theorem brindlewoodref3_RangeOk.l0_ev (k n : Nat) (x : brindlewoodref3_RangeOk.M0.den) :
    evalRound Go.Sh.tt (brindlewoodref3_RangeOk.tab k) Go.Proofs.Try.f9.ntmps (finOf Go.Sh.tt brindlewoodref3_RangeOk.B Go.Proofs.Try.f9.results.toList) (cAt [1, 1, 0, 1, 0, 0] (bodyOf Go.Proofs.Try.f9)) .nil brindlewoodref3_RangeOk.M0 brindlewoodref3_RangeOk.O0 0 (fun x => brindlewoodref3_RangeOk.l0 k n x.1 x.2.1 x.2.2) x = brindlewoodref3_RangeOk.l0 k (n + 1) x.1 x.2.1 x.2.2 := by kernel_rfl
theorem brindlewoodref3_RangeOk.ev (k : Nat) (x : denA brindlewoodref3_RangeOk.A) :
    evalF Go.Sh.tt (brindlewoodref3_RangeOk.tab k) Go.Proofs.Try.f9.ntmps (bodyOf Go.Proofs.Try.f9) Go.Proofs.Try.f9.results.toList brindlewoodref3_RangeOk.A brindlewoodref3_RangeOk.B (.seq .nil (.seq .nil (.seq (.seq .nil (.block (brindlewoodref3_RangeOk.an0 k))) .nil))) x = brindlewoodref3_RangeOk k x := by kernel_rfl

theorem brindlewoodref3_At.ev  (x : denA brindlewoodref3_At.A) :
    evalF Go.Sh.tt (brindlewoodref3_At.tab) Go.Proofs.Try.f10.ntmps (bodyOf Go.Proofs.Try.f10) Go.Proofs.Try.f10.results.toList brindlewoodref3_At.A brindlewoodref3_At.B .nil x = brindlewoodref3_At x.1 x.2 := by kernel_rfl

theorem ranges_Length.ev (k : Nat) (x : denA ranges_Length.A) :
    evalF Go.Sh.tt (ranges_Length.tab k) Go.Proofs.Try.f28.ntmps (bodyOf Go.Proofs.Try.f28) Go.Proofs.Try.f28.results.toList ranges_Length.A ranges_Length.B .nil x = ranges_Length k x := by kernel_rfl

theorem brindlewoodref3_trim_v.l0_ev (k n : Nat) (x : brindlewoodref3_trim_v.M0.den) :
    evalRound Go.Sh.tt (brindlewoodref3_trim_v.tab k) Go.Proofs.Try.f79.ntmps (finOf Go.Sh.tt brindlewoodref3_trim_v.B Go.Proofs.Try.f79.results.toList) (cAt [1, 0, 0, 0] (bodyOf Go.Proofs.Try.f79)) .nil brindlewoodref3_trim_v.M0 brindlewoodref3_trim_v.O0 0 (fun x => brindlewoodref3_trim_v.l0 k n x.1 x.2) x = brindlewoodref3_trim_v.l0 k (n + 1) x.1 x.2 := by kernel_rfl
theorem brindlewoodref3_trim_v.ev (k : Nat) (x : denA brindlewoodref3_trim_v.A) :
    evalF Go.Sh.tt (brindlewoodref3_trim_v.tab k) Go.Proofs.Try.f79.ntmps (bodyOf Go.Proofs.Try.f79) Go.Proofs.Try.f79.results.toList brindlewoodref3_trim_v.A brindlewoodref3_trim_v.B (.seq .nil (.seq (.block (brindlewoodref3_trim_v.an0 k)) .nil)) x = brindlewoodref3_trim_v k x := by kernel_rfl

theorem brindlewoodref3_Binary.l1_ev (k n : Nat) (x : brindlewoodref3_Binary.M1.den) :
    evalRound Go.Sh.tt (brindlewoodref3_Binary.tab k) Go.Proofs.Try.f59.ntmps (finOf Go.Sh.tt brindlewoodref3_Binary.B Go.Proofs.Try.f59.results.toList) (cAt [1, 1, 0, 1, 0, 0, 1, 0, 0, 1, 0, 1, 0, 0] (bodyOf Go.Proofs.Try.f59)) .nil brindlewoodref3_Binary.M1 brindlewoodref3_Binary.O1 2 (fun x => brindlewoodref3_Binary.l1 k n x.1 x.2.1 x.2.2.1 x.2.2.2.1 x.2.2.2.2) x = brindlewoodref3_Binary.l1 k (n + 1) x.1 x.2.1 x.2.2.1 x.2.2.2.1 x.2.2.2.2 := by kernel_rfl
theorem brindlewoodref3_Binary.l0_ev (k n : Nat) (x : brindlewoodref3_Binary.M0.den) :
    evalRound Go.Sh.tt (brindlewoodref3_Binary.tab k) Go.Proofs.Try.f59.ntmps (finOf Go.Sh.tt brindlewoodref3_Binary.B Go.Proofs.Try.f59.results.toList) (cAt [1, 1, 0, 1, 0, 0] (bodyOf Go.Proofs.Try.f59)) (.seq .nil (.seq (.block (.seq .nil (.seq (.seq .nil (.block (brindlewoodref3_Binary.an1 k))) .nil))) .nil)) brindlewoodref3_Binary.M0 brindlewoodref3_Binary.O0 0 (fun x => brindlewoodref3_Binary.l0 k n x.1 x.2.1 x.2.2) x = brindlewoodref3_Binary.l0 k (n + 1) x.1 x.2.1 x.2.2 := by kernel_rfl
theorem brindlewoodref3_Binary.ev (k : Nat) (x : denA brindlewoodref3_Binary.A) :
    evalF Go.Sh.tt (brindlewoodref3_Binary.tab k) Go.Proofs.Try.f59.ntmps (bodyOf Go.Proofs.Try.f59) Go.Proofs.Try.f59.results.toList brindlewoodref3_Binary.A brindlewoodref3_Binary.B (.seq .nil (.seq .nil (.seq (.seq .nil (.block (brindlewoodref3_Binary.an0 k))) .nil))) x = brindlewoodref3_Binary k x := by kernel_rfl

theorem brindlewoodref3_Number.l0_ev (k n : Nat) (x : brindlewoodref3_Number.M0.den) :
    evalRound Go.Sh.tt (brindlewoodref3_Number.tab k) Go.Proofs.Try.f17.ntmps (finOf Go.Sh.tt brindlewoodref3_Number.B Go.Proofs.Try.f17.results.toList) (cAt [1, 1, 1, 0, 0, 0] (bodyOf Go.Proofs.Try.f17)) .nil brindlewoodref3_Number.M0 brindlewoodref3_Number.O0 0 (fun x => brindlewoodref3_Number.l0 k n x.1 x.2.1 x.2.2.1 x.2.2.2) x = brindlewoodref3_Number.l0 k (n + 1) x.1 x.2.1 x.2.2.1 x.2.2.2 := by kernel_rfl
theorem brindlewoodref3_Number.ev (k : Nat) (x : denA brindlewoodref3_Number.A) :
    evalF Go.Sh.tt (brindlewoodref3_Number.tab k) Go.Proofs.Try.f17.ntmps (bodyOf Go.Proofs.Try.f17) Go.Proofs.Try.f17.results.toList brindlewoodref3_Number.A brindlewoodref3_Number.B (.seq .nil (.seq .nil (.seq .nil (.seq (.block (brindlewoodref3_Number.an0 k)) .nil)))) x = brindlewoodref3_Number k x := by kernel_rfl

theorem brindlewoodref3_Limbs.l0_ev (k n : Nat) (x : brindlewoodref3_Limbs.M0.den) :
    evalRound Go.Sh.tt (brindlewoodref3_Limbs.tab k) Go.Proofs.Try.f33.ntmps (finOf Go.Sh.tt brindlewoodref3_Limbs.B Go.Proofs.Try.f33.results.toList) (cAt [1, 1, 0, 1, 0, 0] (bodyOf Go.Proofs.Try.f33)) .nil brindlewoodref3_Limbs.M0 brindlewoodref3_Limbs.O0 0 (fun x => brindlewoodref3_Limbs.l0 k n x.1 x.2.1 x.2.2) x = brindlewoodref3_Limbs.l0 k (n + 1) x.1 x.2.1 x.2.2 := by kernel_rfl
theorem brindlewoodref3_Limbs.ev (k : Nat) (x : denA brindlewoodref3_Limbs.A) :
    evalF Go.Sh.tt (brindlewoodref3_Limbs.tab k) Go.Proofs.Try.f33.ntmps (bodyOf Go.Proofs.Try.f33) Go.Proofs.Try.f33.results.toList brindlewoodref3_Limbs.A brindlewoodref3_Limbs.B (.seq .nil (.seq .nil (.seq (.seq .nil (.block (brindlewoodref3_Limbs.an0 k))) .nil))) x = brindlewoodref3_Limbs k x := by kernel_rfl

theorem brindlewoodref3_SameLimbs.l0_ev (k n : Nat) (x : brindlewoodref3_SameLimbs.M0.den) :
    evalRound Go.Sh.tt (brindlewoodref3_SameLimbs.tab k) Go.Proofs.Try.f63.ntmps (finOf Go.Sh.tt brindlewoodref3_SameLimbs.B Go.Proofs.Try.f63.results.toList) (cAt [1, 1, 0, 1, 0, 0] (bodyOf Go.Proofs.Try.f63)) .nil brindlewoodref3_SameLimbs.M0 brindlewoodref3_SameLimbs.O0 0 (fun x => brindlewoodref3_SameLimbs.l0 k n x.1 x.2.1 x.2.2) x = brindlewoodref3_SameLimbs.l0 k (n + 1) x.1 x.2.1 x.2.2 := by kernel_rfl
theorem brindlewoodref3_SameLimbs.ev (k : Nat) (x : denA brindlewoodref3_SameLimbs.A) :
    evalF Go.Sh.tt (brindlewoodref3_SameLimbs.tab k) Go.Proofs.Try.f63.ntmps (bodyOf Go.Proofs.Try.f63) Go.Proofs.Try.f63.results.toList brindlewoodref3_SameLimbs.A brindlewoodref3_SameLimbs.B (.seq .nil (.seq .nil (.seq (.seq .nil (.block (brindlewoodref3_SameLimbs.an0 k))) .nil))) x = brindlewoodref3_SameLimbs k x.1 x.2 := by kernel_rfl

theorem brindlewoodref3_SameInt.ev (k : Nat) (x : denA brindlewoodref3_SameInt.A) :
    evalF Go.Sh.tt (brindlewoodref3_SameInt.tab k) Go.Proofs.Try.f32.ntmps (bodyOf Go.Proofs.Try.f32) Go.Proofs.Try.f32.results.toList brindlewoodref3_SameInt.A brindlewoodref3_SameInt.B .nil x = brindlewoodref3_SameInt k x.1 x.2 := by kernel_rfl

theorem brindlewoodlaw3_spans.ev (k : Nat) (x : denA brindlewoodlaw3_spans.A) :
    evalF Go.Sh.tt (brindlewoodlaw3_spans.tab k) Go.Proofs.Try.f11.ntmps (bodyOf Go.Proofs.Try.f11) Go.Proofs.Try.f11.results.toList brindlewoodlaw3_spans.A brindlewoodlaw3_spans.B .nil x = brindlewoodlaw3_spans k  := by kernel_rfl

theorem brindlewoodref3_NoRange.ev  (x : denA brindlewoodref3_NoRange.A) :
    evalF Go.Sh.tt (brindlewoodref3_NoRange.tab) Go.Proofs.Try.f12.ntmps (bodyOf Go.Proofs.Try.f12) Go.Proofs.Try.f12.results.toList brindlewoodref3_NoRange.A brindlewoodref3_NoRange.B .nil x = brindlewoodref3_NoRange x := by kernel_rfl

theorem brindlewoodref3_Of.l0_ev (k n : Nat) (x : brindlewoodref3_Of.M0.den) :
    evalRound Go.Sh.tt (brindlewoodref3_Of.tab k) Go.Proofs.Try.f66.ntmps (finOf Go.Sh.tt brindlewoodref3_Of.B Go.Proofs.Try.f66.results.toList) (cAt [1, 1, 0, 1, 0, 0] (bodyOf Go.Proofs.Try.f66)) .nil brindlewoodref3_Of.M0 brindlewoodref3_Of.O0 0 (fun x => brindlewoodref3_Of.l0 k n x.1 x.2.1 x.2.2) x = brindlewoodref3_Of.l0 k (n + 1) x.1 x.2.1 x.2.2 := by kernel_rfl
theorem brindlewoodref3_Of.ev (k : Nat) (x : denA brindlewoodref3_Of.A) :
    evalF Go.Sh.tt (brindlewoodref3_Of.tab k) Go.Proofs.Try.f66.ntmps (bodyOf Go.Proofs.Try.f66) Go.Proofs.Try.f66.results.toList brindlewoodref3_Of.A brindlewoodref3_Of.B (.seq .nil (.seq .nil (.seq (.seq .nil (.block (brindlewoodref3_Of.an0 k))) .nil))) x = brindlewoodref3_Of k x := by kernel_rfl

theorem brindlewoodref3_IntOf.ev (k : Nat) (x : denA brindlewoodref3_IntOf.A) :
    evalF Go.Sh.tt (brindlewoodref3_IntOf.tab k) Go.Proofs.Try.f31.ntmps (bodyOf Go.Proofs.Try.f31) Go.Proofs.Try.f31.results.toList brindlewoodref3_IntOf.A brindlewoodref3_IntOf.B .nil x = brindlewoodref3_IntOf k x := by kernel_rfl

theorem brindlewoodref3_Int_Minus.ev  (x : denA brindlewoodref3_Int_Minus.A) :
    evalF Go.Sh.tt (brindlewoodref3_Int_Minus.tab) Go.Proofs.Try.f27.ntmps (bodyOf Go.Proofs.Try.f27) Go.Proofs.Try.f27.results.toList brindlewoodref3_Int_Minus.A brindlewoodref3_Int_Minus.B .nil x = brindlewoodref3_Int_Minus x := by kernel_rfl

theorem brindlewoodref3_Plus.l0_ev (k n : Nat) (x : brindlewoodref3_Plus.M0.den) :
    evalRound Go.Sh.tt (brindlewoodref3_Plus.tab k) Go.Proofs.Try.f55.ntmps (finOf Go.Sh.tt brindlewoodref3_Plus.B Go.Proofs.Try.f55.results.toList) (cAt [1, 1, 1, 0, 1, 0, 0] (bodyOf Go.Proofs.Try.f55)) (.seq .nil (.seq (.block (.jseq ⟨[.dat 0 (.list (.int .i64)), .dat 1 (.list (.int .i64)), .own 5 (.int .i64), .dat 6 (.int .i64), .dat 7 (.int .i64)], []⟩ .nil .nil)) .nil)) brindlewoodref3_Plus.M0 brindlewoodref3_Plus.O0 0 (fun x => brindlewoodref3_Plus.l0 k n x.1 x.2.1 x.2.2.1 x.2.2.2.1 x.2.2.2.2) x = brindlewoodref3_Plus.l0 k (n + 1) x.1 x.2.1 x.2.2.1 x.2.2.2.1 x.2.2.2.2 := by kernel_rfl
theorem brindlewoodref3_Plus.ev (k : Nat) (x : denA brindlewoodref3_Plus.A) :
    evalF Go.Sh.tt (brindlewoodref3_Plus.tab k) Go.Proofs.Try.f55.ntmps (bodyOf Go.Proofs.Try.f55) Go.Proofs.Try.f55.results.toList brindlewoodref3_Plus.A brindlewoodref3_Plus.B (.seq .nil (.seq .nil (.seq .nil (.seq (.seq .nil (.block (brindlewoodref3_Plus.an0 k))) .nil)))) x = brindlewoodref3_Plus k x.1 x.2 := by kernel_rfl

theorem brindlewoodref3_Compare.l0_ev (k n : Nat) (x : brindlewoodref3_Compare.M0.den) :
    evalRound Go.Sh.tt (brindlewoodref3_Compare.tab k) Go.Proofs.Try.f56.ntmps (finOf Go.Sh.tt brindlewoodref3_Compare.B Go.Proofs.Try.f56.results.toList) (cAt [1, 1, 0, 1, 0, 0] (bodyOf Go.Proofs.Try.f56)) .nil brindlewoodref3_Compare.M0 brindlewoodref3_Compare.O0 0 (fun x => brindlewoodref3_Compare.l0 k n x.1 x.2.1 x.2.2) x = brindlewoodref3_Compare.l0 k (n + 1) x.1 x.2.1 x.2.2 := by kernel_rfl
theorem brindlewoodref3_Compare.ev (k : Nat) (x : denA brindlewoodref3_Compare.A) :
    evalF Go.Sh.tt (brindlewoodref3_Compare.tab k) Go.Proofs.Try.f56.ntmps (bodyOf Go.Proofs.Try.f56) Go.Proofs.Try.f56.results.toList brindlewoodref3_Compare.A brindlewoodref3_Compare.B (.seq .nil (.seq .nil (.seq (.seq .nil (.block (brindlewoodref3_Compare.an0 k))) .nil))) x = brindlewoodref3_Compare k x.1 x.2 := by kernel_rfl

theorem brindlewoodref3_Minus.l0_ev (k n : Nat) (x : brindlewoodref3_Minus.M0.den) :
    evalRound Go.Sh.tt (brindlewoodref3_Minus.tab k) Go.Proofs.Try.f57.ntmps (finOf Go.Sh.tt brindlewoodref3_Minus.B Go.Proofs.Try.f57.results.toList) (cAt [1, 1, 1, 0, 1, 0, 0] (bodyOf Go.Proofs.Try.f57)) (.seq .nil (.seq (.block (.seq .nil (.jseq ⟨[.dat 0 (.list (.int .i64)), .dat 1 (.list (.int .i64)), .own 5 (.int .i64), .dat 7 (.int .i64), .dat 8 (.int .i64)], []⟩ .nil .nil))) .nil)) brindlewoodref3_Minus.M0 brindlewoodref3_Minus.O0 0 (fun x => brindlewoodref3_Minus.l0 k n x.1 x.2.1 x.2.2.1 x.2.2.2.1 x.2.2.2.2) x = brindlewoodref3_Minus.l0 k (n + 1) x.1 x.2.1 x.2.2.1 x.2.2.2.1 x.2.2.2.2 := by kernel_rfl
theorem brindlewoodref3_Minus.ev (k : Nat) (x : denA brindlewoodref3_Minus.A) :
    evalF Go.Sh.tt (brindlewoodref3_Minus.tab k) Go.Proofs.Try.f57.ntmps (bodyOf Go.Proofs.Try.f57) Go.Proofs.Try.f57.results.toList brindlewoodref3_Minus.A brindlewoodref3_Minus.B (.seq .nil (.seq .nil (.seq .nil (.seq (.seq .nil (.block (brindlewoodref3_Minus.an0 k))) .nil)))) x = brindlewoodref3_Minus k x.1 x.2 := by kernel_rfl

theorem brindlewoodref3_Int_Plus.ev (k : Nat) (x : denA brindlewoodref3_Int_Plus.A) :
    evalF Go.Sh.tt (brindlewoodref3_Int_Plus.tab k) Go.Proofs.Try.f15.ntmps (bodyOf Go.Proofs.Try.f15) Go.Proofs.Try.f15.results.toList brindlewoodref3_Int_Plus.A brindlewoodref3_Int_Plus.B .nil x = brindlewoodref3_Int_Plus k x.1 x.2 := by kernel_rfl

theorem brindlewoodref3_Ones.l2_ev (k n : Nat) (x : brindlewoodref3_Ones.M2.den) :
    evalRound Go.Sh.tt (brindlewoodref3_Ones.tab k) Go.Proofs.Try.f90.ntmps (finOf Go.Sh.tt brindlewoodref3_Ones.B Go.Proofs.Try.f90.results.toList) (cAt [1, 1, 1, 0, 0, 0] (bodyOf Go.Proofs.Try.f90)) .nil brindlewoodref3_Ones.M2 brindlewoodref3_Ones.O2 4 (fun x => brindlewoodref3_Ones.l2 k n x) x = brindlewoodref3_Ones.l2 k (n + 1) x := by kernel_rfl
theorem brindlewoodref3_Ones.l1_ev (k n : Nat) (x : brindlewoodref3_Ones.M1.den) :
    evalRound Go.Sh.tt (brindlewoodref3_Ones.tab k) Go.Proofs.Try.f90.ntmps (finOf Go.Sh.tt brindlewoodref3_Ones.B Go.Proofs.Try.f90.results.toList) (cAt [1, 1, 0, 1, 0, 0, 1, 0, 0, 1, 1, 0, 0] (bodyOf Go.Proofs.Try.f90)) .nil brindlewoodref3_Ones.M1 brindlewoodref3_Ones.O1 2 (fun x => brindlewoodref3_Ones.l1 k n x.1 x.2.1 x.2.2.1 x.2.2.2.1 x.2.2.2.2) x = brindlewoodref3_Ones.l1 k (n + 1) x.1 x.2.1 x.2.2.1 x.2.2.2.1 x.2.2.2.2 := by kernel_rfl
theorem brindlewoodref3_Ones.l0_ev (k n : Nat) (x : brindlewoodref3_Ones.M0.den) :
    evalRound Go.Sh.tt (brindlewoodref3_Ones.tab k) Go.Proofs.Try.f90.ntmps (finOf Go.Sh.tt brindlewoodref3_Ones.B Go.Proofs.Try.f90.results.toList) (cAt [1, 1, 0, 1, 0, 0] (bodyOf Go.Proofs.Try.f90)) (.seq .nil (.seq (.block (.seq .nil (.seq .nil (.block (brindlewoodref3_Ones.an1 k))))) .nil)) brindlewoodref3_Ones.M0 brindlewoodref3_Ones.O0 0 (fun x => brindlewoodref3_Ones.l0 k n x.1 x.2.1 x.2.2) x = brindlewoodref3_Ones.l0 k (n + 1) x.1 x.2.1 x.2.2 := by kernel_rfl
theorem brindlewoodref3_Ones.ev (k : Nat) (x : denA brindlewoodref3_Ones.A) :
    evalF Go.Sh.tt (brindlewoodref3_Ones.tab k) Go.Proofs.Try.f90.ntmps (bodyOf Go.Proofs.Try.f90) Go.Proofs.Try.f90.results.toList brindlewoodref3_Ones.A brindlewoodref3_Ones.B (.seq .nil (.seq .nil (.seq (.seq .nil (.block (brindlewoodref3_Ones.an0 k))) (.seq (.block (brindlewoodref3_Ones.an2 k)) .nil)))) x = brindlewoodref3_Ones k x := by kernel_rfl

theorem brindlewoodref3_Double.l0_ev (k n : Nat) (x : brindlewoodref3_Double.M0.den) :
    evalRound Go.Sh.tt (brindlewoodref3_Double.tab k) Go.Proofs.Try.f76.ntmps (finOf Go.Sh.tt brindlewoodref3_Double.B Go.Proofs.Try.f76.results.toList) (cAt [1, 1, 1, 1, 0, 1, 0, 0] (bodyOf Go.Proofs.Try.f76)) .nil brindlewoodref3_Double.M0 brindlewoodref3_Double.O0 0 (fun x => brindlewoodref3_Double.l0 k n x.1 x.2.1 x.2.2.1 x.2.2.2) x = brindlewoodref3_Double.l0 k (n + 1) x.1 x.2.1 x.2.2.1 x.2.2.2 := by kernel_rfl
theorem brindlewoodref3_Double.ev (k : Nat) (x : denA brindlewoodref3_Double.A) :
    evalF Go.Sh.tt (brindlewoodref3_Double.tab k) Go.Proofs.Try.f76.ntmps (bodyOf Go.Proofs.Try.f76) Go.Proofs.Try.f76.results.toList brindlewoodref3_Double.A brindlewoodref3_Double.B (.seq .nil (.seq .nil (.jseq ⟨[.dat 0 (.list (.int .i64)), .dat 5 (.int .i64)], []⟩ .nil (.seq .nil (.seq (.seq .nil (.block (brindlewoodref3_Double.an0 k))) .nil))))) x = brindlewoodref3_Double k x.1 x.2 := by kernel_rfl

theorem brindlewoodref3_Divide.l0_ev (k n : Nat) (x : brindlewoodref3_Divide.M0.den) :
    evalRound Go.Sh.tt (brindlewoodref3_Divide.tab k) Go.Proofs.Try.f77.ntmps (finOf Go.Sh.tt brindlewoodref3_Divide.B Go.Proofs.Try.f77.results.toList) (cAt [1, 1, 1, 1, 0, 1, 0, 0] (bodyOf Go.Proofs.Try.f77)) .nil brindlewoodref3_Divide.M0 brindlewoodref3_Divide.O0 0 (fun x => brindlewoodref3_Divide.l0 k n x.1 x.2.1 x.2.2.1 x.2.2.2.1 x.2.2.2.2) x = brindlewoodref3_Divide.l0 k (n + 1) x.1 x.2.1 x.2.2.1 x.2.2.2.1 x.2.2.2.2 := by kernel_rfl
theorem brindlewoodref3_Divide.ev (k : Nat) (x : denA brindlewoodref3_Divide.A) :
    evalF Go.Sh.tt (brindlewoodref3_Divide.tab k) Go.Proofs.Try.f77.ntmps (bodyOf Go.Proofs.Try.f77) Go.Proofs.Try.f77.results.toList brindlewoodref3_Divide.A brindlewoodref3_Divide.B (.seq .nil (.seq .nil (.seq .nil (.seq .nil (.seq (.seq .nil (.block (brindlewoodref3_Divide.an0 k))) .nil))))) x = brindlewoodref3_Divide k x.1 x.2 := by kernel_rfl

theorem brindlewoodref3_Small.l0_ev (k n : Nat) (x : brindlewoodref3_Small.M0.den) :
    evalRound Go.Sh.tt (brindlewoodref3_Small.tab k) Go.Proofs.Try.f78.ntmps (finOf Go.Sh.tt brindlewoodref3_Small.B Go.Proofs.Try.f78.results.toList) (cAt [1, 1, 0, 0, 0] (bodyOf Go.Proofs.Try.f78)) .nil brindlewoodref3_Small.M0 brindlewoodref3_Small.O0 0 (fun x => brindlewoodref3_Small.l0 k n x.1 x.2) x = brindlewoodref3_Small.l0 k (n + 1) x.1 x.2 := by kernel_rfl
theorem brindlewoodref3_Small.ev (k : Nat) (x : denA brindlewoodref3_Small.A) :
    evalF Go.Sh.tt (brindlewoodref3_Small.tab k) Go.Proofs.Try.f78.ntmps (bodyOf Go.Proofs.Try.f78) Go.Proofs.Try.f78.results.toList brindlewoodref3_Small.A brindlewoodref3_Small.B (.seq .nil (.seq .nil (.seq (.block (brindlewoodref3_Small.an0 k)) .nil))) x = brindlewoodref3_Small k x := by kernel_rfl

theorem brindlewoodref3_Int_Floor.ev (k : Nat) (x : denA brindlewoodref3_Int_Floor.A) :
    evalF Go.Sh.tt (brindlewoodref3_Int_Floor.tab k) Go.Proofs.Try.f53.ntmps (bodyOf Go.Proofs.Try.f53) Go.Proofs.Try.f53.results.toList brindlewoodref3_Int_Floor.A brindlewoodref3_Int_Floor.B (.seq .nil (.seq .nil (.jseq ⟨[.box 46 [.st (.pair (.bool) (.list (.int .i64)))], .box 47 [.st (.pair (.bool) (.list (.int .i64)))], .box 48 [.st (.pair (.bool) (.list (.int .i64)))], .box 49 [.st (.pair (.bool) (.list (.int .i64)))], .dat 6 (.list (.int .i64)), .dat 7 (.list (.int .i64))], [.ptr 2 46 0, .ptr 3 47 0, .ptr 4 48 0, .ptr 5 49 0]⟩ .nil .nil))) x = brindlewoodref3_Int_Floor k x.1 x.2 := by kernel_rfl

theorem brindlewoodref3_Times.l1_ev (k n : Nat) (x : brindlewoodref3_Times.M1.den) :
    evalRound Go.Sh.tt (brindlewoodref3_Times.tab k) Go.Proofs.Try.f58.ntmps (finOf Go.Sh.tt brindlewoodref3_Times.B Go.Proofs.Try.f58.results.toList) (cAt [1, 1, 0, 1, 0, 0, 1, 0, 0, 1, 1, 0, 0] (bodyOf Go.Proofs.Try.f58)) .nil brindlewoodref3_Times.M1 brindlewoodref3_Times.O1 2 (fun x => brindlewoodref3_Times.l1 k n x.1 x.2.1 x.2.2.1 x.2.2.2.1 x.2.2.2.2.1 x.2.2.2.2.2) x = brindlewoodref3_Times.l1 k (n + 1) x.1 x.2.1 x.2.2.1 x.2.2.2.1 x.2.2.2.2.1 x.2.2.2.2.2 := by kernel_rfl
theorem brindlewoodref3_Times.l0_ev (k n : Nat) (x : brindlewoodref3_Times.M0.den) :
    evalRound Go.Sh.tt (brindlewoodref3_Times.tab k) Go.Proofs.Try.f58.ntmps (finOf Go.Sh.tt brindlewoodref3_Times.B Go.Proofs.Try.f58.results.toList) (cAt [1, 1, 0, 1, 0, 0] (bodyOf Go.Proofs.Try.f58)) (.seq .nil (.seq (.block (.seq .nil (.seq .nil (.block (brindlewoodref3_Times.an1 k))))) .nil)) brindlewoodref3_Times.M0 brindlewoodref3_Times.O0 0 (fun x => brindlewoodref3_Times.l0 k n x.1 x.2.1 x.2.2.1 x.2.2.2) x = brindlewoodref3_Times.l0 k (n + 1) x.1 x.2.1 x.2.2.1 x.2.2.2 := by kernel_rfl
theorem brindlewoodref3_Times.ev (k : Nat) (x : denA brindlewoodref3_Times.A) :
    evalF Go.Sh.tt (brindlewoodref3_Times.tab k) Go.Proofs.Try.f58.ntmps (bodyOf Go.Proofs.Try.f58) Go.Proofs.Try.f58.results.toList brindlewoodref3_Times.A brindlewoodref3_Times.B (.seq .nil (.seq .nil (.seq (.seq .nil (.block (brindlewoodref3_Times.an0 k))) .nil))) x = brindlewoodref3_Times k x.1 x.2 := by kernel_rfl

theorem brindlewoodref3_Int_Times.ev (k : Nat) (x : denA brindlewoodref3_Int_Times.A) :
    evalF Go.Sh.tt (brindlewoodref3_Int_Times.tab k) Go.Proofs.Try.f16.ntmps (bodyOf Go.Proofs.Try.f16) Go.Proofs.Try.f16.results.toList brindlewoodref3_Int_Times.A brindlewoodref3_Int_Times.B .nil x = brindlewoodref3_Int_Times k x.1 x.2 := by kernel_rfl

theorem brindlewoodref3_RangeOf.ev (k : Nat) (x : denA brindlewoodref3_RangeOf.A) :
    evalF Go.Sh.tt (brindlewoodref3_RangeOf.tab k) Go.Proofs.Try.f14.ntmps (bodyOf Go.Proofs.Try.f14) Go.Proofs.Try.f14.results.toList brindlewoodref3_RangeOf.A brindlewoodref3_RangeOf.B (.seq .nil (.seq .nil (.seq .nil (.seq .nil (.jseq ⟨[.box 54 [.st (.pair (.st (.pair (.bool) (.list (.int .i64)))) (.pair (.st (.pair (.bool) (.list (.int .i64)))) (.pair (.st (.pair (.bool) (.list (.int .i64)))) (.st (.pair (.bool) (.list (.int .i64)))))))], .box 55 [.st (.pair (.st (.pair (.bool) (.list (.int .i64)))) (.pair (.st (.pair (.bool) (.list (.int .i64)))) (.pair (.st (.pair (.bool) (.list (.int .i64)))) (.st (.pair (.bool) (.list (.int .i64)))))))], .box 57 [.st (.pair (.bool) (.list (.int .i64)))]], [.ptr 2 54 0, .ptr 3 55 0, .ptr 5 57 0]⟩ .nil (.jseq ⟨[.box 54 [.st (.pair (.st (.pair (.bool) (.list (.int .i64)))) (.pair (.st (.pair (.bool) (.list (.int .i64)))) (.pair (.st (.pair (.bool) (.list (.int .i64)))) (.st (.pair (.bool) (.list (.int .i64)))))))], .box 55 [.st (.pair (.st (.pair (.bool) (.list (.int .i64)))) (.pair (.st (.pair (.bool) (.list (.int .i64)))) (.pair (.st (.pair (.bool) (.list (.int .i64)))) (.st (.pair (.bool) (.list (.int .i64)))))))]], [.ptr 2 54 0, .ptr 3 55 0]⟩ .nil .nil)))))) x = brindlewoodref3_RangeOf k x := by kernel_rfl

theorem brindlewoodref3_Range_rising.ev  (x : denA brindlewoodref3_Range_rising.A) :
    evalF Go.Sh.tt (brindlewoodref3_Range_rising.tab) Go.Proofs.Try.f51.ntmps (bodyOf Go.Proofs.Try.f51) Go.Proofs.Try.f51.results.toList brindlewoodref3_Range_rising.A brindlewoodref3_Range_rising.B .nil x = brindlewoodref3_Range_rising x := by kernel_rfl

theorem brindlewoodref3_Halve.l0_ev (k n : Nat) (x : brindlewoodref3_Halve.M0.den) :
    evalRound Go.Sh.tt (brindlewoodref3_Halve.tab k) Go.Proofs.Try.f75.ntmps (finOf Go.Sh.tt brindlewoodref3_Halve.B Go.Proofs.Try.f75.results.toList) (cAt [1, 1, 1, 0, 1, 0, 0] (bodyOf Go.Proofs.Try.f75)) .nil brindlewoodref3_Halve.M0 brindlewoodref3_Halve.O0 0 (fun x => brindlewoodref3_Halve.l0 k n x.1 x.2.1 x.2.2.1 x.2.2.2.1 x.2.2.2.2) x = brindlewoodref3_Halve.l0 k (n + 1) x.1 x.2.1 x.2.2.1 x.2.2.2.1 x.2.2.2.2 := by kernel_rfl
theorem brindlewoodref3_Halve.ev (k : Nat) (x : denA brindlewoodref3_Halve.A) :
    evalF Go.Sh.tt (brindlewoodref3_Halve.tab k) Go.Proofs.Try.f75.ntmps (bodyOf Go.Proofs.Try.f75) Go.Proofs.Try.f75.results.toList brindlewoodref3_Halve.A brindlewoodref3_Halve.B (.seq .nil (.seq .nil (.seq .nil (.seq (.seq .nil (.block (brindlewoodref3_Halve.an0 k))) .nil)))) x = brindlewoodref3_Halve k x.1 x.2 := by kernel_rfl

theorem brindlewoodref3_Common.l1_ev (k n : Nat) (x : brindlewoodref3_Common.M1.den) :
    evalRound Go.Sh.tt (brindlewoodref3_Common.tab k) Go.Proofs.Try.f52.ntmps (finOf Go.Sh.tt brindlewoodref3_Common.B Go.Proofs.Try.f52.results.toList) (cAt [1, 1, 1, 1, 0, 0, 0] (bodyOf Go.Proofs.Try.f52)) .nil brindlewoodref3_Common.M1 brindlewoodref3_Common.O1 3 (fun x => brindlewoodref3_Common.l1 k n x.1 x.2) x = brindlewoodref3_Common.l1 k (n + 1) x.1 x.2 := by kernel_rfl
theorem brindlewoodref3_Common.l0_ev (k n : Nat) (x : brindlewoodref3_Common.M0.den) :
    evalRound Go.Sh.tt (brindlewoodref3_Common.tab k) Go.Proofs.Try.f52.ntmps (finOf Go.Sh.tt brindlewoodref3_Common.B Go.Proofs.Try.f52.results.toList) (cAt [1, 1, 0, 0, 0] (bodyOf Go.Proofs.Try.f52)) (.seq .nil (.block (.block (.jseq ⟨[.dat 0 (.list (.int .i64)), .dat 1 (.list (.int .i64)), .dat 5 (.int .i64), .dat 11 (.list (.int .i64)), .dat 12 (.int .i64), .dat 13 (.bool), .dat 18 (.bool)], []⟩ .nil .nil)))) brindlewoodref3_Common.M0 brindlewoodref3_Common.O0 0 (fun x => brindlewoodref3_Common.l0 k n x.1 x.2.1 x.2.2) x = brindlewoodref3_Common.l0 k (n + 1) x.1 x.2.1 x.2.2 := by kernel_rfl
theorem brindlewoodref3_Common.ev (k : Nat) (x : denA brindlewoodref3_Common.A) :
    evalF Go.Sh.tt (brindlewoodref3_Common.tab k) Go.Proofs.Try.f52.ntmps (bodyOf Go.Proofs.Try.f52) Go.Proofs.Try.f52.results.toList brindlewoodref3_Common.A brindlewoodref3_Common.B (.seq .nil (.seq .nil (.seq (.block (brindlewoodref3_Common.an0 k)) (.seq .nil (.seq (.block (brindlewoodref3_Common.an1 k)) .nil))))) x = brindlewoodref3_Common k x.1 x.2 := by kernel_rfl

theorem brindlewoodref3_Int_Order.ev (k : Nat) (x : denA brindlewoodref3_Int_Order.A) :
    evalF Go.Sh.tt (brindlewoodref3_Int_Order.tab k) Go.Proofs.Try.f19.ntmps (bodyOf Go.Proofs.Try.f19) Go.Proofs.Try.f19.results.toList brindlewoodref3_Int_Order.A brindlewoodref3_Int_Order.B (.seq .nil (.jseq ⟨[.box 44 [.st (.pair (.bool) (.list (.int .i64)))], .box 45 [.st (.pair (.bool) (.list (.int .i64)))], .dat 5 (.bool), .dat 6 (.bool)], [.ptr 2 44 0, .ptr 3 45 0]⟩ .nil (.seq (.block (.jseq ⟨[.box 44 [.st (.pair (.bool) (.list (.int .i64)))], .box 45 [.st (.pair (.bool) (.list (.int .i64)))], .dat 5 (.bool), .dat 6 (.bool), .dat 23 (.bool)], [.ptr 2 44 0, .ptr 3 45 0]⟩ .nil .nil)) .nil))) x = brindlewoodref3_Int_Order k x.1 x.2 := by kernel_rfl

theorem brindlewoodref3_inverse.ev (k m : Nat) (x : denA brindlewoodref3_inverse.A) :
    evalF Go.Sh.tt (brindlewoodref3_inverse.tab k m) Go.Proofs.Try.f54.ntmps (bodyOf Go.Proofs.Try.f54) Go.Proofs.Try.f54.results.toList brindlewoodref3_inverse.A brindlewoodref3_inverse.B .nil x = brindlewoodref3_inverse.r k (m + 1) x.1 x.2 := by kernel_rfl

theorem brindlewoodref3_Met.ev (k : Nat) (x : denA brindlewoodref3_Met.A) :
    evalF Go.Sh.tt (brindlewoodref3_Met.tab k) Go.Proofs.Try.f13.ntmps (bodyOf Go.Proofs.Try.f13) Go.Proofs.Try.f13.results.toList brindlewoodref3_Met.A brindlewoodref3_Met.B (.seq .nil (.jseq ⟨[.box 156 [.st (.pair (.st (.pair (.bool) (.list (.int .i64)))) (.pair (.st (.pair (.bool) (.list (.int .i64)))) (.pair (.st (.pair (.bool) (.list (.int .i64)))) (.st (.pair (.bool) (.list (.int .i64)))))))], .box 157 [.st (.pair (.st (.pair (.bool) (.list (.int .i64)))) (.pair (.st (.pair (.bool) (.list (.int .i64)))) (.pair (.st (.pair (.bool) (.list (.int .i64)))) (.st (.pair (.bool) (.list (.int .i64)))))))], .box 158 [.st (.pair (.bool) (.list (.int .i64)))], .box 159 [.st (.pair (.bool) (.list (.int .i64)))], .box 160 [.st (.pair (.bool) (.list (.int .i64)))]], [.ptr 2 156 0, .ptr 3 157 0, .ptr 4 158 0, .ptr 5 159 0, .ptr 6 160 0]⟩ .nil (.seq .nil (.seq .nil (.seq .nil (.seq .nil (.seq .nil (.seq .nil (.seq .nil (.seq .nil (.seq .nil (.seq .nil (.jseq ⟨[.box 158 [.st (.pair (.bool) (.list (.int .i64)))], .box 159 [.st (.pair (.bool) (.list (.int .i64)))], .box 160 [.st (.pair (.bool) (.list (.int .i64)))], .box 162 [.st (.pair (.bool) (.list (.int .i64)))], .box 165 [.st (.pair (.bool) (.list (.int .i64)))], .box 168 [.st (.pair (.bool) (.list (.int .i64)))]], [.ptr 4 158 0, .ptr 5 159 0, .ptr 6 160 0, .ptr 8 162 0, .ptr 11 165 0, .ptr 14 168 0]⟩ (.seq .nil (.jseq ⟨[.box 158 [.st (.pair (.bool) (.list (.int .i64)))], .box 159 [.st (.pair (.bool) (.list (.int .i64)))], .box 160 [.st (.pair (.bool) (.list (.int .i64)))], .box 162 [.st (.pair (.bool) (.list (.int .i64)))], .box 165 [.st (.pair (.bool) (.list (.int .i64)))], .box 168 [.st (.pair (.bool) (.list (.int .i64)))], .box 174 [.st (.pair (.bool) (.list (.int .i64)))], .dat 112 (.bool)], [.ptr 4 158 0, .ptr 5 159 0, .ptr 6 160 0, .ptr 8 162 0, .ptr 11 165 0, .ptr 14 168 0, .ptr 20 174 0]⟩ .nil .nil)) (.jseq ⟨[.box 158 [.st (.pair (.bool) (.list (.int .i64)))], .box 159 [.st (.pair (.bool) (.list (.int .i64)))], .box 160 [.st (.pair (.bool) (.list (.int .i64)))], .box 162 [.st (.pair (.bool) (.list (.int .i64)))], .box 168 [.st (.pair (.bool) (.list (.int .i64)))]], [.ptr 4 158 0, .ptr 5 159 0, .ptr 6 160 0, .ptr 8 162 0, .ptr 14 168 0]⟩ .nil .nil)))))))))))))) x = brindlewoodref3_Met k x.1 x.2 := by kernel_rfl

theorem brindlewoodref3_Int_Fits.ev  (x : denA brindlewoodref3_Int_Fits.A) :
    evalF Go.Sh.tt (brindlewoodref3_Int_Fits.tab) Go.Proofs.Try.f18.ntmps (bodyOf Go.Proofs.Try.f18) Go.Proofs.Try.f18.results.toList brindlewoodref3_Int_Fits.A brindlewoodref3_Int_Fits.B .nil x = brindlewoodref3_Int_Fits x.1 x.2 := by kernel_rfl

theorem brindlewoodref3_IsPlain.ev (k : Nat) (x : denA brindlewoodref3_IsPlain.A) :
    evalF Go.Sh.tt (brindlewoodref3_IsPlain.tab k) Go.Proofs.Try.f20.ntmps (bodyOf Go.Proofs.Try.f20) Go.Proofs.Try.f20.results.toList brindlewoodref3_IsPlain.A brindlewoodref3_IsPlain.B (.seq .nil (.seq .nil (.jseq ⟨[.box 71 [.st (.pair (.st (.pair (.bool) (.list (.int .u32)))) (.pair (.st (.pair (.bool) (.list (.int .u32)))) (.st (.pair (.bool) (.list (.int .u32))))))], .box 72 [.st (.pair (.bool) (.list (.int .i64)))], .box 73 [.st (.pair (.bool) (.list (.int .i64)))], .box 74 [.st (.pair (.bool) (.list (.int .i64)))]], [.ptr 5 71 0, .ptr 6 72 0, .ptr 7 73 0, .ptr 8 74 0]⟩ .nil (.seq .nil (.jseq ⟨[.box 71 [.st (.pair (.st (.pair (.bool) (.list (.int .u32)))) (.pair (.st (.pair (.bool) (.list (.int .u32)))) (.st (.pair (.bool) (.list (.int .u32))))))], .box 72 [.st (.pair (.bool) (.list (.int .i64)))], .box 73 [.st (.pair (.bool) (.list (.int .i64)))], .box 74 [.st (.pair (.bool) (.list (.int .i64)))], .box 77 [.st (.pair (.bool) (.list (.int .i64)))]], [.ptr 5 71 0, .ptr 6 72 0, .ptr 7 73 0, .ptr 8 74 0, .ptr 11 77 0]⟩ .nil .nil))))) x = brindlewoodref3_IsPlain k x.1 x.2.1 x.2.2.1 x.2.2.2.1 x.2.2.2.2 := by kernel_rfl

theorem brindlewoodlaw3_RangesMeet.ev (k : Nat) (x : denA brindlewoodlaw3_RangesMeet.A) :
    evalF Go.Sh.tt (brindlewoodlaw3_RangesMeet.tab k) Go.Proofs.Try.f3.ntmps (bodyOf Go.Proofs.Try.f3) Go.Proofs.Try.f3.results.toList brindlewoodlaw3_RangesMeet.A brindlewoodlaw3_RangesMeet.B (.seq .nil (.seq .nil (.seq .nil (.jseq ⟨[.box 96 [.st (.pair (.st (.pair (.bool) (.list (.int .u32)))) (.pair (.st (.pair (.bool) (.list (.int .u32)))) (.st (.pair (.bool) (.list (.int .u32))))))], .box 97 [.st (.pair (.st (.pair (.bool) (.list (.int .u32)))) (.pair (.st (.pair (.bool) (.list (.int .u32)))) (.st (.pair (.bool) (.list (.int .u32))))))], .box 99 [.st (.pair (.st (.pair (.bool) (.list (.int .u32)))) (.pair (.st (.pair (.bool) (.list (.int .u32)))) (.st (.pair (.bool) (.list (.int .u32))))))], .box 100 [.st (.pair (.int .i64) (.int .i64))], .box 101 [.st (.pair (.int .i64) (.int .i64))]], [.ptr 2 96 0, .ptr 3 97 0, .ptr 5 99 0, .ptr 6 100 0, .ptr 7 101 0]⟩ .nil .nil)))) x = brindlewoodlaw3_RangesMeet k x.1 x.2 := by kernel_rfl
end Go.Sh
