/- IntegerDivisors: for every input the law returns true, and each argument reads afterwards as it read before.  Conditions: none. -/
import Derived.Test.YtpjcoihlcklncaaShP
import Derived.Test.YtpjcoihlcklncaaE4
import Derived.Test.YtpjcoihlcklncaaPiE
import Derived.Test.YtpjcoihlcklncaaRows
set_option maxRecDepth 100000
namespace Go.Proofs.Ytpjcoihlcklncaa
open Go Go.Ev Go.Sh

theorem integerDivisorsOwn : ownKnob Try.prog.godebug = none := by kernel_rfl
theorem integerDivisorsLaid : laidOutB Try.prog = true := by kernel_rfl

theorem integerDivisors_lifted (os : Os) (started : os.Started) (H : Type) (enc : TypeId × Value → H) :
    ReturnsInHanded {} Try.checked os 3 .any (Rows.integerDivisorsSpec.pre6 enc Try.prog Try.f3 Rows.integerDivisorsRow.domain false) (Rows.integerDivisorsSpec.post enc Try.prog Try.f3 false true false false) :=
  law_ok (C := Try.checked) (A := brindlewoodlaw3_IntegerDivisors.A) (tb := 4) integerDivisorsOwn started (by kernel_rfl) Try.func3
    (ChangeSpec.witness6 (enc := enc) (C := Try.checked) false ⟨#[], #[.agg #[.bool false, .slice none 0 0], .agg #[.bool false, .slice none 0 0]], []⟩ 12 (by kernel_rfl) (by kernel_rfl) (by kernel_rfl) (by kernel_rfl))
    integerDivisorsLaid (by kernel_rfl) (by kernel_rfl) rfl rfl (by kernel_rfl) (fun ds h => match ds, h with | [d1, d2], _ => rfl)
    (fun x hx => ⟨_, brindlewoodlaw3_IntegerDivisors.spec 1000000000000000000, Go.Pl.integerDivisors_plain hx.1 hx.2.1⟩)

theorem integerDivisors_holds : Rows.IntegerDivisorsSaid :=
  OpenClaim.holds_of_wide 3 Try.f3 rfl rfl rfl rfl rfl rfl rfl ⟨rfl, rfl, rfl, rfl, rfl⟩ rfl rfl rfl rfl rfl (by kernel_rfl) Try.func3 (by kernel_rfl)
    (of_decide_eq_true (by kernel_rfl)) (by unfold Func.isWrapper; first | (rw [if_pos (by decide +kernel)]; kernel_rfl) | (rw [if_neg (by decide +kernel)]; exact ⟨rfl, rfl⟩))
    (fun os started H enc _ => integerDivisors_lifted os started H enc)
end Go.Proofs.Ytpjcoihlcklncaa
