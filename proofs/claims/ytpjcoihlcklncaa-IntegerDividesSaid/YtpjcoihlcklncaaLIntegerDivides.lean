/- IntegerDivides: for every input the law returns true, and each argument reads afterwards as it read before.  Conditions: none. -/
import Derived.Test.YtpjcoihlcklncaaShP
import Derived.Test.YtpjcoihlcklncaaE4
import Derived.Test.YtpjcoihlcklncaaPiG
import Derived.Test.YtpjcoihlcklncaaRows
set_option maxRecDepth 100000
namespace Go.Proofs.Ytpjcoihlcklncaa
open Go Go.Ev Go.Sh

theorem integerDividesOwn : ownKnob Try.prog.godebug = none := by kernel_rfl
theorem integerDividesLaid : laidOutB Try.prog = true := by kernel_rfl

theorem integerDivides_lifted (os : Os) (started : os.Started) (H : Type) (enc : TypeId × Value → H) :
    ReturnsInHanded {} Try.checked os 4 .any (Rows.integerDividesSpec.pre6 enc Try.prog Try.f4 Rows.integerDividesRow.domain false) (Rows.integerDividesSpec.post enc Try.prog Try.f4 false true false false) :=
  law_ok (C := Try.checked) (A := brindlewoodlaw3_IntegerDivides.A) (tb := 4) integerDividesOwn started (by kernel_rfl) Try.func4
    (ChangeSpec.witness6 (enc := enc) (C := Try.checked) false ⟨#[], #[.agg #[.bool false, .slice none 0 0], .agg #[.bool false, .slice none 0 0]], []⟩ 12 (by kernel_rfl) (by kernel_rfl) (by kernel_rfl) (by kernel_rfl))
    integerDividesLaid (by kernel_rfl) (by kernel_rfl) rfl rfl (by kernel_rfl) (fun ds h => match ds, h with | [d1, d2], _ => rfl)
    (fun x hx => ⟨_, brindlewoodlaw3_IntegerDivides.spec 1000000000000000000, Go.Pl.integerDivides_plain hx.1 hx.2.1⟩)

theorem integerDivides_holds : Rows.IntegerDividesSaid :=
  OpenClaim.holds_of_wide 4 Try.f4 rfl rfl rfl rfl rfl rfl rfl ⟨rfl, rfl, rfl, rfl, rfl⟩ rfl rfl rfl rfl rfl (by kernel_rfl) Try.func4 (by kernel_rfl)
    (of_decide_eq_true (by kernel_rfl)) (by unfold Func.isWrapper; first | (rw [if_pos (by decide +kernel)]; kernel_rfl) | (rw [if_neg (by decide +kernel)]; exact ⟨rfl, rfl⟩))
    (fun os started H enc _ => integerDivides_lifted os started H enc)
end Go.Proofs.Ytpjcoihlcklncaa
