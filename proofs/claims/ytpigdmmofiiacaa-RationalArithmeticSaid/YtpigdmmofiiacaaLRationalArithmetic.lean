/- RationalArithmetic: for every input the law returns true, and each argument reads afterwards as it read before.  Conditions: none. -/
import Derived.Test.YtpigdmmofiiacaaShP
import Derived.Test.YtpigdmmofiiacaaE4
import Derived.Test.YtpigdmmofiiacaaRaC
import Derived.Test.YtpigdmmofiiacaaRows
set_option maxRecDepth 100000
namespace Go.Proofs.Ytpigdmmofiiacaa
open Go Go.Ev Go.Sh

theorem rationalArithmeticOwn : ownKnob Try.prog.godebug = none := by kernel_rfl
theorem rationalArithmeticLaid : laidOutB Try.prog = true := by kernel_rfl

theorem rationalArithmetic_lifted (os : Os) (started : os.Started) (H : Type) (enc : TypeId × Value → H) :
    ReturnsInHanded {} Try.checked os 5 .any (Rows.rationalArithmeticSpec.pre6 enc Try.prog Try.f5 Rows.rationalArithmeticRow.domain false) (Rows.rationalArithmeticSpec.post enc Try.prog Try.f5 false true false false) :=
  law_ok (C := Try.checked) (A := brindlewoodlaw3_RationalArithmetic.A) (tb := 4) rationalArithmeticOwn started (by kernel_rfl) Try.func5
    (ChangeSpec.witness6 (enc := enc) (C := Try.checked) false ⟨#[], #[.agg #[.bool false, .slice none 0 0, .bool false, .slice none 0 0], .agg #[.bool false, .slice none 0 0, .bool false, .slice none 0 0]], []⟩ 12 (by kernel_rfl) (by kernel_rfl) (by kernel_rfl) (by kernel_rfl))
    rationalArithmeticLaid (by kernel_rfl) (by kernel_rfl) rfl rfl (by kernel_rfl) (fun ds h => match ds, h with | [d1, d2], _ => rfl)
    (fun x hx => ⟨_, brindlewoodlaw3_RationalArithmetic.spec 1000000000000000000, Go.Pl.rationalArithmetic_plain hx.1 hx.2.1⟩)

theorem rationalArithmetic_holds : Rows.RationalArithmeticSaid :=
  OpenClaim.holds_of_wide 5 Try.f5 rfl rfl rfl rfl rfl rfl rfl ⟨rfl, rfl, rfl, rfl, rfl⟩ rfl rfl rfl rfl rfl (by kernel_rfl) Try.func5 (by kernel_rfl)
    (of_decide_eq_true (by kernel_rfl)) (by unfold Func.isWrapper; first | (rw [if_pos (by decide +kernel)]; kernel_rfl) | (rw [if_neg (by decide +kernel)]; exact ⟨rfl, rfl⟩))
    (fun os started H enc _ => rationalArithmetic_lifted os started H enc)
end Go.Proofs.Ytpigdmmofiiacaa
