/- NaturalArithmetic: for every input the law returns true, and each argument reads afterwards as it read before.  Conditions: none. -/
import Derived.Test.YtoinfmcliglddaaShP
import Derived.Test.YtoinfmcliglddaaE4
import Derived.Test.YtoinfmcliglddaaPlE
import Derived.Test.YtoinfmcliglddaaRows
set_option maxRecDepth 100000
namespace Go.Proofs.Ytoinfmcliglddaa
open Go Go.Ev Go.Sh

theorem naturalArithmeticOwn : ownKnob Try.prog.godebug = none := by kernel_rfl
theorem naturalArithmeticLaid : laidOutB Try.prog = true := by kernel_rfl

theorem naturalArithmetic_lifted (os : Os) (started : os.Started) (H : Type) (enc : TypeId × Value → H) :
    ReturnsInHanded {} Try.checked os 5 .any (Rows.naturalArithmeticSpec.pre6 enc Try.prog Try.f5 Rows.naturalArithmeticRow.domain false) (Rows.naturalArithmeticSpec.post enc Try.prog Try.f5 false true false false) :=
  law_ok (C := Try.checked) (A := brindlewoodlaw3_NaturalArithmetic.A) (tb := 4) naturalArithmeticOwn started (by kernel_rfl) Try.func5
    (ChangeSpec.witness6 (enc := enc) (C := Try.checked) false ⟨#[], #[.slice none 0 0, .slice none 0 0], []⟩ 12 (by kernel_rfl) (by kernel_rfl) (by kernel_rfl) (by kernel_rfl))
    naturalArithmeticLaid (by kernel_rfl) (by kernel_rfl) rfl rfl (by kernel_rfl) (fun ds h => match ds, h with | [d1, d2], _ => rfl)
    (fun x hx => ⟨_, brindlewoodlaw3_NaturalArithmetic.spec 10000000000, Go.Pl.naturalArithmetic_plain hx.1 hx.2.1⟩)

theorem naturalArithmetic_holds : Rows.NaturalArithmeticSaid :=
  OpenClaim.holds_of_wide 5 Try.f5 rfl rfl rfl rfl rfl rfl rfl ⟨rfl, rfl, rfl, rfl, rfl⟩ rfl rfl rfl rfl rfl (by kernel_rfl) Try.func5 (by kernel_rfl)
    (of_decide_eq_true (by kernel_rfl)) (by unfold Func.isWrapper; first | (rw [if_pos (by decide +kernel)]; kernel_rfl) | (rw [if_neg (by decide +kernel)]; exact ⟨rfl, rfl⟩))
    (fun os started H enc _ => naturalArithmetic_lifted os started H enc)
end Go.Proofs.Ytoinfmcliglddaa
