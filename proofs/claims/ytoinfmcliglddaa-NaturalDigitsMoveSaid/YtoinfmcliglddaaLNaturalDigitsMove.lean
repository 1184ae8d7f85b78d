/- NaturalDigitsMove: for every input the law returns true, and each argument reads afterwards as it read before.  Conditions: none. -/
import Derived.Test.YtoinfmcliglddaaShP
import Derived.Test.YtoinfmcliglddaaE4
import Derived.Test.YtoinfmcliglddaaPlI
import Derived.Test.YtoinfmcliglddaaRows
set_option maxRecDepth 100000
namespace Go.Proofs.Ytoinfmcliglddaa
open Go Go.Ev Go.Sh

theorem naturalDigitsMoveOwn : ownKnob Try.prog.godebug = none := by kernel_rfl
theorem naturalDigitsMoveLaid : laidOutB Try.prog = true := by kernel_rfl

theorem naturalDigitsMove_lifted (os : Os) (started : os.Started) (H : Type) (enc : TypeId × Value → H) :
    ReturnsInHanded {} Try.checked os 7 .any (Rows.naturalDigitsMoveSpec.pre6 enc Try.prog Try.f7 Rows.naturalDigitsMoveRow.domain false) (Rows.naturalDigitsMoveSpec.post enc Try.prog Try.f7 false true false false) :=
  law_ok (C := Try.checked) (A := brindlewoodlaw3_NaturalDigitsMove.A) (tb := 4) naturalDigitsMoveOwn started (by kernel_rfl) Try.func7
    (ChangeSpec.witness6 (enc := enc) (C := Try.checked) false ⟨#[], #[.slice none 0 0, .slice none 0 0, .int .i64 0], []⟩ 12 (by kernel_rfl) (by kernel_rfl) (by kernel_rfl) (by kernel_rfl))
    naturalDigitsMoveLaid (by kernel_rfl) (by kernel_rfl) rfl rfl (by kernel_rfl) (fun ds h => match ds, h with | [d1, d2, d3], _ => rfl)
    (fun x hx => ⟨_, brindlewoodlaw3_NaturalDigitsMove.spec 1000000000000000000, Go.Pl.naturalDigitsMove_plain hx.1 hx.2.1⟩)

theorem naturalDigitsMove_holds : Rows.NaturalDigitsMoveSaid :=
  OpenClaim.holds_of_wide 7 Try.f7 rfl rfl rfl rfl rfl rfl rfl ⟨rfl, rfl, rfl, rfl, rfl⟩ rfl rfl rfl rfl rfl (by kernel_rfl) Try.func7 (by kernel_rfl)
    (of_decide_eq_true (by kernel_rfl)) (by unfold Func.isWrapper; first | (rw [if_pos (by decide +kernel)]; kernel_rfl) | (rw [if_neg (by decide +kernel)]; exact ⟨rfl, rfl⟩))
    (fun os started H enc _ => naturalDigitsMove_lifted os started H enc)
end Go.Proofs.Ytoinfmcliglddaa
