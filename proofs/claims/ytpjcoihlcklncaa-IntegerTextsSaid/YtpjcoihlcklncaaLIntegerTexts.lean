/- IntegerTexts: for every input the law returns true, and each argument reads afterwards as it read before.  Conditions: none. -/
import Derived.Test.YtpjcoihlcklncaaShP
import Derived.Test.YtpjcoihlcklncaaE4
import Derived.Test.YtpjcoihlcklncaaPiP
import Derived.Test.YtpjcoihlcklncaaRows
set_option maxRecDepth 100000
namespace Go.Proofs.Ytpjcoihlcklncaa
open Go Go.Ev Go.Sh

theorem integerTextsOwn : ownKnob Try.prog.godebug = none := by kernel_rfl
theorem integerTextsLaid : laidOutB Try.prog = true := by kernel_rfl

theorem integerTexts_lifted (os : Os) (started : os.Started) (H : Type) (enc : TypeId × Value → H) :
    ReturnsInHanded {} Try.checked os 6 .any (Rows.integerTextsSpec.pre6 enc Try.prog Try.f6 Rows.integerTextsRow.domain false) (Rows.integerTextsSpec.post enc Try.prog Try.f6 false true false false) :=
  law_ok (C := Try.checked) (A := brindlewoodlaw3_IntegerTexts.A) (tb := 4) integerTextsOwn started (by kernel_rfl) Try.func6
    (ChangeSpec.witness6 (enc := enc) (C := Try.checked) false ⟨#[], #[.agg #[.bool false, .slice none 0 0], .int .i64 0, .string ByteArray.empty], []⟩ 12 (by kernel_rfl) (by kernel_rfl) (by kernel_rfl) (by kernel_rfl))
    integerTextsLaid (by kernel_rfl) (by kernel_rfl) rfl rfl (by kernel_rfl) (fun ds h => match ds, h with | [d1, d2, d3], _ => rfl)
    (fun x hx => ⟨_, brindlewoodlaw3_IntegerTexts.spec 1000000000000000000, Go.Pl.integerTexts_plain hx.1⟩)

theorem integerTexts_holds : Rows.IntegerTextsSaid :=
  OpenClaim.holds_of_wide 6 Try.f6 rfl rfl rfl rfl rfl rfl rfl ⟨rfl, rfl, rfl, rfl, rfl⟩ rfl rfl rfl rfl rfl (by kernel_rfl) Try.func6 (by kernel_rfl)
    (of_decide_eq_true (by kernel_rfl)) (by unfold Func.isWrapper; first | (rw [if_pos (by decide +kernel)]; kernel_rfl) | (rw [if_neg (by decide +kernel)]; exact ⟨rfl, rfl⟩))
    (fun os started H enc _ => integerTexts_lifted os started H enc)
end Go.Proofs.Ytpjcoihlcklncaa
