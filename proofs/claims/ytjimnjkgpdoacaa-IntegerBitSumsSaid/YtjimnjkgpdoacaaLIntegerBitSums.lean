/- IntegerBitSums: for every input the law returns true, and each argument reads afterwards as it read before.  Conditions: none. -/
import Derived.Test.YtjimnjkgpdoacaaShP
import Derived.Test.YtjimnjkgpdoacaaE4
import Derived.Test.YtjimnjkgpdoacaaBtF
import Derived.Test.YtjimnjkgpdoacaaRows
set_option maxRecDepth 100000
namespace Go.Proofs.Ytjimnjkgpdoacaa
open Go Go.Ev Go.Sh

theorem integerBitSumsOwn : ownKnob Try.prog.godebug = none := by kernel_rfl
theorem integerBitSumsLaid : laidOutB Try.prog = true := by kernel_rfl

theorem integerBitSums_lifted (os : Os) (started : os.Started) (H : Type) (enc : TypeId × Value → H) :
    ReturnsInHanded {} Try.checked os 6 .any (Rows.integerBitSumsSpec.pre6 enc Try.prog Try.f6 Rows.integerBitSumsRow.domain false) (Rows.integerBitSumsSpec.post enc Try.prog Try.f6 false true false false) :=
  law_ok (C := Try.checked) (A := brindlewoodlaw3_IntegerBitSums.A) (tb := 4) integerBitSumsOwn started (by kernel_rfl) Try.func6
    (ChangeSpec.witness6 (enc := enc) (C := Try.checked) false ⟨#[], #[.agg #[.bool false, .slice none 0 0], .agg #[.bool false, .slice none 0 0]], []⟩ 12 (by kernel_rfl) (by kernel_rfl) (by kernel_rfl) (by kernel_rfl))
    integerBitSumsLaid (by kernel_rfl) (by kernel_rfl) rfl rfl (by kernel_rfl) (fun ds h => match ds, h with | [d1, d2], _ => rfl)
    (fun x hx => ⟨_, brindlewoodlaw3_IntegerBitSums.spec 1000000000000000000, Go.Pl.integerBitSums_plain hx.1 hx.2.1⟩)

theorem integerBitSums_holds : Rows.IntegerBitSumsSaid :=
  OpenClaim.holds_of_wide 6 Try.f6 rfl rfl rfl rfl rfl rfl rfl ⟨rfl, rfl, rfl, rfl, rfl⟩ rfl rfl rfl rfl rfl (by kernel_rfl) Try.func6 (by kernel_rfl)
    (of_decide_eq_true (by kernel_rfl)) (by unfold Func.isWrapper; first | (rw [if_pos (by decide +kernel)]; kernel_rfl) | (rw [if_neg (by decide +kernel)]; exact ⟨rfl, rfl⟩))
    (fun os started H enc _ => integerBitSums_lifted os started H enc)
end Go.Proofs.Ytjimnjkgpdoacaa
