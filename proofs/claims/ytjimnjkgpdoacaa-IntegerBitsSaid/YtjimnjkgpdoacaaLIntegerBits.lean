/- IntegerBits: for every input the law returns true, and each argument reads afterwards as it read before.  Conditions: none. -/
import Derived.Test.YtjimnjkgpdoacaaShP
import Derived.Test.YtjimnjkgpdoacaaE4
import Derived.Test.YtjimnjkgpdoacaaBtE
import Derived.Test.YtjimnjkgpdoacaaRows
set_option maxRecDepth 100000
namespace Go.Proofs.Ytjimnjkgpdoacaa
open Go Go.Ev Go.Sh

theorem integerBitsOwn : ownKnob Try.prog.godebug = none := by kernel_rfl
theorem integerBitsLaid : laidOutB Try.prog = true := by kernel_rfl

theorem integerBits_lifted (os : Os) (started : os.Started) (H : Type) (enc : TypeId × Value → H) :
    ReturnsInHanded {} Try.checked os 5 .any (Rows.integerBitsSpec.pre6 enc Try.prog Try.f5 Rows.integerBitsRow.domain false) (Rows.integerBitsSpec.post enc Try.prog Try.f5 false true false false) :=
  law_ok (C := Try.checked) (A := brindlewoodlaw3_IntegerBits.A) (tb := 4) integerBitsOwn started (by kernel_rfl) Try.func5
    (ChangeSpec.witness6 (enc := enc) (C := Try.checked) false ⟨#[], #[.agg #[.bool false, .slice none 0 0], .agg #[.bool false, .slice none 0 0], .int .i64 0], []⟩ 12 (by kernel_rfl) (by kernel_rfl) (by kernel_rfl) (by kernel_rfl))
    integerBitsLaid (by kernel_rfl) (by kernel_rfl) rfl rfl (by kernel_rfl) (fun ds h => match ds, h with | [d1, d2, d3], _ => rfl)
    (fun x hx => ⟨_, brindlewoodlaw3_IntegerBits.spec 1000000000000000000, Go.Pl.integerBits_plain hx.1 hx.2.1 hx.2.2.1⟩)

theorem integerBits_holds : Rows.IntegerBitsSaid :=
  OpenClaim.holds_of_wide 5 Try.f5 rfl rfl rfl rfl rfl rfl rfl ⟨rfl, rfl, rfl, rfl, rfl⟩ rfl rfl rfl rfl rfl (by kernel_rfl) Try.func5 (by kernel_rfl)
    (of_decide_eq_true (by kernel_rfl)) (by unfold Func.isWrapper; first | (rw [if_pos (by decide +kernel)]; kernel_rfl) | (rw [if_neg (by decide +kernel)]; exact ⟨rfl, rfl⟩))
    (fun os started H enc _ => integerBits_lifted os started H enc)
end Go.Proofs.Ytjimnjkgpdoacaa
