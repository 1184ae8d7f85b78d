/- SlicingReversed: for every input the law returns true, and each argument reads afterwards as it read before.  Conditions: none. -/
import Derived.Test.YtjimnjkgpdoacaaShP
import Derived.Test.YtjimnjkgpdoacaaE4
import Derived.Test.YtjimnjkgpdoacaaSlE
import Derived.Test.YtjimnjkgpdoacaaRows
set_option maxRecDepth 100000
namespace Go.Proofs.Ytjimnjkgpdoacaa
open Go Go.Ev Go.Sh

theorem slicingReversedOwn : ownKnob Try.prog.godebug = none := by kernel_rfl
theorem slicingReversedLaid : laidOutB Try.prog = true := by kernel_rfl

theorem slicingReversed_lifted (os : Os) (started : os.Started) (H : Type) (enc : TypeId × Value → H) :
    ReturnsInHanded {} Try.checked os 4 .any (Rows.slicingReversedSpec.pre6 enc Try.prog Try.f4 Rows.slicingReversedRow.domain false) (Rows.slicingReversedSpec.post enc Try.prog Try.f4 false true false false) :=
  law_ok (C := Try.checked) (A := brindlewoodlaw3_SlicingReversed.A) (tb := 4) slicingReversedOwn started (by kernel_rfl) Try.func4
    (ChangeSpec.witness6 (enc := enc) (C := Try.checked) false ⟨#[], #[.slice none 0 0, .agg #[.bool false, .slice none 0 0, .bool false, .slice none 0 0, .bool false, .slice none 0 0, .bool false, .bool false, .bool false], .int .i64 0], []⟩ 12 (by kernel_rfl) (by kernel_rfl) (by kernel_rfl) (by kernel_rfl))
    slicingReversedLaid (by kernel_rfl) (by kernel_rfl) rfl rfl (by kernel_rfl) (fun ds h => match ds, h with | [d1, d2, d3], _ => rfl)
    (fun x hx => ⟨_, brindlewoodlaw3_SlicingReversed.spec 1000000000000000000, Go.Pl.slicingReversed_plain hx.1 hx.2.1 hx.2.2.1⟩)

theorem slicingReversed_holds : Rows.SlicingReversedSaid :=
  OpenClaim.holds_of_wide 4 Try.f4 rfl rfl rfl rfl rfl rfl rfl ⟨rfl, rfl, rfl, rfl, rfl⟩ rfl rfl rfl rfl rfl (by kernel_rfl) Try.func4 (by kernel_rfl)
    (of_decide_eq_true (by kernel_rfl)) (by unfold Func.isWrapper; first | (rw [if_pos (by decide +kernel)]; kernel_rfl) | (rw [if_neg (by decide +kernel)]; exact ⟨rfl, rfl⟩))
    (fun os started H enc _ => slicingReversed_lifted os started H enc)
end Go.Proofs.Ytjimnjkgpdoacaa
