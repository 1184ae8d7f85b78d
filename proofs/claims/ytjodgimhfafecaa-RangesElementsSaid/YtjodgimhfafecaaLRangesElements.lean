/- RangesElements: for every input the law returns true, and each argument reads afterwards as it read before.  Conditions: none. -/
import Derived.Test.YtjodgimhfafecaaShP
import Derived.Test.YtjodgimhfafecaaE4
import Derived.Test.YtjodgimhfafecaaRgF
import Derived.Test.YtjodgimhfafecaaRows
set_option maxRecDepth 100000
namespace Go.Proofs.Ytjodgimhfafecaa
open Go Go.Ev Go.Sh

theorem rangesElementsOwn : ownKnob Try.prog.godebug = none := by kernel_rfl
theorem rangesElementsLaid : laidOutB Try.prog = true := by kernel_rfl

theorem rangesElements_lifted (os : Os) (started : os.Started) (H : Type) (enc : TypeId × Value → H) :
    ReturnsInHanded {} Try.checked os 7 .any (Rows.rangesElementsSpec.pre6 enc Try.prog Try.f7 Rows.rangesElementsRow.domain false) (Rows.rangesElementsSpec.post enc Try.prog Try.f7 false true false false) :=
  law_ok (C := Try.checked) (A := brindlewoodlaw3_RangesElements.A) (tb := 4) rangesElementsOwn started (by kernel_rfl) Try.func7
    (ChangeSpec.witness6 (enc := enc) (C := Try.checked) false ⟨#[], #[.agg #[.bool false, .slice none 0 0, .bool false, .slice none 0 0, .bool false, .slice none 0 0], .agg #[.bool false, .slice none 0 0], .agg #[.bool false, .slice none 0 0], .int .i64 0], []⟩ 12 (by kernel_rfl) (by kernel_rfl) (by kernel_rfl) (by kernel_rfl))
    rangesElementsLaid (by kernel_rfl) (by kernel_rfl) rfl rfl (by kernel_rfl) (fun ds h => match ds, h with | [d1, d2, d3, d4], _ => rfl)
    (fun x hx => ⟨_, brindlewoodlaw3_RangesElements.spec 1000000000000000000, Go.Pl.rangesElements_plain hx.1 hx.2.1 hx.2.2.1 hx.2.2.2.1⟩)

theorem rangesElements_holds : Rows.RangesElementsSaid :=
  OpenClaim.holds_of_wide 7 Try.f7 rfl rfl rfl rfl rfl rfl rfl ⟨rfl, rfl, rfl, rfl, rfl⟩ rfl rfl rfl rfl rfl (by kernel_rfl) Try.func7 (by kernel_rfl)
    (of_decide_eq_true (by kernel_rfl)) (by unfold Func.isWrapper; first | (rw [if_pos (by decide +kernel)]; kernel_rfl) | (rw [if_neg (by decide +kernel)]; exact ⟨rfl, rfl⟩))
    (fun os started H enc _ => rangesElements_lifted os started H enc)
end Go.Proofs.Ytjodgimhfafecaa
