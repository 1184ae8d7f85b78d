/- SlicingTakes: for every input the law returns true, and each argument reads afterwards as it read before.  Conditions: none. -/
import Derived.Test.YtpomnejenhgpkaaShP
import Derived.Test.YtpomnejenhgpkaaE4
import Derived.Test.YtpomnejenhgpkaaSlH
import Derived.Test.YtpomnejenhgpkaaRows
set_option maxRecDepth 100000
namespace Go.Proofs.Ytpomnejenhgpkaa
open Go Go.Ev Go.Sh

theorem slicingTakesOwn : ownKnob Try.prog.godebug = none := by kernel_rfl
theorem slicingTakesLaid : laidOutB Try.prog = true := by kernel_rfl

theorem slicingTakes_lifted (os : Os) (started : os.Started) (H : Type) (enc : TypeId × Value → H) :
    ReturnsInHanded {} Try.checked os 3 .any (Rows.slicingTakesSpec.pre6 enc Try.prog Try.f3 Rows.slicingTakesRow.domain false) (Rows.slicingTakesSpec.post enc Try.prog Try.f3 false true false false) :=
  law_ok (C := Try.checked) (A := brindlewoodlaw3_SlicingTakes.A) (tb := 4) slicingTakesOwn started (by kernel_rfl) Try.func3
    (ChangeSpec.witness6 (enc := enc) (C := Try.checked) false ⟨#[], #[.slice none 0 0, .agg #[.bool false, .slice none 0 0, .bool false, .slice none 0 0, .bool false, .slice none 0 0, .bool false, .bool false, .bool false], .slice none 0 0, .int .i64 0], []⟩ 12 (by kernel_rfl) (by kernel_rfl) (by kernel_rfl) (by kernel_rfl))
    slicingTakesLaid (by kernel_rfl) (by kernel_rfl) rfl rfl (by kernel_rfl) (fun ds h => match ds, h with | [d1, d2, d3, d4], _ => rfl)
    (fun x hx => ⟨_, brindlewoodlaw3_SlicingTakes.spec 1000000000000000000, Go.Pl.slicingTakes_plain hx.1 hx.2.1 hx.2.2.1⟩)

theorem slicingTakes_holds : Rows.SlicingTakesSaid :=
  OpenClaim.holds_of_wide 3 Try.f3 rfl rfl rfl rfl rfl rfl rfl ⟨rfl, rfl, rfl, rfl, rfl⟩ rfl rfl rfl rfl rfl (by kernel_rfl) Try.func3 (by kernel_rfl)
    (of_decide_eq_true (by kernel_rfl)) (by unfold Func.isWrapper; first | (rw [if_pos (by decide +kernel)]; kernel_rfl) | (rw [if_neg (by decide +kernel)]; exact ⟨rfl, rfl⟩))
    (fun os started H enc _ => slicingTakes_lifted os started H enc)
end Go.Proofs.Ytpomnejenhgpkaa
