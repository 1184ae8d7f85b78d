/- OrderingPermutes: for every input the law returns true, and each argument reads afterwards as it read before.  Conditions: none. -/
import Derived.Test.YtjdambgnmphakaaShP
import Derived.Test.YtjdambgnmphakaaE4
import Derived.Test.YtjdambgnmphakaaOrB
import Derived.Test.YtjdambgnmphakaaRows
set_option maxRecDepth 100000
namespace Go.Proofs.Ytjdambgnmphakaa
open Go Go.Ev Go.Sh

theorem orderingPermutesOwn : ownKnob Try.prog.godebug = none := by kernel_rfl
theorem orderingPermutesLaid : laidOutB Try.prog = true := by kernel_rfl

theorem orderingPermutes_lifted (os : Os) (started : os.Started) (H : Type) (enc : TypeId × Value → H) :
    ReturnsInHanded {} Try.checked os 4 .any (Rows.orderingPermutesSpec.pre6 enc Try.prog Try.f4 Rows.orderingPermutesRow.domain false) (Rows.orderingPermutesSpec.post enc Try.prog Try.f4 false true false false) :=
  law_ok (C := Try.checked) (A := brindlewoodlaw3_OrderingPermutes.A) (tb := 4) orderingPermutesOwn started (by kernel_rfl) Try.func4
    (ChangeSpec.witness6 (enc := enc) (C := Try.checked) false ⟨#[], #[.slice none 0 0, .slice none 0 0], []⟩ 12 (by kernel_rfl) (by kernel_rfl) (by kernel_rfl) (by kernel_rfl))
    orderingPermutesLaid (by kernel_rfl) (by kernel_rfl) rfl rfl (by kernel_rfl) (fun ds h => match ds, h with | [d1, d2], _ => rfl)
    (fun x hx => ⟨_, brindlewoodlaw3_OrderingPermutes.spec 1000000000000000000, Go.Pl.orderingPermutes_plain hx.1 hx.2.1⟩)

theorem orderingPermutes_holds : Rows.OrderingPermutesSaid :=
  OpenClaim.holds_of_wide 4 Try.f4 rfl rfl rfl rfl rfl rfl rfl ⟨rfl, rfl, rfl, rfl, rfl⟩ rfl rfl rfl rfl rfl (by kernel_rfl) Try.func4 (by kernel_rfl)
    (of_decide_eq_true (by kernel_rfl)) (by unfold Func.isWrapper; first | (rw [if_pos (by decide +kernel)]; kernel_rfl) | (rw [if_neg (by decide +kernel)]; exact ⟨rfl, rfl⟩))
    (fun os started H enc _ => orderingPermutes_lifted os started H enc)
end Go.Proofs.Ytjdambgnmphakaa
