/- OrderingInserted: for every input the law returns true, and each argument reads afterwards as it read before.  Conditions: none. -/
import Derived.Test.YtjdambgnmphakaaShP
import Derived.Test.YtjdambgnmphakaaE4
import Derived.Test.YtjdambgnmphakaaOrE
import Derived.Test.YtjdambgnmphakaaRows
set_option maxRecDepth 100000
namespace Go.Proofs.Ytjdambgnmphakaa
open Go Go.Ev Go.Sh

theorem orderingInsertedOwn : ownKnob Try.prog.godebug = none := by kernel_rfl
theorem orderingInsertedLaid : laidOutB Try.prog = true := by kernel_rfl

theorem orderingInserted_lifted (os : Os) (started : os.Started) (H : Type) (enc : TypeId × Value → H) :
    ReturnsInHanded {} Try.checked os 7 .any (Rows.orderingInsertedSpec.pre6 enc Try.prog Try.f7 Rows.orderingInsertedRow.domain false) (Rows.orderingInsertedSpec.post enc Try.prog Try.f7 false true false false) :=
  law_ok (C := Try.checked) (A := brindlewoodlaw3_OrderingInserted.A) (tb := 4) orderingInsertedOwn started (by kernel_rfl) Try.func7
    (ChangeSpec.witness6 (enc := enc) (C := Try.checked) false ⟨#[], #[.slice none 0 0, .slice none 0 0, .int .i64 0], []⟩ 12 (by kernel_rfl) (by kernel_rfl) (by kernel_rfl) (by kernel_rfl))
    orderingInsertedLaid (by kernel_rfl) (by kernel_rfl) rfl rfl (by kernel_rfl) (fun ds h => match ds, h with | [d1, d2, d3], _ => rfl)
    (fun x hx => ⟨_, brindlewoodlaw3_OrderingInserted.spec 1000000000000000000, Go.Pl.orderingInserted_plain _ _ _⟩)

theorem orderingInserted_holds : Rows.OrderingInsertedSaid :=
  OpenClaim.holds_of_wide 7 Try.f7 rfl rfl rfl rfl rfl rfl rfl ⟨rfl, rfl, rfl, rfl, rfl⟩ rfl rfl rfl rfl rfl (by kernel_rfl) Try.func7 (by kernel_rfl)
    (of_decide_eq_true (by kernel_rfl)) (by unfold Func.isWrapper; first | (rw [if_pos (by decide +kernel)]; kernel_rfl) | (rw [if_neg (by decide +kernel)]; exact ⟨rfl, rfl⟩))
    (fun os started H enc _ => orderingInserted_lifted os started H enc)
end Go.Proofs.Ytjdambgnmphakaa
