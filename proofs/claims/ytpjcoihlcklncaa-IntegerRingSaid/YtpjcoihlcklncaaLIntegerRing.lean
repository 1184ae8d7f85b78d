/- IntegerRing: for every input the law returns true, and each argument reads afterwards as it read before.  Conditions: none. -/
import Derived.Test.YtpjcoihlcklncaaShP
import Derived.Test.YtpjcoihlcklncaaE4
import Derived.Test.YtpjcoihlcklncaaPiD
import Derived.Test.YtpjcoihlcklncaaRows
set_option maxRecDepth 100000
namespace Go.Proofs.Ytpjcoihlcklncaa
open Go Go.Ev Go.Sh

theorem integerRingOwn : ownKnob Try.prog.godebug = none := by kernel_rfl
theorem integerRingLaid : laidOutB Try.prog = true := by kernel_rfl

theorem integerRing_lifted (os : Os) (started : os.Started) (H : Type) (enc : TypeId × Value → H) :
    ReturnsInHanded {} Try.checked os 8 .any (Rows.integerRingSpec.pre6 enc Try.prog Try.f8 Rows.integerRingRow.domain false) (Rows.integerRingSpec.post enc Try.prog Try.f8 false true false false) :=
  law_ok (C := Try.checked) (A := brindlewoodlaw3_IntegerRing.A) (tb := 4) integerRingOwn started (by kernel_rfl) Try.func8
    (ChangeSpec.witness6 (enc := enc) (C := Try.checked) false ⟨#[], #[.agg #[.bool false, .slice none 0 0], .agg #[.bool false, .slice none 0 0], .agg #[.bool false, .slice none 0 0]], []⟩ 12 (by kernel_rfl) (by kernel_rfl) (by kernel_rfl) (by kernel_rfl))
    integerRingLaid (by kernel_rfl) (by kernel_rfl) rfl rfl (by kernel_rfl) (fun ds h => match ds, h with | [d1, d2, d3], _ => rfl)
    (fun x hx => ⟨_, brindlewoodlaw3_IntegerRing.spec 1000000000000000000, Go.Pl.integerRing_plain hx.1 hx.2.1 hx.2.2.1⟩)

theorem integerRing_holds : Rows.IntegerRingSaid :=
  OpenClaim.holds_of_wide 8 Try.f8 rfl rfl rfl rfl rfl rfl rfl ⟨rfl, rfl, rfl, rfl, rfl⟩ rfl rfl rfl rfl rfl (by kernel_rfl) Try.func8 (by kernel_rfl)
    (of_decide_eq_true (by kernel_rfl)) (by unfold Func.isWrapper; first | (rw [if_pos (by decide +kernel)]; kernel_rfl) | (rw [if_neg (by decide +kernel)]; exact ⟨rfl, rfl⟩))
    (fun os started H enc _ => integerRing_lifted os started H enc)
end Go.Proofs.Ytpjcoihlcklncaa
