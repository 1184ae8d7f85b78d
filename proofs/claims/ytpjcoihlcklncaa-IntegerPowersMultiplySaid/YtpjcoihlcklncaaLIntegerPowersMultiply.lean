/- IntegerPowersMultiply: for every input the law returns true, and each argument reads afterwards as it read before.  Conditions: none. -/
import Derived.Test.YtpjcoihlcklncaaShP
import Derived.Test.YtpjcoihlcklncaaE4
import Derived.Test.YtpjcoihlcklncaaPiM
import Derived.Test.YtpjcoihlcklncaaRows
set_option maxRecDepth 100000
namespace Go.Proofs.Ytpjcoihlcklncaa
open Go Go.Ev Go.Sh

theorem integerPowersMultiplyOwn : ownKnob Try.prog.godebug = none := by kernel_rfl
theorem integerPowersMultiplyLaid : laidOutB Try.prog = true := by kernel_rfl

theorem integerPowersMultiply_lifted (os : Os) (started : os.Started) (H : Type) (enc : TypeId × Value → H) :
    ReturnsInHanded {} Try.checked os 11 .any (Rows.integerPowersMultiplySpec.pre6 enc Try.prog Try.f11 Rows.integerPowersMultiplyRow.domain false) (Rows.integerPowersMultiplySpec.post enc Try.prog Try.f11 false true false false) :=
  law_ok (C := Try.checked) (A := brindlewoodlaw3_IntegerPowersMultiply.A) (tb := 4) integerPowersMultiplyOwn started (by kernel_rfl) Try.func11
    (ChangeSpec.witness6 (enc := enc) (C := Try.checked) false ⟨#[], #[.agg #[.bool false, .slice none 0 0], .int .i64 0, .int .i64 0, .agg #[.bool false, .slice none 0 0]], []⟩ 12 (by kernel_rfl) (by kernel_rfl) (by kernel_rfl) (by kernel_rfl))
    integerPowersMultiplyLaid (by kernel_rfl) (by kernel_rfl) rfl rfl (by kernel_rfl) (fun ds h => match ds, h with | [d1, d2, d3, d4], _ => rfl)
    (fun x hx => ⟨_, brindlewoodlaw3_IntegerPowersMultiply.spec 1000000000000000000, Go.Pl.integerPowersMultiply_plain hx.1 hx.2.2.2.1⟩)

theorem integerPowersMultiply_holds : Rows.IntegerPowersMultiplySaid :=
  OpenClaim.holds_of_wide 11 Try.f11 rfl rfl rfl rfl rfl rfl rfl ⟨rfl, rfl, rfl, rfl, rfl⟩ rfl rfl rfl rfl rfl (by kernel_rfl) Try.func11 (by kernel_rfl)
    (of_decide_eq_true (by kernel_rfl)) (by unfold Func.isWrapper; first | (rw [if_pos (by decide +kernel)]; kernel_rfl) | (rw [if_neg (by decide +kernel)]; exact ⟨rfl, rfl⟩))
    (fun os started H enc _ => integerPowersMultiply_lifted os started H enc)
end Go.Proofs.Ytpjcoihlcklncaa
