/- RationalTermsBack: for every input the law returns true, and each argument reads afterwards as it read before.  Conditions: none. -/
import Derived.Test.YtpigdmmofiiacaaShP
import Derived.Test.YtpigdmmofiiacaaE4
import Derived.Test.YtpigdmmofiiacaaRaI
import Derived.Test.YtpigdmmofiiacaaRows
set_option maxRecDepth 100000
namespace Go.Proofs.Ytpigdmmofiiacaa
open Go Go.Ev Go.Sh

theorem rationalTermsBackOwn : ownKnob Try.prog.godebug = none := by kernel_rfl
theorem rationalTermsBackLaid : laidOutB Try.prog = true := by kernel_rfl

theorem rationalTermsBack_lifted (os : Os) (started : os.Started) (H : Type) (enc : TypeId × Value → H) :
    ReturnsInHanded {} Try.checked os 7 .any (Rows.rationalTermsBackSpec.pre6 enc Try.prog Try.f7 Rows.rationalTermsBackRow.domain false) (Rows.rationalTermsBackSpec.post enc Try.prog Try.f7 false true false false) :=
  law_ok (C := Try.checked) (A := brindlewoodlaw3_RationalTermsBack.A) (tb := 4) rationalTermsBackOwn started (by kernel_rfl) Try.func7
    (ChangeSpec.witness6 (enc := enc) (C := Try.checked) false ⟨#[], #[.agg #[.bool false, .slice none 0 0, .bool false, .slice none 0 0]], []⟩ 12 (by kernel_rfl) (by kernel_rfl) (by kernel_rfl) (by kernel_rfl))
    rationalTermsBackLaid (by kernel_rfl) (by kernel_rfl) rfl rfl (by kernel_rfl) (fun ds h => match ds, h with | [d1], _ => rfl)
    (fun x hx => ⟨_, brindlewoodlaw3_RationalTermsBack.spec 1000000000000000000, Go.Pl.rationalTermsBack_plain hx.1⟩)

theorem rationalTermsBack_holds : Rows.RationalTermsBackSaid :=
  OpenClaim.holds_of_wide 7 Try.f7 rfl rfl rfl rfl rfl rfl rfl ⟨rfl, rfl, rfl, rfl, rfl⟩ rfl rfl rfl rfl rfl (by kernel_rfl) Try.func7 (by kernel_rfl)
    (of_decide_eq_true (by kernel_rfl)) (by unfold Func.isWrapper; first | (rw [if_pos (by decide +kernel)]; kernel_rfl) | (rw [if_neg (by decide +kernel)]; exact ⟨rfl, rfl⟩))
    (fun os started H enc _ => rationalTermsBack_lifted os started H enc)
end Go.Proofs.Ytpigdmmofiiacaa
