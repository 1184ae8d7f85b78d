/- RationalMakes: for every input the law returns true, and each argument reads afterwards as it read before.  Conditions: none. -/
import Derived.Test.YtpigdmmofiiacaaShP
import Derived.Test.YtpigdmmofiiacaaE4
import Derived.Test.YtpigdmmofiiacaaRaF
import Derived.Test.YtpigdmmofiiacaaRows
set_option maxRecDepth 100000
namespace Go.Proofs.Ytpigdmmofiiacaa
open Go Go.Ev Go.Sh

theorem rationalMakesOwn : ownKnob Try.prog.godebug = none := by kernel_rfl
theorem rationalMakesLaid : laidOutB Try.prog = true := by kernel_rfl

theorem rationalMakes_lifted (os : Os) (started : os.Started) (H : Type) (enc : TypeId × Value → H) :
    ReturnsInHanded {} Try.checked os 8 .any (Rows.rationalMakesSpec.pre6 enc Try.prog Try.f8 Rows.rationalMakesRow.domain false) (Rows.rationalMakesSpec.post enc Try.prog Try.f8 false true false false) :=
  law_ok (C := Try.checked) (A := brindlewoodlaw3_RationalMakes.A) (tb := 4) rationalMakesOwn started (by kernel_rfl) Try.func8
    (ChangeSpec.witness6 (enc := enc) (C := Try.checked) false ⟨#[], #[.agg #[.bool false, .slice none 0 0], .agg #[.bool false, .slice none 0 0], .agg #[.bool false, .slice none 0 0, .bool false, .slice none 0 0], .int .i64 0], []⟩ 12 (by kernel_rfl) (by kernel_rfl) (by kernel_rfl) (by kernel_rfl))
    rationalMakesLaid (by kernel_rfl) (by kernel_rfl) rfl rfl (by kernel_rfl) (fun ds h => match ds, h with | [d1, d2, d3, d4], _ => rfl)
    (fun x hx => ⟨_, brindlewoodlaw3_RationalMakes.spec 1000000000000000000, Go.Pl.rationalMakes_plain hx.1 hx.2.1 hx.2.2.1 hx.2.2.2.1⟩)

theorem rationalMakes_holds : Rows.RationalMakesSaid :=
  OpenClaim.holds_of_wide 8 Try.f8 rfl rfl rfl rfl rfl rfl rfl ⟨rfl, rfl, rfl, rfl, rfl⟩ rfl rfl rfl rfl rfl (by kernel_rfl) Try.func8 (by kernel_rfl)
    (of_decide_eq_true (by kernel_rfl)) (by unfold Func.isWrapper; first | (rw [if_pos (by decide +kernel)]; kernel_rfl) | (rw [if_neg (by decide +kernel)]; exact ⟨rfl, rfl⟩))
    (fun os started H enc _ => rationalMakes_lifted os started H enc)
end Go.Proofs.Ytpigdmmofiiacaa
