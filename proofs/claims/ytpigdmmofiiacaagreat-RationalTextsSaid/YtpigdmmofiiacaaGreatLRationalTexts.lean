/- RationalTexts: for every input the law returns true, and each argument reads afterwards as it read before.  Conditions: none. -/
import Derived.Test.YtpigdmmofiiacaaGreatShP
import Derived.Test.YtpigdmmofiiacaaGreatE4
import Derived.Test.YtpigdmmofiiacaaGreatRaL
import Derived.Test.YtpigdmmofiiacaaGreatRows
set_option maxRecDepth 100000
namespace Go.Proofs.YtpigdmmofiiacaaGreat
open Go Go.Ev Go.Sh

theorem rationalTextsOwn : ownKnob Tryz.prog.godebug = none := by kernel_rfl
theorem rationalTextsLaid : laidOutB Tryz.prog = true := by kernel_rfl

theorem rationalTexts_lifted (os : Os) (started : os.Started) (H : Type) (enc : TypeId × Value → H) :
    ReturnsInHanded {} Tryz.checked os 3 .any (Rows.rationalTextsSpec.pre6 enc Tryz.prog Tryz.f3 Rows.rationalTextsRow.domain false) (Rows.rationalTextsSpec.post enc Tryz.prog Tryz.f3 false true false false) :=
  law_ok (C := Tryz.checked) (A := brindlewoodlaw3_RationalTexts.A) (tb := 4) rationalTextsOwn started (by kernel_rfl) Tryz.func3
    (ChangeSpec.witness6 (enc := enc) (C := Tryz.checked) false ⟨#[], #[.agg #[.bool false, .slice none 0 0, .bool false, .slice none 0 0], .string ByteArray.empty], []⟩ 12 (by kernel_rfl) (by kernel_rfl) (by kernel_rfl) (by kernel_rfl))
    rationalTextsLaid (by kernel_rfl) (by kernel_rfl) rfl rfl (by kernel_rfl) (fun ds h => match ds, h with | [d1, d2], _ => rfl)
    (fun x hx => ⟨_, brindlewoodlaw3_RationalTexts.spec 1000000000000000000, Go.Pl.rationalTexts_plain hx.1⟩)

theorem rationalTexts_holds : Rows.RationalTextsSaid :=
  OpenClaim.holds_of_wide 3 Tryz.f3 rfl rfl rfl rfl rfl rfl rfl ⟨rfl, rfl, rfl, rfl, rfl⟩ rfl rfl rfl rfl rfl (by kernel_rfl) Tryz.func3 (by kernel_rfl)
    (of_decide_eq_true (by kernel_rfl)) (by unfold Func.isWrapper; first | (rw [if_pos (by decide +kernel)]; kernel_rfl) | (rw [if_neg (by decide +kernel)]; exact ⟨rfl, rfl⟩))
    (fun os started H enc _ => rationalTexts_lifted os started H enc)
end Go.Proofs.YtpigdmmofiiacaaGreat
