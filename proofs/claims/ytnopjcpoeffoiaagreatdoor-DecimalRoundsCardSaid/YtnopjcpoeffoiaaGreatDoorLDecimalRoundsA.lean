/- DecimalRounds: for every input the law returns true, and each argument reads afterwards as it read before; the variables that its row lists are tied to the program's text.  Conditions: none. -/
import Derived.Test.YtnopjcpoeffoiaaGreatDoorShP
import Derived.Test.YtnopjcpoeffoiaaGreatDoorLdA
import Derived.Test.YtnopjcpoeffoiaaGreatDoorDcG
import Derived.Test.YtnopjcpoeffoiaaGreatDoorRows
import Derived.Test.YtnopjcpoeffoiaaGreatDoorCards
import Derived.Test.YtnopjcpoeffoiaaGreatDoorTie
import Derived.Lay
import Derived.LaidOnce
import Derived.SevenTiedAt
set_option maxRecDepth 100000
namespace Go.Proofs.YtnopjcpoeffoiaaGreatDoor
open Go Go.Ev Go.Sh

theorem decimalRoundsOwn : ownKnob Tryz.prog.godebug = none := by kernel_rfl
theorem decimalRoundsLaid : laidOutB Tryz.prog = true := by kernel_rfl

theorem decimalRounds_lifted (os : Os) (started : os.Started) (H : Type) (enc : TypeId × Value → H) :
    ReturnsInHanded {} Tryz.checked os 5 .any (fun w args => (Rows.decimalRoundsSpec.pre enc Tryz.prog Tryz.f5 Rows.decimalRoundsRow.domain Rows.decimalRoundsRow.apart w args ∧ laidMetH Tryz.prog Rows.decimalRoundsRow.laid w) ∧ sizedMet enc Tryz.prog Tryz.f5 (OpenSpec.ofChange Rows.decimalRoundsSpec) Rows.decimalRoundsRow.apart w args) (Rows.decimalRoundsSpec.post enc Tryz.prog Tryz.f5 Rows.decimalRoundsRow.apart true false false) :=
  law_okL (C := Tryz.checked) (A := brindlewoodlaw3_DecimalRounds.A) (tb := 4) (X := (fun w _ => laidMetH Tryz.prog Rows.decimalRoundsRow.laid w)) (fun _ _ _ hh h => h.of_heap hh) decimalRoundsOwn started (by kernel_rfl) Tryz.func5
    (ChangeSpec.witness_shaped (enc := enc) (C := Tryz.checked) (os := os) (X := (fun w _ => laidMetH Tryz.prog Rows.decimalRoundsRow.laid w)) false (World.laidAll Tryz.prog os Rows.decimalRoundsRow.laid) #[.agg #[.int .i64 0, .bool false, .bool false, .slice none 0 0, .int .i64 0], .int .i64 0, .agg #[.int .i64 0, .int .i64 0, .int .i64 0, .int .i64 0]] 12 (World.laidAll_os _ _ _)
      (World.shaped_of_ZipB (by kernel_rfl) (by kernel_rfl)) (by kernel_rfl) (by kernel_rfl) (by kernel_rfl)
      (by rw [MakeChecks.laidMetH_plain _ _ _ (by kernel_rfl)]; exact laidMet_laidAll _ (by kernel_rfl) (by kernel_rfl)))
    decimalRoundsLaid (by kernel_rfl) (by kernel_rfl) rfl rfl (by kernel_rfl) (fun ds h => match ds, h with | [d1, d2, d3], _ => rfl)
    (fun x hx => ⟨_, brindlewoodlaw3_DecimalRounds.spec 1000000000000000000, Go.Pl.decimalRounds_plain hx.1⟩)
end Go.Proofs.YtnopjcpoeffoiaaGreatDoor
