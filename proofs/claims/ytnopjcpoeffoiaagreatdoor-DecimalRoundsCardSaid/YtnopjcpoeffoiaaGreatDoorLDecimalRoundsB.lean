/- DecimalRounds, its row: for every input the law returns true, and each argument reads afterwards as it read before; the variables that its row lists are tied to the program's text.  Conditions: none. -/
import Derived.Test.YtnopjcpoeffoiaaGreatDoorLDecimalRoundsA
set_option maxRecDepth 100000
set_option maxHeartbeats 0
namespace Go.Proofs.YtnopjcpoeffoiaaGreatDoor
open Go Go.Ev Go.Sh

theorem decimalRounds_facts : joinedFacts Tryz.pinned.checked.prog 5 Tryz.f5 Rows.decimalRoundsSpec Rows.decimalRoundsRow = true := by
  unfold joinedFacts
  simp only [Bool.and_eq_true]
  refine ⟨⟨⟨⟨⟨⟨⟨⟨⟨⟨⟨⟨⟨⟨⟨⟨⟨⟨⟨⟨⟨⟨⟨⟨⟨⟨⟨⟨⟨⟨⟨?_, ?_⟩, ?_⟩, ?_⟩, ?_⟩, ?_⟩, ?_⟩, ?_⟩, ?_⟩, ?_⟩, ?_⟩, ?_⟩, ?_⟩, ?_⟩, ?_⟩, ?_⟩, ?_⟩, ?_⟩, ?_⟩, ?_⟩, ?_⟩, ?_⟩, ?_⟩, ?_⟩, ?_⟩, ?_⟩, ?_⟩, ?_⟩, ?_⟩, ?_⟩, ?_⟩, ?_⟩
  all_goals as_aux_lemma => kernel_rfl

theorem decimalRounds_row : Rows.DecimalRoundsSaid :=
  OpenClaim.holds_of_wide 5 Tryz.f5 rfl rfl rfl rfl rfl rfl rfl ⟨rfl, rfl, rfl, rfl, rfl⟩ rfl rfl rfl rfl rfl (by as_aux_lemma => kernel_rfl) Tryz.func5 decimalRounds_facts
    (of_decide_eq_true (by as_aux_lemma => kernel_rfl)) (by unfold Func.isWrapper; first | (rw [if_pos (by decide +kernel)]; kernel_rfl) | (rw [if_neg (by decide +kernel)]; exact ⟨rfl, rfl⟩))
    (fun os started H enc _ => decimalRounds_lifted os started H enc)

end Go.Proofs.YtnopjcpoeffoiaaGreatDoor
