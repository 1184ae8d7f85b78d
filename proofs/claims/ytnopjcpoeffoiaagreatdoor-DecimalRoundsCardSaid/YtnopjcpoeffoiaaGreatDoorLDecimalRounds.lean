/- DecimalRounds: for every input the law returns true, and each argument reads afterwards as it read before; the variables that its row lists are tied to the program's text.  Conditions: none. -/
import Derived.Test.YtnopjcpoeffoiaaGreatDoorLDecimalRoundsB
set_option maxRecDepth 100000
set_option maxHeartbeats 0
namespace Go.Proofs.YtnopjcpoeffoiaaGreatDoor
open Go Go.Ev Go.Sh

theorem decimalRounds_holds : Rows.DecimalRoundsCardSaid :=
  Claim7.holds_tied_plain_at .later [] [.data, .data, .data, .data, .sentinel, .sentinel, .pinned] true (true, "5317c677344f28975b8a36cdcb9c8d91f070431cd2ccd1b760e7697b9eefe02e") true decimalRounds_row (fun _ h => by cases h) (by as_aux_lemma => kernel_rfl) (fun _ h => by cases h) decimalRounds_row_tie rfl ⟨rfl, rfl⟩ (by as_aux_lemma => kernel_rfl) rfl
    (fun f fn hf hfn => by
      obtain rfl : f = 5 := Option.some.inj ((show Tryz.prog.funcNamed "brindlewood/brindlewoodlaw3.DecimalRounds" = some 5 by as_aux_lemma => kernel_rfl).symm.trans hf) |>.symm
      obtain rfl : fn = Tryz.f5 := (Option.some.inj (Tryz.func5.symm.trans hfn)).symm
      exact ⟨by as_aux_lemma => kernel_rfl, fun j t ht => by
        rw [Tryz.params5] at ht
        have hm : t ∈ [26, 3, 40] := by simpa using Array.mem_of_getElem? ht
        have hall : ([26, 3, 40].all fun u => !Tryz.prog.wantsStandIn u) = true := by as_aux_lemma => kernel_rfl
        exact (show Tryz.prog.wantsStandIn t = false by simpa using List.all_eq_true.1 hall t hm)⟩)
    (by as_aux_lemma => kernel_rfl)
end Go.Proofs.YtnopjcpoeffoiaaGreatDoor
