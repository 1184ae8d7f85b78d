/- Sizes of numbers.  Conditions: those that each theorem names. -/
import Derived.Test.YtnopjcpoeffoiaaGreatDoorPlD
import Derived.Test.YtnopjcpoeffoiaaGreatDoorE4
import Derived.KernelRfl
set_option linter.unusedVariables false
set_option linter.unusedSimpArgs false
namespace Go.Pl
open Go Go.Ev Go.Sh
theorem eq2 (x y : Int) : ((x == x) && ((y == y) && true)) = true := by simp
theorem u32_dig {a : List Int} (h : Wf (.list (.int .u32)) a) : Dig 4294967296 a ∧ (a.length : Int) ≤ 1000000000000000000 := by
  obtain ⟨h1, h2⟩ := h
  refine ⟨fun x hx => ?_, ?_⟩
  · have h3 : (0 : Int) ≤ x ∧ x ≤ 4294967295 := h2 x hx
    omega
  · have h4 : a.length * 4 ≤ 140737488351232 := h1
    omega
end Go.Pl
