/- IntegerArithmetic: its plain function answers true.  Conditions: limbs within their kind, lists no longer than memory. -/
import Derived.Test.YtnopjcpoeffoiaaGreatDoorPiA
set_option linter.unusedVariables false
set_option linter.unusedSimpArgs false
namespace Go.Pl
open Go Go.Ev Go.Sh
theorem int_wf {a : Bool × List Int} (h : Wf IT a) : Dig 4294967296 a.2 ∧ (a.2.length : Int) ≤ 1000000000000000000 := u32_dig h.2
end Go.Pl
