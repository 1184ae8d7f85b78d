/- IntegerRing: its plain function answers true.  Conditions: limbs within their kind, lists no longer than memory. -/
import Derived.Test.YtnopjcpoeffoiaaGreatDoorPiB
import Derived.Test.YtnopjcpoeffoiaaGreatDoorPiC
set_option linter.unusedVariables false
set_option linter.unusedSimpArgs false
namespace Go.Pl
open Go Go.Ev Go.Sh
theorem int_vals {a : Bool × List Int} (h : Wf IT a) : (∃ v : Int, v.natAbs < ilim ∧ a = iz v ∧ integer_Valid a = some true) ∨ integer_Valid a = some false := int_cases (int_wf h).1 (int_wf h).2
end Go.Pl
