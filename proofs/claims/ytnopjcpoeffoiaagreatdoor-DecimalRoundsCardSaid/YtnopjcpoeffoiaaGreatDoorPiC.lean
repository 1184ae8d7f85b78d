/- More of package integer: division, comparison, signs, divisors.  Conditions: those that each theorem names. -/
import Derived.Test.YtnopjcpoeffoiaaGreatDoorPiA
import Derived.Test.YtnopjcpoeffoiaaGreatDoorPlL
set_option linter.unusedVariables false
set_option linter.unusedSimpArgs false
namespace Go.Pl
open Go Go.Ev Go.Sh
end Go.Pl
