/- Functions that the general texts name and this law's program does not reach.  Conditions: none, these are definitions. -/
import Derived.Test.YtjdambgnmphakaaSh
set_option linter.unusedVariables false
namespace Go.Sh
open Go Go.Ev


end Go.Sh
