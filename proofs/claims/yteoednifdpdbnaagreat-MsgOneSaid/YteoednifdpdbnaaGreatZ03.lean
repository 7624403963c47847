/- Pairs as the reference puts them, in plain Lean; the order of texts; of no program. -/
import Derived.Test.YteoednifdpdbnaaGreatZ02
import Derived.Lib.Bytealg
namespace Go.Proofs.YteoednifdpdbnaaGreat
set_option linter.unusedVariables false
set_option linter.unusedSimpArgs false
/-- as the model has it -/
def lessB:Bytes→Bytes→Bool
 | _,[]=>false
 | [],_ :: _=>true
 | a :: x,b :: y=>decide (a < b) || (a == b && lessB x y)
end Go.Proofs.YteoednifdpdbnaaGreat
