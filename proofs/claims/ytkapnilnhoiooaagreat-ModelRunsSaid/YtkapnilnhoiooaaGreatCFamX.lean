/-
  A FAMILY'S RECORDS as arguments.
-/
import Derived.Test.YtkapnilnhoiooaaGreatCFam
set_option linter.unusedVariables false
set_option linter.unusedSimpArgs false
set_option maxRecDepth 100000
namespace Go.Am
open Go.Proofs
section
variable {h:AH}
end
end Go.Am
