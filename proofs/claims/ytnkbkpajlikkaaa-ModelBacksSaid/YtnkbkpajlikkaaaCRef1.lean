/-
  THE DOCUMENT'S ANSWERS of the layers 2, 5, 11, 13 and 14, as far as families and books need them.
-/
import Derived.Test.YtnkbkpajlikkaaaCNamed
import Derived.Test.YtnkbkpajlikkaaaCWay
import Derived.Test.YtnkbkpajlikkaaaVRef
set_option linter.unusedVariables false
set_option linter.unusedSimpArgs false
set_option maxRecDepth 100000
namespace Go.Am
open Go.Proofs
theorem getQ_b {s:ByteArray} {i:Nat} (h:i < s.size):s[i]?= some (s.get! i):=by
 rw[getElem?_pos s i h,←getE_btl h,getElem!_pos s i h]
structure KRef (K:Xs):Prop where
section
variable {K:Xs} {h:AH} {p:Option Addr} {n c:Nat} {rs:List SetR}
end
end Go.Am
