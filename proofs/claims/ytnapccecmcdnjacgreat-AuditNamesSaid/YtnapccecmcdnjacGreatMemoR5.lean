/-
  A RUN remembered: slab.New, as the kernel runs it from what it needs. No condition.
-/
import Derived.Test.YtnapccecmcdnjacGreatMemoK2
import Derived.Test.YtnapccecmcdnjacGreatMemoD
namespace Go.Proofs.YtnapccecmcdnjacGreat.mm
open Go.Am
set_option maxRecDepth 100000
theorem r5 : chkM Dat.m5 (fcallF Tryz.prog f_2 (gex Tryz.prog f_2 20000) 12 Dat.m5.args Dat.m5.h0) = true := by kernel_rfl
end Go.Proofs.YtnapccecmcdnjacGreat.mm
