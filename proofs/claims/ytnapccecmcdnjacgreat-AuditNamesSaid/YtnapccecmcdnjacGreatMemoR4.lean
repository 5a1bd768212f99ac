/-
  A RUN remembered: uber.Best, as the kernel runs it from what it needs. No condition.
-/
import Derived.Test.YtnapccecmcdnjacGreatMemoK1
import Derived.Test.YtnapccecmcdnjacGreatMemoD
namespace Go.Proofs.YtnapccecmcdnjacGreat.mm
open Go.Am
set_option maxRecDepth 100000
theorem r4 : chkM Dat.m4 (fcallF Tryz.prog f_1 (gex Tryz.prog f_1 20000) 9 Dat.m4.args Dat.m4.h0) = true := by kernel_rfl
end Go.Proofs.YtnapccecmcdnjacGreat.mm
