/-
  A RUN remembered: txg.Format, as the kernel runs it from what it needs. No condition.
-/
import Derived.Test.YtnapccecmcdnjacGreatMemoK3
import Derived.Test.YtnapccecmcdnjacGreatMemoD
namespace Go.Proofs.YtnapccecmcdnjacGreat.mm
open Go.Am
set_option maxRecDepth 100000
theorem r3 : chkM Dat.m3 (fcallF Tryz.prog f_3 (gex Tryz.prog f_3 20000) 35 Dat.m3.args Dat.m3.h0) = true := by kernel_rfl
end Go.Proofs.YtnapccecmcdnjacGreat.mm
