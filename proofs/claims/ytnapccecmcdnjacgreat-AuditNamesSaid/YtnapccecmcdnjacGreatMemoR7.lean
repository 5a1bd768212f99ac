/-
  A RUN remembered: meta.Load, as the kernel runs it from what it needs. No condition.
-/
import Derived.Test.YtnapccecmcdnjacGreatMemoK0
import Derived.Test.YtnapccecmcdnjacGreatMemoD
namespace Go.Proofs.YtnapccecmcdnjacGreat.mm
open Go.Am
set_option maxRecDepth 100000
theorem r7 : chkM Dat.m7 (fcallF Tryz.prog f_0 (gex Tryz.prog f_0 20000) 13 Dat.m7.args Dat.m7.h0) = true := by kernel_rfl
end Go.Proofs.YtnapccecmcdnjacGreat.mm
