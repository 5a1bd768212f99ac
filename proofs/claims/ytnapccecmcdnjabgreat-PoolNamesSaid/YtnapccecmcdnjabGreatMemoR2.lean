/-
  A RUN remembered: txg.Format, as the kernel runs it from what it needs. No condition.
-/
import Derived.Test.YtnapccecmcdnjabGreatMemoK0
import Derived.Test.YtnapccecmcdnjabGreatMemoD
namespace Go.Proofs.YtnapccecmcdnjabGreat.mm
open Go.Am
set_option maxRecDepth 100000
theorem r2 : chkM Dat.m2 (fcallF Tryz.prog f_0 (gex Tryz.prog f_0 20000) 10 Dat.m2.args Dat.m2.h0) = true := by kernel_rfl
end Go.Proofs.YtnapccecmcdnjabGreat.mm
