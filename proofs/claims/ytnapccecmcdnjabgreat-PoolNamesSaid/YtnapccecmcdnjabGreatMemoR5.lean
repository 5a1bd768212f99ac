/-
  A RUN remembered: (*pool.Pool).Write, as the kernel runs it from what it needs. No condition.
-/
import Derived.Test.YtnapccecmcdnjabGreatMemoK1
import Derived.Test.YtnapccecmcdnjabGreatMemoD
namespace Go.Proofs.YtnapccecmcdnjabGreat.mm
open Go.Am
set_option maxRecDepth 100000
theorem r5 : chkM Dat.m5 (fcallF Tryz.prog f_1 (gex Tryz.prog f_1 20000) 13 Dat.m5.args Dat.m5.h0) = true := by kernel_rfl
end Go.Proofs.YtnapccecmcdnjabGreat.mm
