/-
  A RUN remembered: (*pool.Pool).Write, as the kernel runs it from what it needs. No condition.
-/
import Derived.Test.YtnapccecmcdnjabGreatMemoK1
import Derived.Test.YtnapccecmcdnjabGreatMemoD
namespace Go.Proofs.YtnapccecmcdnjabGreat.mm
open Go.Am
set_option maxRecDepth 100000
theorem r6 : chkM Dat.m6 (fcallF Tryz.prog f_1 (gex Tryz.prog f_1 20000) 13 Dat.m6.args Dat.m6.h0) = true := by kernel_rfl
end Go.Proofs.YtnapccecmcdnjabGreat.mm
