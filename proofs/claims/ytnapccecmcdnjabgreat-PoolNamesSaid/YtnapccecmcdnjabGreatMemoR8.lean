/-
  A RUN remembered: (*pool.Pool).Sync, as the kernel runs it from what it needs. No condition.
-/
import Derived.Test.YtnapccecmcdnjabGreatMemoK2
import Derived.Test.YtnapccecmcdnjabGreatMemoD
namespace Go.Proofs.YtnapccecmcdnjabGreat.mm
open Go.Am
set_option maxRecDepth 100000
theorem r8 : chkM Dat.m8 (fcallF Tryz.prog f_2 (gex Tryz.prog f_2 20000) 15 Dat.m8.args Dat.m8.h0) = true := by kernel_rfl
end Go.Proofs.YtnapccecmcdnjabGreat.mm
