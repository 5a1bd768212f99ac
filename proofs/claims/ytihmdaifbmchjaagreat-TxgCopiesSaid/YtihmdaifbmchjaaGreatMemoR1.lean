/-
  A RUN remembered: (*txg.Group).Sync, as the kernel runs it from what it needs. No condition.
-/
import Derived.Test.YtihmdaifbmchjaaGreatMemoK0
import Derived.Test.YtihmdaifbmchjaaGreatMemoD
namespace Go.Proofs.YtihmdaifbmchjaaGreat.mm
open Go.Am
set_option maxRecDepth 100000
theorem r1 : zA8 Dat.m1 (zfo Tryz.prog f_0 (gex Tryz.prog f_0 20000) 24 Dat.m1.args Dat.m1.h0) = true := by kernel_rfl
end Go.Proofs.YtihmdaifbmchjaaGreat.mm
