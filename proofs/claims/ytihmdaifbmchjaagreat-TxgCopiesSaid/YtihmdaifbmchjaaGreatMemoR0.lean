/-
  A RUN remembered: txg.Format, as the kernel runs it from what it needs. No condition.
-/
import Derived.Test.YtihmdaifbmchjaaGreatMemoB
import Derived.Test.YtihmdaifbmchjaaGreatMemoD
namespace Go.Proofs.YtihmdaifbmchjaaGreat.mm
open Go.Am
set_option maxRecDepth 100000
theorem r0 : zA8 Dat.m0 (zfo Tryz.prog ff (gex Tryz.prog ff 20000) 7 Dat.m0.args Dat.m0.h0) = true := by kernel_rfl
end Go.Proofs.YtihmdaifbmchjaaGreat.mm
