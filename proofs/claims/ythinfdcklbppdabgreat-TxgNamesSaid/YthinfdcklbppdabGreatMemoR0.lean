/-
  A RUN remembered: txg.Format, as the kernel runs it from what it needs. No condition.
-/
import Derived.Test.YthinfdcklbppdabGreatMemoB
import Derived.Test.YthinfdcklbppdabGreatMemoD
namespace Go.Proofs.YthinfdcklbppdabGreat.mm
open Go.Am
set_option maxRecDepth 100000
theorem r0 : chkM Dat.m0 (fcallF Tryz.prog ff (gex Tryz.prog ff 20000) 6 Dat.m0.args Dat.m0.h0) = true := by kernel_rfl
end Go.Proofs.YthinfdcklbppdabGreat.mm
