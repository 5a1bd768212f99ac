/-
  A RUN remembered: (*txg.Group).Sync, as the kernel runs it from what it needs. No condition.
-/
import Derived.Test.YthinfdcklbppdabGreatMemoK0
import Derived.Test.YthinfdcklbppdabGreatMemoD
namespace Go.Proofs.YthinfdcklbppdabGreat.mm
open Go.Am
set_option maxRecDepth 100000
theorem r2 : chkM Dat.m2 (fcallF Tryz.prog f_0 (gex Tryz.prog f_0 20000) 23 Dat.m2.args Dat.m2.h0) = true := by kernel_rfl
end Go.Proofs.YthinfdcklbppdabGreat.mm
