/-
  A RUN remembered: audit.Walk, as the kernel runs it from what it needs. No condition.
-/
import Derived.Test.YtnapccecmcdnjacGreatMemoK4
import Derived.Test.YtnapccecmcdnjacGreatMemoD
namespace Go.Proofs.YtnapccecmcdnjacGreat.mm
open Go.Am
set_option maxRecDepth 100000
theorem r1 : chkM Dat.m1 (fcallF Tryz.prog f_4 (gex Tryz.prog f_4 20000) 4 Dat.m1.args Dat.m1.h0) = true := by kernel_rfl
end Go.Proofs.YtnapccecmcdnjacGreat.mm
