/-
  A RUN remembered: slab.New, as the kernel runs it from what it needs. No condition.
-/
import Derived.Test.YtnapccecmcdnjacGreatMemoK2
import Derived.Test.YtnapccecmcdnjacGreatMemoD
namespace Go.Proofs.YtnapccecmcdnjacGreat.mm
open Go.Am
set_option maxRecDepth 100000
theorem r2 : chkM Dat.m2 (fcallF Tryz.prog f_2 (gex Tryz.prog f_2 20000) 12 Dat.m2.args Dat.m2.h0) = true := by kernel_rfl
end Go.Proofs.YtnapccecmcdnjacGreat.mm
