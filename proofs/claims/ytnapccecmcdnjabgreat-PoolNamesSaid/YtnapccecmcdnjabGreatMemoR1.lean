/-
  A RUN remembered: meta.Save, as the kernel runs it from what it needs. No condition.
-/
import Derived.Test.YtnapccecmcdnjabGreatMemoB
import Derived.Test.YtnapccecmcdnjabGreatMemoD
namespace Go.Proofs.YtnapccecmcdnjabGreat.mm
open Go.Am
set_option maxRecDepth 100000
theorem r1 : chkM Dat.m1 (fcallF Tryz.prog ff (gex Tryz.prog ff 20000) 57 Dat.m1.args Dat.m1.h0) = true := by kernel_rfl
end Go.Proofs.YtnapccecmcdnjabGreat.mm
