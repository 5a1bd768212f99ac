/-
  A CALL remembered: audit.Walk, which ranges over a map: its front run by the kernel, the rest as it was proved. No condition.
-/
import Derived.Test.YtnapccecmcdnjacGreatMemoK4
import Derived.Test.YtnapccecmcdnjacGreatMemoD
import Derived.Test.YtnapccecmcdnjacGreatCWalk
namespace Go.Proofs.YtnapccecmcdnjacGreat.mm
open Go.Am
set_option maxRecDepth 100000
noncomputable def repA : FObj := .cells (Dat.N (.slice none 0 0) (Dat.N (.slice none 0 0) (Dat.L (Dat.I 0)) .nil) (Dat.N (.bool false) (Dat.L (Dat.I 0)) .nil)) 5 24 false
noncomputable def repB : FObj := .cells (Dat.N (.slice none 0 0) (Dat.N (.slice (some ⟨1216, 0, none⟩) 1 openCap) (Dat.L (Dat.I 0)) .nil) (Dat.N (.bool false) (Dat.L (Dat.I 0)) .nil)) 5 24 false
theorem front : chkRun (gex Tryz.prog f_4 20000 none (splitC 12 walkBody).1 (Tr.ofList Dat.m8.args) Dat.m8.h0) (walkChk Dat.m8 repA repB) = true := by kernel_rfl
theorem nd1 : (Dat.m8.dlt.map (·.1)).Nodup := by decide +kernel
theorem nd2 : (Dat.m8.req.map (·.1)).Nodup := by decide +kernel
theorem kk5 : KWalk k5 := ⟨by constructor <;> rfl, rfl⟩
theorem r8 : TellsM Tryz.prog 4 (xExact Dat.m8.args Dat.m8.h0.abs Dat.m8.v (dltA Dat.m8 Dat.m8.h0.abs)) :=
  walkTold good told_4 both_4 told5 kk5 (rep := repA) (rep2 := repB) rfl rfl front rfl rfl fun o h => by
    rw [dlt_get nd1 (p := (1323, some Dat.o13)) (.tail _ (.tail _ (.head _)))] at h
    exact (Option.some.inj h).symm.trans rfl
end Go.Proofs.YtnapccecmcdnjacGreat.mm
