/-
  TABLES of what is told to begin with, for closed runs. No condition.
-/
import Derived.Test.YtihmdaifbmchjaaGreatRows
import Derived.WalkKit
import Derived.ProofKit
import Derived.OpenShut
import Derived.Test.YtihmdaifbmchjaaGreatAmE
import Derived.Test.YtihmdaifbmchjaaGreatCMore
import Derived.Test.YtihmdaifbmchjaaGreatCSpans
import Derived.Test.YtihmdaifbmchjaaGreatCOf
import Derived.Test.YtihmdaifbmchjaaGreatCIs
import Derived.Test.YtihmdaifbmchjaaGreatCAll
import Derived.Test.YtihmdaifbmchjaaGreatAmF
namespace Go.Proofs.YtihmdaifbmchjaaGreat.mm
open Go.ChangeShapes Go.WideShapes Go.ChangeAt Go.RowKit Go.Am
set_option linter.unusedVariables false
set_option maxRecDepth 100000

theorem own : ownKnob Tryz.prog.godebug = none := by kernel_rfl
theorem zuM : Go.Am.zeD Tryz.prog := Go.Am.zeD.of (by kernel_rfl) (by kernel_rfl) (by kernel_rfl)
abbrev k1 : Xs := zi6 zqY 86 (.sum zdF)
abbrev k2 : Xs := zi6 k1 82 (.sum (zeG 90))
abbrev k3 : Xs := zi6 k2 57 (.sum (xOf 90))
abbrev k4 : Xs := zi6 k3 56 (.sum xIs)
abbrev k5 : Xs := zi6 k4 33 (.sum (znv 90))
abbrev k6 : Xs := zi6 k2 56 (.sum xIs)
abbrev kk : Xs := zi6 k6 33 (.sum (znv 90))
noncomputable abbrev f1 : Fs := zrE zvo 86 (.sum zyg)
noncomputable abbrev f2 : Fs := zrE f1 82 (.sum (zsX 90))
noncomputable abbrev f3 : Fs := zrE f2 56 (.sum fIs)
noncomputable abbrev ff : Fs := zrE f3 33 (.sum (zBR 90))
theorem zCj : zbL Tryz.prog k1 := zcA zuM zqZ ⟨_, _, Tryz.func86, rfl⟩ (zCf rfl)
theorem zAb : zbL Tryz.prog k2 := zcA zuM zCj ⟨_, _, Tryz.func82, rfl⟩ (zAa rfl)
theorem zAc : zbL Tryz.prog k3 := zcA zuM zAb ⟨_, _, Tryz.func57, rfl⟩ (cOf rfl rfl)
theorem zCk : zbL Tryz.prog k4 := zcA zuM zAc ⟨_, _, Tryz.func56, rfl⟩ (cIs rfl)
theorem zAd : zbL Tryz.prog k5 := zcA zuM zCk ⟨_, _, Tryz.func33, rfl⟩ (zEg rfl rfl rfl)
theorem zCl : zbL Tryz.prog k6 := zcA zuM zAb ⟨_, _, Tryz.func56, rfl⟩ (cIs rfl)
theorem told : zbL Tryz.prog kk := zek zCl ⟨_, _, Tryz.func33, rfl⟩ (zAd.sum 33 _ rfl)
theorem zCm : zeT f1 k1 := zft zsu fun _ _ _ _ hq => zvG hq
theorem zCn : zeT f2 k2 := zft zCm fun _ _ _ _ hq => zsY hq
theorem zCo : zeT f3 k6 := zft zCn fun _ _ _ _ hq => zz0 hq
theorem both : zeT ff kk := zft zCo fun _ _ _ _ hq => zyi hq
end Go.Proofs.YtihmdaifbmchjaaGreat.mm
