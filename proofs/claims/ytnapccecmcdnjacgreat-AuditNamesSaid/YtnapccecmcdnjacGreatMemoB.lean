/-
  TABLES of what is told to begin with, for closed runs. No condition.
-/
import Derived.Test.YtnapccecmcdnjacGreatRows
import Derived.WalkKit
import Derived.ProofKit
import Derived.OpenShut
import Derived.Test.YtnapccecmcdnjacGreatAmE
import Derived.Test.YtnapccecmcdnjacGreatCMore
import Derived.Test.YtnapccecmcdnjacGreatCSpans
import Derived.Test.YtnapccecmcdnjacGreatCOf
import Derived.Test.YtnapccecmcdnjacGreatCIs
import Derived.Test.YtnapccecmcdnjacGreatCAll
import Derived.Test.YtnapccecmcdnjacGreatAmF
namespace Go.Proofs.YtnapccecmcdnjacGreat.mm
open Go.ChangeShapes Go.WideShapes Go.ChangeAt Go.RowKit Go.Am
set_option linter.unusedVariables false
set_option maxRecDepth 100000

theorem own : ownKnob Tryz.prog.godebug = none := by kernel_rfl
theorem good : Go.Am.Good Tryz.prog := Go.Am.Good.of (by kernel_rfl) (by kernel_rfl) (by kernel_rfl)
abbrev k1 : Xs := xAdd xNone 127 (.sum xMore)
abbrev k2 : Xs := xAdd k1 34 (.sum (xSpans 70))
abbrev k3 : Xs := xAdd k2 17 (.sum (xOf 70))
abbrev k4 : Xs := xAdd k3 153 (.sum xIs)
abbrev k5 : Xs := xAdd k4 159 (.sum (xAll 70))
abbrev k6 : Xs := xAdd k2 153 (.sum xIs)
abbrev kk : Xs := xAdd k6 159 (.sum (xAll 70))
noncomputable abbrev f1 : Fs := fAdd fNone 127 (.sum fMore)
noncomputable abbrev f2 : Fs := fAdd f1 34 (.sum (fSpans 70))
noncomputable abbrev f3 : Fs := fAdd f2 153 (.sum fIs)
noncomputable abbrev ff : Fs := fAdd f3 159 (.sum (fAll 70))
theorem told1 : GoodX Tryz.prog k1 := tells_good good xNone_good ⟨_, _, Tryz.func127, rfl⟩ (cMore rfl)
theorem told2 : GoodX Tryz.prog k2 := tells_good good told1 ⟨_, _, Tryz.func34, rfl⟩ (cSpans rfl)
theorem told3 : GoodX Tryz.prog k3 := tells_good good told2 ⟨_, _, Tryz.func17, rfl⟩ (cOf rfl rfl)
theorem told4 : GoodX Tryz.prog k4 := tells_good good told3 ⟨_, _, Tryz.func153, rfl⟩ (cIs rfl)
theorem told5 : GoodX Tryz.prog k5 := tells_good good told4 ⟨_, _, Tryz.func159, rfl⟩ (cAll rfl rfl rfl)
theorem told6 : GoodX Tryz.prog k6 := tells_good good told2 ⟨_, _, Tryz.func153, rfl⟩ (cIs rfl)
theorem told : GoodX Tryz.prog kk := add_good told6 ⟨_, _, Tryz.func159, rfl⟩ (told5.sum 159 _ rfl)
theorem both1 : Both f1 k1 := both_add both_none fun _ _ _ _ hq => fMore_ok hq
theorem both2 : Both f2 k2 := both_add both1 fun _ _ _ _ hq => fSpans_ok hq
theorem both3 : Both f3 k6 := both_add both2 fun _ _ _ _ hq => fIs_ok hq
theorem both : Both ff kk := both_add both3 fun _ _ _ _ hq => fAll_ok hq
end Go.Proofs.YtnapccecmcdnjacGreat.mm
