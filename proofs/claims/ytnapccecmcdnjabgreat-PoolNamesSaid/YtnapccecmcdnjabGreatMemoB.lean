/-
  TABLES of what is told to begin with, for closed runs. No condition.
-/
import Derived.Test.YtnapccecmcdnjabGreatRows
import Derived.WalkKit
import Derived.ProofKit
import Derived.OpenShut
import Derived.Test.YtnapccecmcdnjabGreatAmE
import Derived.Test.YtnapccecmcdnjabGreatCMore
import Derived.Test.YtnapccecmcdnjabGreatCSpans
import Derived.Test.YtnapccecmcdnjabGreatCOf
import Derived.Test.YtnapccecmcdnjabGreatCIs
import Derived.Test.YtnapccecmcdnjabGreatCAll
import Derived.Test.YtnapccecmcdnjabGreatAmF
namespace Go.Proofs.YtnapccecmcdnjabGreat.mm
open Go.ChangeShapes Go.WideShapes Go.ChangeAt Go.RowKit Go.Am
set_option linter.unusedVariables false
set_option maxRecDepth 100000

theorem own : ownKnob Tryz.prog.godebug = none := by kernel_rfl
theorem good : Go.Am.Good Tryz.prog := Go.Am.Good.of (by kernel_rfl) (by kernel_rfl) (by kernel_rfl)
abbrev k1 : Xs := xAdd (xByte 219) 182 (.sum xMore)
abbrev k2 : Xs := xAdd k1 200 (.sum (xSpans 241))
abbrev k3 : Xs := xAdd k2 171 (.sum (xOf 241))
abbrev k4 : Xs := xAdd k3 129 (.sum xIs)
abbrev k5 : Xs := xAdd k4 185 (.sum (xAll 241))
abbrev k6 : Xs := xAdd k2 129 (.sum xIs)
abbrev kk : Xs := xAdd k6 185 (.sum (xAll 241))
noncomputable abbrev f1 : Fs := fAdd (fByte 219) 182 (.sum fMore)
noncomputable abbrev f2 : Fs := fAdd f1 200 (.sum (fSpans 241))
noncomputable abbrev f3 : Fs := fAdd f2 129 (.sum fIs)
noncomputable abbrev ff : Fs := fAdd f3 185 (.sum (fAll 241))
theorem told1 : GoodX Tryz.prog k1 := tells_good good (xByte_good ⟨Tryz.f219, Tryz.func219, rfl, by kernel_rfl, by kernel_rfl, by kernel_rfl⟩) ⟨_, _, Tryz.func182, rfl⟩ (cMore rfl)
theorem told2 : GoodX Tryz.prog k2 := tells_good good told1 ⟨_, _, Tryz.func200, rfl⟩ (cSpans rfl)
theorem told3 : GoodX Tryz.prog k3 := tells_good good told2 ⟨_, _, Tryz.func171, rfl⟩ (cOf rfl rfl)
theorem told4 : GoodX Tryz.prog k4 := tells_good good told3 ⟨_, _, Tryz.func129, rfl⟩ (cIs rfl)
theorem told5 : GoodX Tryz.prog k5 := tells_good good told4 ⟨_, _, Tryz.func185, rfl⟩ (cAll rfl rfl rfl)
theorem told6 : GoodX Tryz.prog k6 := tells_good good told2 ⟨_, _, Tryz.func129, rfl⟩ (cIs rfl)
theorem told : GoodX Tryz.prog kk := add_good told6 ⟨_, _, Tryz.func185, rfl⟩ (told5.sum 185 _ rfl)
theorem both1 : Both f1 k1 := both_add (both_byte 219) fun _ _ _ _ hq => fMore_ok hq
theorem both2 : Both f2 k2 := both_add both1 fun _ _ _ _ hq => fSpans_ok hq
theorem both3 : Both f3 k6 := both_add both2 fun _ _ _ _ hq => fIs_ok hq
theorem both : Both ff kk := both_add both3 fun _ _ _ _ hq => fAll_ok hq
end Go.Proofs.YtnapccecmcdnjabGreat.mm
