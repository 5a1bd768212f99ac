/-
  TABLES of what is told to begin with, for closed runs. No condition.
-/
import Derived.Test.YthinfdcklbppdabGreatRows
import Derived.WalkKit
import Derived.ProofKit
import Derived.OpenShut
import Derived.Test.YthinfdcklbppdabGreatAmE
import Derived.Test.YthinfdcklbppdabGreatCMore
import Derived.Test.YthinfdcklbppdabGreatCSpans
import Derived.Test.YthinfdcklbppdabGreatCOf
import Derived.Test.YthinfdcklbppdabGreatCIs
import Derived.Test.YthinfdcklbppdabGreatCAll
import Derived.Test.YthinfdcklbppdabGreatAmF
namespace Go.Proofs.YthinfdcklbppdabGreat.mm
open Go.ChangeShapes Go.WideShapes Go.ChangeAt Go.RowKit Go.Am
set_option linter.unusedVariables false
set_option maxRecDepth 100000

theorem own : ownKnob Tryz.prog.godebug = none := by kernel_rfl
theorem good : Go.Am.Good Tryz.prog := Go.Am.Good.of (by kernel_rfl) (by kernel_rfl) (by kernel_rfl)
abbrev k1 : Xs := xAdd xNone 139 (.sum xMore)
abbrev k2 : Xs := xAdd k1 132 (.sum (xSpans 172))
abbrev k3 : Xs := xAdd k2 101 (.sum (xOf 172))
abbrev k4 : Xs := xAdd k3 67 (.sum xIs)
abbrev k5 : Xs := xAdd k4 136 (.sum (xAll 172))
abbrev k6 : Xs := xAdd k2 67 (.sum xIs)
abbrev kk : Xs := xAdd k6 136 (.sum (xAll 172))
noncomputable abbrev f1 : Fs := fAdd fNone 139 (.sum fMore)
noncomputable abbrev f2 : Fs := fAdd f1 132 (.sum (fSpans 172))
noncomputable abbrev f3 : Fs := fAdd f2 67 (.sum fIs)
noncomputable abbrev ff : Fs := fAdd f3 136 (.sum (fAll 172))
theorem told1 : GoodX Tryz.prog k1 := tells_good good xNone_good ⟨_, _, Tryz.func139, rfl⟩ (cMore rfl)
theorem told2 : GoodX Tryz.prog k2 := tells_good good told1 ⟨_, _, Tryz.func132, rfl⟩ (cSpans rfl)
theorem told3 : GoodX Tryz.prog k3 := tells_good good told2 ⟨_, _, Tryz.func101, rfl⟩ (cOf rfl rfl)
theorem told4 : GoodX Tryz.prog k4 := tells_good good told3 ⟨_, _, Tryz.func67, rfl⟩ (cIs rfl)
theorem told5 : GoodX Tryz.prog k5 := tells_good good told4 ⟨_, _, Tryz.func136, rfl⟩ (cAll rfl rfl rfl)
theorem told6 : GoodX Tryz.prog k6 := tells_good good told2 ⟨_, _, Tryz.func67, rfl⟩ (cIs rfl)
theorem told : GoodX Tryz.prog kk := add_good told6 ⟨_, _, Tryz.func136, rfl⟩ (told5.sum 136 _ rfl)
theorem both1 : Both f1 k1 := both_add both_none fun _ _ _ _ hq => fMore_ok hq
theorem both2 : Both f2 k2 := both_add both1 fun _ _ _ _ hq => fSpans_ok hq
theorem both3 : Both f3 k6 := both_add both2 fun _ _ _ _ hq => fIs_ok hq
theorem both : Both ff kk := both_add both3 fun _ _ _ _ hq => fAll_ok hq
end Go.Proofs.YthinfdcklbppdabGreat.mm
