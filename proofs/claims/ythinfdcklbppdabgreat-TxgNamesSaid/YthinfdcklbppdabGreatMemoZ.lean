/-
  THE TABLES of what is told in the end. No condition.
-/
import Derived.Test.YthinfdcklbppdabGreatMemoK1
namespace Go.Proofs.YthinfdcklbppdabGreat.mm
open Go.Am
noncomputable abbrev kZ : Xs := k_1
noncomputable abbrev fZ : Fs := f_1
theorem toldZ : GoodX Tryz.prog kZ := told_1
theorem bothZ : Both fZ kZ := both_1
end Go.Proofs.YthinfdcklbppdabGreat.mm
