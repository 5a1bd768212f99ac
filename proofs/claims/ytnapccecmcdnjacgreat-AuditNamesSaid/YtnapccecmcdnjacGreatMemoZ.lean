/-
  THE TABLES of what is told in the end. No condition.
-/
import Derived.Test.YtnapccecmcdnjacGreatMemoK5
namespace Go.Proofs.YtnapccecmcdnjacGreat.mm
open Go.Am
noncomputable abbrev kZ : Xs := k_5
noncomputable abbrev fZ : Fs := f_5
theorem toldZ : GoodX Tryz.prog kZ := told_5
theorem bothZ : Both fZ kZ := both_5
end Go.Proofs.YtnapccecmcdnjacGreat.mm
