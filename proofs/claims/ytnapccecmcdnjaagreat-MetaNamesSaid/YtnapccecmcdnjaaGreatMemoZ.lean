/-
  THE TABLES of what is told in the end. No condition.
-/
import Derived.Test.YtnapccecmcdnjaaGreatMemoK0
namespace Go.Proofs.YtnapccecmcdnjaaGreat.mm
open Go.Am
noncomputable abbrev kZ : Xs := k_0
noncomputable abbrev fZ : Fs := f_0
theorem toldZ : GoodX Tryz.prog kZ := told_0
theorem bothZ : Both fZ kZ := both_0
end Go.Proofs.YtnapccecmcdnjaaGreat.mm
