/-
  THE TABLES of what is told in the end. No condition.
-/
import Derived.Test.YtnapccecmcdnjabGreatMemoK3
namespace Go.Proofs.YtnapccecmcdnjabGreat.mm
open Go.Am
noncomputable abbrev kZ : Xs := k_3
noncomputable abbrev fZ : Fs := f_3
theorem toldZ : GoodX Tryz.prog kZ := told_3
theorem bothZ : Both fZ kZ := both_3
end Go.Proofs.YtnapccecmcdnjabGreat.mm
