/-
  THE TABLES of what is told in the end. No condition.
-/
import Derived.Test.YtihmdaifbmchjaaGreatMemoK1
namespace Go.Proofs.YtihmdaifbmchjaaGreat.mm
open Go.Am
noncomputable abbrev kZ : Xs := k_1
noncomputable abbrev fZ : Fs := f_1
theorem zCv : zbL Tryz.prog kZ := zAk
theorem zCw : zeT fZ kZ := zAl
end Go.Proofs.YtihmdaifbmchjaaGreat.mm
