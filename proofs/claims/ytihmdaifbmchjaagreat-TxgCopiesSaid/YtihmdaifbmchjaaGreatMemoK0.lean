/-
  THE CALLS of txg.Format that are remembered are told. No condition.
-/
import Derived.Test.YtihmdaifbmchjaaGreatMemoR0
namespace Go.Proofs.YtihmdaifbmchjaaGreat.mm
open Go.Am
set_option maxRecDepth 100000
noncomputable abbrev k_0 : Xs := zi6 kk 7 (.sum (zgO [Dat.m0]))
noncomputable abbrev f_0 : Fs := zrE ff 7 (.sum (zmq [Dat.m0]))
theorem zCt : ∀ m ∈ ([Dat.m0] : List zgY), zmu Tryz.prog kk 7 m := List.forall_mem_cons.2 ⟨zsR both r0, fun m h => by cases h⟩
theorem zEh : ∀ m ∈ ([Dat.m0] : List zgY), m.n0 ≤ m.n1 := List.forall_mem_cons.2 ⟨Nat.le_of_ble_eq_true rfl, fun m h => by cases h⟩
theorem zAj : zbL Tryz.prog k_0 := zjP zuM told ⟨_, _, Tryz.func7, rfl⟩ zCt
theorem zw9 : zeT f_0 k_0 := zjQ both zEh
end Go.Proofs.YtihmdaifbmchjaaGreat.mm
