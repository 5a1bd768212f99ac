/-
  THE CALLS of (*txg.Group).Sync that are remembered are told. No condition.
-/
import Derived.Test.YtihmdaifbmchjaaGreatMemoR1
namespace Go.Proofs.YtihmdaifbmchjaaGreat.mm
open Go.Am
set_option maxRecDepth 100000
noncomputable abbrev k_1 : Xs := zi6 k_0 24 (.sum (zgO [Dat.m1]))
noncomputable abbrev f_1 : Fs := zrE f_0 24 (.sum (zmq [Dat.m1]))
theorem zCu : ∀ m ∈ ([Dat.m1] : List zgY), zmu Tryz.prog k_0 24 m := List.forall_mem_cons.2 ⟨zsR zw9 r1, fun m h => by cases h⟩
theorem zEi : ∀ m ∈ ([Dat.m1] : List zgY), m.n0 ≤ m.n1 := List.forall_mem_cons.2 ⟨Nat.le_of_ble_eq_true rfl, fun m h => by cases h⟩
theorem zAk : zbL Tryz.prog k_1 := zjP zuM zAj ⟨_, _, Tryz.func24, rfl⟩ zCu
theorem zAl : zeT f_1 k_1 := zjQ zw9 zEi
end Go.Proofs.YtihmdaifbmchjaaGreat.mm
