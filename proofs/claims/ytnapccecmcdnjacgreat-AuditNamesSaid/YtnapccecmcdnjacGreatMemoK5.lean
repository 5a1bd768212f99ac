/-
  THE CALLS of audit.Walk that are remembered are told. No condition.
-/
import Derived.Test.YtnapccecmcdnjacGreatMemoR1
import Derived.Test.YtnapccecmcdnjacGreatMemoR8
namespace Go.Proofs.YtnapccecmcdnjacGreat.mm
open Go.Am
set_option maxRecDepth 100000
noncomputable abbrev k_5 : Xs := xAdd k_4 4 (.sum (xMemos [Dat.m1, Dat.m8]))
noncomputable abbrev f_5 : Fs := fAdd f_4 4 (.sum (fMemos [Dat.m1, Dat.m8]))
theorem mem_5 : ∀ m ∈ ([Dat.m1] : List Memo), MemoOk Tryz.prog k_4 4 m := List.forall_mem_cons.2 ⟨chkM_ok both_4 r1, fun m h => by cases h⟩
theorem le_5 : ∀ m ∈ ([Dat.m1, Dat.m8] : List Memo), m.n0 ≤ m.n1 := List.forall_mem_cons.2 ⟨Nat.le_of_ble_eq_true rfl, List.forall_mem_cons.2 ⟨Nat.le_of_ble_eq_true rfl, fun m h => by cases h⟩⟩
theorem told_5 : GoodX Tryz.prog k_5 := memosM_good good told_4 ⟨_, _, Tryz.func4, rfl⟩ (m0 := Dat.m8) mem_5 r8 (Nat.le_of_ble_eq_true rfl) nd1 nd2
theorem both_5 : Both f_5 k_5 := memos_both both_4 le_5
end Go.Proofs.YtnapccecmcdnjacGreat.mm
