/-
  THE CALLS of slab.New that are remembered are told. No condition.
-/
import Derived.Test.YtnapccecmcdnjacGreatMemoR2
import Derived.Test.YtnapccecmcdnjacGreatMemoR5
namespace Go.Proofs.YtnapccecmcdnjacGreat.mm
open Go.Am
set_option maxRecDepth 100000
noncomputable abbrev k_3 : Xs := xAdd k_2 12 (.sum (xMemos [Dat.m2, Dat.m5]))
noncomputable abbrev f_3 : Fs := fAdd f_2 12 (.sum (fMemos [Dat.m2, Dat.m5]))
theorem mem_3 : ∀ m ∈ ([Dat.m2, Dat.m5] : List Memo), MemoOk Tryz.prog k_2 12 m := List.forall_mem_cons.2 ⟨chkM_ok both_2 r2, List.forall_mem_cons.2 ⟨chkM_ok both_2 r5, fun m h => by cases h⟩⟩
theorem le_3 : ∀ m ∈ ([Dat.m2, Dat.m5] : List Memo), m.n0 ≤ m.n1 := List.forall_mem_cons.2 ⟨Nat.le_of_ble_eq_true rfl, List.forall_mem_cons.2 ⟨Nat.le_of_ble_eq_true rfl, fun m h => by cases h⟩⟩
theorem told_3 : GoodX Tryz.prog k_3 := memos_good good told_2 ⟨_, _, Tryz.func12, rfl⟩ mem_3
theorem both_3 : Both f_3 k_3 := memos_both both_2 le_3
end Go.Proofs.YtnapccecmcdnjacGreat.mm
