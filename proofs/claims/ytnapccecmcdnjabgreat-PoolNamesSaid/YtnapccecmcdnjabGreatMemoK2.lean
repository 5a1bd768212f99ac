/-
  THE CALLS of (*pool.Pool).Write that are remembered are told. No condition.
-/
import Derived.Test.YtnapccecmcdnjabGreatMemoR5
import Derived.Test.YtnapccecmcdnjabGreatMemoR6
namespace Go.Proofs.YtnapccecmcdnjabGreat.mm
open Go.Am
set_option maxRecDepth 100000
noncomputable abbrev k_2 : Xs := xAdd k_1 13 (.sum (xMemos [Dat.m5, Dat.m6]))
noncomputable abbrev f_2 : Fs := fAdd f_1 13 (.sum (fMemos [Dat.m5, Dat.m6]))
theorem mem_2 : ∀ m ∈ ([Dat.m5, Dat.m6] : List Memo), MemoOk Tryz.prog k_1 13 m := List.forall_mem_cons.2 ⟨chkM_ok both_1 r5, List.forall_mem_cons.2 ⟨chkM_ok both_1 r6, fun m h => by cases h⟩⟩
theorem le_2 : ∀ m ∈ ([Dat.m5, Dat.m6] : List Memo), m.n0 ≤ m.n1 := List.forall_mem_cons.2 ⟨Nat.le_of_ble_eq_true rfl, List.forall_mem_cons.2 ⟨Nat.le_of_ble_eq_true rfl, fun m h => by cases h⟩⟩
theorem told_2 : GoodX Tryz.prog k_2 := memos_good good told_1 ⟨_, _, Tryz.func13, rfl⟩ mem_2
theorem both_2 : Both f_2 k_2 := memos_both both_1 le_2
end Go.Proofs.YtnapccecmcdnjabGreat.mm
