/-
  THE CALLS of (*pool.Pool).Sync that are remembered are told. No condition.
-/
import Derived.Test.YtnapccecmcdnjabGreatMemoR8
namespace Go.Proofs.YtnapccecmcdnjabGreat.mm
open Go.Am
set_option maxRecDepth 100000
noncomputable abbrev k_3 : Xs := xAdd k_2 15 (.sum (xMemos [Dat.m8]))
noncomputable abbrev f_3 : Fs := fAdd f_2 15 (.sum (fMemos [Dat.m8]))
theorem mem_3 : ∀ m ∈ ([Dat.m8] : List Memo), MemoOk Tryz.prog k_2 15 m := List.forall_mem_cons.2 ⟨chkM_ok both_2 r8, fun m h => by cases h⟩
theorem le_3 : ∀ m ∈ ([Dat.m8] : List Memo), m.n0 ≤ m.n1 := List.forall_mem_cons.2 ⟨Nat.le_of_ble_eq_true rfl, fun m h => by cases h⟩
theorem told_3 : GoodX Tryz.prog k_3 := memos_good good told_2 ⟨_, _, Tryz.func15, rfl⟩ mem_3
theorem both_3 : Both f_3 k_3 := memos_both both_2 le_3
end Go.Proofs.YtnapccecmcdnjabGreat.mm
