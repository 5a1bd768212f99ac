/-
  THE CALLS of slog.Replay that are remembered are told. No condition.
-/
import Derived.Test.YtnapccecmcdnjacGreatMemoR6
namespace Go.Proofs.YtnapccecmcdnjacGreat.mm
open Go.Am
set_option maxRecDepth 100000
noncomputable abbrev k_0 : Xs := xAdd kk 57 (.sum (xMemos [Dat.m6]))
noncomputable abbrev f_0 : Fs := fAdd ff 57 (.sum (fMemos [Dat.m6]))
theorem mem_0 : ∀ m ∈ ([Dat.m6] : List Memo), MemoOkR Tryz.prog k5 57 m := List.forall_mem_cons.2 ⟨r6, fun m h => by cases h⟩
theorem le_0 : ∀ m ∈ ([Dat.m6] : List Memo), m.n0 ≤ m.n1 := List.forall_mem_cons.2 ⟨Nat.le_of_ble_eq_true rfl, fun m h => by cases h⟩
theorem told_0 : GoodX Tryz.prog k_0 := add_good told ⟨_, _, Tryz.func57, rfl⟩ ((memosR_good good told5 ⟨_, _, Tryz.func57, rfl⟩ mem_0).sum 57 _ rfl)
theorem both_0 : Both f_0 k_0 := memos_both both le_0
end Go.Proofs.YtnapccecmcdnjacGreat.mm
