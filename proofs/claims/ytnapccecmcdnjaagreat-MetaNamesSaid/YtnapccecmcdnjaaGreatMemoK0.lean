/-
  THE CALLS of slog.Replay that are remembered are told. No condition.
-/
import Derived.Test.YtnapccecmcdnjaaGreatMemoR0
namespace Go.Proofs.YtnapccecmcdnjaaGreat.mm
open Go.Am
set_option maxRecDepth 100000
noncomputable abbrev k_0 : Xs := xAdd kk 38 (.sum (xMemos [Dat.m0]))
noncomputable abbrev f_0 : Fs := fAdd ff 38 (.sum (fMemos [Dat.m0]))
theorem mem_0 : ∀ m ∈ ([Dat.m0] : List Memo), MemoOkR Tryz.prog k5 38 m := List.forall_mem_cons.2 ⟨r0, fun m h => by cases h⟩
theorem le_0 : ∀ m ∈ ([Dat.m0] : List Memo), m.n0 ≤ m.n1 := List.forall_mem_cons.2 ⟨Nat.le_of_ble_eq_true rfl, fun m h => by cases h⟩
theorem told_0 : GoodX Tryz.prog k_0 := add_good told ⟨_, _, Tryz.func38, rfl⟩ ((memosR_good good told5 ⟨_, _, Tryz.func38, rfl⟩ mem_0).sum 38 _ rfl)
theorem both_0 : Both f_0 k_0 := memos_both both le_0
end Go.Proofs.YtnapccecmcdnjaaGreat.mm
