/-
  THE CALLS of meta.Load that are remembered are told. No condition.
-/
import Derived.Test.YtnapccecmcdnjacGreatMemoR7
namespace Go.Proofs.YtnapccecmcdnjacGreat.mm
open Go.Am
set_option maxRecDepth 100000
noncomputable abbrev k_1 : Xs := xAdd k_0 13 (.sum (xMemos [Dat.m7]))
noncomputable abbrev f_1 : Fs := fAdd f_0 13 (.sum (fMemos [Dat.m7]))
theorem mem_1 : ∀ m ∈ ([Dat.m7] : List Memo), MemoOk Tryz.prog k_0 13 m := List.forall_mem_cons.2 ⟨chkM_ok both_0 r7, fun m h => by cases h⟩
theorem le_1 : ∀ m ∈ ([Dat.m7] : List Memo), m.n0 ≤ m.n1 := List.forall_mem_cons.2 ⟨Nat.le_of_ble_eq_true rfl, fun m h => by cases h⟩
theorem told_1 : GoodX Tryz.prog k_1 := memos_good good told_0 ⟨_, _, Tryz.func13, rfl⟩ mem_1
theorem both_1 : Both f_1 k_1 := memos_both both_0 le_1
end Go.Proofs.YtnapccecmcdnjacGreat.mm
