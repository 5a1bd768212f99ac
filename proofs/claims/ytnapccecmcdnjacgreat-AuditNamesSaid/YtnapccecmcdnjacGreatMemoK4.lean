/-
  THE CALLS of txg.Format that are remembered are told. No condition.
-/
import Derived.Test.YtnapccecmcdnjacGreatMemoR3
namespace Go.Proofs.YtnapccecmcdnjacGreat.mm
open Go.Am
set_option maxRecDepth 100000
noncomputable abbrev k_4 : Xs := xAdd k_3 35 (.sum (xMemos [Dat.m3]))
noncomputable abbrev f_4 : Fs := fAdd f_3 35 (.sum (fMemos [Dat.m3]))
theorem mem_4 : ∀ m ∈ ([Dat.m3] : List Memo), MemoOk Tryz.prog k_3 35 m := List.forall_mem_cons.2 ⟨chkM_ok both_3 r3, fun m h => by cases h⟩
theorem le_4 : ∀ m ∈ ([Dat.m3] : List Memo), m.n0 ≤ m.n1 := List.forall_mem_cons.2 ⟨Nat.le_of_ble_eq_true rfl, fun m h => by cases h⟩
theorem told_4 : GoodX Tryz.prog k_4 := memos_good good told_3 ⟨_, _, Tryz.func35, rfl⟩ mem_4
theorem both_4 : Both f_4 k_4 := memos_both both_3 le_4
end Go.Proofs.YtnapccecmcdnjacGreat.mm
