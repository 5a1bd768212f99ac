/-
  THE CALLS of txg.Format that are remembered are told. No condition.
-/
import Derived.Test.YthinfdcklbppdabGreatMemoR0
import Derived.Test.YthinfdcklbppdabGreatMemoR1
namespace Go.Proofs.YthinfdcklbppdabGreat.mm
open Go.Am
set_option maxRecDepth 100000
noncomputable abbrev k_0 : Xs := xAdd kk 6 (.sum (xMemos [Dat.m0, Dat.m1]))
noncomputable abbrev f_0 : Fs := fAdd ff 6 (.sum (fMemos [Dat.m0, Dat.m1]))
theorem mem_0 : ∀ m ∈ ([Dat.m0, Dat.m1] : List Memo), MemoOk Tryz.prog kk 6 m := List.forall_mem_cons.2 ⟨chkM_ok both r0, List.forall_mem_cons.2 ⟨chkM_ok both r1, fun m h => by cases h⟩⟩
theorem le_0 : ∀ m ∈ ([Dat.m0, Dat.m1] : List Memo), m.n0 ≤ m.n1 := List.forall_mem_cons.2 ⟨Nat.le_of_ble_eq_true rfl, List.forall_mem_cons.2 ⟨Nat.le_of_ble_eq_true rfl, fun m h => by cases h⟩⟩
theorem told_0 : GoodX Tryz.prog k_0 := memos_good good told ⟨_, _, Tryz.func6, rfl⟩ mem_0
theorem both_0 : Both f_0 k_0 := memos_both both le_0
end Go.Proofs.YthinfdcklbppdabGreat.mm
