/-
  THE CALLS of meta.Save that are remembered are told. No condition.
-/
import Derived.Test.YtnapccecmcdnjabGreatMemoR1
import Derived.Test.YtnapccecmcdnjabGreatMemoR3
import Derived.Test.YtnapccecmcdnjabGreatMemoR7
namespace Go.Proofs.YtnapccecmcdnjabGreat.mm
open Go.Am
set_option maxRecDepth 100000
noncomputable abbrev k_0 : Xs := xAdd kk 57 (.sum (xMemos [Dat.m1, Dat.m3, Dat.m7]))
noncomputable abbrev f_0 : Fs := fAdd ff 57 (.sum (fMemos [Dat.m1, Dat.m3, Dat.m7]))
theorem mem_0 : ∀ m ∈ ([Dat.m1, Dat.m3, Dat.m7] : List Memo), MemoOk Tryz.prog kk 57 m := List.forall_mem_cons.2 ⟨chkM_ok both r1, List.forall_mem_cons.2 ⟨chkM_ok both r3, List.forall_mem_cons.2 ⟨chkM_ok both r7, fun m h => by cases h⟩⟩⟩
theorem le_0 : ∀ m ∈ ([Dat.m1, Dat.m3, Dat.m7] : List Memo), m.n0 ≤ m.n1 := List.forall_mem_cons.2 ⟨Nat.le_of_ble_eq_true rfl, List.forall_mem_cons.2 ⟨Nat.le_of_ble_eq_true rfl, List.forall_mem_cons.2 ⟨Nat.le_of_ble_eq_true rfl, fun m h => by cases h⟩⟩⟩
theorem told_0 : GoodX Tryz.prog k_0 := memos_good good told ⟨_, _, Tryz.func57, rfl⟩ mem_0
theorem both_0 : Both f_0 k_0 := memos_both both le_0
end Go.Proofs.YtnapccecmcdnjabGreat.mm
