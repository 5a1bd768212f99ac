/-
  THE CALLS of uber.Best that are remembered are told. No condition.
-/
import Derived.Test.YtnapccecmcdnjacGreatMemoR0
import Derived.Test.YtnapccecmcdnjacGreatMemoR4
namespace Go.Proofs.YtnapccecmcdnjacGreat.mm
open Go.Am
set_option maxRecDepth 100000
noncomputable abbrev k_2 : Xs := xAdd k_1 9 (.sum (xMemos [Dat.m0, Dat.m4]))
noncomputable abbrev f_2 : Fs := fAdd f_1 9 (.sum (fMemos [Dat.m0, Dat.m4]))
theorem mem_2 : ∀ m ∈ ([Dat.m0, Dat.m4] : List Memo), MemoOk Tryz.prog k_1 9 m := List.forall_mem_cons.2 ⟨chkM_ok both_1 r0, List.forall_mem_cons.2 ⟨chkM_ok both_1 r4, fun m h => by cases h⟩⟩
theorem le_2 : ∀ m ∈ ([Dat.m0, Dat.m4] : List Memo), m.n0 ≤ m.n1 := List.forall_mem_cons.2 ⟨Nat.le_of_ble_eq_true rfl, List.forall_mem_cons.2 ⟨Nat.le_of_ble_eq_true rfl, fun m h => by cases h⟩⟩
theorem told_2 : GoodX Tryz.prog k_2 := memos_good good told_1 ⟨_, _, Tryz.func9, rfl⟩ mem_2
theorem both_2 : Both f_2 k_2 := memos_both both_1 le_2
end Go.Proofs.YtnapccecmcdnjacGreat.mm
