/-
  WEAKEST CONDITIONS of some functions of this program, printed by a program.
-/
import Derived.Test.YtnapccecmcdnjacGreatAmG
import Derived.Test.YtnapccecmcdnjacGreatRows
set_option linter.unusedVariables false
set_option maxRecDepth 100000
namespace Go.Am
open Go.Proofs
theorem vp_slices_pdqsortOrdered_int__3 {K : Xs} {c : Code} (hc : codeAt Tryz.prog 32 3 = some c) (i10 : Int) (p0 : Option Addr) (n0 c0 : Nat) (i1 : Int) (i2 : Int) {e : Env} (ha : agr ((((Tr.nil.set 10 (.int .i64 i10)).set 0 (.slice p0 n0 c0)).set 1 (.int .i64 i1)).set 2 (.int .i64 i2)) e) (h : AH) (Q : AX → AH → Prop) (H :
    ((i10 : Int) ≤ 12 → Wf Tryz.prog K 62 [(.slice p0 n0 c0), (.int .i64 i1), (.int .i64 i2)] h fun r0 h1 =>
    (Q AX.ret h1)) ∧
    (¬ (i10 : Int) ≤ 12 → Q AX.normal h)) :
    Wc Tryz.prog K none c e h fun x _ h' => Q x h' :=
  vp_sound hc ha (hs := []) (Eq.mpr (by kernel_rfl) H)
end Go.Am
