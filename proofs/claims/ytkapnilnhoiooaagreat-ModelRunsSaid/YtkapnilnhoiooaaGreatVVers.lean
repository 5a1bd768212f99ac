/-
  WEAKEST CONDITIONS of some functions of this program, printed by a program.
-/
import Derived.Test.YtkapnilnhoiooaaGreatAmG
import Derived.Test.YtkapnilnhoiooaaGreatRows
set_option linter.unusedVariables false
set_option maxRecDepth 100000
namespace Go.Am
open Go.Proofs
theorem zdq {K:Xs} {c:Code} (hc:zoH Tryz.prog 12 5=some c) (m3:Option Nat) (p5:Option Addr) {e:Env} (ha:agr ((Tr.nil.set 3 (.map m3)).set 5 (.pointer p5)) e) (h:AH) (Q:AX→AH→Prop) (H:
 ∃I0:Int→Nat→AH→Prop,(∃n,I0 0 n h)∧
 ∀(k1:Nat) (h2:AH),∀(i4:Int),I0 i4 k1 h2→
 ((i4:Int) < 64→zal p5 fun b5 o6=>(((0:Int)≤i4)∧((i4:Int) < 64)∧
 (∃i7:Int,ld1 h2 b5 ((o6+Int.toNat i4 * 129)+128)=some (.int .u64 i7)∧
 (((i7:Int)=0→∀i8:Int,i8=IntKind.wrap .i64 (i4+1)→∃j3,j3 < k1∧I0 i8 j3 h2)∧
 (¬(i7:Int)=0→zal p5 fun b9 o10=>(((0:Int)≤i4)∧((i4:Int) < 64)∧
 (∃i11:Int,ld1 h2 b9 ((o10+Int.toNat i4 * 129)+128)=some (.int .u64 i11)∧
 (∃h12:AH,zaF Tryz.prog h2 105 (.map m3) (.int .u64 i11) (.agg #[])=some h12∧
 (∀i13:Int,i13=IntKind.wrap .i64 (i4+1)→∃j3,j3 < k1∧I0 i13 j3 h12)))))))))∧
 (¬(i4:Int) < 64→Q AX.normal h2)):
 Wc Tryz.prog K none c e h fun x _ h'=>Q x h':=
 zs3 hc ha (hs:=[(6,[(17,.int .i64 0)])]) (Eq.mpr (by kernel_rfl) H)
end Go.Am
