/-
  WHICH LISTS ARE FAMILIES: all of it.
-/
import Derived.Test.YtkapnilnhoiooaaGreatCFamH
set_option linter.unusedVariables false
set_option linter.unusedSimpArgs false
set_option maxRecDepth 100000
namespace Go.Am
open Go.Proofs
def zvR (c:Cal):Value:=.agg #[.int .u64 c.1,.string c.2]
def zk5 (c:Cal):Prop:=(Lit.int .u64 c.1).wf=true∧c.2.size≤maxLen
def zvS (c:Cal):List Lit:=[.int .u64 c.1,.string c.2.data.toList]
theorem zxA (c:Cal):(zvR c).formed Tryz.prog 150=true:=by
 simp[zvR,Value.formed]
theorem zxo {c:Cal} (k:zk5 c):zdx Tryz.prog 150 (zvR c)=some (zvS c):=by
 have hf:=zxA c
 unfold zvR at hf ⊢
 rw[zkS hf,zeH Tryz.underlying150 (d:=39) rfl]
 have k3:=zcv (P:=Tryz.prog) Tryz.underlying26 (m:=39) (d:=38) rfl c.1
 have k4:=zeI (P:=Tryz.prog) Tryz.underlying9 (m:=39) (d:=38) rfl c.2
 rw[if_pos k.1] at k3
 rw[if_pos k.2] at k4
 generalize Tryz.prog.keyLits 39=KL at k3 k4 ⊢
 simp[k3,k4,zvS]
theorem zq2 (a b:Cal):zaN (zvS a) (zvS b)=decide (a=b):=by
 obtain⟨a1,⟨⟨a2⟩⟩⟩:=a
 obtain⟨b1,⟨⟨b2⟩⟩⟩:=b
 by_cases h1:a1=b1 <;> by_cases h2:a2=b2 <;> simp[zaN,zie,zvS,h1,h2]
def zam (nx:Int) (rs:List zaj):Prop:=nx≤281474976710655∧rs.length≤32∧(∀(i:Nat) r,rs[i]?= some r→zsj r∧r.id < nx∧∀(j:Nat) x,i=j+1→rs[j]?= some x→x.id < r.id)∧(rs.map zdk).Nodup∧∀r∈rs,zvP rs r∧zvQ rs r
structure zxp (K:Xs):Prop where
 ent:zxz K
 hang:zq1 K
 callOf:K 94=none
section
variable {K:Xs} {h:AH} {p:Option Addr} {n c:Nat} {rs:List zaj}
end
end Go.Am
