/-
  WEAKEST CONDITIONS of some functions of this program, printed by a program.
-/
import Derived.Test.YtihmdaifbmchjaaGreatVAbb
import Derived.Test.YtihmdaifbmchjaaGreatRows
set_option linter.unusedVariables false
set_option maxRecDepth 100000
namespace Go.Am
open Go.Proofs
theorem zk2 {K:Xs} (hk:K 133=none) (a:Option Addr) (b d:Nat) (h:AH) (Q:Value→AH→Prop) (H:
 ((65535:Int) < ((b:Nat):Int)→Q (.tuple #[.slice none 0 0,.int .i64 21]) h)∧
 (¬(65535:Int) < ((b:Nat):Int)→∃e:Int→Int→Nat→AH→Prop,(∃n,e 2 0 n h)∧
 ∀(f:Nat) (g:AH),∀(i:Int),∀(j:Int),e i j f g→
 ((j:Int) < ((b:Nat):Int)→zai a fun k l=>(((0:Int)≤j)∧((j:Int) < ((b:Nat):Int))∧
 (∃m o p,ld1 g k (l+Int.toNat j * 1)=some (.slice m o p)∧
 (((65535:Int) < ((o:Nat):Int)→Q (.tuple #[.slice none 0 0,.int .i64 21]) g)∧
 (¬(65535:Int) < ((o:Nat):Int)→∀q:Int,q=IntKind.wrap .i64 (2+((o:Nat):Int))→∀r:Int,r=IntKind.wrap .i64 (i+q)→∀s:Int,s=IntKind.wrap .i64 (j+1)→∃t,t < f∧e r s t g)))))∧
 (¬(j:Int) < ((b:Nat):Int)→((0:Int)≤0∧(0:Int)≤i∧(i:Int)≤9223372036854775807∧(1:Int) * i≤281474976710656)∧∀u,u=g.alloc (.cells ((List.replicate (Int.toNat i) [.int .u8 0]).flatten) 5 false)→
 ∀v:Int,v=IntKind.wrap .u8 ((b:Nat):Int)→∃w,zba .shr .i64 ((b:Nat):Int) 8=some (.int .i64 w)∧
 (∀x:Int,x=IntKind.wrap .u8 w→∀y,y=u.alloc (.cells [.int .u8 v,.int .u8 x] 5 false)→
 ∃z aa ab ac,zal Tryz.prog y .append #[53,53] [(.slice (some ⟨g.next,0,none⟩) (Int.toNat 0) (Int.toNat i)),(.slice (some ⟨u.next,0,none⟩) 2 2)]=some (.slice z aa ab,ac)∧
 (∃ad:Option Addr→Nat→Nat→Int→Nat→AH→Prop,(∃n,ad z aa ab 0 n ac)∧
 ∀(ae:Nat) (af:AH),∀(ag:Option Addr) (ah:Nat) (ai:Nat),∀(aj:Int),ad ag ah ai aj ae af→
 ((aj:Int) < ((b:Nat):Int)→zai a fun ak al=>(((0:Int)≤aj)∧((aj:Int) < ((b:Nat):Int))∧
 (∃am an ao,ld1 af ak (al+Int.toNat aj * 1)=some (.slice am an ao)∧
 (∀ap:Int,ap=IntKind.wrap .u8 ((an:Nat):Int)→∃aq,zba .shr .i64 ((an:Nat):Int) 8=some (.int .i64 aq)∧
 (∀ar:Int,ar=IntKind.wrap .u8 aq→∀au,au=af.alloc (.cells [.int .u8 ap,.int .u8 ar] 5 false)→
 ∃av aw ax ay,zal Tryz.prog au .append #[53,53] [.slice ag ah ai,(.slice (some ⟨af.next,0,none⟩) 2 2)]=some (.slice av aw ax,ay)∧
 (∃az a0 a1 a2,zal Tryz.prog ay .append #[53,53] [.slice av aw ax,.slice am an ao]=some (.slice az a0 a1,a2)∧
 (∀a3:Int,a3=IntKind.wrap .i64 (aj+1)→∃a4,a4 < ae∧ad az a0 a1 a3 a4 a2)))))))∧
 (¬(aj:Int) < ((b:Nat):Int)→Q (.tuple #[.slice ag ah ai,.int .i64 0]) af)))))):
 Wf Tryz.prog K 133 [.slice a b d] h Q:=
  zaf (hs:=[(5,[(4,.int .i64 0),(15,.int .i64 0)]),(14,[(7,.slice none 0 0),(42,.int .i64 0)])]) hk (Eq.mpr (by kernel_rfl) H)
theorem zc2 {K:Xs} (hk:K 97=none) (a:Option Addr) (b d:Nat) (h:AH) (Q:Value→AH→Prop) (H:
 Wf Tryz.prog K 130 [.slice a b d] h fun e f=>
 (∃g i j k,((e=(.tuple #[.int .i64 g,.slice i j k,.bool true])∧
 (∃l:Option Addr→Nat→Nat→Option Addr→Nat→Nat→Int→Nat→AH→Prop,(∃n,l i j k none 0 0 0 n f)∧
 ∀(m:Nat) (o:AH),∀(p:Option Addr) (q:Nat) (r:Nat),∀(s:Option Addr) (t:Nat) (u:Nat),∀(v:Int),l p q r s t u v m o→
 ((v:Int) < g→Wf Tryz.prog K 130 [.slice p q r] o fun w x=>
 (∃y z aa ab,((w=(.tuple #[.int .i64 y,.slice z aa ab,.bool true])∧
 (((((aa:Nat):Int):Int) < y→Q (.tuple #[.slice none 0 0,.int .i64 21]) x)∧
 (¬(((aa:Nat):Int):Int) < y→((0:Int)≤y∧(y:Int)≤y∧(y:Int)≤9223372036854775807∧(1:Int) * y≤281474976710656)∧∀ac,ac=x.alloc (.cells ((List.replicate (Int.toNat y) [.int .u8 0]).flatten) 5 false)→
 ∃(ad:Int) (ae:AH),zal Tryz.prog ac .copy #[53,53] [(.slice (some ⟨x.next,0,none⟩) (Int.toNat y) (Int.toNat y)),.slice z aa ab]=some (.int .i64 ad,ae)∧
 (∀af,af=ae.alloc (.cells [(.slice (some ⟨x.next,0,none⟩) (Int.toNat y) (Int.toNat y))] 53 false)→
 ∃ag ah ai aj,zal Tryz.prog af .append #[155,155] [.slice s t u,(.slice (some ⟨ae.next,0,none⟩) 1 1)]=some (.slice ag ah ai,aj)∧
 (∃ak al am,zar Tryz.prog aj 53 (.slice z aa ab) (some (.int .i64 y)) none none=some (.slice ak al am)∧
 (∀an:Int,an=IntKind.wrap .i64 (v+1)→∃ao,ao < m∧l ak al am ag ah ai an ao aj))))))∨(w=(.tuple #[.int .i64 y,.slice z aa ab,.bool false])∧
 (Q (.tuple #[.slice none 0 0,.int .i64 21]) x)))))∧
 (¬(v:Int) < g→((0:Int) < ((q:Nat):Int)→Q (.tuple #[.slice none 0 0,.int .i64 21]) o)∧
 (¬(0:Int) < ((q:Nat):Int)→Q (.tuple #[.slice s t u,.int .i64 0]) o))))∨(e=(.tuple #[.int .i64 g,.slice i j k,.bool false])∧
 (Q (.tuple #[.slice none 0 0,.int .i64 21]) f))))):
 Wf Tryz.prog K 97 [.slice a b d] h Q:=
  zaf (hs:=[(6,[(0,.slice none 0 0),(6,.slice none 0 0),(20,.int .i64 0)])]) hk (Eq.mpr (by kernel_rfl) H)
theorem zdX {K:Xs} (hk:K 130=none) (a:Option Addr) (b d:Nat) (h:AH) (Q:Value→AH→Prop) (H:
 ((((b:Nat):Int):Int) < 2→Q (.tuple #[.int .i64 0,.slice none 0 0,.bool false]) h)∧
 (¬(((b:Nat):Int):Int) < 2→zai a fun e f=>(((0:Int)≤0)∧((0:Int) < ((b:Nat):Int))∧
 (∃g,ld1 h e f=some (.int .u8 g)∧
 (∀i:Int,i=IntKind.wrap .i64 g→zai a fun j k=>(((0:Int)≤1)∧((1:Int) < ((b:Nat):Int))∧
 (∃l,ld1 h j (k+1)=some (.int .u8 l)∧
 (∀m:Int,m=IntKind.wrap .i64 l→∃n,zba .shl .i64 m 8=some (.int .i64 n)∧
 (∃o,zcd .or .i64 i n=some (.int .i64 o)∧
 (∃p q r,zar Tryz.prog h 53 (.slice a b d) (some (.int .i64 2)) none none=some (.slice p q r)∧
 (Q (.tuple #[.int .i64 o,.slice p q r,.bool true]) h))))))))))):
 Wf Tryz.prog K 130 [.slice a b d] h Q:=
  zaf (hs:=[]) hk (Eq.mpr (by kernel_rfl) H)
end Go.Am
