/-
  WEAKEST CONDITIONS of some functions of this program, printed by a program.
-/
import Derived.Test.YtihmdaifbmchjaaGreatVAbb
import Derived.Test.YtihmdaifbmchjaaGreatRows
set_option linter.unusedVariables false
set_option maxRecDepth 100000
namespace Go.Am
open Go.Proofs
theorem zkX {K:Xs} (hk:K 129=none) (a:Option Addr) (b d:Nat) (h:AH) (Q:Value→AH→Prop) (H:
 ∃e:Int→Int→Nat→AH→Prop,(∃n,e 0 0 n h)∧
 ∀(f:Nat) (g:AH),∀(i:Int),∀(j:Int),e i j f g→
 ((j:Int) < ((b:Nat):Int)→zai a fun k l=>(((0:Int)≤j)∧((j:Int) < ((b:Nat):Int))∧
 (∃m,ld1 g k (l+Int.toNat j * 1)=some (.int .i64 m)∧
 (((m:Int) < 1→Q (.tuple #[.int .i64 0,.bool false]) g)∧
 (¬(m:Int) < 1→((8:Int) < m→Q (.tuple #[.int .i64 0,.bool false]) g)∧
 (¬(8:Int) < m→∀o:Int,o=IntKind.wrap .i64 (i+m)→∀p:Int,p=IntKind.wrap .i64 (j+1)→∃q,q < f∧e o p q g))))))∧
 (¬(j:Int) < ((b:Nat):Int)→Q (.tuple #[.int .i64 i,.bool true]) g)):
 Wf Tryz.prog K 129 [.slice a b d] h Q:=
  zaf (hs:=[(3,[(4,.int .i64 0),(9,.int .i64 0)])]) hk (Eq.mpr (by kernel_rfl) H)
theorem zmM {K:Xs} (hk:K 119=none) (a:Option Addr) (b d:Nat) (e:Option Addr) (f g:Nat) (h:AH) (Q:Value→AH→Prop) (H:
 Wf Tryz.prog K 129 [.slice a b d] h fun i j=>
 (∃k,((i=(.tuple #[.int .i64 k,.bool true])∧
 (((((f:Nat):Int):Int)=((b:Nat):Int)→∃l:Int→Nat→AH→Prop,(∃n,l 0 n j)∧
 ∀(m:Nat) (o:AH),∀(p:Int),l p m o→
 ((p:Int) < ((f:Nat):Int)→zai e fun q r=>(((0:Int)≤p)∧((p:Int) < ((f:Nat):Int))∧
 (∃s,ld1 o q (r+Int.toNat p * 1)=some (.int .u64 s)∧
 (zai a fun t u=>(((0:Int)≤p)∧((p:Int) < ((b:Nat):Int))∧
 (∃v,ld1 o t (u+Int.toNat p * 1)=some (.int .i64 v)∧
 (∀w:Int,w=IntKind.wrap .i64 (8 * v)→∃x,zba .shr .u64 s w=some (.int .u64 x)∧
 (((x:Int)=0→∀y:Int,y=IntKind.wrap .i64 (p+1)→∃z,z < m∧l y z o)∧
 (¬(x:Int)=0→Q (.tuple #[.slice none 0 0,.int .i64 21]) o)))))))))∧
 (¬(p:Int) < ((f:Nat):Int)→((0:Int)≤0∧(0:Int)≤k∧(k:Int)≤9223372036854775807∧(1:Int) * k≤281474976710656)∧∀aa,aa=o.alloc (.cells ((List.replicate (Int.toNat k) [.int .u8 0]).flatten) 5 false)→
 ∃ab:Option Addr→Nat→Nat→Int→Nat→AH→Prop,(∃n,ab (some ⟨o.next,0,none⟩) (Int.toNat 0) (Int.toNat k) 0 n aa)∧
 ∀(ac:Nat) (ad:AH),∀(ae:Option Addr) (af:Nat) (ag:Nat),∀(ah:Int),ab ae af ag ah ac ad→
 ((ah:Int) < ((f:Nat):Int)→zai e fun ai aj=>(((0:Int)≤ah)∧((ah:Int) < ((f:Nat):Int))∧
 (∃ak,ld1 ad ai (aj+Int.toNat ah * 1)=some (.int .u64 ak)∧
 (zai a fun al am=>(((0:Int)≤ah)∧((ah:Int) < ((b:Nat):Int))∧
 (∃an,ld1 ad al (am+Int.toNat ah * 1)=some (.int .i64 an)∧
 (∃ao:Option Addr→Nat→Nat→Int→Nat→AH→Prop,(∃n,ao ae af ag 0 n ad)∧
 ∀(ap:Nat) (aq:AH),∀(ar:Option Addr) (au:Nat) (av:Nat),∀(aw:Int),ao ar au av aw ap aq→
 ((aw:Int) < an→∀ax:Int,ax=IntKind.wrap .i64 (8 * aw)→∃ay,zba .shr .u64 ak ax=some (.int .u64 ay)∧
 (∀az:Int,az=IntKind.wrap .u8 ay→∀a0,a0=aq.alloc (.cells [.int .u8 az] 5 false)→
 ∃a1 a2 a3 a4,zal Tryz.prog a0 .append #[53,53] [.slice ar au av,(.slice (some ⟨aq.next,0,none⟩) 1 1)]=some (.slice a1 a2 a3,a4)∧
 (∀a5:Int,a5=IntKind.wrap .i64 (aw+1)→∃a6,a6 < ap∧ao a1 a2 a3 a5 a6 a4)))∧
 (¬(aw:Int) < an→∀a7:Int,a7=IntKind.wrap .i64 (ah+1)→∃a8,a8 < ac∧ab ar au av a7 a8 aq))))))))∧
 (¬(ah:Int) < ((f:Nat):Int)→Q (.tuple #[.slice ae af ag,.int .i64 0]) ad)))∧
 (¬(((f:Nat):Int):Int)=((b:Nat):Int)→Q (.tuple #[.slice none 0 0,.int .i64 21]) j)))∨(i=(.tuple #[.int .i64 k,.bool false])∧
 (Q (.tuple #[.slice none 0 0,.int .i64 21]) j))))):
 Wf Tryz.prog K 119 [.slice a b d,.slice e f g] h Q:=
  zaf (hs:=[(5,[(30,.int .i64 0)]),(12,[(10,.slice none 0 0),(48,.int .i64 0)]),(15,[(10,.slice none 0 0),(57,.int .i64 0)])]) hk (Eq.mpr (by kernel_rfl) H)
theorem zmN {K:Xs} (hk:K 96=none) (a:Option Addr) (b d:Nat) (e:Option Addr) (f g:Nat) (h:AH) (Q:Value→AH→Prop) (H:
 Wf Tryz.prog K 129 [.slice a b d] h fun i j=>
 (∃k,((i=(.tuple #[.int .i64 k,.bool true])∧
 (((((f:Nat):Int):Int)=k→((0:Int)≤0∧(0:Int)≤((b:Nat):Int)∧(((b:Nat):Int):Int)≤9223372036854775807∧(8:Int) * ((b:Nat):Int)≤281474976710656)∧∀l,l=j.alloc (.cells ((List.replicate (Int.toNat ((b:Nat):Int)) [.int .u64 0]).flatten) 22 false)→
 ∃m:Option Addr→Nat→Nat→Option Addr→Nat→Nat→Int→Nat→AH→Prop,(∃n,m e f g (some ⟨j.next,0,none⟩) (Int.toNat 0) (Int.toNat ((b:Nat):Int)) 0 n l)∧
 ∀(o:Nat) (p:AH),∀(q:Option Addr) (r:Nat) (s:Nat),∀(t:Option Addr) (u:Nat) (v:Nat),∀(w:Int),m q r s t u v w o p→
 ((w:Int) < ((b:Nat):Int)→zai a fun x y=>(((0:Int)≤w)∧((w:Int) < ((b:Nat):Int))∧
 (∃z,ld1 p x (y+Int.toNat w * 1)=some (.int .i64 z)∧
 (∃aa:Int→Int→Nat→AH→Prop,(∃n,aa 0 0 n p)∧
 ∀(ab:Nat) (ac:AH),∀(ad:Int),∀(ae:Int),aa ad ae ab ac→
 ((ae:Int) < z→zai q fun af ag=>(((0:Int)≤ae)∧((ae:Int) < ((r:Nat):Int))∧
 (∃ah,ld1 ac af (ag+Int.toNat ae * 1)=some (.int .u8 ah)∧
 (∀ai:Int,ai=IntKind.wrap .u64 ah→∀aj:Int,aj=IntKind.wrap .i64 (8 * ae)→∃ak,zba .shl .u64 ai aj=some (.int .u64 ak)∧
 (∃al,zcd .or .u64 ad ak=some (.int .u64 al)∧
 (∀am:Int,am=IntKind.wrap .i64 (ae+1)→∃an,an < ab∧aa al am an ac))))))∧
 (¬(ae:Int) < z→∀ao,ao=ac.alloc (.cells [.int .u64 ad] 22 false)→
 ∃ap aq ar au,zal Tryz.prog ao .append #[66,66] [.slice t u v,(.slice (some ⟨ac.next,0,none⟩) 1 1)]=some (.slice ap aq ar,au)∧
 (∃av aw ax,zar Tryz.prog au 53 (.slice q r s) (some (.int .i64 z)) none none=some (.slice av aw ax)∧
 (∀ay:Int,ay=IntKind.wrap .i64 (w+1)→∃az,az < o∧m av aw ax ap aq ar ay az au)))))))∧
 (¬(w:Int) < ((b:Nat):Int)→Q (.tuple #[.slice t u v,.int .i64 0]) p))∧
 (¬(((f:Nat):Int):Int)=k→Q (.tuple #[.slice none 0 0,.int .i64 21]) j)))∨(i=(.tuple #[.int .i64 k,.bool false])∧
 (Q (.tuple #[.slice none 0 0,.int .i64 21]) j))))):
 Wf Tryz.prog K 96 [.slice a b d,.slice e f g] h Q:=
  zaf (hs:=[(6,[(1,.slice none 0 0),(8,.slice none 0 0),(31,.int .i64 0)]),(10,[(11,.int .u64 0),(36,.int .i64 0)])]) hk (Eq.mpr (by kernel_rfl) H)
theorem zfF {K:Xs} (hk:K 127=none)  (h:AH) (Q:Value→AH→Prop) (H:
 ∀a,a=h.alloc (.cells [.int .i64 4,.int .i64 8,.int .i64 4] 3 false)→
 Q (.slice (some ⟨h.next,0,none⟩) 3 3) a):
 Wf Tryz.prog K 127 [] h Q:=
  zaf (hs:=[]) hk (Eq.mpr (by kernel_rfl) H)
theorem zmO {K:Xs} (hk:K 128=none) (a:Int) (b:Int) (d:Int) (h:AH) (Q:Value→AH→Prop) (H:
 ∀e,e=h.alloc (.cells (qL a b d) 42 false)→
 ∃f g i,ldN e h.next 0 3=some (qL f g i)∧
 (∃la4 lb5,zcp Tryz.prog 42 (.agg (qL f g i).toArray)=some la4∧zcp Tryz.prog 42 (.agg #[.int .i64 0,.int .u64 0,.int .u32 0])=some lb5∧
 (zaC la4 lb5=true→Q (.bool true) e)∧
 (zaC la4 lb5=false→∃j,ld1 e h.next 0=some (.int .i64 j)∧
 (((4:Int)≤j→∃k,ld1 e h.next 0=some (.int .i64 k)∧
 (((k:Int) < 1024→∃l,ld1 e h.next 1=some (.int .u64 l)∧
 (((1:Int)≤l→∃m,ld1 e h.next 1=some (.int .u64 m)∧
 (((m:Int)≤281474976710655→Q (.bool true) e)∧
 (¬(m:Int)≤281474976710655→Q (.bool false) e)))∧
 (¬(1:Int)≤l→Q (.bool false) e)))∧
 (¬(k:Int) < 1024→Q (.bool false) e)))∧
 (¬(4:Int)≤j→Q (.bool false) e))))):
 Wf Tryz.prog K 128 [.agg (qL a b d).toArray] h Q:=
  zaf (hs:=[]) hk (Eq.mpr (by kernel_rfl) H)
theorem zmP {K:Xs} (hk:K 120=none) (a:Int) (b:Int) (d:Int) (h:AH) (Q:Value→AH→Prop) (H:
 ∀e,e=h.alloc (.cells (qL a b d) 42 false)→
 ∃f g i,ldN e h.next 0 3=some (qL f g i)∧
 (Wf Tryz.prog K 128 [.agg (qL f g i).toArray] e fun j k=>
 (((j=(.bool true)∧
 (Wf Tryz.prog K 127 [] k fun l m=>
 (∃n o p,l=(.slice n o p)∧
 (∃q,ld1 m h.next 0=some (.int .i64 q)∧
 (∀r:Int,r=IntKind.wrap .u64 q→∃s,ld1 m h.next 1=some (.int .u64 s)∧
 (∃t,ld1 m h.next 2=some (.int .u32 t)∧
 (∀u:Int,u=IntKind.wrap .u64 t→∀v,v=m.alloc (.cells [.int .u64 r,.int .u64 s,.int .u64 u] 22 false)→
 Wf Tryz.prog K 119 [.slice n o p,(.slice (some ⟨m.next,0,none⟩) 3 3)] v fun w x=>
 (∃y z aa ab,w=(.tuple #[.slice y z aa,.int .i64 ab])∧
 ((ld1 k h.next 0=some (.int .i64 q))∧
 ((ld1 m h.next 0=some (.int .i64 q))∧
 ((ld1 k h.next 1=some (.int .u64 s))∧
 ((ld1 m h.next 1=some (.int .u64 s))∧
 ((ld1 k h.next 2=some (.int .u32 t))∧
 ((ld1 m h.next 2=some (.int .u32 t))∧
 (((ab:Int)=0→Q (.tuple #[.slice y z aa,.int .i64 0]) x)∧
 (¬(ab:Int)=0→Q (.tuple #[.slice none 0 0,.int .i64 51]) x))))))))))))))))∨(j=(.bool false)∧
 (Q (.tuple #[.slice none 0 0,.int .i64 51]) k)))))):
 Wf Tryz.prog K 120 [.agg (qL a b d).toArray] h Q:=
  zaf (hs:=[]) hk (Eq.mpr (by kernel_rfl) H)
theorem zoK {K:Xs} (hk:K 95=none) (a:Option Addr) (b d:Nat) (h:AH) (Q:Value→AH→Prop) (H:
 ∀e,e=h.alloc (.cells [.int .i64 0,.int .u64 0,.int .u32 0] 42 false)→
 Wf Tryz.prog K 127 [] e fun f g=>
 (∃i j k,f=(.slice i j k)∧
 (Wf Tryz.prog K 96 [.slice i j k,.slice a b d] g fun l m=>
 (∃n o p q,l=(.tuple #[.slice n o p,.int .i64 q])∧
 (((q:Int)=0→zai n fun r s=>(((0:Int)≤0)∧((0:Int) < ((o:Nat):Int))∧
 (∃t,ld1 m r s=some (.int .u64 t)∧
 (∀u:Int,u=IntKind.wrap .i64 t→zai n fun v w=>(((0:Int)≤1)∧((1:Int) < ((o:Nat):Int))∧
 (∃x,ld1 m v (w+1)=some (.int .u64 x)∧
 (zai n fun y z=>(((0:Int)≤2)∧((2:Int) < ((o:Nat):Int))∧
 (∃aa,ld1 m y (z+2)=some (.int .u64 aa)∧
 (∀ab:Int,ab=IntKind.wrap .u32 aa→∀ac,ac=m.alloc (.cells [.int .i64 0,.int .u64 0,.int .u32 0] 42 false)→
 (3=3)∧∃ad,stN ac m.next 0 (qL u x ab)=some ad∧
 (∃ae af ag,ldN ad m.next 0 3=some (qL ae af ag)∧
 (Wf Tryz.prog K 128 [.agg (qL ae af ag).toArray] ad fun ah ai=>
 (((ah=(.bool true)∧
 (∃aj ak al,ldN ai m.next 0 3=some (qL aj ak al)∧
 ((3=3)∧∃am,stN ai h.next 0 (qL aj ak al)=some am∧
 (∃an ao ap,ldN am h.next 0 3=some (qL an ao ap)∧
 (Q (.tuple #[.agg (qL an ao ap).toArray,.int .i64 0]) am)))))∨(ah=(.bool false)∧
 ((3=3)∧∃aq,stN ai h.next 0 [.int .i64 0,.int .u64 0,.int .u32 0]=some aq∧
 (∃ar au av,ldN aq h.next 0 3=some (qL ar au av)∧
 (Q (.tuple #[.agg (qL ar au av).toArray,.int .i64 51]) aq))))))))))))))))))∧
 (¬(q:Int)=0→(3=3)∧∃aw,stN m h.next 0 [.int .i64 0,.int .u64 0,.int .u32 0]=some aw∧
 (∃ax ay az,ldN aw h.next 0 3=some (qL ax ay az)∧
 (Q (.tuple #[.agg (qL ax ay az).toArray,.int .i64 51]) aw)))))))):
 Wf Tryz.prog K 95 [.slice a b d] h Q:=
  zaf (hs:=[]) hk (Eq.mpr (by kernel_rfl) H)
theorem zkY {K:Xs} (hk:K 165=none) (la0:List Value) (h:AH) (Q:Value→AH→Prop) (H:
 ∀a,a=h.alloc (.cells la0 192 false)→
 ∀b,b=a.alloc (.cells (List.replicate 128 (.int .u8 0):List Value) 112 false)→
 ∀d,d=b.alloc (.cells (List.replicate 128 (.int .u8 0):List Value) 112 false)→
 ∃l3:List Value,ldN d h.next 0 24=some l3∧
 (∃e:Int→Nat→AH→Prop,(∃n,e 0 n d)∧
 ∀(f:Nat) (g:AH),∀(i:Int),e i f g→
 ((i:Int) < 8→((0:Int)≤i)∧((i:Int) < 8)∧(∃j k l,(List.take 3 (List.drop (Int.toNat i * 3) l3))=(qL j k l)∧
 (∀m,m=g.alloc (.cells [.int .i64 0,.int .u64 0,.int .u32 0] 42 false)→
 (3=3)∧∃o,stN m g.next 0 (qL j k l)=some o∧
 (∃p q r,ldN o g.next 0 3=some (qL p q r)∧
 (Wf Tryz.prog K 120 [.agg (qL p q r).toArray] o fun s t=>
 (∃u v w x,s=(.tuple #[.slice u v w,.int .i64 x])∧
 (((x:Int)=0→∀y:Int,y=IntKind.wrap .i64 (i * 16)→∀z:Int,z=IntKind.wrap .i64 (i+1)→∀aa:Int,aa=IntKind.wrap .i64 (z * 16)→∃ab ac ad,zar Tryz.prog t 112 (.pointer (some ⟨b.next,0,none⟩)) (some (.int .i64 y)) (some (.int .i64 aa)) none=some (.slice ab ac ad)∧
 (∃(ae:Int) (af:AH),zal Tryz.prog t .copy #[53,53] [.slice ab ac ad,.slice u v w]=some (.int .i64 ae,af)∧
 (∀ag:Int,ag=IntKind.wrap .i64 (i+1)→∃ah,ah < f∧e ag ah af)))∧
 (¬(x:Int)=0→∃l32:List Value,za1 Tryz.prog 112 #[]=some (.agg l32.toArray)∧
 ((List.length l32=128)∧∃ai,stN t a.next 0 l32=some ai∧
 (∃l34:List Value,ldN ai a.next 0 128=some l34∧
 (Q (.tuple #[.agg l34.toArray,.int .i64 51]) ai)))))))))))∧
 (¬(i:Int) < 8→∃l35:List Value,ldN g b.next 0 128=some l35∧
 ((List.length l35=128)∧∃aj,stN g a.next 0 l35=some aj∧
 (∃l37:List Value,ldN aj a.next 0 128=some l37∧
 (Q (.tuple #[.agg l37.toArray,.int .i64 0]) aj)))))):
 Wf Tryz.prog K 165 [.agg la0.toArray] h Q:=
  zaf (hs:=[(3,[(10,.int .i64 0)])]) hk (Eq.mpr (by kernel_rfl) H)
theorem zmQ {K:Xs} (hk:K 126=none) (la0:List Value) (h:AH) (Q:Value→AH→Prop) (H:
 ∀a,a=h.alloc (.cells la0 112 false)→
 ∀b,b=a.alloc (.cells [.int .i64 0,.int .u64 0,.int .u32 0,.int .i64 0,.int .u64 0,.int .u32 0,.int .i64 0,.int .u64 0,.int .u32 0,.int .i64 0,.int .u64 0,.int .u32 0,.int .i64 0,.int .u64 0,.int .u32 0,.int .i64 0,.int .u64 0,.int .u32 0,.int .i64 0,.int .u64 0,.int .u32 0,.int .i64 0,.int .u64 0,.int .u32 0] 192 false)→
 ∀d,d=b.alloc (.cells [.int .i64 0,.int .u64 0,.int .u32 0,.int .i64 0,.int .u64 0,.int .u32 0,.int .i64 0,.int .u64 0,.int .u32 0,.int .i64 0,.int .u64 0,.int .u32 0,.int .i64 0,.int .u64 0,.int .u32 0,.int .i64 0,.int .u64 0,.int .u32 0,.int .i64 0,.int .u64 0,.int .u32 0,.int .i64 0,.int .u64 0,.int .u32 0] 192 false)→
 ∃e:Int→Nat→AH→Prop,(∃n,e 0 n d)∧
 ∀(f:Nat) (g:AH),∀(i:Int),e i f g→
 ((i:Int) < 8→∀j:Int,j=IntKind.wrap .i64 (i * 16)→∀k:Int,k=IntKind.wrap .i64 (i+1)→∀l:Int,l=IntKind.wrap .i64 (k * 16)→∃m o p,zar Tryz.prog g 112 (.pointer (some ⟨h.next,0,none⟩)) (some (.int .i64 j)) (some (.int .i64 l)) none=some (.slice m o p)∧
 (Wf Tryz.prog K 95 [.slice m o p] g fun q r=>
 (∃s t u v,q=(.tuple #[.agg (qL s t u).toArray,.int .i64 v])∧
 (∀w,w=r.alloc (.cells [.int .i64 0,.int .u64 0,.int .u32 0] 42 false)→
 (3=3)∧∃x,stN w r.next 0 (qL s t u)=some x∧
 (((v:Int)=0→∃y z aa,ldN x r.next 0 3=some (qL y z aa)∧
 (((0:Int)≤i)∧((i:Int) < 8)∧
 ((3=3)∧∃ab,stN x b.next (0+Int.toNat i * 3) (qL y z aa)=some ab∧
 (∀ac:Int,ac=IntKind.wrap .i64 (i+1)→∃ad,ad < f∧e ac ad ab))))∧
 (¬(v:Int)=0→∃l27:List Value,za1 Tryz.prog 192 #[]=some (.agg l27.toArray)∧
 ((List.length l27=24)∧∃ae,stN x a.next 0 l27=some ae∧
 (∃l29:List Value,ldN ae a.next 0 24=some l29∧
 (Q (.tuple #[.agg l29.toArray,.int .i64 51]) ae)))))))))∧
 (¬(i:Int) < 8→∃l30:List Value,ldN g b.next 0 24=some l30∧
 ((List.length l30=24)∧∃af,stN g a.next 0 l30=some af∧
 (∃l32:List Value,ldN af a.next 0 24=some l32∧
 (Q (.tuple #[.agg l32.toArray,.int .i64 0]) af))))):
 Wf Tryz.prog K 126 [.agg la0.toArray] h Q:=
  zaf (hs:=[(3,[(8,.int .i64 0)])]) hk (Eq.mpr (by kernel_rfl) H)
end Go.Am
