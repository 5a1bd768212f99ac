/-
  WEAKEST CONDITIONS of some functions of this program, printed by a program.
-/
import Derived.Test.YtihmdaifbmchjaaGreatVAbb
import Derived.Test.YtihmdaifbmchjaaGreatRows
set_option linter.unusedVariables false
set_option maxRecDepth 100000
namespace Go.Am
open Go.Proofs
theorem zhc {K:Xs} (hk:K 105=none) (a:Int) (h:AH) (Q:Value→AH→Prop) (H:
 ((a:Int) < 64→Q (.int .i64 0) h)∧
 (¬(a:Int) < 64→((1024:Int) < a→Q (.int .i64 0) h)∧
 (¬(1024:Int) < a→∀b:Int,b=IntKind.wrap .i64 (a+1)→(2≠(0:Int))∧(∀d:Int,d=IntKind.wrap .i64 (Int.tdiv b 2)→∀e:Int,e=IntKind.wrap .i64 (5 * d)→∀f:Int,f=IntKind.wrap .i64 (2+e)→Q (.int .i64 f) h)))):
 Wf Tryz.prog K 105 [.int .i64 a] h Q:=
  zaf (hs:=[]) hk (Eq.mpr (by kernel_rfl) H)
abbrev zfK (K:Xs) (Q:Value→AH→Prop) (g:Value) (i:AH) (e:Int):Prop:=
 (∃j k l,g=(.slice j k l)∧
 (Wf Tryz.prog K 142 [.slice j k l] i fun m n=>
 (∃o p q r,m=(.tuple #[.slice o p q,.int .i64 r])∧
 (((r:Int)=0→∀s:Int,s=IntKind.wrap .i64 (2+((p:Nat):Int))→((e:Int) < s→Q (.tuple #[.slice none 0 0,.int .i64 81]) n)∧
 (¬(e:Int) < s→∀t,t=n.alloc (.cells [.int .i64 2] 3 false)→
 ∀u:Int,u=IntKind.wrap .u64 ((k:Nat):Int)→∀v,v=t.alloc (.cells [.int .u64 u] 22 false)→
 Wf Tryz.prog K 119 [(.slice (some ⟨n.next,0,none⟩) 1 1),(.slice (some ⟨t.next,0,none⟩) 1 1)] v fun w x=>
 (∃y z aa ab,w=(.tuple #[.slice y z aa,.int .i64 ab])∧
 (((ab:Int)=0→((0:Int)≤e∧(e:Int)≤e∧(e:Int)≤9223372036854775807∧(1:Int) * e≤281474976710656)∧∀ac,ac=x.alloc (.cells ((List.replicate (Int.toNat e) [.int .u8 0]).flatten) 5 false)→
 ∃(ad:Int) (ae:AH),zal Tryz.prog ac .copy #[53,53] [(.slice (some ⟨x.next,0,none⟩) (Int.toNat e) (Int.toNat e)),.slice y z aa]=some (.int .i64 ad,ae)∧
 (∃af ag ah,zar Tryz.prog ae 53 (.slice (some ⟨x.next,0,none⟩) (Int.toNat e) (Int.toNat e)) (some (.int .i64 2)) none none=some (.slice af ag ah)∧
 (∃(ai:Int) (aj:AH),zal Tryz.prog ae .copy #[53,53] [.slice af ag ah,.slice o p q]=some (.int .i64 ai,aj)∧
 (Q (.tuple #[(.slice (some ⟨x.next,0,none⟩) (Int.toNat e) (Int.toNat e)),.int .i64 0]) aj))))∧
 (¬(ab:Int)=0→Q (.tuple #[.slice none 0 0,.int .i64 81]) x)))))∧
 (¬(r:Int)=0→Q (.tuple #[.slice none 0 0,.int .i64 81]) n)))))
theorem zk6 {K:Xs} (hk:K 108=none) (a:Int) (b:Option Addr) (d e:Nat) (f:AH) (Q:Value→AH→Prop) (H:
 Wf Tryz.prog K 105 [.int .i64 a] f fun g i=>
 (∃j,g=(.int .i64 j)∧
 (((j:Int)=0→Q (.tuple #[.slice none 0 0,.int .i64 81]) i)∧
 (¬(j:Int)=0→Wf Tryz.prog K 140 [.slice b d e] i fun k l=>
 (((k=(.bool true)∧
 (((0:Int) < ((d:Nat):Int)→∀m:Int,m=IntKind.wrap .i64 (((d:Nat):Int) - 1)→zai b fun n o=>(((0:Int)≤m)∧((m:Int) < ((d:Nat):Int))∧
 (∃p q,ldN l n (o+Int.toNat m * 2) 2=some [.int .i64 p,.int .i64 q]∧
 (∀r,r=l.alloc (.cells [.int .i64 0,.int .i64 0] 90 false)→
 (2=2)∧∃s,stN r l.next 0 [.int .i64 p,.int .i64 q]=some s∧
 (zai b fun t u=>(((0:Int)≤0)∧((0:Int) < ((d:Nat):Int))∧
 (∃v,ld1 s t u=some (.int .i64 v)∧
 (((v:Int) < 4→Q (.tuple #[.slice none 0 0,.int .i64 81]) s)∧
 (¬(v:Int) < 4→∃w,ld1 s l.next 0=some (.int .i64 w)∧
 (∃x,ld1 s l.next 1=some (.int .i64 x)∧
 (∀y:Int,y=IntKind.wrap .i64 (w+x)→((a:Int) < y→Q (.tuple #[.slice none 0 0,.int .i64 81]) s)∧
 (¬(a:Int) < y→Wf Tryz.prog K 141 [.slice b d e] s fun z aa=>
 (zfK K Q z aa j)))))))))))))∧
 (¬(0:Int) < ((d:Nat):Int)→Wf Tryz.prog K 141 [.slice b d e] l fun ab ac=>
 (zfK K Q ab ac j))))∨(k=(.bool false)∧
 (Q (.tuple #[.slice none 0 0,.int .i64 81]) l)))))))):
 Wf Tryz.prog K 108 [.int .i64 a,.slice b d e] f Q:=
  zaf (hs:=[]) hk (Eq.mpr (by kernel_rfl) H)
theorem zjr {K:Xs} (hk:K 68=none) (a:Int) (b:Option Addr) (d e:Nat) (h:AH) (Q:Value→AH→Prop) (H:
 Wf Tryz.prog K 105 [.int .i64 a] h fun f g=>
 (∃i,f=(.int .i64 i)∧
 (((i:Int)=0→Q (.tuple #[.slice none 0 0,.int .i64 81]) g)∧
 (¬(i:Int)=0→((((d:Nat):Int):Int)=i→∀j,j=g.alloc (.cells [.int .i64 2] 3 false)→
 ∃k l m,zar Tryz.prog j 53 (.slice b d e) none (some (.int .i64 2)) none=some (.slice k l m)∧
 (Wf Tryz.prog K 96 [(.slice (some ⟨g.next,0,none⟩) 1 1),.slice k l m] j fun n o=>
 (∃p q r s,n=(.tuple #[.slice p q r,.int .i64 s])∧
 (((s:Int)=0→zai p fun t u=>(((0:Int)≤0)∧((0:Int) < ((q:Nat):Int))∧
 (∃v,ld1 o t u=some (.int .u64 v)∧
 (∀w:Int,w=IntKind.wrap .i64 (i - 2)→(5≠(0:Int))∧(∀x:Int,x=IntKind.wrap .i64 (Int.tdiv w 5)→∀y:Int,y=IntKind.wrap .u64 x→((y:Int) < v→Q (.tuple #[.slice none 0 0,.int .i64 81]) o)∧
 (¬(y:Int) < v→zai p fun z aa=>(((0:Int)≤0)∧((0:Int) < ((q:Nat):Int))∧
 (∃ab,ld1 o z aa=some (.int .u64 ab)∧
 (∀ac:Int,ac=IntKind.wrap .i64 ab→∀ad:Int,ad=IntKind.wrap .i64 (5 * ac)→∀ae:Int,ae=IntKind.wrap .i64 (2+ad)→∃af ag ah,zar Tryz.prog o 53 (.slice b d e) (some (.int .i64 2)) (some (.int .i64 ae)) none=some (.slice af ag ah)∧
 (Wf Tryz.prog K 106 [.slice af ag ah] o fun ai aj=>
 (∃ak al am an,ai=(.tuple #[.slice ak al am,.int .i64 an])∧
 (((an:Int)=0→Wf Tryz.prog K 107 [.slice none 0 0,.slice ak al am] aj fun ao ap=>
 (∃aq ar au av,ao=(.tuple #[.slice aq ar au,.int .i64 av])∧
 (((av:Int)=0→Wf Tryz.prog K 108 [.int .i64 a,.slice aq ar au] ap fun aw ax=>
 (∃ay az a0 a1,aw=(.tuple #[.slice ay az a0,.int .i64 a1])∧
 (((a1:Int)=0→Wf Tryz.prog K 100 [.slice ay az a0,.slice b d e] ax fun a2 a3=>
 (((a2=(.bool true)∧
 (Q (.tuple #[.slice aq ar au,.int .i64 0]) a3))∨(a2=(.bool false)∧
 (Q (.tuple #[.slice none 0 0,.int .i64 81]) a3)))))∧
 (¬(a1:Int)=0→Q (.tuple #[.slice none 0 0,.int .i64 81]) ax))))∧
 (¬(av:Int)=0→Q (.tuple #[.slice none 0 0,.int .i64 81]) ap))))∧
 (¬(an:Int)=0→Q (.tuple #[.slice none 0 0,.int .i64 81]) aj)))))))))))))∧
 (¬(s:Int)=0→Q (.tuple #[.slice none 0 0,.int .i64 81]) o)))))∧
 (¬(((d:Nat):Int):Int)=i→Q (.tuple #[.slice none 0 0,.int .i64 81]) g))))):
 Wf Tryz.prog K 68 [.int .i64 a,.slice b d e] h Q:=
  zaf (hs:=[]) hk (Eq.mpr (by kernel_rfl) H)
theorem ziy {K:Xs} (hk:K 74=none) (a:Int) (b:Option Addr) (d e:Nat) (h:AH) (Q:Value→AH→Prop) (H:
 ∀f,f=h.alloc (.cells (bC a b d e) 25 false)→
 ∃g,ld1 f h.next 0=some (.int .u64 g)∧
 (∃i j k,ld1 f h.next 1=some (.slice i j k)∧
 (Wf Tryz.prog K 99 (bC g i j k) f fun l m=>
 (∃n o p q,l=(.tuple #[.slice n o p,.int .i64 q])∧
 (((q:Int)=0→((65535:Int) < ((o:Nat):Int)→Q (.tuple #[.slice none 0 0,.int .i64 151]) m)∧
 (¬(65535:Int) < ((o:Nat):Int)→Q (.tuple #[.slice n o p,.int .i64 0]) m))∧
 (¬(q:Int)=0→Q (.tuple #[.slice none 0 0,.int .i64 151]) m)))))):
 Wf Tryz.prog K 74 [.agg (bC a b d e).toArray] h Q:=
  zaf (hs:=[]) hk (Eq.mpr (by kernel_rfl) H)
theorem zm3 {K:Xs} (hk:K 76=none) (a:Option Addr) (b d:Nat) (e:Int) (h:AH) (Q:Value→AH→Prop) (H:
 Wf Tryz.prog K 114 [(.int .i64 ((b:Nat):Int))] h fun f g=>
 (∃i,f=(.int .i64 i)∧
 (∀j:Int,j=IntKind.wrap .i64 (1+i)→Wf Tryz.prog K 105 [.int .i64 e] g fun k l=>
 (∃m,k=(.int .i64 m)∧
 (Wf Tryz.prog K 114 [.int .i64 m] l fun n o=>
 (∃p,n=(.int .i64 p)∧
 (∀q:Int,q=IntKind.wrap .i64 (j+p)→Q (.int .i64 q) o))))))):
 Wf Tryz.prog K 76 [.slice a b d,.int .i64 e] h Q:=
  zaf (hs:=[]) hk (Eq.mpr (by kernel_rfl) H)
theorem zm4 {K:Xs} (hk:K 53=none) (a:Option Addr) (b:Int) (d:Option Addr) (e f:Nat) (g:Option Addr) (i j:Nat) (k:AH) (Q:Value→AH→Prop) (H:
 ∀l,l=k.alloc (.cells (bC b d e f) 25 false)→
 ∀m,m=l.alloc (.cells [.int .i64 0,.int .u64 0,.int .u32 0] 42 false)→
 ∃o p q r,ldN m k.next 0 2=some (bC o p q r)∧
 (Wf Tryz.prog K 74 [.agg (bC o p q r).toArray] m fun s t=>
 (∃u v w x,s=(.tuple #[.slice u v w,.int .i64 x])∧
 (((x:Int)=0→∃y:Int→Nat→AH→Prop,(∃n,y 0 n t)∧
 ∀(z:Nat) (aa:AH),∀(ab:Int),y ab z aa→
 ((ab:Int) < ((i:Nat):Int)→zai g fun ac ad=>(((0:Int)≤ab)∧((ab:Int) < ((i:Nat):Int))∧
 (∃ae af ag,ldN aa ac (ad+Int.toNat ab * 3) 3=some (qL ae af ag)∧
 (∀ah,ah=aa.alloc (.cells [.int .i64 0,.int .u64 0,.int .u32 0] 42 false)→
 (3=3)∧∃ai,stN ah aa.next 0 (qL ae af ag)=some ai∧
 (∃aj ak al,ldN ai aa.next 0 3=some (qL aj ak al)∧
 (Wf Tryz.prog K 75 [.pointer a,.agg (qL aj ak al).toArray] ai fun am an=>
 (∃ao,am=(.int .i64 ao)∧
 (∀ap:Int,ap=IntKind.wrap .i64 (ab+1)→∃aq,aq < z∧y ap aq an))))))))∧
 (¬(ab:Int) < ((i:Nat):Int)→Wf Tryz.prog K 34 [.pointer a] aa fun ar au=>
 (∃av:Option Addr,ar=(.pointer av)∧
 (Wf Tryz.prog K 29 [.pointer av] au fun aw ax=>
 (∃ay,aw=(.int .i64 ay)∧
 (Wf Tryz.prog K 76 [.slice u v w,.int .i64 ay] ax fun az a0=>
 (∃a1,az=(.int .i64 a1)∧
 (Wf Tryz.prog K 9 [.pointer a] a0 fun a2 a3=>
 (∃a4:Option Addr,a2=(.pointer a4)∧
 (Wf Tryz.prog K 22 [.pointer a4] a3 fun a5 a6=>
 (∃a7,a5=(.int .i64 a7)∧
 (((a7:Int) < a1→(3=3)∧∃a8,stN a6 l.next 0 [.int .i64 0,.int .u64 0,.int .u32 0]=some a8∧
 (∃a9 ba bb,ldN a8 l.next 0 3=some (qL a9 ba bb)∧
 (Q (.tuple #[.agg (qL a9 ba bb).toArray,.slice none 0 0,.int .i64 71]) a8)))∧
 (¬(a7:Int) < a1→Wf Tryz.prog K 9 [.pointer a] a6 fun bc bd=>
 (∃be:Option Addr,bc=(.pointer be)∧
 (Wf Tryz.prog K 14 [.pointer be,.int .i64 a1] bd fun bf bg=>
 (∃bh bi bj bk,bf=(.tuple #[.slice bh bi bj,.int .i64 bk])∧
 (((bk:Int)=0→Wf Tryz.prog K 77 [.pointer a,.slice u v w,.slice bh bi bj] bg fun bl bm=>
 (∃bn bo bp bq br bs bt,bl=(.tuple #[.agg (qL bn bo bp).toArray,.slice bq br bs,.int .i64 bt])∧
 ((3=3)∧∃bu,stN bm l.next 0 (qL bn bo bp)=some bu∧
 (∃bv bw bx,ldN bu l.next 0 3=some (qL bv bw bx)∧
 (Q (.tuple #[.agg (qL bv bw bx).toArray,.slice bq br bs,.int .i64 bt]) bu)))))∧
 (¬(bk:Int)=0→(3=3)∧∃bz,stN bg l.next 0 [.int .i64 0,.int .u64 0,.int .u32 0]=some bz∧
 (∃b0 b1 b2,ldN bz l.next 0 3=some (qL b0 b1 b2)∧
 (Q (.tuple #[.agg (qL b0 b1 b2).toArray,.slice none 0 0,.int .i64 bk]) bz))))))))))))))))))))∧
 (¬(x:Int)=0→(3=3)∧∃b3,stN t l.next 0 [.int .i64 0,.int .u64 0,.int .u32 0]=some b3∧
 (∃b4 b5 b6,ldN b3 l.next 0 3=some (qL b4 b5 b6)∧
 (Q (.tuple #[.agg (qL b4 b5 b6).toArray,.slice none 0 0,.int .i64 x]) b3))))))):
 Wf Tryz.prog K 53 [.pointer a,.agg (bC b d e f).toArray,.slice g i j] k Q:=
  zaf (hs:=[(5,[(26,.int .i64 0)])]) hk (Eq.mpr (by kernel_rfl) H)
theorem zk7 {K:Xs} (hk:K 77=none) (a:Option Addr) (b:Option Addr) (d e:Nat) (f:Option Addr) (g i:Nat) (j:AH) (Q:Value→AH→Prop) (H:
 ∀k,k=j.alloc (.cells [.int .i64 0,.int .u64 0,.int .u32 0] 42 false)→
 Wf Tryz.prog K 114 [(.int .i64 ((d:Nat):Int))] k fun l m=>
 (∃n,l=(.int .i64 n)∧
 (∀o:Int,o=IntKind.wrap .i64 (((g:Nat):Int) - 1)→∃p q r,zar Tryz.prog m 48 (.slice f g i) none (some (.int .i64 n)) none=some (.slice p q r)∧
 (Wf Tryz.prog K 115 [.pointer a,.slice b d e,.slice p q r] m fun s t=>
 (∃u v w x,s=(.tuple #[.agg (qL u v w).toArray,.int .i64 x])∧
 (∀y,y=t.alloc (.cells [.int .i64 0,.int .u64 0,.int .u32 0] 42 false)→
 (3=3)∧∃z,stN y t.next 0 (qL u v w)=some z∧
 (((x:Int)=0→Wf Tryz.prog K 34 [.pointer a] z fun aa ab=>
 (∃ac:Option Addr,aa=(.pointer ac)∧
 (Wf Tryz.prog K 29 [.pointer ac] ab fun ad ae=>
 (∃af,ad=(.int .i64 af)∧
 (Wf Tryz.prog K 9 [.pointer a] ae fun ag ah=>
 (∃ai:Option Addr,ag=(.pointer ai)∧
 (Wf Tryz.prog K 10 [.pointer ai] ah fun aj ak=>
 (∃al am an,aj=(.slice al am an)∧
 (Wf Tryz.prog K 108 [.int .i64 af,.slice al am an] ak fun ao ap=>
 (∃aq ar au av,ao=(.tuple #[.slice aq ar au,.int .i64 av])∧
 (((av:Int)=0→∃aw ax ay,zar Tryz.prog ap 48 (.slice f g i) (some (.int .i64 n)) (some (.int .i64 o)) none=some (.slice aw ax ay)∧
 (Wf Tryz.prog K 115 [.pointer a,.slice aq ar au,.slice aw ax ay] ap fun az a0=>
 (∃a1 a2 a3 a4,az=(.tuple #[.agg (qL a1 a2 a3).toArray,.int .i64 a4])∧
 (∀a5,a5=a0.alloc (.cells [.int .i64 0,.int .u64 0,.int .u32 0] 42 false)→
 (3=3)∧∃a6,stN a5 a0.next 0 (qL a1 a2 a3)=some a6∧
 (((a4:Int)=0→∃a7 a8 a9,ldN a6 t.next 0 3=some (qL a7 a8 a9)∧
 (∃ba bb bc,ldN a6 a0.next 0 3=some (qL ba bb bc)∧
 (Wf Tryz.prog K 116 [.agg (qL a7 a8 a9).toArray,(.int .i64 ((d:Nat):Int)),.agg (qL ba bb bc).toArray,(.int .i64 ((ar:Nat):Int))] a6 fun bd be=>
 (∃bf bg bh bi,bd=(.tuple #[.slice bf bg bh,.int .i64 bi])∧
 (((bi:Int)=0→zai f fun bj bk=>(((0:Int)≤o)∧((o:Int) < ((g:Nat):Int))∧
 (∃bl,ld1 be bj (bk+Int.toNat o * 1)=some (.int .i64 bl)∧
 (Wf Tryz.prog K 117 [.pointer a,.int .i64 bl,.slice bf bg bh] be fun bm bn=>
 (∃bo bp bq br,bm=(.tuple #[.agg (qL bo bp bq).toArray,.int .i64 br])∧
 (∀bs,bs=bn.alloc (.cells [.int .i64 0,.int .u64 0,.int .u32 0] 42 false)→
 (3=3)∧∃bt,stN bs bn.next 0 (qL bo bp bq)=some bt∧
 (((br:Int)=0→∃bu bv bw,ldN bt t.next 0 3=some (qL bu bv bw)∧
 (Wf Tryz.prog K 63 [.pointer a,.agg (qL bu bv bw).toArray,(.int .i64 ((d:Nat):Int))] bt fun bx bz=>
 (∃b0 b1 b2 b3 b4 b5 b6,bx=(.tuple #[.slice b0 b1 b2,.slice b3 b4 b5,.int .i64 b6])∧
 (((b6:Int)=0→∃b7 b8 b9,ldN bz a0.next 0 3=some (qL b7 b8 b9)∧
 (Wf Tryz.prog K 63 [.pointer a,.agg (qL b7 b8 b9).toArray,(.int .i64 ((ar:Nat):Int))] bz fun da db=>
 (∃dc dd de df dg dh di,da=(.tuple #[.slice dc dd de,.slice df dg dh,.int .i64 di])∧
 (((di:Int)=0→∃dj dk dl,ldN db bn.next 0 3=some (qL dj dk dl)∧
 (∀dm,dm=db.alloc (.cells (qL dj dk dl) 42 false)→
 ∀dn,dn=dm.alloc (.cells [(.slice (some ⟨db.next,0,none⟩) 1 1),.slice b3 b4 b5,.slice df dg dh] 60 false)→
 Wf Tryz.prog K 69 [(.slice (some ⟨dm.next,0,none⟩) 3 3)] dn fun dp dq=>
 (∃dr ds dt,dp=(.slice dr ds dt)∧
 (∃du dv dw,ldN dq bn.next 0 3=some (qL du dv dw)∧
 ((3=3)∧∃dx,stN dq j.next 0 (qL du dv dw)=some dx∧
 ((ldN dn bn.next 0 3=some (qL du dv dw))∧
 ((ldN dq bn.next 0 3=some (qL du dv dw))∧
 (∃dy dz d0,ldN dx j.next 0 3=some (qL dy dz d0)∧
 (Q (.tuple #[.agg (qL dy dz d0).toArray,.slice dr ds dt,.int .i64 0]) dx)))))))))∧
 (¬(di:Int)=0→(3=3)∧∃d1,stN db j.next 0 [.int .i64 0,.int .u64 0,.int .u32 0]=some d1∧
 (∃d2 d3 d4,ldN d1 j.next 0 3=some (qL d2 d3 d4)∧
 (Q (.tuple #[.agg (qL d2 d3 d4).toArray,.slice none 0 0,.int .i64 di]) d1)))))))∧
 (¬(b6:Int)=0→(3=3)∧∃d5,stN bz j.next 0 [.int .i64 0,.int .u64 0,.int .u32 0]=some d5∧
 (∃d6 d7 d8,ldN d5 j.next 0 3=some (qL d6 d7 d8)∧
 (Q (.tuple #[.agg (qL d6 d7 d8).toArray,.slice none 0 0,.int .i64 b6]) d5)))))))∧
 (¬(br:Int)=0→(3=3)∧∃d9,stN bt j.next 0 [.int .i64 0,.int .u64 0,.int .u32 0]=some d9∧
 (∃ea eb ec,ldN d9 j.next 0 3=some (qL ea eb ec)∧
 (Q (.tuple #[.agg (qL ea eb ec).toArray,.slice none 0 0,.int .i64 br]) d9))))))))))∧
 (¬(bi:Int)=0→(3=3)∧∃ed,stN be j.next 0 [.int .i64 0,.int .u64 0,.int .u32 0]=some ed∧
 (∃ee ef eg,ldN ed j.next 0 3=some (qL ee ef eg)∧
 (Q (.tuple #[.agg (qL ee ef eg).toArray,.slice none 0 0,.int .i64 bi]) ed))))))))∧
 (¬(a4:Int)=0→(3=3)∧∃eh,stN a6 j.next 0 [.int .i64 0,.int .u64 0,.int .u32 0]=some eh∧
 (∃ei ej ek,ldN eh j.next 0 3=some (qL ei ej ek)∧
 (Q (.tuple #[.agg (qL ei ej ek).toArray,.slice none 0 0,.int .i64 a4]) eh))))))))∧
 (¬(av:Int)=0→(3=3)∧∃el,stN ap j.next 0 [.int .i64 0,.int .u64 0,.int .u32 0]=some el∧
 (∃em en eo,ldN el j.next 0 3=some (qL em en eo)∧
 (Q (.tuple #[.agg (qL em en eo).toArray,.slice none 0 0,.int .i64 av]) el))))))))))))))∧
 (¬(x:Int)=0→(3=3)∧∃ep,stN z j.next 0 [.int .i64 0,.int .u64 0,.int .u32 0]=some ep∧
 (∃eq er es,ldN ep j.next 0 3=some (qL eq er es)∧
 (Q (.tuple #[.agg (qL eq er es).toArray,.slice none 0 0,.int .i64 x]) ep)))))))))):
 Wf Tryz.prog K 77 [.pointer a,.slice b d e,.slice f g i] j Q:=
  zaf (hs:=[]) hk (Eq.mpr (by kernel_rfl) H)
theorem ziz {K:Xs} (hk:K 116=none) (a:Int) (b:Int) (d:Int) (e:Int) (f:Int) (g:Int) (i:Int) (j:Int) (h:AH) (Q:Value→AH→Prop) (H:
 ∀k,k=h.alloc (.cells (qL a b d) 42 false)→
 ∀l,l=k.alloc (.cells (qL f g i) 42 false)→
 ∃m o p,ldN l h.next 0 3=some (qL m o p)∧
 (∃q r s,ldN l k.next 0 3=some (qL q r s)∧
 (∀t,t=l.alloc (.cells [.int .i64 m,.int .u64 o,.int .u32 p,.int .i64 e,.int .i64 q,.int .u64 r,.int .u32 s,.int .i64 j] 212 false)→
 ∃u:Option Addr→Nat→Nat→Int→Nat→AH→Prop,(∃n,u none 0 0 0 n t)∧
 ∀(v:Nat) (w:AH),∀(x:Option Addr) (y:Nat) (z:Nat),∀(aa:Int),u x y z aa v w→
 ((aa:Int) < 2→((0:Int)≤aa)∧((aa:Int) < ((2:Nat):Int))∧
 (∃ab ac ad ae,ldN w l.next (0+Int.toNat aa * 4) 4=some [.int .i64 ab,.int .u64 ac,.int .u32 ad,.int .i64 ae]∧
 (∀af,af=w.alloc (.cells [.int .i64 0,.int .u64 0,.int .u32 0,.int .i64 0] 212 false)→
 (4=4)∧∃ag,stN af w.next 0 [.int .i64 ab,.int .u64 ac,.int .u32 ad,.int .i64 ae]=some ag∧
 (∃ah ai aj,ldN ag w.next 0 3=some (qL ah ai aj)∧
 (Wf Tryz.prog K 120 [.agg (qL ah ai aj).toArray] ag fun ak al=>
 (∃am an ao ap,ak=(.tuple #[.slice am an ao,.int .i64 ap])∧
 (((ap:Int)=0→∀aq,aq=al.alloc (.cells [.int .i64 4] 3 false)→
 ∃ar,ld1 aq w.next 3=some (.int .i64 ar)∧
 (∀au:Int,au=IntKind.wrap .u64 ar→∀av,av=aq.alloc (.cells [.int .u64 au] 22 false)→
 Wf Tryz.prog K 119 [(.slice (some ⟨al.next,0,none⟩) 1 1),(.slice (some ⟨aq.next,0,none⟩) 1 1)] av fun aw ax=>
 (∃ay az a0 a1,aw=(.tuple #[.slice ay az a0,.int .i64 a1])∧
 (((a1:Int)=0→∃a2 a3 a4 a5,zal Tryz.prog ax .append #[53,53] [.slice x y z,.slice am an ao]=some (.slice a2 a3 a4,a5)∧
 (∃a6 a7 a8 a9,zal Tryz.prog a5 .append #[53,53] [.slice a2 a3 a4,.slice ay az a0]=some (.slice a6 a7 a8,a9)∧
 (∀ba:Int,ba=IntKind.wrap .i64 (aa+1)→∃bb,bb < v∧u a6 a7 a8 ba bb a9)))∧
 (¬(a1:Int)=0→Q (.tuple #[.slice none 0 0,.int .i64 a1]) ax)))))∧
 (¬(ap:Int)=0→Q (.tuple #[.slice none 0 0,.int .i64 ap]) al))))))))∧
 (¬(aa:Int) < 2→Q (.tuple #[.slice x y z,.int .i64 0]) w)))):
 Wf Tryz.prog K 116 [.agg (qL a b d).toArray,.int .i64 e,.agg (qL f g i).toArray,.int .i64 j] h Q:=
  zaf (hs:=[(3,[(10,.slice none 0 0),(24,.int .i64 0)])]) hk (Eq.mpr (by kernel_rfl) H)
abbrev zdY (K:Xs) (Q:Value→AH→Prop) (bc:Int) (bd:AH) (k:AH):Prop:=
 (¬(bc:Int)=0→Wf Tryz.prog K 64 [.int .i64 bc] bd fun be bf=>
 (∃bg,be=(.int .i64 bg)∧
 ((2=2)∧∃bh,stN bf k.next 0 [.int .u64 0,.slice none 0 0]=some bh∧
 (∃bi bj bk bl,ldN bh k.next 0 2=some (bC bi bj bk bl)∧
 (Q (.tuple #[.agg (bC bi bj bk bl).toArray,.slice none 0 0,.slice none 0 0,.int .i64 bg]) bh)))))
theorem zm5 {K:Xs} (hk:K 44=none) (a:Option Addr) (b:Int) (d:Int) (e:Int) (f:AH) (Q:Value→AH→Prop) (H:
 ∀g,g=f.alloc (.cells (qL b d e) 42 false)→
 ∀i,i=g.alloc (.cells [.int .u64 0,.slice none 0 0] 25 false)→
 ∃j k l,ldN i f.next 0 3=some (qL j k l)∧
 (Wf Tryz.prog K 63 [.pointer a,.agg (qL j k l).toArray,.int .i64 40] i fun m n=>
 (∃o p q r s t u,m=(.tuple #[.slice o p q,.slice r s t,.int .i64 u])∧
 (((u:Int)=0→∃v w x,zar Tryz.prog n 53 (.slice o p q) none (some (.int .i64 20)) none=some (.slice v w x)∧
 (Wf Tryz.prog K 65 [.pointer a,.slice v w x] n fun y z=>
 (∃aa ab ac ad ae af ag,y=(.tuple #[.slice aa ab ac,.slice ad ae af,.int .i64 ag])∧
 (((ag:Int)=0→∃ah ai aj,zar Tryz.prog z 53 (.slice o p q) (some (.int .i64 20)) none none=some (.slice ah ai aj)∧
 (Wf Tryz.prog K 65 [.pointer a,.slice ah ai aj] z fun ak al=>
 (∃am an ao ap aq ar au,ak=(.tuple #[.slice am an ao,.slice ap aq ar,.int .i64 au])∧
 (((au:Int)=0→Wf Tryz.prog K 66 [.slice aa ab ac] al fun av aw=>
 (∃ax ay az a0 a1,av=(.tuple #[.int .u64 ax,.slice ay az a0,.int .i64 a1])∧
 (((a1:Int)=0→Wf Tryz.prog K 67 (bC ax ay az a0) aw fun a2 a3=>
 (((a2=(.bool true)∧
 (Wf Tryz.prog K 34 [.pointer a] a3 fun a4 a5=>
 (∃a6:Option Addr,a4=(.pointer a6)∧
 (Wf Tryz.prog K 29 [.pointer a6] a5 fun a7 a8=>
 (∃a9,a7=(.int .i64 a9)∧
 (Wf Tryz.prog K 68 [.int .i64 a9,.slice am an ao] a8 fun ba bb=>
 (∃bc bd be bf,ba=(.tuple #[.slice bc bd be,.int .i64 bf])∧
 (((bf:Int)=0→∀bg,bg=bb.alloc (.cells [.slice r s t,.slice ad ae af,.slice ap aq ar] 60 false)→
 Wf Tryz.prog K 69 [(.slice (some ⟨bb.next,0,none⟩) 3 3)] bg fun bh bi=>
 (∃bj bk bl,bh=(.slice bj bk bl)∧
 ((2=2)∧∃bm,stN bi g.next 0 (bC ax ay az a0)=some bm∧
 (∃bn bo bp bq,ldN bm g.next 0 2=some (bC bn bo bp bq)∧
 (Q (.tuple #[.agg (bC bn bo bp bq).toArray,.slice bc bd be,.slice bj bk bl,.int .i64 0]) bm)))))∧
 (¬(bf:Int)=0→(2=2)∧∃br,stN bb g.next 0 [.int .u64 0,.slice none 0 0]=some br∧
 (∃bs bt bu bv,ldN br g.next 0 2=some (bC bs bt bu bv)∧
 (Q (.tuple #[.agg (bC bs bt bu bv).toArray,.slice none 0 0,.slice none 0 0,.int .i64 91]) br)))))))))))∨(a2=(.bool false)∧
 ((2=2)∧∃bw,stN a3 g.next 0 [.int .u64 0,.slice none 0 0]=some bw∧
 (∃bx bz b0 b1,ldN bw g.next 0 2=some (bC bx bz b0 b1)∧
 (Q (.tuple #[.agg (bC bx bz b0 b1).toArray,.slice none 0 0,.slice none 0 0,.int .i64 91]) bw)))))))∧
 (¬(a1:Int)=0→(2=2)∧∃b2,stN aw g.next 0 [.int .u64 0,.slice none 0 0]=some b2∧
 (∃b3 b4 b5 b6,ldN b2 g.next 0 2=some (bC b3 b4 b5 b6)∧
 (Q (.tuple #[.agg (bC b3 b4 b5 b6).toArray,.slice none 0 0,.slice none 0 0,.int .i64 91]) b2))))))∧
 (zdY K Q au al g)))))∧
 (zdY K Q ag z g)))))∧
 (zdY K Q u n g))))):
 Wf Tryz.prog K 44 [.pointer a,.agg (qL b d e).toArray] f Q:=
  zaf (hs:=[]) hk (Eq.mpr (by kernel_rfl) H)
theorem zoP {K:Xs} (hk:K 65=none) (a:Option Addr) (b:Option Addr) (d e:Nat) (h:AH) (Q:Value→AH→Prop) (H:
 ∃f g i,zar Tryz.prog h 53 (.slice b d e) none (some (.int .i64 16)) none=some (.slice f g i)∧
 (Wf Tryz.prog K 95 [.slice f g i] h fun j k=>
 (∃l m n o,j=(.tuple #[.agg (qL l m n).toArray,.int .i64 o])∧
 (∀p,p=k.alloc (.cells [.int .i64 0,.int .u64 0,.int .u32 0] 42 false)→
 (3=3)∧∃q,stN p k.next 0 (qL l m n)=some q∧
 (((o:Int)=0→∀r:Int,r=IntKind.wrap .i64 (((d:Nat):Int) - 16)→∀s,s=q.alloc (.cells [.int .i64 r] 3 false)→
 ∃t u v,zar Tryz.prog s 53 (.slice b d e) (some (.int .i64 16)) none none=some (.slice t u v)∧
 (Wf Tryz.prog K 96 [(.slice (some ⟨q.next,0,none⟩) 1 1),.slice t u v] s fun w x=>
 (∃y z aa ab,w=(.tuple #[.slice y z aa,.int .i64 ab])∧
 (((ab:Int)=0→∃ac ad ae,ldN x k.next 0 3=some (qL ac ad ae)∧
 (zai y fun af ag=>(((0:Int)≤0)∧((0:Int) < ((z:Nat):Int))∧
 (∃ah,ld1 x af ag=some (.int .u64 ah)∧
 (∀ai:Int,ai=IntKind.wrap .i64 ah→Wf Tryz.prog K 63 [.pointer a,.agg (qL ac ad ae).toArray,.int .i64 ai] x fun aj ak=>
 (∃al am an ao ap aq ar,aj=(.tuple #[.slice al am an,.slice ao ap aq,.int .i64 ar])∧
 (Q (.tuple #[.slice al am an,.slice ao ap aq,.int .i64 ar]) ak)))))))∧
 (¬(ab:Int)=0→Q (.tuple #[.slice none 0 0,.slice none 0 0,.int .i64 ab]) x)))))∧
 (¬(o:Int)=0→Q (.tuple #[.slice none 0 0,.slice none 0 0,.int .i64 o]) q)))))):
 Wf Tryz.prog K 65 [.pointer a,.slice b d e] h Q:=
  zaf (hs:=[]) hk (Eq.mpr (by kernel_rfl) H)
theorem zjs {K:Xs} (hk:K 99=none) (a:Int) (b:Option Addr) (d e:Nat) (f:AH) (Q:Value→AH→Prop) (H:
 ((281474976710655:Int) < a→Q (.tuple #[.slice none 0 0,.int .i64 151]) f)∧
 (¬(281474976710655:Int) < a→((32:Int) < ((d:Nat):Int)→Q (.tuple #[.slice none 0 0,.int .i64 151]) f)∧
 (¬(32:Int) < ((d:Nat):Int)→∀g,g=f.alloc (.cells [.int .i64 8] 3 false)→
 ∀i,i=g.alloc (.cells [.int .u64 a] 22 false)→
 Wf Tryz.prog K 119 [(.slice (some ⟨f.next,0,none⟩) 1 1),(.slice (some ⟨g.next,0,none⟩) 1 1)] i fun j k=>
 (∃l m o p,j=(.tuple #[.slice l m o,.int .i64 p])∧
 (((p:Int)=0→∀q,q=k.alloc (.cells [.slice l m o] 53 false)→
 ∃r:Option Addr→Nat→Nat→Int→Nat→AH→Prop,(∃n,r (some ⟨k.next,0,none⟩) 1 1 0 n q)∧
 ∀(s:Nat) (t:AH),∀(u:Option Addr) (v:Nat) (w:Nat),∀(x:Int),r u v w x s t→
 ((x:Int) < ((d:Nat):Int)→zai b fun y z=>(((0:Int)≤x)∧((x:Int) < ((d:Nat):Int))∧
 (∃aa ab ac ad ae af ag ah ai aj ak al am,ldN t y (z+Int.toNat x * 11) 11=some (sC aa ab ac ad ae af ag ah ai aj ak al am)∧
 (∀an,an=t.alloc (.cells (zC) 62 false)→
 (11=11)∧∃ao,stN an t.next 0 (sC aa ab ac ad ae af ag ah ai aj ak al am)=some ao∧
 (∃ap aq ar au av aw ax ay az a0 a1 a2 a3,ldN ao t.next 0 11=some (sC ap aq ar au av aw ax ay az a0 a1 a2 a3)∧
 (Wf Tryz.prog K 132 [.agg (sC ap aq ar au av aw ax ay az a0 a1 a2 a3).toArray] ao fun a4 a5=>
 (∃a6 a7 a8 a9,a4=(.tuple #[.slice a6 a7 a8,.int .i64 a9])∧
 (((a9:Int)=0→∀ba,ba=a5.alloc (.cells [.slice a6 a7 a8] 53 false)→
 ∃bb bc bd be,zal Tryz.prog ba .append #[155,155] [.slice u v w,(.slice (some ⟨a5.next,0,none⟩) 1 1)]=some (.slice bb bc bd,be)∧
 (∀bf:Int,bf=IntKind.wrap .i64 (x+1)→∃bg,bg < s∧r bb bc bd bf bg be))∧
 (¬(a9:Int)=0→Q (.tuple #[.slice none 0 0,.int .i64 a9]) a5)))))))))∧
 (¬(x:Int) < ((d:Nat):Int)→Wf Tryz.prog K 133 [.slice u v w] t fun bh bi=>
 (∃bj bk bl bm,bh=(.tuple #[.slice bj bk bl,.int .i64 bm])∧
 (((bm:Int)=0→Q (.tuple #[.slice bj bk bl,.int .i64 0]) bi)∧
 (¬(bm:Int)=0→Q (.tuple #[.slice none 0 0,.int .i64 151]) bi)))))∧
 (¬(p:Int)=0→Q (.tuple #[.slice none 0 0,.int .i64 151]) k)))))):
 Wf Tryz.prog K 99 (bC a b d e) f Q:=
  zaf (hs:=[(8,[(8,.slice none 0 0),(34,.int .i64 0)])]) hk (Eq.mpr (by kernel_rfl) H)
theorem zk8 {K:Xs} (hk:K 66=none) (a:Option Addr) (b d:Nat) (e:AH) (Q:Value→AH→Prop) (H:
 Wf Tryz.prog K 97 [.slice a b d] e fun f g=>
 (∃i j k l,f=(.tuple #[.slice i j k,.int .i64 l])∧
 (((l:Int)=0→((((j:Nat):Int):Int) < 1→Q (.tuple #[.int .u64 0,.slice none 0 0,.int .i64 151]) g)∧
 (¬(((j:Nat):Int):Int) < 1→((33:Int) < ((j:Nat):Int)→Q (.tuple #[.int .u64 0,.slice none 0 0,.int .i64 151]) g)∧
 (¬(33:Int) < ((j:Nat):Int)→∀m,m=g.alloc (.cells [.int .i64 8] 3 false)→
 zai i fun o p=>(((0:Int)≤0)∧((0:Int) < ((j:Nat):Int))∧
 (∃q r s,ld1 m o p=some (.slice q r s)∧
 (Wf Tryz.prog K 96 [(.slice (some ⟨g.next,0,none⟩) 1 1),.slice q r s] m fun t u=>
 (∃v w x y,t=(.tuple #[.slice v w x,.int .i64 y])∧
 (((y:Int)=0→∀z:Int,z=IntKind.wrap .i64 (((j:Nat):Int) - 1)→((0:Int)≤0∧(0:Int)≤z∧(z:Int)≤9223372036854775807∧(112:Int) * z≤281474976710656)∧∀aa,aa=u.alloc (.cells ((List.replicate (Int.toNat z) (zC)).flatten) 62 false)→
 ∃ab ac ad,zar Tryz.prog aa 155 (.slice i j k) (some (.int .i64 1)) none none=some (.slice ab ac ad)∧
 (∃ae:Option Addr→Nat→Nat→Int→Nat→AH→Prop,(∃n,ae (some ⟨u.next,0,none⟩) (Int.toNat 0) (Int.toNat z) 0 n aa)∧
 ∀(af:Nat) (ag:AH),∀(ah:Option Addr) (ai:Nat) (aj:Nat),∀(ak:Int),ae ah ai aj ak af ag→
 ((ak:Int) < ((ac:Nat):Int)→zai ab fun al am=>(((0:Int)≤ak)∧((ak:Int) < ((ac:Nat):Int))∧
 (∃an ao ap,ld1 ag al (am+Int.toNat ak * 1)=some (.slice an ao ap)∧
 (Wf Tryz.prog K 98 [.slice an ao ap] ag fun aq ar=>
 (∃au av aw ax ay az a0 a1 a2 a3 a4 a5 a6 a7,aq=(.tuple #[.agg (sC au av aw ax ay az a0 a1 a2 a3 a4 a5 a6).toArray,.int .i64 a7])∧
 (∀a8,a8=ar.alloc (.cells (zC) 62 false)→
 (11=11)∧∃a9,stN a8 ar.next 0 (sC au av aw ax ay az a0 a1 a2 a3 a4 a5 a6)=some a9∧
 (((a7:Int)=0→∃ba bb bc bd be bf bg bh bi bj bk bl bm,ldN a9 ar.next 0 11=some (sC ba bb bc bd be bf bg bh bi bj bk bl bm)∧
 (∀bn,bn=a9.alloc (.cells (sC ba bb bc bd be bf bg bh bi bj bk bl bm) 62 false)→
 ∃bo bp bq br,zal Tryz.prog bn .append #[23,23] [.slice ah ai aj,(.slice (some ⟨a9.next,0,none⟩) 1 1)]=some (.slice bo bp bq,br)∧
 (∀bs:Int,bs=IntKind.wrap .i64 (ak+1)→∃bt,bt < af∧ae bo bp bq bs bt br)))∧
 (¬(a7:Int)=0→Q (.tuple #[.int .u64 0,.slice none 0 0,.int .i64 a7]) a9))))))))∧
 (¬(ak:Int) < ((ac:Nat):Int)→zai v fun bu bv=>(((0:Int)≤0)∧((0:Int) < ((w:Nat):Int))∧
 (∃bw,ld1 ag bu bv=some (.int .u64 bw)∧
 (Wf Tryz.prog K 99 (bC bw ah ai aj) ag fun bx bz=>
 (∃b0 b1 b2 b3,bx=(.tuple #[.slice b0 b1 b2,.int .i64 b3])∧
 (((b3:Int)=0→Wf Tryz.prog K 100 [.slice b0 b1 b2,.slice a b d] bz fun b4 b5=>
 (((b4=(.bool true)∧
 (zai v fun b6 b8=>(((0:Int)≤0)∧((0:Int) < ((w:Nat):Int))∧
 (∃b9,ld1 b5 b6 b8=some (.int .u64 b9)∧
 (Q (.tuple #[.int .u64 b9,.slice ah ai aj,.int .i64 0]) b5)))))∨(b4=(.bool false)∧
 (Q (.tuple #[.int .u64 0,.slice none 0 0,.int .i64 151]) b5)))))∧
 (¬(b3:Int)=0→Q (.tuple #[.int .u64 0,.slice none 0 0,.int .i64 151]) bz)))))))))∧
 (¬(y:Int)=0→Q (.tuple #[.int .u64 0,.slice none 0 0,.int .i64 151]) u)))))))))∧
 (¬(l:Int)=0→Q (.tuple #[.int .u64 0,.slice none 0 0,.int .i64 151]) g)))):
 Wf Tryz.prog K 66 [.slice a b d] e Q:=
  zaf (hs:=[(9,[(8,.slice none 0 0),(48,.int .i64 0)])]) hk (Eq.mpr (by kernel_rfl) H)
theorem zjt {K:Xs} (hk:K 100=none) (a:Option Addr) (b d:Nat) (e:Option Addr) (f g:Nat) (h:AH) (Q:Value→AH→Prop) (H:
 ∃i,zaH Tryz.prog h 53 9 (.slice a b d)=some (.string i,h)∧
 (∃j,zaH Tryz.prog h 53 9 (.slice e f g)=some (.string j,h)∧
 ((i=j→Q (.bool true) h)∧
 (¬i=j→Q (.bool false) h)))):
 Wf Tryz.prog K 100 [.slice a b d,.slice e f g] h Q:=
  zaf (hs:=[]) hk (Eq.mpr (by kernel_rfl) H)
theorem zju {K:Xs} (hk:K 69=none) (a:Option Addr) (b d:Nat) (h:AH) (Q:Value→AH→Prop) (H:
 ∃e:Int→Int→Nat→AH→Prop,(∃n,e 0 0 n h)∧
 ∀(f:Nat) (g:AH),∀(i:Int),∀(j:Int),e i j f g→
 ((j:Int) < ((b:Nat):Int)→zai a fun k l=>(((0:Int)≤j)∧((j:Int) < ((b:Nat):Int))∧
 (∃m o p,ld1 g k (l+Int.toNat j * 1)=some (.slice m o p)∧
 (∀q:Int,q=IntKind.wrap .i64 (i+((o:Nat):Int))→((q:Int) < 0→False)∧
 (¬(q:Int) < 0→∀r:Int,r=IntKind.wrap .i64 (j+1)→∃s,s < f∧e q r s g)))))∧
 (¬(j:Int) < ((b:Nat):Int)→Wf Tryz.prog K 109 [.slice none 0 0,.int .i64 i] g fun t u=>
 (∃v w x,t=(.slice v w x)∧
 (∃y:Option Addr→Nat→Nat→Int→Nat→AH→Prop,(∃n,y v w x 0 n u)∧
 ∀(z:Nat) (aa:AH),∀(ab:Option Addr) (ac:Nat) (ad:Nat),∀(ae:Int),y ab ac ad ae z aa→
 ((ae:Int) < ((b:Nat):Int)→zai a fun af ag=>(((0:Int)≤ae)∧((ae:Int) < ((b:Nat):Int))∧
 (∃ah ai aj,ld1 aa af (ag+Int.toNat ae * 1)=some (.slice ah ai aj)∧
 (∃ak al am an,zal Tryz.prog aa .append #[60,60] [.slice ab ac ad,.slice ah ai aj]=some (.slice ak al am,an)∧
 (∀ao:Int,ao=IntKind.wrap .i64 (ae+1)→∃ap,ap < z∧y ak al am ao ap an)))))∧
 (¬(ae:Int) < ((b:Nat):Int)→Q (.slice ab ac ad) aa))))):
 Wf Tryz.prog K 69 [.slice a b d] h Q:=
  zaf (hs:=[(3,[(3,.int .i64 0),(11,.int .i64 0)]),(11,[(6,.slice none 0 0),(27,.int .i64 0)])]) hk (Eq.mpr (by kernel_rfl) H)
theorem zm6 {K:Xs} (hk:K 109=none) (a:Option Addr) (b d:Nat) (e:Int) (h:AH) (Q:Value→AH→Prop) (H:
 ((e:Int) < 0→False)∧
 (¬(e:Int) < 0→∃f,zuN Tryz.prog 60 (.slice a b d)=some (.int .i64 f)∧
 (∀g:Int,g=IntKind.wrap .i64 (f - ((b:Nat):Int))→∀i:Int,i=IntKind.wrap .i64 (e - g)→((0:Int) < i→∃j,zuN Tryz.prog 60 (.slice a b d)=some (.int .i64 j)∧
 (∃k l m,zar Tryz.prog h 60 (.slice a b d) none (some (.int .i64 j)) none=some (.slice k l m)∧
 (∃n o p q,zal Tryz.prog h .append #[60,3] [.slice k l m,.int .i64 i]=some (.slice n o p,q)∧
 (∃r s t,zar Tryz.prog q 60 (.slice n o p) none (some (.int .i64 ((b:Nat):Int))) none=some (.slice r s t)∧
 (Q (.slice r s t) q)))))∧
 (¬(0:Int) < i→Q (.slice a b d) h)))):
 Wf Tryz.prog K 109 [.slice a b d,.int .i64 e] h Q:=
  zaf (hs:=[]) hk (Eq.mpr (by kernel_rfl) H)
theorem zk9 {K:Xs} (hk:K 38=none) (a:Option Addr) (b d:Nat) (h:AH) (Q:Value→AH→Prop) (H:
 zrG a (Q (.slice none 0 0) h) (∀e,e=h.alloc (.cells [] 42 false)→
 ∃f g i j,zal Tryz.prog e .append #[60,60] [(.slice (some ⟨h.next,0,none⟩) 0 0),.slice a b d]=some (.slice f g i,j)∧
 (Q (.slice f g i) j))):
 Wf Tryz.prog K 38 [.slice a b d] h Q:=
  zaf (hs:=[]) hk (Eq.mpr (by kernel_rfl) H)
end Go.Am
