/-
  WEAKEST CONDITIONS of some functions of this program, printed by a program.
-/
import Derived.Test.YtihmdaifbmchjaaGreatVAbb
import Derived.Test.YtihmdaifbmchjaaGreatRows
set_option linter.unusedVariables false
set_option maxRecDepth 100000
namespace Go.Am
open Go.Proofs
theorem zex {K:Xs} (hk:K 112=none) (a:Int) (b:Int) (d:Int) (h:AH) (Q:Value→AH→Prop) (H:
 ∀e,e=h.alloc (.cells (qL a b d) 42 false)→
 ∃f,ld1 e h.next 0=some (.int .i64 f)∧
 (((f:Int)=0→∃g,ld1 e h.next 1=some (.int .u64 g)∧
 (((g:Int)=0→∃i,ld1 e h.next 2=some (.int .u32 i)∧
 (((i:Int)=0→Q (.bool true) e)∧
 (¬(i:Int)=0→Q (.bool false) e)))∧
 (¬(g:Int)=0→Q (.bool false) e)))∧
 (¬(f:Int)=0→Q (.bool false) e))):
 Wf Tryz.prog K 112 [.agg (qL a b d).toArray] h Q:=
  zaf (hs:=[]) hk (Eq.mpr (by kernel_rfl) H)
theorem zdZ {K:Xs} (hk:K 50=none) (a:Int) (b:Int) (d:Int) (h:AH) (Q:Value→AH→Prop) (H:
 ∀e,e=h.alloc (.cells (qL a b d) 42 false)→
 ∃f,ld1 e h.next 0=some (.int .i64 f)∧
 (((f:Int)=0→∃g,ld1 e h.next 1=some (.int .u64 g)∧
 (((g:Int)=0→∃i,ld1 e h.next 2=some (.int .u32 i)∧
 (((i:Int)=0→Q (.bool true) e)∧
 (¬(i:Int)=0→∃j,ld1 e h.next 0=some (.int .i64 j)∧
 (((4:Int)≤j→∃k,ld1 e h.next 0=some (.int .i64 k)∧
 (((k:Int)≤1023→∃l,ld1 e h.next 1=some (.int .u64 l)∧
 (((1:Int)≤l→∃m,ld1 e h.next 1=some (.int .u64 m)∧
 (((m:Int) < 281474976710656→Q (.bool true) e)∧
 (¬(m:Int) < 281474976710656→Q (.bool false) e)))∧
 (¬(1:Int)≤l→Q (.bool false) e)))∧
 (¬(k:Int)≤1023→Q (.bool false) e)))∧
 (¬(4:Int)≤j→Q (.bool false) e)))))∧
 (¬(g:Int)=0→∃n,ld1 e h.next 0=some (.int .i64 n)∧
 (((4:Int)≤n→∃o,ld1 e h.next 0=some (.int .i64 o)∧
 (((o:Int)≤1023→∃p,ld1 e h.next 1=some (.int .u64 p)∧
 (((1:Int)≤p→∃q,ld1 e h.next 1=some (.int .u64 q)∧
 (((q:Int) < 281474976710656→Q (.bool true) e)∧
 (¬(q:Int) < 281474976710656→Q (.bool false) e)))∧
 (¬(1:Int)≤p→Q (.bool false) e)))∧
 (¬(o:Int)≤1023→Q (.bool false) e)))∧
 (¬(4:Int)≤n→Q (.bool false) e)))))∧
 (¬(f:Int)=0→∃r,ld1 e h.next 0=some (.int .i64 r)∧
 (((4:Int)≤r→∃s,ld1 e h.next 0=some (.int .i64 s)∧
 (((s:Int)≤1023→∃t,ld1 e h.next 1=some (.int .u64 t)∧
 (((1:Int)≤t→∃u,ld1 e h.next 1=some (.int .u64 u)∧
 (((u:Int) < 281474976710656→Q (.bool true) e)∧
 (¬(u:Int) < 281474976710656→Q (.bool false) e)))∧
 (¬(1:Int)≤t→Q (.bool false) e)))∧
 (¬(s:Int)≤1023→Q (.bool false) e)))∧
 (¬(4:Int)≤r→Q (.bool false) e))))):
 Wf Tryz.prog K 50 [.agg (qL a b d).toArray] h Q:=
  zaf (hs:=[]) hk (Eq.mpr (by kernel_rfl) H)
theorem zey {K:Xs} (hk:K 73=none) (a:Int) (b:Int) (d:Int) (e:Int) (f:Int) (g:Int) (h:AH) (Q:Value→AH→Prop) (H:
 ∀i,i=h.alloc (.cells (qL a b d) 42 false)→
 ∀j,j=i.alloc (.cells (qL e f g) 42 false)→
 ∃k,ld1 j h.next 1=some (.int .u64 k)∧
 (∃l,ld1 j i.next 1=some (.int .u64 l)∧
 (((k:Int)=l→∃m,ld1 j h.next 0=some (.int .i64 m)∧
 (∃n,ld1 j i.next 0=some (.int .i64 n)∧
 (((m:Int)=n→∃o,ld1 j h.next 2=some (.int .u32 o)∧
 (∃p,ld1 j i.next 2=some (.int .u32 p)∧
 (((o:Int) < p→Q (.bool true) j)∧
 (¬(o:Int) < p→Q (.bool false) j))))∧
 (¬(m:Int)=n→∃q,ld1 j h.next 0=some (.int .i64 q)∧
 (∃r,ld1 j i.next 0=some (.int .i64 r)∧
 (((q:Int) < r→Q (.bool true) j)∧
 (¬(q:Int) < r→Q (.bool false) j)))))))∧
 (¬(k:Int)=l→∃s,ld1 j h.next 1=some (.int .u64 s)∧
 (∃t,ld1 j i.next 1=some (.int .u64 t)∧
 (((s:Int) < t→Q (.bool true) j)∧
 (¬(s:Int) < t→Q (.bool false) j))))))):
 Wf Tryz.prog K 73 [.agg (qL a b d).toArray,.agg (qL e f g).toArray] h Q:=
  zaf (hs:=[]) hk (Eq.mpr (by kernel_rfl) H)
theorem ze2 {K:Xs} (hk:K 72=none) (a:Int) (b:Int) (d:Int) (h:AH) (Q:Value→AH→Prop) (H:
 ∀e,e=h.alloc (.cells (qL a b d) 42 false)→
 ∃f g i,ldN e h.next 0 3=some (qL f g i)∧
 (Wf Tryz.prog K 112 [.agg (qL f g i).toArray] e fun j k=>
 (((j=(.bool true)∧
 (Q (.bool false) k))∨(j=(.bool false)∧
 (∃l m n,ldN k h.next 0 3=some (qL l m n)∧
 (Wf Tryz.prog K 50 [.agg (qL l m n).toArray] k fun o p=>
 (((o=(.bool true)∧
 (Q (.bool true) p))∨(o=(.bool false)∧
 (Q (.bool false) p))))))))))):
 Wf Tryz.prog K 72 [.agg (qL a b d).toArray] h Q:=
  zaf (hs:=[]) hk (Eq.mpr (by kernel_rfl) H)
theorem zd0 {K:Xs} (hk:K 51=none) (a:Option Addr) (b d:Nat) (h:AH) (Q:Value→AH→Prop) (H:
 ∃e:Int→Nat→AH→Prop,(∃n,e 0 n h)∧
 ∀(f:Nat) (g:AH),∀(i:Int),e i f g→
 ((i:Int) < ((b:Nat):Int)→zai a fun j k=>(((0:Int)≤i)∧((i:Int) < ((b:Nat):Int))∧
 (∃l m o,ldN g j (k+Int.toNat i * 3) 3=some (qL l m o)∧
 (Wf Tryz.prog K 72 [.agg (qL l m o).toArray] g fun p q=>
 (((p=(.bool true)∧
 (((0:Int) < i→∀r:Int,r=IntKind.wrap .i64 (i - 1)→zai a fun s t=>(((0:Int)≤r)∧((r:Int) < ((b:Nat):Int))∧
 (∃u v w,ldN q s (t+Int.toNat r * 3) 3=some (qL u v w)∧
 (zai a fun x y=>(((0:Int)≤i)∧((i:Int) < ((b:Nat):Int))∧
 (∃z aa ab,ldN q x (y+Int.toNat i * 3) 3=some (qL z aa ab)∧
 (Wf Tryz.prog K 73 [.agg (qL u v w).toArray,.agg (qL z aa ab).toArray] q fun ac ad=>
 (((ac=(.bool true)∧
 (∀ae:Int,ae=IntKind.wrap .i64 (i+1)→∃af,af < f∧e ae af ad))∨(ac=(.bool false)∧
 (Q (.bool false) ad)))))))))))∧
 (¬(0:Int) < i→∀ag:Int,ag=IntKind.wrap .i64 (i+1)→∃af,af < f∧e ag af q)))∨(p=(.bool false)∧
 (Q (.bool false) q))))))))∧
 (¬(i:Int) < ((b:Nat):Int)→Q (.bool true) g)):
 Wf Tryz.prog K 51 [.slice a b d] h Q:=
  zaf (hs:=[(2,[(6,.int .i64 0)])]) hk (Eq.mpr (by kernel_rfl) H)
theorem zd1 {K:Xs} (hk:K 49=none) (a:ByteArray) (h:AH) (Q:Value→AH→Prop) (H:
 ((((ByteArray.size a:Nat):Int):Int) < 1→Q (.bool false) h)∧
 (¬(((ByteArray.size a:Nat):Int):Int) < 1→((24:Int) < ((ByteArray.size a:Nat):Int)→Q (.bool false) h)∧
 (¬(24:Int) < ((ByteArray.size a:Nat):Int)→∃b:Int→Nat→AH→Prop,(∃n,b 0 n h)∧
 ∀(d:Nat) (e:AH),∀(f:Int),b f d e→
 ((f:Int) < ((ByteArray.size a:Nat):Int)→((0:Int)≤f)∧∃g:UInt8,a[Int.toNat f]?= some g∧
 (((97:Int)≤((g.toNat:Nat):Int)→((((g.toNat:Nat):Int):Int)≤122→∀i:Int,i=IntKind.wrap .i64 (f+1)→∃j,j < d∧b i j e)∧
 (¬(((g.toNat:Nat):Int):Int)≤122→((48:Int)≤((g.toNat:Nat):Int)→((((g.toNat:Nat):Int):Int)≤57→∀k:Int,k=IntKind.wrap .i64 (f+1)→∃j,j < d∧b k j e)∧
 (¬(((g.toNat:Nat):Int):Int)≤57→((((g.toNat:Nat):Int):Int)=45→∀l:Int,l=IntKind.wrap .i64 (f+1)→∃j,j < d∧b l j e)∧
 (¬(((g.toNat:Nat):Int):Int)=45→((((g.toNat:Nat):Int):Int)=95→∀m:Int,m=IntKind.wrap .i64 (f+1)→∃j,j < d∧b m j e)∧
 (¬(((g.toNat:Nat):Int):Int)=95→Q (.bool false) e))))∧
 (¬(48:Int)≤((g.toNat:Nat):Int)→((((g.toNat:Nat):Int):Int)=45→∀o:Int,o=IntKind.wrap .i64 (f+1)→∃j,j < d∧b o j e)∧
 (¬(((g.toNat:Nat):Int):Int)=45→((((g.toNat:Nat):Int):Int)=95→∀p:Int,p=IntKind.wrap .i64 (f+1)→∃j,j < d∧b p j e)∧
 (¬(((g.toNat:Nat):Int):Int)=95→Q (.bool false) e)))))∧
 (¬(97:Int)≤((g.toNat:Nat):Int)→((48:Int)≤((g.toNat:Nat):Int)→((((g.toNat:Nat):Int):Int)≤57→∀q:Int,q=IntKind.wrap .i64 (f+1)→∃j,j < d∧b q j e)∧
 (¬(((g.toNat:Nat):Int):Int)≤57→((((g.toNat:Nat):Int):Int)=45→∀r:Int,r=IntKind.wrap .i64 (f+1)→∃j,j < d∧b r j e)∧
 (¬(((g.toNat:Nat):Int):Int)=45→((((g.toNat:Nat):Int):Int)=95→∀s:Int,s=IntKind.wrap .i64 (f+1)→∃j,j < d∧b s j e)∧
 (¬(((g.toNat:Nat):Int):Int)=95→Q (.bool false) e))))∧
 (¬(48:Int)≤((g.toNat:Nat):Int)→((((g.toNat:Nat):Int):Int)=45→∀t:Int,t=IntKind.wrap .i64 (f+1)→∃j,j < d∧b t j e)∧
 (¬(((g.toNat:Nat):Int):Int)=45→((((g.toNat:Nat):Int):Int)=95→∀u:Int,u=IntKind.wrap .i64 (f+1)→∃j,j < d∧b u j e)∧
 (¬(((g.toNat:Nat):Int):Int)=95→Q (.bool false) e))))))∧
 (¬(f:Int) < ((ByteArray.size a:Nat):Int)→Q (.bool true) e)))):
 Wf Tryz.prog K 49 [.string a] h Q:=
  zaf (hs:=[(4,[(3,.int .i64 0)])]) hk (Eq.mpr (by kernel_rfl) H)
theorem zd2 {K:Xs} (hk:K 48=none) (a:Int) (h:AH) (Q:Value→AH→Prop) (H:
 ((0:Int) < a→((a:Int) < 281474976710656→Q (.bool true) h)∧
 (¬(a:Int) < 281474976710656→Q (.bool false) h))∧
 (¬(0:Int) < a→Q (.bool false) h)):
 Wf Tryz.prog K 48 [.int .u64 a] h Q:=
  zaf (hs:=[]) hk (Eq.mpr (by kernel_rfl) H)
theorem zd3 {K:Xs} (hk:K 25=none) (a:Int) (b:ByteArray) (d:Bool) (e:Int) (f:Int) (g:Int) (i:Int) (j:Int) (k:Int) (l:Int) (m:Option Addr) (n o:Nat) (h:AH) (Q:Value→AH→Prop) (H:
 ∀p,p=h.alloc (.cells (sC a b d e f g i j k l m n o) 62 false)→
 ∃q,ld1 p h.next 0=some (.int .u64 q)∧
 (Wf Tryz.prog K 48 [.int .u64 q] p fun r s=>
 (((r=(.bool true)∧
 (∃t,ld1 s h.next 3=some (.int .u64 t)∧
 (Wf Tryz.prog K 48 [.int .u64 t] s fun u v=>
 (((u=(.bool true)∧
 (∃w,ld1 v h.next 4=some (.int .u64 w)∧
 (((281474976710656:Int)≤w→Q (.bool false) v)∧
 (¬(281474976710656:Int)≤w→∃x,ld1 v h.next 6=some (.int .i64 x)∧
 (((x:Int) < 1→Q (.bool false) v)∧
 (¬(x:Int) < 1→∃y,ld1 v h.next 6=some (.int .i64 y)∧
 (((64:Int) < y→Q (.bool false) v)∧
 (¬(64:Int) < y→∃z aa ab,ld1 v h.next 10=some (.slice z aa ab)∧
 (((4000:Int) < ((aa:Nat):Int)→Q (.bool false) v)∧
 (¬(4000:Int) < ((aa:Nat):Int)→∃ac,ld1 v h.next 1=some (.string ac)∧
 (Wf Tryz.prog K 49 [.string ac] v fun ad ae=>
 (((ad=(.bool true)∧
 (∃af ag ah,ldN ae h.next 7 3=some (qL af ag ah)∧
 (Wf Tryz.prog K 50 [.agg (qL af ag ah).toArray] ae fun ai aj=>
 (((ai=(.bool true)∧
 (∃ak al am,ld1 aj h.next 10=some (.slice ak al am)∧
 (Wf Tryz.prog K 51 [.slice ak al am] aj fun an ao=>
 (((an=(.bool true)∧
 (((ld1 ao h.next 2=some (.bool true)∧
 (∃ap,ld1 ao h.next 5=some (.int .u64 ap)∧
 (Wf Tryz.prog K 48 [.int .u64 ap] ao fun aq ar=>
 (((aq=(.bool true)∧
 (Q (.bool true) ar))∨(aq=(.bool false)∧
 (Q (.bool false) ar)))))))∨(ld1 ao h.next 2=some (.bool false)∧
 (∃au,ld1 ao h.next 5=some (.int .u64 au)∧
 (((au:Int)=0→∃av,ld1 ao h.next 3=some (.int .u64 av)∧
 (∃aw,ld1 ao h.next 0=some (.int .u64 aw)∧
 (((av:Int)=aw→Q (.bool true) ao)∧
 (¬(av:Int)=aw→Q (.bool false) ao))))∧
 (¬(au:Int)=0→Q (.bool false) ao)))))))∨(an=(.bool false)∧
 (Q (.bool false) ao)))))))∨(ai=(.bool false)∧
 (Q (.bool false) aj)))))))∨(ad=(.bool false)∧
 (Q (.bool false) ae)))))))))))))))∨(u=(.bool false)∧
 (Q (.bool false) v)))))))∨(r=(.bool false)∧
 (Q (.bool false) s)))))):
 Wf Tryz.prog K 25 [.agg (sC a b d e f g i j k l m n o).toArray] h Q:=
  zaf (hs:=[]) hk (Eq.mpr (by kernel_rfl) H)
theorem zez {K:Xs} (hk:K 26=none) (a:Option Addr) (b d:Nat) (e:Int) (h:AH) (Q:Value→AH→Prop) (H:
 ∀f,f=h.alloc (.cells (zC) 62 false)→
 ∃g:Int→Nat→AH→Prop,(∃n,g 0 n f)∧
 ∀(i:Nat) (j:AH),∀(k:Int),g k i j→
 ((k:Int) < ((b:Nat):Int)→zai a fun l m=>(((0:Int)≤k)∧((k:Int) < ((b:Nat):Int))∧
 (∃o p q r s t u v w x y z aa,ldN j l (m+Int.toNat k * 11) 11=some (sC o p q r s t u v w x y z aa)∧
 (∀ab,ab=j.alloc (.cells (zC) 62 false)→
 (11=11)∧∃ac,stN ab j.next 0 (sC o p q r s t u v w x y z aa)=some ac∧
 (∃ad,ld1 ac j.next 0=some (.int .u64 ad)∧
 (((ad:Int)=e→∃ae af ag ah ai aj ak al am an ao ap aq,ldN ac j.next 0 11=some (sC ae af ag ah ai aj ak al am an ao ap aq)∧
 ((11=11)∧∃ar,stN ac h.next 0 (sC ae af ag ah ai aj ak al am an ao ap aq)=some ar∧
 (∃au av aw ax ay az a0 a1 a2 a3 a4 a5 a6,ldN ar h.next 0 11=some (sC au av aw ax ay az a0 a1 a2 a3 a4 a5 a6)∧
 (Q (.tuple #[.agg (sC au av aw ax ay az a0 a1 a2 a3 a4 a5 a6).toArray,.bool true]) ar))))∧
 (¬(ad:Int)=e→∀a7:Int,a7=IntKind.wrap .i64 (k+1)→∃a8,a8 < i∧g a7 a8 ac)))))))∧
 (¬(k:Int) < ((b:Nat):Int)→(11=11)∧∃a9,stN j h.next 0 (zC)=some a9∧
 (∃ba bb bc bd be bf bg bh bi bj bk bl bm,ldN a9 h.next 0 11=some (sC ba bb bc bd be bf bg bh bi bj bk bl bm)∧
 (Q (.tuple #[.agg (sC ba bb bc bd be bf bg bh bi bj bk bl bm).toArray,.bool false]) a9)))):
 Wf Tryz.prog K 26 [.slice a b d,.int .u64 e] h Q:=
  zaf (hs:=[(2,[(10,.int .i64 0)])]) hk (Eq.mpr (by kernel_rfl) H)
theorem zd4 {K:Xs} (hk:K 28=none) (a:Option Addr) (b d:Nat) (e:Int) (h:AH) (Q:Value→AH→Prop) (H:
 Wf Tryz.prog K 26 [.slice a b d,.int .u64 e] h fun f g=>
 (∃i j k l m n o p q r s t u,((f=(.tuple #[.agg (sC i j k l m n o p q r s t u).toArray,.bool true])∧
 (∀v,v=g.alloc (.cells (zC) 62 false)→
 (11=11)∧∃w,stN v g.next 0 (sC i j k l m n o p q r s t u)=some w∧
 (∃x,ld1 w g.next 4=some (.int .u64 x)∧
 (Wf Tryz.prog K 26 [.slice a b d,.int .u64 x] w fun y z=>
 (∃aa ab ac ad ae af ag ah ai aj ak al am,((y=(.tuple #[.agg (sC aa ab ac ad ae af ag ah ai aj ak al am).toArray,.bool true])∧
 (∀an,an=z.alloc (.cells (zC) 62 false)→
 (11=11)∧∃ao,stN an z.next 0 (sC aa ab ac ad ae af ag ah ai aj ak al am)=some ao∧
 (∃ap,ld1 ao z.next 5=some (.int .u64 ap)∧
 (Q (.int .u64 ap) ao))))∨(y=(.tuple #[.agg (sC aa ab ac ad ae af ag ah ai aj ak al am).toArray,.bool false])∧
 (∀aq,aq=z.alloc (.cells (zC) 62 false)→
 (11=11)∧∃ar,stN aq z.next 0 (sC aa ab ac ad ae af ag ah ai aj ak al am)=some ar∧
 (Q (.int .u64 0) ar)))))))))∨(f=(.tuple #[.agg (sC i j k l m n o p q r s t u).toArray,.bool false])∧
 (∀au,au=g.alloc (.cells (zC) 62 false)→
 (11=11)∧∃av,stN au g.next 0 (sC i j k l m n o p q r s t u)=some av∧
 (Q (.int .u64 0) av)))))):
 Wf Tryz.prog K 28 [.slice a b d,.int .u64 e] h Q:=
  zaf (hs:=[]) hk (Eq.mpr (by kernel_rfl) H)
theorem zeA {K:Xs} (hk:K 27=none) (a:Option Addr) (b d:Nat) (e:Int) (h:AH) (Q:Value→AH→Prop) (H:
 ∀f,f=h.alloc (.cells [] 22 false)→
 ∀g,g=f.alloc (.cells [] 22 false)→
 Wf Tryz.prog K 26 [.slice a b d,.int .u64 e] g fun i j=>
 (∃k l m o p q r s t u v w x,((i=(.tuple #[.agg (sC k l m o p q r s t u v w x).toArray,.bool true])∧
 (∀y,y=j.alloc (.cells (zC) 62 false)→
 (11=11)∧∃z,stN y j.next 0 (sC k l m o p q r s t u v w x)=some z∧
 (((ld1 z j.next 2=some (.bool true)∧
 (∃aa:Option Addr→Nat→Nat→Option Addr→Nat→Nat→Int→Nat→AH→Prop,(∃n,aa (some ⟨h.next,0,none⟩) 0 0 (some ⟨f.next,0,none⟩) 0 0 0 n z)∧
 ∀(ab:Nat) (ac:AH),∀(ad:Option Addr) (ae:Nat) (af:Nat),∀(ag:Option Addr) (ah:Nat) (ai:Nat),∀(aj:Int),aa ad ae af ag ah ai aj ab ac→
 ((aj:Int) < ((b:Nat):Int)→zai a fun ak al=>(((0:Int)≤aj)∧((aj:Int) < ((b:Nat):Int))∧
 (∃am an ao ap aq ar au av aw ax ay az a0,ldN ac ak (al+Int.toNat aj * 11) 11=some (sC am an ao ap aq ar au av aw ax ay az a0)∧
 (∀a1,a1=ac.alloc (.cells (zC) 62 false)→
 (11=11)∧∃a2,stN a1 ac.next 0 (sC am an ao ap aq ar au av aw ax ay az a0)=some a2∧
 (∃a3,ld1 a2 ac.next 4=some (.int .u64 a3)∧
 (((a3:Int)=e→∃a4,ld1 a2 ac.next 3=some (.int .u64 a4)∧
 (∃a5,ld1 a2 j.next 3=some (.int .u64 a5)∧
 (((a4:Int)=a5→∃a6,ld1 a2 ac.next 0=some (.int .u64 a6)∧
 (∀a7,a7=a2.alloc (.cells [.int .u64 a6] 22 false)→
 ∃a8 a9 ba bb,zal Tryz.prog a7 .append #[66,66] [.slice ad ae af,(.slice (some ⟨a2.next,0,none⟩) 1 1)]=some (.slice a8 a9 ba,bb)∧
 (∀bc:Int,bc=IntKind.wrap .i64 (aj+1)→∃bd,bd < ab∧aa a8 a9 ba ag ah ai bc bd bb)))∧
 (¬(a4:Int)=a5→∃be,ld1 a2 ac.next 4=some (.int .u64 be)∧
 (((be:Int)=e→∃bf,ld1 a2 ac.next 0=some (.int .u64 bf)∧
 (∀bg,bg=a2.alloc (.cells [.int .u64 bf] 22 false)→
 ∃bh bi bj bk,zal Tryz.prog bg .append #[66,66] [.slice ag ah ai,(.slice (some ⟨a2.next,0,none⟩) 1 1)]=some (.slice bh bi bj,bk)∧
 (∀bl:Int,bl=IntKind.wrap .i64 (aj+1)→∃bd,bd < ab∧aa ad ae af bh bi bj bl bd bk)))∧
 (¬(be:Int)=e→∀bm:Int,bm=IntKind.wrap .i64 (aj+1)→∃bd,bd < ab∧aa ad ae af ag ah ai bm bd a2))))))∧
 (¬(a3:Int)=e→∃bn,ld1 a2 ac.next 4=some (.int .u64 bn)∧
 (((bn:Int)=e→∃bo,ld1 a2 ac.next 0=some (.int .u64 bo)∧
 (∀bp,bp=a2.alloc (.cells [.int .u64 bo] 22 false)→
 ∃bq br bs bt,zal Tryz.prog bp .append #[66,66] [.slice ag ah ai,(.slice (some ⟨a2.next,0,none⟩) 1 1)]=some (.slice bq br bs,bt)∧
 (∀bu:Int,bu=IntKind.wrap .i64 (aj+1)→∃bd,bd < ab∧aa ad ae af bq br bs bu bd bt)))∧
 (¬(bn:Int)=e→∀bv:Int,bv=IntKind.wrap .i64 (aj+1)→∃bd,bd < ab∧aa ad ae af ag ah ai bv bd a2)))))))))∧
 (¬(aj:Int) < ((b:Nat):Int)→Q (.tuple #[.slice ad ae af,.slice ag ah ai]) ac)))∨(ld1 z j.next 2=some (.bool false)∧
 (Q (.tuple #[(.slice (some ⟨h.next,0,none⟩) 0 0),(.slice (some ⟨f.next,0,none⟩) 0 0)]) z))))))∨(i=(.tuple #[.agg (sC k l m o p q r s t u v w x).toArray,.bool false])∧
 (∀bw,bw=j.alloc (.cells (zC) 62 false)→
 (11=11)∧∃bx,stN bw j.next 0 (sC k l m o p q r s t u v w x)=some bx∧
 (Q (.tuple #[(.slice (some ⟨h.next,0,none⟩) 0 0),(.slice (some ⟨f.next,0,none⟩) 0 0)]) bx)))))):
 Wf Tryz.prog K 27 [.slice a b d,.int .u64 e] h Q:=
  zaf (hs:=[(7,[(6,.slice none 0 0),(7,.slice none 0 0),(31,.int .i64 0)])]) hk (Eq.mpr (by kernel_rfl) H)
abbrev zbF (K:Xs) (Q:Value→AH→Prop) (bz:AH) (b0:AH) (b1:AH) (b2:Int) (b3:Nat) (b4:Int→Nat→AH→Prop):Prop:=
 (∃b5,ld1 bz b0.next 1=some (.string b5)∧
 (∃b7,ld1 bz b1.next 1=some (.string b7)∧
 ((b5=b7→((ld1 bz b1.next 2=some (.bool true)∧
 (∃b8,ld1 bz b0.next 3=some (.int .u64 b8)∧
 (∃b9,ld1 bz b1.next 3=some (.int .u64 b9)∧
 (((b8:Int)=b9→Q (.bool false) bz)∧
 (¬(b8:Int)=b9→∀da:Int,da=IntKind.wrap .i64 (b2+1)→∃db,db < b3∧b4 da db bz)))))∨(ld1 bz b1.next 2=some (.bool false)∧
 (Q (.bool false) bz))))∧
 (¬b5=b7→∀dc:Int,dc=IntKind.wrap .i64 (b2+1)→∃db,db < b3∧b4 dc db bz))))
abbrev zbG (K:Xs) (Q:Value→AH→Prop) (dd:AH) (de:Nat) (df:Option Addr) (b1:AH) (dg:Option Addr) (dh:Nat) (di:Nat) (k:Int) (dj:Nat) (dk:Int→Nat→AH→Prop):Prop:=
 (∃dl:Int→Nat→AH→Prop,(∃n,dl 0 n dd)∧
 ∀(dm:Nat) (dn:AH),∀(dp:Int),dl dp dm dn→
 ((dp:Int) < ((de:Nat):Int)→zai df fun dq dr=>(((0:Int)≤dp)∧((dp:Int) < ((de:Nat):Int))∧
 (∃ds dt du,ldN dn dq (dr+Int.toNat dp * 3) 3=some (qL ds dt du)∧
 (∀dv,dv=dn.alloc (.cells [.int .i64 0,.int .u64 0,.int .u32 0] 42 false)→
 (3=3)∧∃dw,stN dv dn.next 0 (qL ds dt du)=some dw∧
 (∃dx,ld1 dw b1.next 0=some (.int .u64 dx)∧
 (Wf Tryz.prog K 28 [.slice dg dh di,.int .u64 dx] dw fun dy dz=>
 (∃d0,dy=(.int .u64 d0)∧
 (∃d1,ld1 dz dn.next 1=some (.int .u64 d1)∧
 (((d0:Int) < d1→(ld1 dw dn.next 1=some (.int .u64 d1))∧
 ((ld1 dz dn.next 1=some (.int .u64 d1))∧
 (Q (.bool false) dz)))∧
 (¬(d0:Int) < d1→(ld1 dw dn.next 1=some (.int .u64 d1))∧
 ((ld1 dz dn.next 1=some (.int .u64 d1))∧
 (∀d2:Int,d2=IntKind.wrap .i64 (dp+1)→∃d3,d3 < dm∧dl d2 d3 dz))))))))))))∧
 (¬(dp:Int) < ((de:Nat):Int)→∃b4:Int→Nat→AH→Prop,(∃n,b4 0 n dn)∧
 ∀(b3:Nat) (b0:AH),∀(b2:Int),b4 b2 b3 b0→
 ((b2:Int) < ((dh:Nat):Int)→zai dg fun d4 d5=>(((0:Int)≤b2)∧((b2:Int) < ((dh:Nat):Int))∧
 (∃d6 d7 d8 d9 ea eb ec ed ee ef eg eh ei,ldN b0 d4 (d5+Int.toNat b2 * 11) 11=some (sC d6 d7 d8 d9 ea eb ec ed ee ef eg eh ei)∧
 (∀ej,ej=b0.alloc (.cells (zC) 62 false)→
 (11=11)∧∃bz,stN ej b0.next 0 (sC d6 d7 d8 d9 ea eb ec ed ee ef eg eh ei)=some bz∧
 (((b2:Int)=k→∀ek:Int,ek=IntKind.wrap .i64 (b2+1)→∃db,db < b3∧b4 ek db bz)∧
 (¬(b2:Int)=k→((ld1 bz b0.next 2=some (.bool true)∧
 (((ld1 bz b1.next 2=some (.bool true)∧
 (zbF K Q bz b0 b1 b2 b3 b4))∨(ld1 bz b1.next 2=some (.bool false)∧
 (∀el:Int,el=IntKind.wrap .i64 (b2+1)→∃db,db < b3∧b4 el db bz)))))∨(ld1 bz b0.next 2=some (.bool false)∧
 (((ld1 bz b1.next 2=some (.bool true)∧
 (∀em:Int,em=IntKind.wrap .i64 (b2+1)→∃db,db < b3∧b4 em db bz))∨(ld1 bz b1.next 2=some (.bool false)∧
 (zbF K Q bz b0 b1 b2 b3 b4))))))))))))∧
 (¬(b2:Int) < ((dh:Nat):Int)→∀en:Int,en=IntKind.wrap .i64 (k+1)→∃eo,eo < dj∧dk en eo b0)))
abbrev zbc (K:Xs) (Q:Value→AH→Prop) (dg:Option Addr) (dh:Nat) (di:Nat) (ep:Int) (eq:AH) (b1:AH) (k:Int) (dj:Nat) (dk:Int→Nat→AH→Prop):Prop:=
 (Wf Tryz.prog K 27 [.slice dg dh di,.int .u64 ep] eq fun er dd=>
 (∃es et eu ev ew ex,er=(.tuple #[.slice es et eu,.slice ev ew ex])∧
 (((ld1 dd b1.next 2=some (.bool true)∧
 (((((et:Nat):Int):Int)=1→∃df de ey,ld1 dd b1.next 10=some (.slice df de ey)∧
 (zbG K Q dd de df b1 dg dh di k dj dk))∧
 (¬(((et:Nat):Int):Int)=1→Q (.bool false) dd)))∨(ld1 dd b1.next 2=some (.bool false)∧
 (∃ez e0 e1,ld1 dd b1.next 10=some (.slice ez e0 e1)∧
 (zbG K Q dd e0 ez b1 dg dh di k dj dk)))))))
abbrev zbH (K:Xs) (Q:Value→AH→Prop) (eq:AH) (b1:AH) (bk:AH) (dg:Option Addr) (dh:Nat) (di:Nat) (k:Int) (dj:Nat) (dk:Int→Nat→AH→Prop):Prop:=
 ((ld1 eq b1.next 2=some (.bool true)∧
 (∃e2,ld1 eq bk.next 5=some (.int .u64 e2)∧
 (∃e3,ld1 eq b1.next 5=some (.int .u64 e3)∧
 (((e3:Int)≤e2→Q (.bool false) eq)∧
 (¬(e3:Int)≤e2→∃ep,ld1 eq b1.next 0=some (.int .u64 ep)∧
 (zbc K Q dg dh di ep eq b1 k dj dk))))))∨(ld1 eq b1.next 2=some (.bool false)∧
 (∃e4,ld1 eq b1.next 0=some (.int .u64 e4)∧
 (zbc K Q dg dh di e4 eq b1 k dj dk))))
abbrev zbI (K:Xs) (Q:Value→AH→Prop) (dg:Option Addr) (dh:Nat) (di:Nat) (e5:Int) (e6:AH) (b1:AH) (k:Int) (dj:Nat) (dk:Int→Nat→AH→Prop):Prop:=
 (Wf Tryz.prog K 26 [.slice dg dh di,.int .u64 e5] e6 fun e7 a1=>
 (∃e8 e9 fa a5 a6 fb fc fd fe ff fg fh fi,((e7=(.tuple #[.agg (sC e8 e9 fa a5 a6 fb fc fd fe ff fg fh fi).toArray,.bool true])∧
 (∀bg,bg=a1.alloc (.cells (zC) 62 false)→
 (11=11)∧∃fj,stN bg a1.next 0 (sC e8 e9 fa a5 a6 fb fc fd fe ff fg fh fi)=some fj∧
 (((ld1 fj a1.next 2=some (.bool true)∧
 (Q (.bool false) fj))∨(ld1 fj a1.next 2=some (.bool false)∧
 (∃fk,ld1 fj b1.next 4=some (.int .u64 fk)∧
 (Wf Tryz.prog K 26 [.slice dg dh di,.int .u64 fk] fj fun fl bk=>
 (∃bl fm fn bo fo fp fq fr fs bu ft fu fv,((fl=(.tuple #[.agg (sC bl fm fn bo fo fp fq fr fs bu ft fu fv).toArray,.bool true])∧
 (∀fw,fw=bk.alloc (.cells (zC) 62 false)→
 (11=11)∧∃eq,stN fw bk.next 0 (sC bl fm fn bo fo fp fq fr fs bu ft fu fv)=some eq∧
 (∃fx,ld1 eq b1.next 4=some (.int .u64 fx)∧
 (((fx:Int)=0→(zbH K Q eq b1 bk dg dh di k dj dk))∧
 (¬(fx:Int)=0→((ld1 eq bk.next 2=some (.bool true)∧
 ((zbH K Q eq b1 bk dg dh di k dj dk)))∨(ld1 eq bk.next 2=some (.bool false)∧
 (Q (.bool false) eq))))))))∨(fl=(.tuple #[.agg (sC bl fm fn bo fo fp fq fr fs bu ft fu fv).toArray,.bool false])∧
 (∀fy,fy=bk.alloc (.cells (zC) 62 false)→
 (11=11)∧∃fz,stN fy bk.next 0 (sC bl fm fn bo fo fp fq fr fs bu ft fu fv)=some fz∧
 (∃f0,ld1 fz b1.next 4=some (.int .u64 f0)∧
 (((f0:Int)=0→∃f1,ld1 fz b1.next 0=some (.int .u64 f1)∧
 (zbc K Q dg dh di f1 fz b1 k dj dk))∧
 (¬(f0:Int)=0→Q (.bool false) fz))))))))))))))∨(e7=(.tuple #[.agg (sC e8 e9 fa a5 a6 fb fc fd fe ff fg fh fi).toArray,.bool false])∧
 (∀f2,f2=a1.alloc (.cells (zC) 62 false)→
 (11=11)∧∃f3,stN f2 a1.next 0 (sC e8 e9 fa a5 a6 fb fc fd fe ff fg fh fi)=some f3∧
 (Q (.bool false) f3))))))
theorem zd5 {K:Xs} (hk:K 5=none) (a:Int) (b:Option Addr) (d e:Nat) (f:AH) (Q:Value→AH→Prop) (H:
 ((281474976710656:Int)≤a→Q (.bool false) f)∧
 (¬(281474976710656:Int)≤a→((32:Int) < ((d:Nat):Int)→Q (.bool false) f)∧
 (¬(32:Int) < ((d:Nat):Int)→∃g:Int→Nat→AH→Prop,(∃n,g 0 n f)∧
 ∀(i:Nat) (j:AH),∀(k:Int),g k i j→
 ((k:Int) < ((d:Nat):Int)→zai b fun l m=>(((0:Int)≤k)∧((k:Int) < ((d:Nat):Int))∧
 (∃o p q r s t u v w x y z aa,ldN j l (m+Int.toNat k * 11) 11=some (sC o p q r s t u v w x y z aa)∧
 (∀ab,ab=j.alloc (.cells (zC) 62 false)→
 (11=11)∧∃ac,stN ab j.next 0 (sC o p q r s t u v w x y z aa)=some ac∧
 (∃ad ae af ag ah ai aj ak al am an ao ap,ldN ac j.next 0 11=some (sC ad ae af ag ah ai aj ak al am an ao ap)∧
 (Wf Tryz.prog K 25 [.agg (sC ad ae af ag ah ai aj ak al am an ao ap).toArray] ac fun aq ar=>
 (((aq=(.bool true)∧
 (∃au,ld1 ar j.next 0=some (.int .u64 au)∧
 (((a:Int)≤au→Q (.bool false) ar)∧
 (¬(a:Int)≤au→((0:Int) < k→∀av:Int,av=IntKind.wrap .i64 (k - 1)→zai b fun aw ax=>(((0:Int)≤av)∧((av:Int) < ((d:Nat):Int))∧
 (∃ay,ld1 ar aw (ax+Int.toNat av * 11)=some (.int .u64 ay)∧
 (∃az,ld1 ar j.next 0=some (.int .u64 az)∧
 (((az:Int)≤ay→Q (.bool false) ar)∧
 (¬(az:Int)≤ay→∃a0,ld1 ar j.next 3=some (.int .u64 a0)∧
 (zbI K Q b d e a0 ar j k i g)))))))∧
 (¬(0:Int) < k→∃a1,ld1 ar j.next 3=some (.int .u64 a1)∧
 (zbI K Q b d e a1 ar j k i g))))))∨(aq=(.bool false)∧
 (Q (.bool false) ar))))))))))∧
 (¬(k:Int) < ((d:Nat):Int)→Q (.bool true) j)))):
 Wf Tryz.prog K 5 (bC a b d e) f Q:=
  zaf (hs:=[(4,[(26,.int .i64 0)]),(18,[(118,.int .i64 0)]),(24,[(132,.int .i64 0)])]) hk (Eq.mpr (by kernel_rfl) H)
end Go.Am
