/-
  WEAKEST CONDITIONS of some functions of this program, printed by a program.
-/
import Derived.Test.YtihmdaifbmchjaaGreatVAbb
import Derived.Test.YtihmdaifbmchjaaGreatRows
set_option linter.unusedVariables false
set_option maxRecDepth 100000
namespace Go.Am
open Go.Proofs
theorem zjl {K:Xs} (hk:K 92=none) (a:Int) (h:AH) (Q:Value→AH→Prop) (H:
 ((a:Int) < 1→Q (.slice none 0 0) h)∧
 (¬(a:Int) < 1→((65535:Int) < a→Q (.slice none 0 0) h)∧
 (¬(65535:Int) < a→Wf Tryz.prog K 124 [.int .i64 a,.int .i64 128] h fun b d=>
 (∃e,b=(.int .i64 e)∧
 (∀f,f=d.alloc (.cells [.int .i64 e] 3 false)→
 ∃g:Int→Option Addr→Nat→Nat→Nat→AH→Prop,(∃n,g e (some ⟨d.next,0,none⟩) 1 1 n f)∧
 ∀(i:Nat) (j:AH),∀(k:Int),∀(l:Option Addr) (m:Nat) (o:Nat),g k l m o i j→
 ((1:Int) < k→Wf Tryz.prog K 124 [.int .i64 k,.int .i64 8] j fun p q=>
 (∃r,p=(.int .i64 r)∧
 (∀s,s=q.alloc (.cells [.int .i64 r] 3 false)→
 ∃t u v w,zal Tryz.prog s .append #[48,48] [.slice l m o,(.slice (some ⟨q.next,0,none⟩) 1 1)]=some (.slice t u v,w)∧
 (∃x,x < i∧g r t u v x w))))∧
 (¬(1:Int) < k→Q (.slice l m o) j)))))):
 Wf Tryz.prog K 92 [.int .i64 a] h Q:=
  zaf (hs:=[(5,[(3,.int .i64 0),(4,.slice none 0 0)])]) hk (Eq.mpr (by kernel_rfl) H)
theorem zmR {K:Xs} (hk:K 114=none) (a:Int) (h:AH) (Q:Value→AH→Prop) (H:
 Wf Tryz.prog K 92 [.int .i64 a] h fun b d=>
 (∃e f g,b=(.slice e f g)∧
 (∃i:Int→Int→Nat→AH→Prop,(∃n,i 0 0 n d)∧
 ∀(j:Nat) (k:AH),∀(l:Int),∀(m:Int),i l m j k→
 ((m:Int) < ((f:Nat):Int)→zai e fun o p=>(((0:Int)≤m)∧((m:Int) < ((f:Nat):Int))∧
 (∃q,ld1 k o (p+Int.toNat m * 1)=some (.int .i64 q)∧
 (∀r:Int,r=IntKind.wrap .i64 (l+q)→∀s:Int,s=IntKind.wrap .i64 (m+1)→∃t,t < j∧i r s t k))))∧
 (¬(m:Int) < ((f:Nat):Int)→Q (.int .i64 l) k)))):
 Wf Tryz.prog K 114 [.int .i64 a] h Q:=
  zaf (hs:=[(3,[(3,.int .i64 0),(9,.int .i64 0)])]) hk (Eq.mpr (by kernel_rfl) H)
theorem zix {K:Xs} (hk:K 124=none) (a:Int) (b:Int) (h:AH) (Q:Value→AH→Prop) (H:
 ∀d:Int,d=IntKind.wrap .i64 (a+b)→∀e:Int,e=IntKind.wrap .i64 (d - 1)→(b≠(0:Int))∧(∀f:Int,f=IntKind.wrap .i64 (Int.tdiv e b)→Q (.int .i64 f) h)):
 Wf Tryz.prog K 124 [.int .i64 a,.int .i64 b] h Q:=
  zaf (hs:=[]) hk (Eq.mpr (by kernel_rfl) H)
theorem zgl {K:Xs} (hk:K 93=none) (a:Option Addr) (b:Option Addr) (d e:Nat) (f:Int) (h:AH) (Q:Value→AH→Prop) (H:
 ((0:Int)≤0∧(0:Int)≤f∧(f:Int)≤9223372036854775807∧(24:Int) * f≤281474976710656)∧∀g,g=h.alloc (.cells ((List.replicate (Int.toNat f) [.int .i64 0,.int .u64 0,.int .u32 0]).flatten) 42 false)→
 ∃i:Option Addr→Nat→Nat→Int→Nat→AH→Prop,(∃n,i (some ⟨h.next,0,none⟩) (Int.toNat 0) (Int.toNat f) 0 n g)∧
 ∀(j:Nat) (k:AH),∀(l:Option Addr) (m:Nat) (o:Nat),∀(p:Int),i l m o p j k→
 ((p:Int) < ((d:Nat):Int)→zai b fun q r=>(((0:Int)≤p)∧((p:Int) < ((d:Nat):Int))∧
 (∃s t u,ldN k q (r+Int.toNat p * 3) 3=some (qL s t u)∧
 (∀v,v=k.alloc (.cells [.int .i64 0,.int .u64 0,.int .u32 0] 42 false)→
 (3=3)∧∃w,stN v k.next 0 (qL s t u)=some w∧
 (∃x y z,ldN w k.next 0 3=some (qL x y z)∧
 (Wf Tryz.prog K 125 [.pointer a,.agg (qL x y z).toArray] w fun aa ab=>
 (∃l21:List Value,∃ac,aa=(.tuple #[.agg l21.toArray,.int .i64 ac])∧
 (∀ad,ad=ab.alloc (.cells (List.replicate 128 (.int .u8 0):List Value) 112 false)→
 (List.length l21=128)∧∃ae,stN ad ab.next 0 l21=some ae∧
 (((ac:Int)=0→∃l25:List Value,ldN ae ab.next 0 128=some l25∧
 (Wf Tryz.prog K 126 [.agg l25.toArray] ae fun af ag=>
 (∃l28:List Value,∃ah,af=(.tuple #[.agg l28.toArray,.int .i64 ah])∧
 (∀ai,ai=ag.alloc (.cells [.int .i64 0,.int .u64 0,.int .u32 0,.int .i64 0,.int .u64 0,.int .u32 0,.int .i64 0,.int .u64 0,.int .u32 0,.int .i64 0,.int .u64 0,.int .u32 0,.int .i64 0,.int .u64 0,.int .u32 0,.int .i64 0,.int .u64 0,.int .u32 0,.int .i64 0,.int .u64 0,.int .u32 0,.int .i64 0,.int .u64 0,.int .u32 0] 192 false)→
 (List.length l28=24)∧∃aj,stN ai ag.next 0 l28=some aj∧
 (((ah:Int)=0→∀ak:Int,ak=IntKind.wrap .i64 (f - ((m:Nat):Int))→∀al:Int,al=(if ak < (8:Int) then ak else (8:Int))→∃l34:List Value,ldN aj ag.next 0 24=some l34∧
 (∃am:Int→Nat→AH→Prop,(∃n,am 0 n aj)∧
 ∀(an:Nat) (ao:AH),∀(ap:Int),am ap an ao→
 ((ap:Int) < 8→((0:Int)≤ap)∧((ap:Int) < 8)∧(∃aq ar au,(List.take 3 (List.drop (Int.toNat ap * 3) l34))=(qL aq ar au)∧
 (∀av,av=ao.alloc (.cells [.int .i64 0,.int .u64 0,.int .u32 0] 42 false)→
 (3=3)∧∃aw,stN av ao.next 0 (qL aq ar au)=some aw∧
 (∃ax ay az,ldN aw ao.next 0 3=some (qL ax ay az)∧
 (∃la48 lb49,zcp Tryz.prog 42 (.agg (qL ax ay az).toArray)=some la48∧zcp Tryz.prog 42 (.agg #[.int .i64 0,.int .u64 0,.int .u32 0])=some lb49∧
 (zaC la48 lb49=true→((ap:Int) < al→Q (.tuple #[.slice none 0 0,.int .i64 91]) aw)∧
 (¬(ap:Int) < al→∀a0:Int,a0=IntKind.wrap .i64 (ap+1)→∃a1,a1 < an∧am a0 a1 aw))∧
 (zaC la48 lb49=false→((ap:Int) < al→∀a2:Int,a2=IntKind.wrap .i64 (ap+1)→∃a1,a1 < an∧am a2 a1 aw)∧
 (¬(ap:Int) < al→Q (.tuple #[.slice none 0 0,.int .i64 91]) aw)))))))∧
 (¬(ap:Int) < 8→∃a3 a4 a5,zar Tryz.prog ao 192 (.pointer (some ⟨ag.next,0,none⟩)) none (some (.int .i64 al)) none=some (.slice a3 a4 a5)∧
 (∃a6 a7 a8 a9,zal Tryz.prog ao .append #[60,60] [.slice l m o,.slice a3 a4 a5]=some (.slice a6 a7 a8,a9)∧
 (∀ba:Int,ba=IntKind.wrap .i64 (p+1)→∃bb,bb < j∧i a6 a7 a8 ba bb a9)))))∧
 (¬(ah:Int)=0→Q (.tuple #[.slice none 0 0,.int .i64 91]) aj))))))∧
 (¬(ac:Int)=0→Q (.tuple #[.slice none 0 0,.int .i64 ac]) ae))))))))))∧
 (¬(p:Int) < ((d:Nat):Int)→Q (.tuple #[.slice l m o,.int .i64 0]) k)):
 Wf Tryz.prog K 93 [.pointer a,.slice b d e,.int .i64 f] h Q:=
  zaf (hs:=[(3,[(8,.slice none 0 0),(21,.int .i64 0)]),(13,[(47,.int .i64 0)])]) hk (Eq.mpr (by kernel_rfl) H)
theorem zg9 {K:Xs} (hk:K 94=none) (a:Option Addr) (b:Option Addr) (d e:Nat) (f:Int) (h:AH) (Q:Value→AH→Prop) (H:
 ∀g:Int,g=IntKind.wrap .i64 (((d:Nat):Int) * 128)→((0:Int)≤0∧(0:Int)≤g∧(g:Int)≤9223372036854775807∧(1:Int) * g≤281474976710656)∧∀i,i=h.alloc (.cells ((List.replicate (Int.toNat g) [.int .u8 0]).flatten) 5 false)→
 ∃j:Option Addr→Nat→Nat→Int→Nat→AH→Prop,(∃n,j (some ⟨h.next,0,none⟩) (Int.toNat 0) (Int.toNat g) 0 n i)∧
 ∀(k:Nat) (l:AH),∀(m:Option Addr) (o:Nat) (p:Nat),∀(q:Int),j m o p q k l→
 ((q:Int) < ((d:Nat):Int)→zai b fun r s=>(((0:Int)≤q)∧((q:Int) < ((d:Nat):Int))∧
 (∃t u v,ldN l r (s+Int.toNat q * 3) 3=some (qL t u v)∧
 (∀w,w=l.alloc (.cells [.int .i64 0,.int .u64 0,.int .u32 0] 42 false)→
 (3=3)∧∃x,stN w l.next 0 (qL t u v)=some x∧
 (∃y z aa,ldN x l.next 0 3=some (qL y z aa)∧
 (Wf Tryz.prog K 125 [.pointer a,.agg (qL y z aa).toArray] x fun ab ac=>
 (∃l22:List Value,∃ad,ab=(.tuple #[.agg l22.toArray,.int .i64 ad])∧
 (∀ae,ae=ac.alloc (.cells (List.replicate 128 (.int .u8 0):List Value) 112 false)→
 (List.length l22=128)∧∃af,stN ae ac.next 0 l22=some af∧
 (((ad:Int)=0→∃ag ah ai,zar Tryz.prog af 112 (.pointer (some ⟨ac.next,0,none⟩)) none none none=some (.slice ag ah ai)∧
 (∃aj ak al am,zal Tryz.prog af .append #[53,53] [.slice m o p,.slice ag ah ai]=some (.slice aj ak al,am)∧
 (∀an:Int,an=IntKind.wrap .i64 (q+1)→∃ao,ao < k∧j aj ak al an ao am)))∧
 (¬(ad:Int)=0→Q (.tuple #[.slice none 0 0,.int .i64 ad]) af))))))))))∧
 (¬(q:Int) < ((d:Nat):Int)→∃ap aq ar,zar Tryz.prog l 53 (.slice m o p) (some (.int .i64 f)) none none=some (.slice ap aq ar)∧
 (∃au:Int→Nat→AH→Prop,(∃n,au 0 n l)∧
 ∀(av:Nat) (aw:AH),∀(ax:Int),au ax av aw→
 ((ax:Int) < ((aq:Nat):Int)→zai ap fun ay az=>(((0:Int)≤ax)∧((ax:Int) < ((aq:Nat):Int))∧
 (∃a0,ld1 aw ay (az+Int.toNat ax * 1)=some (.int .u8 a0)∧
 (((a0:Int)=0→∀a1:Int,a1=IntKind.wrap .i64 (ax+1)→∃a2,a2 < av∧au a1 a2 aw)∧
 (¬(a0:Int)=0→Q (.tuple #[.slice none 0 0,.int .i64 91]) aw)))))∧
 (¬(ax:Int) < ((aq:Nat):Int)→∃a3 a4 a5,zar Tryz.prog aw 53 (.slice m o p) none (some (.int .i64 f)) (some (.int .i64 f))=some (.slice a3 a4 a5)∧
 (Q (.tuple #[.slice a3 a4 a5,.int .i64 0]) aw))))):
 Wf Tryz.prog K 94 [.pointer a,.slice b d e,.int .i64 f] h Q:=
  zaf (hs:=[(3,[(8,.slice none 0 0),(21,.int .i64 0)]),(11,[(42,.int .i64 0)])]) hk (Eq.mpr (by kernel_rfl) H)
theorem zmS {K:Xs} (hk:K 63=none) (a:Option Addr) (b:Int) (d:Int) (e:Int) (f:Int) (h:AH) (Q:Value→AH→Prop) (H:
 ∀g,g=h.alloc (.cells (qL b d e) 42 false)→
 Wf Tryz.prog K 92 [.int .i64 f] g fun i j=>
 (∃k l m,i=(.slice k l m)∧
 (((((l:Nat):Int):Int)=0→Q (.tuple #[.slice none 0 0,.slice none 0 0,.int .i64 121]) j)∧
 (¬(((l:Nat):Int):Int)=0→∃o p q,ldN j h.next 0 3=some (qL o p q)∧
 (∃la9 lb10,zcp Tryz.prog 42 (.agg (qL o p q).toArray)=some la9∧zcp Tryz.prog 42 (.agg #[.int .i64 0,.int .u64 0,.int .u32 0])=some lb10∧
 (zaC la9 lb10=true→Q (.tuple #[.slice none 0 0,.slice none 0 0,.int .i64 121]) j)∧
 (zaC la9 lb10=false→∃r s t,ldN j h.next 0 3=some (qL r s t)∧
 (∀u,u=j.alloc (.cells (qL r s t) 42 false)→
 ∃v w x,ldN u h.next 0 3=some (qL v w x)∧
 (∀y,y=u.alloc (.cells (qL v w x) 42 false)→
 ∀z:Int,z=IntKind.wrap .i64 (((l:Nat):Int) - 2)→∃aa:Option Addr→Nat→Nat→Option Addr→Nat→Nat→Int→Nat→AH→Prop,(∃n,aa (some ⟨j.next,0,none⟩) 1 1 (some ⟨u.next,0,none⟩) 1 1 z n y)∧
 ∀(ab:Nat) (ac:AH),∀(ad:Option Addr) (ae:Nat) (af:Nat),∀(ag:Option Addr) (ah:Nat) (ai:Nat),∀(aj:Int),aa ad ae af ag ah ai aj ab ac→
 ((0:Int)≤aj→zai k fun ak al=>(((0:Int)≤aj)∧((aj:Int) < ((l:Nat):Int))∧
 (∃am,ld1 ac ak (al+Int.toNat aj * 1)=some (.int .i64 am)∧
 (Wf Tryz.prog K 93 [.pointer a,.slice ad ae af,.int .i64 am] ac fun an ao=>
 (∃ap aq ar au,an=(.tuple #[.slice ap aq ar,.int .i64 au])∧
 (((au:Int)=0→∃av aw ax ay,zal Tryz.prog ao .append #[60,60] [.slice ag ah ai,.slice ap aq ar]=some (.slice av aw ax,ay)∧
 (∀az:Int,az=IntKind.wrap .i64 (aj - 1)→∃a0,a0 < ab∧aa ap aq ar av aw ax az a0 ay))∧
 (¬(au:Int)=0→Q (.tuple #[.slice none 0 0,.slice none 0 0,.int .i64 au]) ao)))))))∧
 (¬(0:Int)≤aj→Wf Tryz.prog K 94 [.pointer a,.slice ad ae af,.int .i64 f] ac fun a1 a2=>
 (∃a3 a4 a5 a6,a1=(.tuple #[.slice a3 a4 a5,.int .i64 a6])∧
 (((a6:Int)=0→Q (.tuple #[.slice a3 a4 a5,.slice ag ah ai,.int .i64 0]) a2)∧
 (¬(a6:Int)=0→Q (.tuple #[.slice none 0 0,.slice none 0 0,.int .i64 a6]) a2)))))))))))):
 Wf Tryz.prog K 63 [.pointer a,.agg (qL b d e).toArray,.int .i64 f] h Q:=
  zaf (hs:=[(7,[(10,.slice none 0 0),(11,.slice none 0 0),(12,.int .i64 0)])]) hk (Eq.mpr (by kernel_rfl) H)
theorem zha {K:Xs} (hk:K 144=none) (a:Option Addr) (b:Option Addr) (d e:Nat) (f:Option Addr) (g j:Nat) (h:AH) (Q:Value→AH→Prop) (H:
 ∀k,k=h.alloc (.cells [.pointer a] 36 false)→
 ∀l,l=k.alloc (.cells [.slice f g j] 48 false)→
 ∀m,m=l.alloc (.cells [.slice none 0 0] 60 false)→
 ∀n,n=m.alloc (.cells [.int .i64 0] 31 false)→
 ∀o,o=n.alloc (.cells [.slice none 0 0] 60 false)→
 Wf Tryz.prog K 163 [.slice b d e,.int .i64 128] o fun p q=>
 (∃(r:FuncId) (cap8:List Value),p=(.func (.func r) #[] cap8.toArray)∧
 (∃(s:Nat→AH→Prop) (t:AX→AH→Prop) (N11:Nat) (item12:Nat→List Value) (G15 u:AH→AH→Prop),
 (K r=none∧([14]:List Nat)=[14])∧
 (∀i,i < N11→∃v w y,item12 i=[.slice v w y])∧
 (∀l,l.next=q.next+1→(∀c,c≠q.next→l.get c=q.get c)→s 0 l)∧
 (∀i l m,s i l→za9 q.next l m→s i m)∧
 (∀x l m,t x l→za9 q.next l m→t x m)∧
 (∀i l m,s i l→G15 l m→s i m)∧(∀x l m,t x l→G15 l m→t x m)∧(∀l m,G15 l m→m.get q.next=l.get q.next)∧
 (∀(z:Nat) (aa:AH),z < N11→s z aa→(∃L,aa.get q.next=some (.loop L))→∀(ab:Option Addr) (ac:Nat) (ad:Nat),item12 z=[.slice ab ac ad]→
 AX.normal=AX.normal∧(aa.get q.next=aa.get q.next)∧∀ae,za9 q.next aa ae→(∃L,ae.get q.next=some (.loop L))→
 ∃af:Option Addr,ld1 ae h.next 0=some (.pointer af)∧
 (∃ag ah ai,ld1 ae k.next 0=some (.slice ag ah ai)∧
 (∃aj ak al,ld1 ae n.next 0=some (.slice aj ak al)∧
 (zai ag fun am an=>(((0:Int)≤((ak:Nat):Int))∧((((ak:Nat):Int):Int) < ((ah:Nat):Int))∧
 (∃ao,ld1 ae am (an+Int.toNat ((ak:Nat):Int) * 1)=some (.int .i64 ao)∧
 (Wf Tryz.prog K 117 [.pointer af,.int .i64 ao,.slice ab ac ad] ae fun ap aq=>
 (∃ar au av aw,ap=(.tuple #[.agg (qL ar au av).toArray,.int .i64 aw])∧
 (∀ax,ax=aq.alloc (.cells [.int .i64 0,.int .u64 0,.int .u32 0] 42 false)→
 (3=3)∧∃ay,stN ax aq.next 0 (qL ar au av)=some ay∧
 (((aw:Int)=0→∃az a0 a1,ld1 ay n.next 0=some (.slice az a0 a1)∧
 (∃a2 a3 a4,ldN ay aq.next 0 3=some (qL a2 a3 a4)∧
 (∀a5,a5=ay.alloc (.cells (qL a2 a3 a4) 42 false)→
 ∃a6 a7 a8 a9,zal Tryz.prog a5 .append #[60,60] [.slice az a0 a1,(.slice (some ⟨ay.next,0,none⟩) 1 1)]=some (.slice a6 a7 a8,a9)∧
 (∃ba,st1 a9 n.next 0 (.slice a6 a7 a8)=some ba∧
 ((ba.get q.next=ae.get q.next∧s (z+1) ba∧∀bb,za9 q.next ba bb→u aa bb))))))∧
 (¬(aw:Int)=0→∃bc,st1 ay l.next 0 (.slice none 0 0)=some bc∧
 (∃bd,st1 bc m.next 0 (.int .i64 aw)=some bd∧
 ((bd.get q.next=ae.get q.next∧t .ret bd∧∀bb,za9 q.next bd bb→u aa bb))))))))))))))∧
 (∀(JJ56:Nat→AH→Prop) (DD57:AH→Prop),(∀i l,JJ56 i l→s i l)→(∀i l m,JJ56 i l→G15 l m→JJ56 i m)→(∀l m,DD57 l→G15 l m→DD57 m)→
 (∀(be:Nat) (bf:AH),be < N11→JJ56 be bf→Wy Tryz.prog K q.next (item12 be) bf fun bg bh=>((bg=.bool true∧JJ56 (be+1) bh)∨(bg=.bool false∧DD57 bh))∧u bf bh)→
 ∀bi,JJ56 0 bi→Wf Tryz.prog K r ([(Value.func (Fn.yield q.next) #[] #[])] ++ cap8) bi fun _ bj=>JJ56 N11 bj∨DD57 bj)∧
 (∀bk,s N11 bk→∃bl bm bn,ld1 (bk.del q.next) n.next 0=some (.slice bl bm bn)∧
 (∃bo,st1 (bk.del q.next) l.next 0 (.slice bl bm bn)=some bo∧
 (∃bp,st1 bo m.next 0 (.int .i64 0)=some bp∧
 (∃bq br bs,ld1 bp l.next 0=some (.slice bq br bs)∧
 (∃bt,ld1 bp m.next 0=some (.int .i64 bt)∧
 (Q (.tuple #[.slice bq br bs,.int .i64 bt]) bp))))))∧
 (∀bu,t .ret bu→∃bv bw bx,ld1 (bu.del q.next) l.next 0=some (.slice bv bw bx)∧
 (∃bz,ld1 (bu.del q.next) m.next 0=some (.int .i64 bz)∧
 (Q (.tuple #[.slice bv bw bx,.int .i64 bz]) (bu.del q.next))))∧
 (∀(b0:AX) (bu:AH),b0≠.normal→t b0 bu→zg0 b0 [.ret]=true)))):
 Wf Tryz.prog K 144 [.pointer a,.slice b d e,.slice f g j] h Q:=
  zaf (hs:=[(3,[(14,.slice none 0 0)])]) hk (Eq.mpr (by kernel_rfl) H)
theorem zgm {K:Xs} (hk:K 145=none) (a:Option Addr) (b:Option Addr) (d e:Nat) (f:Option Addr) (g j:Nat) (h:AH) (Q:Value→AH→Prop) (H:
 ∀k,k=h.alloc (.cells [.pointer a] 36 false)→
 ∀l,l=k.alloc (.cells [.slice f g j] 48 false)→
 ∀m,m=l.alloc (.cells [.slice none 0 0] 60 false)→
 ∀n,n=m.alloc (.cells [.int .i64 0] 31 false)→
 ∀o,o=n.alloc (.cells [.slice none 0 0] 60 false)→
 Wf Tryz.prog K 164 [.slice b d e,.int .i64 8] o fun p q=>
 (∃(r:FuncId) (cap8:List Value),p=(.func (.func r) #[] cap8.toArray)∧
 (∃(s:Nat→AH→Prop) (t:AX→AH→Prop) (N11:Nat) (item12:Nat→List Value) (G15 u:AH→AH→Prop),
 (K r=none∧([16]:List Nat)=[16])∧
 (∀i,i < N11→∃v w y,item12 i=[.slice v w y])∧
 (∀l,l.next=q.next+1→(∀c,c≠q.next→l.get c=q.get c)→s 0 l)∧
 (∀i l m,s i l→za9 q.next l m→s i m)∧
 (∀x l m,t x l→za9 q.next l m→t x m)∧
 (∀i l m,s i l→G15 l m→s i m)∧(∀x l m,t x l→G15 l m→t x m)∧(∀l m,G15 l m→m.get q.next=l.get q.next)∧
 (∀(z:Nat) (aa:AH),z < N11→s z aa→(∃L,aa.get q.next=some (.loop L))→∀(ab:Option Addr) (ac:Nat) (ad:Nat),item12 z=[.slice ab ac ad]→
 AX.normal=AX.normal∧(aa.get q.next=aa.get q.next)∧∀ae,za9 q.next aa ae→(∃L,ae.get q.next=some (.loop L))→
 ∀af,af=ae.alloc (.cells [.int .i64 0,.int .u64 0,.int .u32 0,.int .i64 0,.int .u64 0,.int .u32 0,.int .i64 0,.int .u64 0,.int .u32 0,.int .i64 0,.int .u64 0,.int .u32 0,.int .i64 0,.int .u64 0,.int .u32 0,.int .i64 0,.int .u64 0,.int .u32 0,.int .i64 0,.int .u64 0,.int .u32 0,.int .i64 0,.int .u64 0,.int .u32 0] 192 false)→
 ∃ag ah ai,zar Tryz.prog af 192 (.pointer (some ⟨ae.next,0,none⟩)) none none none=some (.slice ag ah ai)∧
 (∃(aj:Int) (ak:AH),zal Tryz.prog af .copy #[60,60] [.slice ag ah ai,.slice ab ac ad]=some (.int .i64 aj,ak)∧
 (∃l30:List Value,ldN ak ae.next 0 24=some l30∧
 (Wf Tryz.prog K 165 [.agg l30.toArray] ak fun al am=>
 (∃l33:List Value,∃an,al=(.tuple #[.agg l33.toArray,.int .i64 an])∧
 (∀ao,ao=am.alloc (.cells (List.replicate 128 (.int .u8 0):List Value) 112 false)→
 (List.length l33=128)∧∃ap,stN ao am.next 0 l33=some ap∧
 (((an:Int)=0→∃aq:Option Addr,ld1 ap h.next 0=some (.pointer aq)∧
 (∃ar au av,ld1 ap k.next 0=some (.slice ar au av)∧
 (∃aw ax ay,ld1 ap n.next 0=some (.slice aw ax ay)∧
 (zai ar fun az a0=>(((0:Int)≤((ax:Nat):Int))∧((((ax:Nat):Int):Int) < ((au:Nat):Int))∧
 (∃a1,ld1 ap az (a0+Int.toNat ((ax:Nat):Int) * 1)=some (.int .i64 a1)∧
 (∃a2 a3 a4,zar Tryz.prog ap 112 (.pointer (some ⟨am.next,0,none⟩)) none none none=some (.slice a2 a3 a4)∧
 (Wf Tryz.prog K 117 [.pointer aq,.int .i64 a1,.slice a2 a3 a4] ap fun a5 a6=>
 (∃a7 a8 a9 ba,a5=(.tuple #[.agg (qL a7 a8 a9).toArray,.int .i64 ba])∧
 (∀bb,bb=a6.alloc (.cells [.int .i64 0,.int .u64 0,.int .u32 0] 42 false)→
 (3=3)∧∃bc,stN bb a6.next 0 (qL a7 a8 a9)=some bc∧
 (((ba:Int)=0→∃bd be bf,ld1 bc n.next 0=some (.slice bd be bf)∧
 (∃bg bh bi,ldN bc a6.next 0 3=some (qL bg bh bi)∧
 (∀bj,bj=bc.alloc (.cells (qL bg bh bi) 42 false)→
 ∃bk bl bm bn,zal Tryz.prog bj .append #[60,60] [.slice bd be bf,(.slice (some ⟨bc.next,0,none⟩) 1 1)]=some (.slice bk bl bm,bn)∧
 (∃bo,st1 bn n.next 0 (.slice bk bl bm)=some bo∧
 ((bo.get q.next=ae.get q.next∧s (z+1) bo∧∀bp,za9 q.next bo bp→u aa bp))))))∧
 (¬(ba:Int)=0→∃bq,st1 bc l.next 0 (.slice none 0 0)=some bq∧
 (∃br,st1 bq m.next 0 (.int .i64 ba)=some br∧
 ((br.get q.next=ae.get q.next∧t .ret br∧∀bp,za9 q.next br bp→u aa bp)))))))))))))))∧
 (¬(an:Int)=0→∃bs,st1 ap l.next 0 (.slice none 0 0)=some bs∧
 (∃bt,st1 bs m.next 0 (.int .i64 an)=some bt∧
 ((bt.get q.next=ae.get q.next∧t .ret bt∧∀bp,za9 q.next bt bp→u aa bp)))))))))))∧
 (∀(JJ74:Nat→AH→Prop) (DD75:AH→Prop),(∀i l,JJ74 i l→s i l)→(∀i l m,JJ74 i l→G15 l m→JJ74 i m)→(∀l m,DD75 l→G15 l m→DD75 m)→
 (∀(bu:Nat) (bv:AH),bu < N11→JJ74 bu bv→Wy Tryz.prog K q.next (item12 bu) bv fun bw bx=>((bw=.bool true∧JJ74 (bu+1) bx)∨(bw=.bool false∧DD75 bx))∧u bv bx)→
 ∀bz,JJ74 0 bz→Wf Tryz.prog K r ([(Value.func (Fn.yield q.next) #[] #[])] ++ cap8) bz fun _ b0=>JJ74 N11 b0∨DD75 b0)∧
 (∀b1,s N11 b1→∃b2 b3 b4,ld1 (b1.del q.next) n.next 0=some (.slice b2 b3 b4)∧
 (∃b5,st1 (b1.del q.next) l.next 0 (.slice b2 b3 b4)=some b5∧
 (∃b6,st1 b5 m.next 0 (.int .i64 0)=some b6∧
 (∃b7 b8 b9,ld1 b6 l.next 0=some (.slice b7 b8 b9)∧
 (∃da,ld1 b6 m.next 0=some (.int .i64 da)∧
 (Q (.tuple #[.slice b7 b8 b9,.int .i64 da]) b6))))))∧
 (∀db,t .ret db→∃dc dd de,ld1 (db.del q.next) l.next 0=some (.slice dc dd de)∧
 (∃df,ld1 (db.del q.next) m.next 0=some (.int .i64 df)∧
 (Q (.tuple #[.slice dc dd de,.int .i64 df]) (db.del q.next))))∧
 (∀(dg:AX) (db:AH),dg≠.normal→t dg db→zg0 dg [.ret]=true)))):
 Wf Tryz.prog K 145 [.pointer a,.slice b d e,.slice f g j] h Q:=
  zaf (hs:=[(3,[(16,.slice none 0 0)])]) hk (Eq.mpr (by kernel_rfl) H)
theorem zmT {K:Xs} (hk:K 115=none) (a:Option Addr) (b:Option Addr) (d e:Nat) (f:Option Addr) (g i:Nat) (h:AH) (Q:Value→AH→Prop) (H:
 ∀j,j=h.alloc (.cells [.int .i64 0,.int .u64 0,.int .u32 0] 42 false)→
 Wf Tryz.prog K 114 [(.int .i64 ((d:Nat):Int))] j fun k l=>
 (∃m,k=(.int .i64 m)∧
 (((m:Int)=0→(3=3)∧∃o,stN l h.next 0 [.int .i64 0,.int .u64 0,.int .u32 0]=some o∧
 (∃p q r,ldN o h.next 0 3=some (qL p q r)∧
 (Q (.tuple #[.agg (qL p q r).toArray,.int .i64 121]) o)))∧
 (¬(m:Int)=0→((((g:Nat):Int):Int)=m→Wf Tryz.prog K 144 [.pointer a,.slice b d e,.slice f g i] l fun s t=>
 (∃u v w x,s=(.tuple #[.slice u v w,.int .i64 x])∧
 (∃y z aa,zar Tryz.prog t 48 (.slice f g i) (some (.int .i64 ((v:Nat):Int))) none none=some (.slice y z aa)∧
 (∃ab:Option Addr→Nat→Nat→Option Addr→Nat→Nat→Int→Nat→AH→Prop,(∃n,ab y z aa u v w x n t)∧
 ∀(ac:Nat) (ad:AH),∀(ae:Option Addr) (af:Nat) (ag:Nat),∀(ah:Option Addr) (ai:Nat) (aj:Nat),∀(ak:Int),ab ae af ag ah ai aj ak ac ad→
 ((ak:Int)=0→((1:Int) < ((ai:Nat):Int)→Wf Tryz.prog K 145 [.pointer a,.slice ah ai aj,.slice ae af ag] ad fun al am=>
 (∃an ao ap aq,al=(.tuple #[.slice an ao ap,.int .i64 aq])∧
 (∃ar au av,zar Tryz.prog am 48 (.slice ae af ag) (some (.int .i64 ((ao:Nat):Int))) none none=some (.slice ar au av)∧
 (∃aw,aw < ac∧ab ar au av an ao ap aq aw am))))∧
 (¬(1:Int) < ((ai:Nat):Int)→((ak:Int)=0→zai ah fun ax ay=>(((0:Int)≤0)∧((0:Int) < ((ai:Nat):Int))∧
 (∃az a0 a1,ldN ad ax ay 3=some (qL az a0 a1)∧
 ((3=3)∧∃a2,stN ad h.next 0 (qL az a0 a1)=some a2∧
 (∃a3 a4 a5,ldN a2 h.next 0 3=some (qL a3 a4 a5)∧
 (Q (.tuple #[.agg (qL a3 a4 a5).toArray,.int .i64 0]) a2))))))∧
 (¬(ak:Int)=0→(3=3)∧∃a6,stN ad h.next 0 [.int .i64 0,.int .u64 0,.int .u32 0]=some a6∧
 (∃a7 a8 a9,ldN a6 h.next 0 3=some (qL a7 a8 a9)∧
 (Q (.tuple #[.agg (qL a7 a8 a9).toArray,.int .i64 ak]) a6)))))∧
 (¬(ak:Int)=0→((ak:Int)=0→zai ah fun ba bb=>(((0:Int)≤0)∧((0:Int) < ((ai:Nat):Int))∧
 (∃bc bd be,ldN ad ba bb 3=some (qL bc bd be)∧
 ((3=3)∧∃bf,stN ad h.next 0 (qL bc bd be)=some bf∧
 (∃bg bh bi,ldN bf h.next 0 3=some (qL bg bh bi)∧
 (Q (.tuple #[.agg (qL bg bh bi).toArray,.int .i64 0]) bf))))))∧
 (¬(ak:Int)=0→(3=3)∧∃bj,stN ad h.next 0 [.int .i64 0,.int .u64 0,.int .u32 0]=some bj∧
 (∃bk bl bm,ldN bj h.next 0 3=some (qL bk bl bm)∧
 (Q (.tuple #[.agg (qL bk bl bm).toArray,.int .i64 ak]) bj))))))))∧
 (¬(((g:Nat):Int):Int)=m→(3=3)∧∃bn,stN l h.next 0 [.int .i64 0,.int .u64 0,.int .u32 0]=some bn∧
 (∃bo bp bq,ldN bn h.next 0 3=some (qL bo bp bq)∧
 (Q (.tuple #[.agg (qL bo bp bq).toArray,.int .i64 121]) bn))))))):
 Wf Tryz.prog K 115 [.pointer a,.slice b d e,.slice f g i] h Q:=
  zaf (hs:=[(6,[(2,.slice none 0 0),(9,.slice none 0 0),(10,.int .i64 0)])]) hk (Eq.mpr (by kernel_rfl) H)
theorem zcx {K:Xs} (hk:K 163=none) (a:Option Addr) (b d:Nat) (e:Int) (h:AH) (Q:Value→AH→Prop) (H:
 ∀f,f=h.alloc (.cells [.slice a b d] 53 false)→
 ∀g,g=f.alloc (.cells [.int .i64 e] 3 false)→
 ∃i,ld1 g f.next 0=some (.int .i64 i)∧
 (((i:Int) < 1→False)∧
 (¬(i:Int) < 1→Q (.func (.func 172) #[] #[(.pointer (some ⟨h.next,0,none⟩)),(.pointer (some ⟨f.next,0,none⟩))]) g))):
 Wf Tryz.prog K 163 [.slice a b d,.int .i64 e] h Q:=
  zaf (hs:=[]) hk (Eq.mpr (by kernel_rfl) H)
theorem zcm {K:Xs} (hk:K 172=none) (ya0:Nat) (a:Option Addr) (b:Option Addr) (h:AH) (Q:Value→AH→Prop) (H:
 ∃d:Int→Nat→AH→Prop,(∃n,d 0 n h)∧
 ∀(e:Nat) (f:AH),∀(g:Int),d g e f→
 zai a fun i j=>(∃k l m,ld1 f i j=some (.slice k l m)∧
 (((g:Int) < ((l:Nat):Int)→zai b fun o p=>(∃q,ld1 f o p=some (.int .i64 q)∧
 (zai a fun r s=>(∃t u v,ld1 f r s=some (.slice t u v)∧
 (∃w x y,zar Tryz.prog f 53 (.slice t u v) (some (.int .i64 g)) none none=some (.slice w x y)∧
 (∀z:Int,z=(if ((x:Nat):Int) < (q:Int) then ((x:Nat):Int) else (q:Int))→zai a fun aa ab=>(∃ac ad ae,ld1 f aa ab=some (.slice ac ad ae)∧
 (∀af:Int,af=IntKind.wrap .i64 (g+z)→∀ag:Int,ag=IntKind.wrap .i64 (g+z)→∃ah ai aj,zar Tryz.prog f 53 (.slice ac ad ae) (some (.int .i64 g)) (some (.int .i64 af)) (some (.int .i64 ag))=some (.slice ah ai aj)∧
 (Wy Tryz.prog K ya0 [.slice ah ai aj] f fun ak al=>∃am,ak=.bool am∧
 (cond (!am) (Q (.tuple #[]) al)
 (zai b fun an ao=>(∃ap,ld1 al an ao=some (.int .i64 ap)∧
 (∀aq:Int,aq=IntKind.wrap .i64 (g+ap)→∃ar,ar < e∧d aq ar al)))))))))))))∧
 (¬(g:Int) < ((l:Nat):Int)→Q (.tuple #[]) f)))):
 Wf Tryz.prog K 172 [(Value.func (Fn.yield ya0) #[] #[]),.pointer a,.pointer b] h Q:=
  zaf (hs:=[(1,[(4,.int .i64 0)])]) hk (Eq.mpr (by kernel_rfl) H)
theorem zoL {K:Xs} (hk:K 164=none) (a:Option Addr) (b d:Nat) (e:Int) (h:AH) (Q:Value→AH→Prop) (H:
 ∀f,f=h.alloc (.cells [.slice a b d] 60 false)→
 ∀g,g=f.alloc (.cells [.int .i64 e] 3 false)→
 ∃i,ld1 g f.next 0=some (.int .i64 i)∧
 (((i:Int) < 1→False)∧
 (¬(i:Int) < 1→Q (.func (.func 173) #[] #[(.pointer (some ⟨h.next,0,none⟩)),(.pointer (some ⟨f.next,0,none⟩))]) g))):
 Wf Tryz.prog K 164 [.slice a b d,.int .i64 e] h Q:=
  zaf (hs:=[]) hk (Eq.mpr (by kernel_rfl) H)
theorem zkZ {K:Xs} (hk:K 173=none) (ya0:Nat) (a:Option Addr) (b:Option Addr) (h:AH) (Q:Value→AH→Prop) (H:
 ∃d:Int→Nat→AH→Prop,(∃n,d 0 n h)∧
 ∀(e:Nat) (f:AH),∀(g:Int),d g e f→
 zai a fun i j=>(∃k l m,ld1 f i j=some (.slice k l m)∧
 (((g:Int) < ((l:Nat):Int)→zai b fun o p=>(∃q,ld1 f o p=some (.int .i64 q)∧
 (zai a fun r s=>(∃t u v,ld1 f r s=some (.slice t u v)∧
 (∃w x y,zar Tryz.prog f 60 (.slice t u v) (some (.int .i64 g)) none none=some (.slice w x y)∧
 (∀z:Int,z=(if ((x:Nat):Int) < (q:Int) then ((x:Nat):Int) else (q:Int))→zai a fun aa ab=>(∃ac ad ae,ld1 f aa ab=some (.slice ac ad ae)∧
 (∀af:Int,af=IntKind.wrap .i64 (g+z)→∀ag:Int,ag=IntKind.wrap .i64 (g+z)→∃ah ai aj,zar Tryz.prog f 60 (.slice ac ad ae) (some (.int .i64 g)) (some (.int .i64 af)) (some (.int .i64 ag))=some (.slice ah ai aj)∧
 (Wy Tryz.prog K ya0 [.slice ah ai aj] f fun ak al=>∃am,ak=.bool am∧
 (cond (!am) (Q (.tuple #[]) al)
 (zai b fun an ao=>(∃ap,ld1 al an ao=some (.int .i64 ap)∧
 (∀aq:Int,aq=IntKind.wrap .i64 (g+ap)→∃ar,ar < e∧d aq ar al)))))))))))))∧
 (¬(g:Int) < ((l:Nat):Int)→Q (.tuple #[]) f)))):
 Wf Tryz.prog K 173 [(Value.func (Fn.yield ya0) #[] #[]),.pointer a,.pointer b] h Q:=
  zaf (hs:=[(1,[(4,.int .i64 0)])]) hk (Eq.mpr (by kernel_rfl) H)
end Go.Am
