/-
  WEAKEST CONDITIONS of some functions of this program, printed by a program.
-/
import Derived.Test.YtkapnilnhoiooaaGreatVAbb
import Derived.Test.YtkapnilnhoiooaaGreatRows
set_option linter.unusedVariables false
set_option maxRecDepth 100000
namespace Go.Am
open Go.Proofs
theorem ziO {K:Xs} (hk:K 80=none) (a:Option Addr) (b d:Nat) (e:Int) (h:AH) (Q:Value→AH→Prop) (H:
 ∃f:Int→Nat→AH→Prop,(∃n,f 0 n h)∧
 ∀(g:Nat) (i:AH),∀(j:Int),f j g i→
 ((j:Int) < ((b:Nat):Int)→zal a fun k l=>(((0:Int)≤j)∧((j:Int) < ((b:Nat):Int))∧
 (∃m,ld1 i k (l+Int.toNat j * 11)=some (.int .u64 m)∧
 (((m:Int)=e→Q (.int .i64 j) i)∧
 (¬(m:Int)=e→∀o:Int,o=IntKind.wrap .i64 (j+1)→∃p,p < g∧f o p i)))))∧
 (¬(j:Int) < ((b:Nat):Int)→Q (.int .i64 (-1)) i)):
 Wf Tryz.prog K 80 [.slice a b d,.int .u64 e] h Q:=
  zai (hs:=[(2,[(8,.int .i64 0)])]) hk (Eq.mpr (by kernel_rfl) H)
theorem ziP {K:Xs} (hk:K 55=none) (a:Option Addr) (b d:Nat) (e:Int) (h:AH) (Q:Value→AH→Prop) (H:
 Wf Tryz.prog K 80 [.slice a b d,.int .u64 e] h fun f g=>
 (∃i,f=(.int .i64 i)∧
 (((i:Int) < 0→Q (.int .u64 0) g)∧
 (¬(i:Int) < 0→zal a fun j k=>(((0:Int)≤i)∧((i:Int) < ((b:Nat):Int))∧
 (∃l,ld1 g j ((k+Int.toNat i * 11)+4)=some (.int .u64 l)∧
 (((l:Int)=0→Q (.int .u64 0) g)∧
 (¬(l:Int)=0→zal a fun m n=>(((0:Int)≤i)∧((i:Int) < ((b:Nat):Int))∧
 (∃o,ld1 g m ((n+Int.toNat i * 11)+4)=some (.int .u64 o)∧
 (Wf Tryz.prog K 80 [.slice a b d,.int .u64 o] g fun p q=>
 (∃r,p=(.int .i64 r)∧
 (((r:Int) < 0→Q (.int .u64 0) q)∧
 (¬(r:Int) < 0→zal a fun s t=>(((0:Int)≤r)∧((r:Int) < ((b:Nat):Int))∧
 (∃u,ld1 q s ((t+Int.toNat r * 11)+5)=some (.int .u64 u)∧
 (Q (.int .u64 u) q))))))))))))))))):
 Wf Tryz.prog K 55 [.slice a b d,.int .u64 e] h Q:=
  zai (hs:=[]) hk (Eq.mpr (by kernel_rfl) H)
theorem zhH {K:Xs} (hk:K 94=none) (a:Option Addr) (h:AH) (Q:Value→AH→Prop) (H:
 ∀b,b=h.alloc (.cells [.int .u64 0,(.string (ByteArray.mk #[]))] 150 false)→
 zal a fun d e=>(((ld1 b d (e+2)=some (.bool true)∧
 (zal a fun f g=>(∃i,ld1 b f (g+3)=some (.int .u64 i)∧
 (zal a fun j k=>(∃l,ld1 b j (k+1)=some (.string l)∧
 ((2=2)∧∃m,stN b h.next 0 [.int .u64 i,.string l]=some m∧
 (∃n o,ldN m h.next 0 2=some [.int .u64 n,.string o]∧
 (Q (.agg #[.int .u64 n,.string o]) m))))))))∨(ld1 b d (e+2)=some (.bool false)∧
 (zal a fun p q=>(∃r,ld1 b p (q+1)=some (.string r)∧
 ((2=2)∧∃s,stN b h.next 0 [.int .u64 0,.string r]=some s∧
 (∃t u,ldN s h.next 0 2=some [.int .u64 t,.string u]∧
 (Q (.agg #[.int .u64 t,.string u]) s))))))))):
 Wf Tryz.prog K 94 [.pointer a] h Q:=
  zai (hs:=[]) hk (Eq.mpr (by kernel_rfl) H)
theorem zdI {K:Xs} (hk:K 96=none) (a:Option Addr) (b d:Nat) (e:Int) (h:AH) (Q:Value→AH→Prop) (H:
 ∀f,f=h.alloc (.cells [.slice a b d] 27 false)→
 ∀g,g=f.alloc (.cells [.int .u64 e] 26 false)→
 Q (.func (.func 102) #[] #[(.pointer (some ⟨h.next,0,none⟩)),(.pointer (some ⟨f.next,0,none⟩))]) g):
 Wf Tryz.prog K 96 [.slice a b d,.int .u64 e] h Q:=
  zai (hs:=[]) hk (Eq.mpr (by kernel_rfl) H)
theorem zf0 {K:Xs} (hk:K 102=none) (ya0:Nat) (a:Option Addr) (b:Option Addr) (h:AH) (Q:Value→AH→Prop) (H:
 zal a fun d e=>(∃f g i,ld1 h d e=some (.slice f g i)∧
 (∃j:Int→Nat→AH→Prop,(∃n,j 0 n h)∧
 ∀(k:Nat) (l:AH),∀(m:Int),j m k l→
 ((m:Int) < ((g:Nat):Int)→zal a fun o p=>(∃q r s,ld1 l o p=some (.slice q r s)∧
 (zal q fun t u=>(((0:Int)≤m)∧((m:Int) < ((r:Nat):Int))∧
 (∃v,ld1 l t ((u+Int.toNat m * 11)+4)=some (.int .u64 v)∧
 (zal b fun w x=>(∃y,ld1 l w x=some (.int .u64 y)∧
 (((v:Int)=y→Wy Tryz.prog K ya0 [.int .i64 m] l fun z aa=>∃ab,z=.bool ab∧
 (cond (!ab) (Q (.tuple #[]) aa)
 (∀ac:Int,ac=IntKind.wrap .i64 (m+1)→∃ad,ad < k∧j ac ad aa)))∧
 (¬(v:Int)=y→∀ae:Int,ae=IntKind.wrap .i64 (m+1)→∃ad,ad < k∧j ae ad l)))))))))∧
 (¬(m:Int) < ((g:Nat):Int)→Q (.tuple #[]) l)))):
 Wf Tryz.prog K 102 [(Value.func (Fn.yield ya0) #[] #[]),.pointer a,.pointer b] h Q:=
  zai (hs:=[(1,[(7,.int .i64 0)])]) hk (Eq.mpr (by kernel_rfl) H)
theorem zjD {K:Xs} (hk:K 50=none) (a:Option Addr) (b d:Nat) (e:Int) (f:AH) (Q:Value→AH→Prop) (H:
 ∀g,g=f.alloc (.cells (zC) 81 false)→
 Wf Tryz.prog K 80 [.slice a b d,.int .u64 e] g fun i j=>
 (∃k,i=(.int .i64 k)∧
 (((k:Int) < 0→(11=11)∧∃l,stN j f.next 0 (zC)=some l∧
 (∃m n o p q r s t u v w x y,ldN l f.next 0 11=some (sC m n o p q r s t u v w x y)∧
 (Q (.tuple #[.agg (sC m n o p q r s t u v w x y).toArray,.bool false]) l)))∧
 (¬(k:Int) < 0→zal a fun z aa=>(((0:Int)≤k)∧((k:Int) < ((b:Nat):Int))∧
 (∃ab ac ad ae af ag ah ai aj ak al am an,ldN j z (aa+Int.toNat k * 11) 11=some (sC ab ac ad ae af ag ah ai aj ak al am an)∧
 (Wf Tryz.prog K 56 [.agg (sC ab ac ad ae af ag ah ai aj ak al am an).toArray] j fun ao ap=>
 (∃aq ar au av aw ax ay az a0 a1 a2 a3 a4,ao=(.agg (sC aq ar au av aw ax ay az a0 a1 a2 a3 a4).toArray)∧
 ((11=11)∧∃a5,stN ap f.next 0 (sC aq ar au av aw ax ay az a0 a1 a2 a3 a4)=some a5∧
 (∃a6 a7 a8 a9 ba bb bc bd be bf bg bh bi,ldN a5 f.next 0 11=some (sC a6 a7 a8 a9 ba bb bc bd be bf bg bh bi)∧
 (Q (.tuple #[.agg (sC a6 a7 a8 a9 ba bb bc bd be bf bg bh bi).toArray,.bool true]) a5))))))))))):
 Wf Tryz.prog K 50 [.slice a b d,.int .u64 e] f Q:=
  zai (hs:=[]) hk (Eq.mpr (by kernel_rfl) H)
theorem zhI {K:Xs} (hk:K 89=none) (a:Option Addr) (b d:Nat) (e:Int) (f:AH) (Q:Value→AH→Prop) (H:
 ∀g,g=f.alloc (.cells [.slice a b d] 27 false)→
 ∃j k l,ld1 g f.next 0=some (.slice j k l)∧
 (Wf Tryz.prog K 80 [.slice j k l,.int .u64 e] g fun m n=>
 (∃o,m=(.int .i64 o)∧
 (∀p,p=n.alloc (.cells [.int .i64 0] 3 false)→
 ∃q,st1 p n.next 0 (.int .i64 o)=some q∧
 (∃r,ld1 q n.next 0=some (.int .i64 r)∧
 (((r:Int) < 0→Q (.slice none 0 0) q)∧
 (¬(r:Int) < 0→∃s t u,ld1 q f.next 0=some (.slice s t u)∧
 (∃v,ld1 q n.next 0=some (.int .i64 v)∧
 (zal s fun w y=>(((0:Int)≤v)∧((v:Int) < ((t:Nat):Int))∧
 (((ld1 q w ((y+Int.toNat v * 11)+2)=some (.bool true)∧
 (∀z,z=q.alloc (.cells [.slice none 0 0] 102 false)→
 ∃aa ab ac,ld1 z f.next 0=some (.slice aa ab ac)∧
 (Wf Tryz.prog K 96 [.slice aa ab ac,.int .u64 e] z fun ad ae=>
 (∃(af:FuncId) (cap23:List Value),ad=(.func (.func af) #[] cap23.toArray)∧
 (∃(ag:Nat→AH→Prop) (ah:AX→AH→Prop) (N26:Nat) (item27:Nat→List Value) (G30 ai:AH→AH→Prop),
 (K af=none∧([24]:List Nat)=[24])∧
 (∀i,i < N26→∃aj,item27 i=[.int .i64 aj])∧
 (∀ak,ak.next=ae.next+1→(∀c,c≠ae.next→ak.get c=ae.get c)→ag 0 ak)∧
 (∀i ak al,ag i ak→zbR ae.next ak al→ag i al)∧
 (∀x ak al,ah x ak→zbR ae.next ak al→ah x al)∧
 (∀i ak al,ag i ak→G30 ak al→ag i al)∧(∀x ak al,ah x ak→G30 ak al→ah x al)∧(∀ak al,G30 ak al→al.get ae.next=ak.get ae.next)∧
 (∀(am:Nat) (an:AH),am < N26→ag am an→(∃L,an.get ae.next=some (.loop L))→∀(ao:Int),item27 am=[.int .i64 ao]→
 AX.normal=AX.normal∧(an.get ae.next=an.get ae.next)∧∀ap,zbR ae.next an ap→(∃L,ap.get ae.next=some (.loop L))→
 ∃aq ar au,ld1 ap f.next 0=some (.slice aq ar au)∧
 (zal aq fun av aw=>(((0:Int)≤ao)∧((ao:Int) < ((ar:Nat):Int))∧
 (∃ax,ld1 ap av ((aw+Int.toNat ao * 11)+3)=some (.int .u64 ax)∧
 (∃ay az a0,ld1 ap f.next 0=some (.slice ay az a0)∧
 (∃a1,ld1 ap n.next 0=some (.int .i64 a1)∧
 (zal ay fun a2 a3=>(((0:Int)≤a1)∧((a1:Int) < ((az:Nat):Int))∧
 (∃a4,ld1 ap a2 ((a3+Int.toNat a1 * 11)+3)=some (.int .u64 a4)∧
 (((ax:Int)=a4→(ap.get ae.next=ap.get ae.next∧ag (am+1) ap∧∀n,zbR ae.next ap n→ai an n))∧
 (¬(ax:Int)=a4→∃a5 a6 a7,ld1 ap q.next 0=some (.slice a5 a6 a7)∧
 (∃a8 a9 ba,ld1 ap f.next 0=some (.slice a8 a9 ba)∧
 (zal a8 fun bb bc=>(((0:Int)≤ao)∧((ao:Int) < ((a9:Nat):Int))∧
 (∃bd,ld1 ap bb (bc+Int.toNat ao * 11)=some (.int .u64 bd)∧
 (∀be,be=ap.alloc (.cells [.int .u64 bd] 26 false)→
 ∃bf bg bh bi,zan Tryz.prog be .append #[102,102] [.slice a5 a6 a7,(.slice (some ⟨ap.next,0,none⟩) 1 1)]=some (.slice bf bg bh,bi)∧
 (∃bj,st1 bi q.next 0 (.slice bf bg bh)=some bj∧
 ((bj.get ae.next=ap.get ae.next∧ag (am+1) bj∧∀n,zbR ae.next bj n→ai an n)))))))))))))))))))∧
 (∀(JJ63:Nat→AH→Prop) (DD64:AH→Prop),(∀i ak,JJ63 i ak→ag i ak)→(∀i ak al,JJ63 i ak→G30 ak al→JJ63 i al)→(∀ak al,DD64 ak→G30 ak al→DD64 al)→
 (∀(bk:Nat) (bl:AH),bk < N26→JJ63 bk bl→Wy Tryz.prog K ae.next (item27 bk) bl fun bm bn=>((bm=.bool true∧JJ63 (bk+1) bn)∨(bm=.bool false∧DD64 bn))∧ai bl bn)→
 ∀bo,JJ63 0 bo→Wf Tryz.prog K af ([(Value.func (Fn.yield ae.next) #[] #[])] ++ cap23) bo fun _ bp=>JJ63 N26 bp∨DD64 bp)∧
 (∀bq,ag N26 bq→∃br bs bt,ld1 (bq.del ae.next) q.next 0=some (.slice br bs bt)∧
 (Q (.slice br bs bt) (bq.del ae.next)))∧
 (∀(bu:AX) (bv:AH),bu≠.normal→ah bu bv→zmf bu []=true))))))∨(ld1 q w ((y+Int.toNat v * 11)+2)=some (.bool false)∧
 (Q (.slice none 0 0) q)))))))))))))):
 Wf Tryz.prog K 89 [.slice a b d,.int .u64 e] f Q:=
  zai (hs:=[(6,[(24,.int .i64 0)])]) hk (Eq.mpr (by kernel_rfl) H)
theorem zkT {K:Xs} (hk:K 82=none) (a:Option Addr) (b d:Nat) (e:Int) (h:AH) (Q:Value→AH→Prop) (H:
 Wf Tryz.prog K 80 [.slice a b d,.int .u64 e] h fun f g=>
 (∃i,f=(.int .i64 i)∧
 (((i:Int) < 0→Q (.tuple #[.slice none 0 0,.int .u64 0]) g)∧
 (¬(i:Int) < 0→zal a fun j k=>(((0:Int)≤i)∧((i:Int) < ((b:Nat):Int))∧
 (((ld1 g j ((k+Int.toNat i * 11)+2)=some (.bool true)∧
 (Q (.tuple #[.slice none 0 0,.int .u64 0]) g))∨(ld1 g j ((k+Int.toNat i * 11)+2)=some (.bool false)∧
 (zal a fun l m=>(((0:Int)≤i)∧((i:Int) < ((b:Nat):Int))∧
 (∃o,ld1 g l ((m+Int.toNat i * 11)+4)=some (.int .u64 o)∧
 (∃p:Option Addr→Nat→Nat→Int→Nat→AH→Prop,(∃n,p none 0 0 o n g)∧
 ∀(q:Nat) (r:AH),∀(s:Option Addr) (t:Nat) (u:Nat),∀(v:Int),p s t u v q r→
 ((v:Int)=0→Q (.tuple #[.slice s t u,.int .u64 v]) r)∧
 (¬(v:Int)=0→((((t:Nat):Int):Int) < 32→Wf Tryz.prog K 80 [.slice a b d,.int .u64 v] r fun w x=>
 (∃y,w=(.int .i64 y)∧
 (((y:Int) < 0→Q (.tuple #[.slice s t u,.int .u64 v]) x)∧
 (¬(y:Int) < 0→zal a fun z aa=>(((0:Int)≤y)∧((y:Int) < ((b:Nat):Int))∧
 (∃ab,ld1 x z ((aa+Int.toNat y * 11)+3)=some (.int .u64 ab)∧
 (((ab:Int)=e→∀ac,ac=x.alloc (.cells [.int .u64 v] 26 false)→
 ∃ad ae af ag,zan Tryz.prog ac .append #[102,102] [.slice s t u,(.slice (some ⟨x.next,0,none⟩) 1 1)]=some (.slice ad ae af,ag)∧
 (zal a fun ah ai=>(((0:Int)≤y)∧((y:Int) < ((b:Nat):Int))∧
 (∃aj,ld1 ag ah ((ai+Int.toNat y * 11)+4)=some (.int .u64 aj)∧
 (∃ak,ak < q∧p ad ae af aj ak ag)))))∧
 (¬(ab:Int)=e→Q (.tuple #[.slice s t u,.int .u64 v]) x))))))))∧
 (¬(((t:Nat):Int):Int) < 32→Q (.tuple #[.slice s t u,.int .u64 v]) r)))))))))))))):
 Wf Tryz.prog K 82 [.slice a b d,.int .u64 e] h Q:=
  zai (hs:=[(6,[(7,.slice none 0 0),(8,.int .u64 0)])]) hk (Eq.mpr (by kernel_rfl) H)
theorem ziQ {K:Xs} (hk:K 58=none) (a:Option Addr) (b d:Nat) (e:Int) (h:AH) (Q:Value→AH→Prop) (H:
 Wf Tryz.prog K 82 [.slice a b d,.int .u64 e] h fun f g=>
 (∃i j k l,f=(.tuple #[.slice i j k,.int .u64 l])∧
 (Q (.slice i j k) g))):
 Wf Tryz.prog K 58 [.slice a b d,.int .u64 e] h Q:=
  zai (hs:=[]) hk (Eq.mpr (by kernel_rfl) H)
theorem zhJ {K:Xs} (hk:K 41=none) (a:Option Addr) (b d:Nat) (e:Int) (h:AH) (Q:Value→AH→Prop) (H:
 Wf Tryz.prog K 82 [.slice a b d,.int .u64 e] h fun f g=>
 (∃i j k l,f=(.tuple #[.slice i j k,.int .u64 l])∧
 (Q (.int .u64 l) g))):
 Wf Tryz.prog K 41 [.slice a b d,.int .u64 e] h Q:=
  zai (hs:=[]) hk (Eq.mpr (by kernel_rfl) H)
abbrev zc2 (K:Xs) (Q:Value→AH→Prop) (m:Int) (a:Option Addr) (b:Nat) (n:AH) (o:AH):Prop:=
 (¬(m:Int) < 0→zal a fun p q=>(((0:Int)≤m)∧((m:Int) < ((b:Nat):Int))∧
 (∃r s t u v w x y z aa ab ac ad,ldN n p (q+Int.toNat m * 11) 11=some (sC r s t u v w x y z aa ab ac ad)∧
 (Wf Tryz.prog K 56 [.agg (sC r s t u v w x y z aa ab ac ad).toArray] n fun ae af=>
 (∃ag ah ai aj ak al am an ao ap aq ar au,ae=(.agg (sC ag ah ai aj ak al am an ao ap aq ar au).toArray)∧
 ((11=11)∧∃av,stN af o.next 0 (sC ag ah ai aj ak al am an ao ap aq ar au)=some av∧
 (∃aw ax ay az a0 a1 a2 a3 a4 a5 a6 a7 a8,ldN av o.next 0 11=some (sC aw ax ay az a0 a1 a2 a3 a4 a5 a6 a7 a8)∧
 (Q (.tuple #[.agg (sC aw ax ay az a0 a1 a2 a3 a4 a5 a6 a7 a8).toArray,.int .i64 0]) av))))))))
abbrev zc3 (K:Xs) (Q:Value→AH→Prop) (m:Int) (n:AH) (o:AH) (a9:Int):Prop:=
 ((m:Int) < 0→(11=11)∧∃ba,stN n o.next 0 (zC)=some ba∧
 (∃bb bc bd be bf bg bh bi bj bk bl bm bn,ldN ba o.next 0 11=some (sC bb bc bd be bf bg bh bi bj bk bl bm bn)∧
 (Q (.tuple #[.agg (sC bb bc bd be bf bg bh bi bj bk bl bm bn).toArray,.int .i64 a9]) ba)))
theorem ziR {K:Xs} (hk:K 44=none) (a:Option Addr) (b d:Nat) (e:ByteArray) (f:AH) (Q:Value→AH→Prop) (H:
 ∀g,g=f.alloc (.cells (zC) 81 false)→
 Wf Tryz.prog K 64 [.string e] g fun i j=>
 (∃k l m,i=(.tuple #[.string k,.string l,.int .i64 m])∧
 (((m:Int)=0→Wf Tryz.prog K 83 [.slice a b d,.agg #[.int .u64 0,.string k]] j fun n o=>
 (∃p,n=(.int .i64 p)∧
 (((0:Int)≤p→(l=(ByteArray.mk #[])→(zc3 K Q p o f 161)∧
 (zc2 K Q p a b o f))∧
 (¬l=(ByteArray.mk #[])→zal a fun q r=>(((0:Int)≤p)∧((p:Int) < ((b:Nat):Int))∧
 (∃s,ld1 o q (r+Int.toNat p * 11)=some (.int .u64 s)∧
 (Wf Tryz.prog K 83 [.slice a b d,.agg #[.int .u64 s,.string l]] o fun t u=>
 (∃v,t=(.int .i64 v)∧
 ((zc3 K Q v u f 161)∧
 (zc2 K Q v a b u f))))))))∧
 (¬(0:Int)≤p→(zc3 K Q p o f 161)∧
 (zc2 K Q p a b o f)))))∧
 (¬(m:Int)=0→(11=11)∧∃w,stN j f.next 0 (zC)=some w∧
 (∃x y z aa ab ac ad ae af ag ah ai aj,ldN w f.next 0 11=some (sC x y z aa ab ac ad ae af ag ah ai aj)∧
 (Q (.tuple #[.agg (sC x y z aa ab ac ad ae af ag ah ai aj).toArray,.int .i64 m]) w)))))):
 Wf Tryz.prog K 44 [.slice a b d,.string e] f Q:=
  zai (hs:=[]) hk (Eq.mpr (by kernel_rfl) H)
theorem zhc {K:Xs} (hk:K 83=none) (a:Option Addr) (b d:Nat) (e:Int) (f:ByteArray) (h:AH) (Q:Value→AH→Prop) (H:
 ∀g,g=h.alloc (.cells [.int .u64 e,.string f] 150 false)→
 ∃i:Int→Nat→AH→Prop,(∃n,i 0 n g)∧
 ∀(j:Nat) (k:AH),∀(l:Int),i l j k→
 ((l:Int) < ((b:Nat):Int)→zal a fun m o=>(((0:Int)≤l)∧((l:Int) < ((b:Nat):Int))∧
 (Wf Tryz.prog K 94 [(.pointer (some ⟨m,(o+Int.toNat l * 11),none⟩))] k fun p q=>
 (∃r s,p=(.agg #[.int .u64 r,.string s])∧
 (∃t u,ldN q h.next 0 2=some [.int .u64 t,.string u]∧
 (∃la14 lb15,zdx Tryz.prog 150 (.agg #[.int .u64 r,.string s])=some la14∧zdx Tryz.prog 150 (.agg #[.int .u64 t,.string u])=some lb15∧
 (zaN la14 lb15=true→(ldN k h.next 0 2=some [.int .u64 t,.string u])∧
 ((ldN q h.next 0 2=some [.int .u64 t,.string u])∧
 (Q (.int .i64 l) q)))∧
 (zaN la14 lb15=false→(ldN k h.next 0 2=some [.int .u64 t,.string u])∧
 ((ldN q h.next 0 2=some [.int .u64 t,.string u])∧
 (∀v:Int,v=IntKind.wrap .i64 (l+1)→∃w,w < j∧i v w q)))))))))∧
 (¬(l:Int) < ((b:Nat):Int)→Q (.int .i64 (-1)) k)):
 Wf Tryz.prog K 83 [.slice a b d,.agg #[.int .u64 e,.string f]] h Q:=
  zai (hs:=[(2,[(8,.int .i64 0)])]) hk (Eq.mpr (by kernel_rfl) H)
theorem zjE {K:Xs} (hk:K 90=none) (a:Option Addr) (b d:Nat) (e:Int) (f:AH) (Q:Value→AH→Prop) (H:
 ∀g,g=f.alloc (.cells [.slice a b d] 27 false)→
 ∀j,j=g.alloc (.cells [.int .u64 0] 26 false)→
 ∃k l m,ld1 j f.next 0=some (.slice k l m)∧
 (Wf Tryz.prog K 80 [.slice k l m,.int .u64 e] j fun n o=>
 (∃p,n=(.int .i64 p)∧
 (∀q,q=o.alloc (.cells [.int .i64 0] 3 false)→
 ∃r,st1 q o.next 0 (.int .i64 p)=some r∧
 (∃s,ld1 r o.next 0=some (.int .i64 s)∧
 (((s:Int) < 0→∃t,st1 r g.next 0 (.int .u64 0)=some t∧
 (∃u,ld1 t g.next 0=some (.int .u64 u)∧
 (Q (.int .u64 u) t)))∧
 (¬(s:Int) < 0→∃v w y,ld1 r f.next 0=some (.slice v w y)∧
 (∃z,ld1 r o.next 0=some (.int .i64 z)∧
 (zal v fun aa ab=>(((0:Int)≤z)∧((z:Int) < ((w:Nat):Int))∧
 (((ld1 r aa ((ab+Int.toNat z * 11)+2)=some (.bool true)∧
 (∃ac ad ae,ld1 r f.next 0=some (.slice ac ad ae)∧
 (Wf Tryz.prog K 96 [.slice ac ad ae,.int .u64 e] r fun af ag=>
 (∃(ah:FuncId) (cap25:List Value),af=(.func (.func ah) #[] cap25.toArray)∧
 (∃(ai:Nat→AH→Prop) (aj:AX→AH→Prop) (N28:Nat) (item29:Nat→List Value) (G32 ak:AH→AH→Prop),
 (K ah=none∧([23]:List Nat)=[23])∧
 (∀i,i < N28→∃al,item29 i=[.int .i64 al])∧
 (∀j,j.next=ag.next+1→(∀c,c≠ag.next→j.get c=ag.get c)→ai 0 j)∧
 (∀i j am,ai i j→zbR ag.next j am→ai i am)∧
 (∀x j am,aj x j→zbR ag.next j am→aj x am)∧
 (∀i j am,ai i j→G32 j am→ai i am)∧(∀x j am,aj x j→G32 j am→aj x am)∧(∀j am,G32 j am→am.get ag.next=j.get ag.next)∧
 (∀(an:Nat) (ao:AH),an < N28→ai an ao→(∃L,ao.get ag.next=some (.loop L))→∀(ap:Int),item29 an=[.int .i64 ap]→
 AX.normal=AX.normal∧(ao.get ag.next=ao.get ag.next)∧∀aq,zbR ag.next ao aq→(∃L,aq.get ag.next=some (.loop L))→
 ∃ar au av,ld1 aq f.next 0=some (.slice ar au av)∧
 (zal ar fun aw ax=>(((0:Int)≤ap)∧((ap:Int) < ((au:Nat):Int))∧
 (∃ay,ld1 aq aw ((ax+Int.toNat ap * 11)+3)=some (.int .u64 ay)∧
 (∃az a0 a1,ld1 aq f.next 0=some (.slice az a0 a1)∧
 (∃a2,ld1 aq o.next 0=some (.int .i64 a2)∧
 (zal az fun a3 a4=>(((0:Int)≤a2)∧((a2:Int) < ((a0:Nat):Int))∧
 (∃a5,ld1 aq a3 ((a4+Int.toNat a2 * 11)+3)=some (.int .u64 a5)∧
 (((ay:Int)=a5→∃a6 a7 a8,ld1 aq f.next 0=some (.slice a6 a7 a8)∧
 (zal a6 fun a9 ba=>(((0:Int)≤ap)∧((ap:Int) < ((a7:Nat):Int))∧
 (∃bb,ld1 aq a9 (ba+Int.toNat ap * 11)=some (.int .u64 bb)∧
 (∃bc,st1 aq g.next 0 (.int .u64 bb)=some bc∧
 ((bc.get ag.next=aq.get ag.next∧aj .ret bc∧∀bd,zbR ag.next bc bd→ak ao bd)))))))∧
 (¬(ay:Int)=a5→(aq.get ag.next=aq.get ag.next∧ai (an+1) aq∧∀bd,zbR ag.next aq bd→ak ao bd))))))))))))∧
 (∀(JJ57:Nat→AH→Prop) (DD58:AH→Prop),(∀i j,JJ57 i j→ai i j)→(∀i j am,JJ57 i j→G32 j am→JJ57 i am)→(∀j am,DD58 j→G32 j am→DD58 am)→
 (∀(be:Nat) (bf:AH),be < N28→JJ57 be bf→Wy Tryz.prog K ag.next (item29 be) bf fun bg bh=>((bg=.bool true∧JJ57 (be+1) bh)∨(bg=.bool false∧DD58 bh))∧ak bf bh)→
 ∀bi,JJ57 0 bi→Wf Tryz.prog K ah ([(Value.func (Fn.yield ag.next) #[] #[])] ++ cap25) bi fun _ bj=>JJ57 N28 bj∨DD58 bj)∧
 (∀bk,ai N28 bk→∃bl,st1 (bk.del ag.next) g.next 0 (.int .u64 0)=some bl∧
 (∃bm,ld1 bl g.next 0=some (.int .u64 bm)∧
 (Q (.int .u64 bm) bl)))∧
 (∀bn,aj .ret bn→∃bo,ld1 (bn.del ag.next) g.next 0=some (.int .u64 bo)∧
 (Q (.int .u64 bo) (bn.del ag.next)))∧
 (∀(bp:AX) (bn:AH),bp≠.normal→aj bp bn→zmf bp [.ret]=true))))))∨(ld1 r aa ((ab+Int.toNat z * 11)+2)=some (.bool false)∧
 (∃bq,st1 r g.next 0 (.int .u64 0)=some bq∧
 (∃br,ld1 bq g.next 0=some (.int .u64 br)∧
 (Q (.int .u64 br) bq)))))))))))))))):
 Wf Tryz.prog K 90 [.slice a b d,.int .u64 e] f Q:=
  zai (hs:=[(5,[(23,.int .i64 0)])]) hk (Eq.mpr (by kernel_rfl) H)
theorem zjF {K:Xs} (hk:K 40=none) (a:Option Addr) (b d:Nat) (e:Int) (h:AH) (Q:Value→AH→Prop) (H:
 Wf Tryz.prog K 80 [.slice a b d,.int .u64 e] h fun f g=>
 (∃i,f=(.int .i64 i)∧
 (((i:Int) < 0→Q (.string (ByteArray.mk #[])) g)∧
 (¬(i:Int) < 0→zal a fun j k=>(((0:Int)≤i)∧((i:Int) < ((b:Nat):Int))∧
 (((ld1 g j ((k+Int.toNat i * 11)+2)=some (.bool true)∧
 (zal a fun l m=>(((0:Int)≤i)∧((i:Int) < ((b:Nat):Int))∧
 (∃n,ld1 g l ((m+Int.toNat i * 11)+3)=some (.int .u64 n)∧
 (Wf Tryz.prog K 80 [.slice a b d,.int .u64 n] g fun o p=>
 (∃q,o=(.int .i64 q)∧
 (((q:Int) < 0→Q (.string (ByteArray.mk #[])) p)∧
 (¬(q:Int) < 0→zal a fun r s=>(((0:Int)≤q)∧((q:Int) < ((b:Nat):Int))∧
 (∃t,ld1 p r ((s+Int.toNat q * 11)+1)=some (.string t)∧
 (zal a fun u v=>(((0:Int)≤i)∧((i:Int) < ((b:Nat):Int))∧
 (∃w,ld1 p u ((v+Int.toNat i * 11)+1)=some (.string w)∧
 (Wf Tryz.prog K 81 [.string t,.string w] p fun x y=>
 (∃z,x=(.string z)∧
 (Q (.string z) y))))))))))))))))∨(ld1 g j ((k+Int.toNat i * 11)+2)=some (.bool false)∧
 (zal a fun aa ab=>(((0:Int)≤i)∧((i:Int) < ((b:Nat):Int))∧
 (∃ac,ld1 g aa ((ab+Int.toNat i * 11)+1)=some (.string ac)∧
 (Wf Tryz.prog K 81 [.string ac,(.string (ByteArray.mk #[]))] g fun ad ae=>
 (∃af,ad=(.string af)∧
 (Q (.string af) ae)))))))))))))):
 Wf Tryz.prog K 40 [.slice a b d,.int .u64 e] h Q:=
  zai (hs:=[]) hk (Eq.mpr (by kernel_rfl) H)
theorem zkU {K:Xs} (hk:K 56=none) (a:Int) (b:ByteArray) (d:Bool) (e:Int) (f:Int) (g:Int) (i:Int) (j:Int) (k:Int) (l:Int) (m:Option Addr) (n o:Nat) (h:AH) (Q:Value→AH→Prop) (H:
 ∀p,p=h.alloc (.cells (sC a b d e f g i j k l m n o) 81 false)→
 ∀q,q=p.alloc (.cells (zC) 81 false)→
 ∃r s t,ld1 q h.next 10=some (.slice r s t)∧
 (∃u v w x,zan Tryz.prog q .append #[79,79] [.slice none 0 0,.slice r s t]=some (.slice u v w,x)∧
 (∃y,st1 x h.next 10 (.slice u v w)=some y∧
 (∃z aa ab ac ad ae af ag ah ai aj ak al,ldN y h.next 0 11=some (sC z aa ab ac ad ae af ag ah ai aj ak al)∧
 ((11=11)∧∃am,stN y p.next 0 (sC z aa ab ac ad ae af ag ah ai aj ak al)=some am∧
 (∃an ao ap aq ar au av aw ax ay az a0 a1,ldN am p.next 0 11=some (sC an ao ap aq ar au av aw ax ay az a0 a1)∧
 (Q (.agg (sC an ao ap aq ar au av aw ax ay az a0 a1).toArray) am))))))):
 Wf Tryz.prog K 56 [.agg (sC a b d e f g i j k l m n o).toArray] h Q:=
  zai (hs:=[]) hk (Eq.mpr (by kernel_rfl) H)
theorem zkV {K:Xs} (hk:K 64=none) (a:ByteArray) (h:AH) (Q:Value→AH→Prop) (H:
 Wf Tryz.prog K 86 [.string a,(.string (ByteArray.mk #[64]))] h fun b d=>
 (∃e f,((b=(.tuple #[.string e,.string f,.bool true])∧
 (Wf Tryz.prog K 87 [.string e] d fun g i=>
 (((g=(.bool true)∧
 (Wf Tryz.prog K 87 [.string f] i fun j k=>
 (((j=(.bool true)∧
 (Q (.tuple #[.string e,.string f,.int .i64 0]) k))∨(j=(.bool false)∧
 (Q (.tuple #[(.string (ByteArray.mk #[])),(.string (ByteArray.mk #[])),.int .i64 141]) k))))))∨(g=(.bool false)∧
 (Q (.tuple #[(.string (ByteArray.mk #[])),(.string (ByteArray.mk #[])),.int .i64 141]) i))))))∨(b=(.tuple #[.string e,.string f,.bool false])∧
 (Wf Tryz.prog K 87 [.string e] d fun l m=>
 (((l=(.bool true)∧
 (Q (.tuple #[.string e,.string f,.int .i64 0]) m))∨(l=(.bool false)∧
 (Q (.tuple #[(.string (ByteArray.mk #[])),(.string (ByteArray.mk #[])),.int .i64 141]) m))))))))):
 Wf Tryz.prog K 64 [.string a] h Q:=
  zai (hs:=[]) hk (Eq.mpr (by kernel_rfl) H)
theorem zkW {K:Xs} (hk:K 87=none) (a:ByteArray) (h:AH) (Q:Value→AH→Prop) (H:
 ((((ByteArray.size a:Nat):Int):Int) < 1→Q (.bool false) h)∧
 (¬(((ByteArray.size a:Nat):Int):Int) < 1→((24:Int) < ((ByteArray.size a:Nat):Int)→Q (.bool false) h)∧
 (¬(24:Int) < ((ByteArray.size a:Nat):Int)→∀b,b=h.alloc (.siter a 0)→
 ∃d:Nat→AH→Prop,(∃n,d n b)∧
 ∀(e:Nat) (f:AH),d e f→
 ((0:Nat)=0)∧∃(g:ByteArray) (pos6:Nat),f.get h.next=some (.siter g pos6)∧
 (pos6 < g.size→∀i,i=f.set h.next (.siter g (pos6+(Utf8.decode g pos6).2))→((97:Int)≤(Utf8.decode g pos6).1→(((Utf8.decode g pos6).1:Int)≤122→∃j,j < e∧d j i)∧
 (¬((Utf8.decode g pos6).1:Int)≤122→((48:Int)≤(Utf8.decode g pos6).1→(((Utf8.decode g pos6).1:Int)≤57→∃j,j < e∧d j i)∧
 (¬((Utf8.decode g pos6).1:Int)≤57→(((Utf8.decode g pos6).1:Int)=45→∃j,j < e∧d j i)∧
 (¬((Utf8.decode g pos6).1:Int)=45→(((Utf8.decode g pos6).1:Int)=95→∃j,j < e∧d j i)∧
 (¬((Utf8.decode g pos6).1:Int)=95→Q (.bool false) i))))∧
 (¬(48:Int)≤(Utf8.decode g pos6).1→(((Utf8.decode g pos6).1:Int)=45→∃j,j < e∧d j i)∧
 (¬((Utf8.decode g pos6).1:Int)=45→(((Utf8.decode g pos6).1:Int)=95→∃j,j < e∧d j i)∧
 (¬((Utf8.decode g pos6).1:Int)=95→Q (.bool false) i)))))∧
 (¬(97:Int)≤(Utf8.decode g pos6).1→((48:Int)≤(Utf8.decode g pos6).1→(((Utf8.decode g pos6).1:Int)≤57→∃j,j < e∧d j i)∧
 (¬((Utf8.decode g pos6).1:Int)≤57→(((Utf8.decode g pos6).1:Int)=45→∃j,j < e∧d j i)∧
 (¬((Utf8.decode g pos6).1:Int)=45→(((Utf8.decode g pos6).1:Int)=95→∃j,j < e∧d j i)∧
 (¬((Utf8.decode g pos6).1:Int)=95→Q (.bool false) i))))∧
 (¬(48:Int)≤(Utf8.decode g pos6).1→(((Utf8.decode g pos6).1:Int)=45→∃j,j < e∧d j i)∧
 (¬((Utf8.decode g pos6).1:Int)=45→(((Utf8.decode g pos6).1:Int)=95→∃j,j < e∧d j i)∧
 (¬((Utf8.decode g pos6).1:Int)=95→Q (.bool false) i)))))∧
 (¬pos6 < g.size→Q (.bool true) f)))):
 Wf Tryz.prog K 87 [.string a] h Q:=
  zai (hs:=[(4,[])]) hk (Eq.mpr (by kernel_rfl) H)
theorem zhx {K:Xs} (hk:K 81=none) (a:ByteArray) (b:ByteArray) (h:AH) (Q:Value→AH→Prop) (H:
 Wf Tryz.prog K 87 [.string a] h fun d e=>
 (((d=(.bool true)∧
 ((b=(ByteArray.mk #[])→Q (.string a) e)∧
 (¬b=(ByteArray.mk #[])→Wf Tryz.prog K 87 [.string b] e fun f g=>
 (((f=(.bool true)∧
 ((((ByteArray.size a+ByteArray.size (ByteArray.mk #[64]):Nat):Int)≤9223372036854775807)∧∀i:ByteArray,i=a ++ (ByteArray.mk #[64])→(((ByteArray.size i+ByteArray.size b:Nat):Int)≤9223372036854775807)∧∀j:ByteArray,j=i ++ b→Q (.string j) g))∨(f=(.bool false)∧
 (Q (.string (ByteArray.mk #[])) g)))))))∨(d=(.bool false)∧
 (Q (.string (ByteArray.mk #[])) e))))):
 Wf Tryz.prog K 81 [.string a,.string b] h Q:=
  zai (hs:=[]) hk (Eq.mpr (by kernel_rfl) H)
theorem znS {K:Xs} (hk:K 98=none) (a:Int) (b:Int) (d:Int) (e:Int) (f:Int) (g:Int) (h:AH) (Q:Value→AH→Prop) (H:
 ∀i,i=h.alloc (.cells (qL a b d) 78 false)→
 ∀j,j=i.alloc (.cells (qL e f g) 78 false)→
 ∃k,ld1 j h.next 1=some (.int .u64 k)∧
 (∃l,ld1 j i.next 1=some (.int .u64 l)∧
 (((k:Int)=l→∃m,ld1 j h.next 0=some (.int .i64 m)∧
 (∃n,ld1 j i.next 0=some (.int .i64 n)∧
 (((m:Int)=n→∃o,ld1 j h.next 2=some (.int .u32 o)∧
 (∃p,ld1 j i.next 2=some (.int .u32 p)∧
 (((o:Int) < p→Q (.bool true) j)∧
 (¬(o:Int) < p→Q (.bool false) j))))∧
 (¬(m:Int)=n→∃q,ld1 j h.next 0=some (.int .i64 q)∧
 (∃r,ld1 j i.next 0=some (.int .i64 r)∧
 (((q:Int) < r→Q (.bool true) j)∧
 (¬(q:Int) < r→Q (.bool false) j)))))))∧
 (¬(k:Int)=l→∃s,ld1 j h.next 1=some (.int .u64 s)∧
 (∃t,ld1 j i.next 1=some (.int .u64 t)∧
 (((s:Int) < t→Q (.bool true) j)∧
 (¬(s:Int) < t→Q (.bool false) j))))))):
 Wf Tryz.prog K 98 [.agg (qL a b d).toArray,.agg (qL e f g).toArray] h Q:=
  zai (hs:=[]) hk (Eq.mpr (by kernel_rfl) H)
theorem zjG {K:Xs} (hk:K 86=none) (a:ByteArray) (b:ByteArray) (h:AH) (Q:Value→AH→Prop) (H:
 Wf Tryz.prog K 95 [.string a,.string b] h fun d e=>
 (∃f g,((d=(.tuple #[.string f,.string g,.bool true])∧
 (Q (.tuple #[.string f,.string g,.bool true]) e))∨(d=(.tuple #[.string f,.string g,.bool false])∧
 (Q (.tuple #[.string f,.string g,.bool false]) e))))):
 Wf Tryz.prog K 86 [.string a,.string b] h Q:=
  zai (hs:=[]) hk (Eq.mpr (by kernel_rfl) H)
theorem zgG {K:Xs} (hk:K 95=none) (a:ByteArray) (b:ByteArray) (h:AH) (Q:Value→AH→Prop) (H:
 Wf Tryz.prog K 101 [.string a,.string b] h fun d e=>
 (∃f,d=(.int .i64 f)∧
 (((0:Int)≤f→∃g,zaB Tryz.prog e 9 (.string a) none (some (.int .i64 f)) none=some (.string g)∧
 (∀i:Int,i=IntKind.wrap .i64 (f+((ByteArray.size b:Nat):Int))→∃j,zaB Tryz.prog e 9 (.string a) (some (.int .i64 i)) none none=some (.string j)∧
 (Q (.tuple #[.string g,.string j,.bool true]) e)))∧
 (¬(0:Int)≤f→Q (.tuple #[.string a,(.string (ByteArray.mk #[])),.bool false]) e)))):
 Wf Tryz.prog K 95 [.string a,.string b] h Q:=
  zai (hs:=[]) hk (Eq.mpr (by kernel_rfl) H)
theorem zfu {K:Xs} (hk:K 101=none) (a:ByteArray) (b:ByteArray) (h:AH) (Q:Value→AH→Prop) (H:
 ((((ByteArray.size b:Nat):Int):Int)=0→Q (.int .i64 0) h)∧
 (¬(((ByteArray.size b:Nat):Int):Int)=0→(b=a→Q (.int .i64 0) h)∧
 (¬b=a→((((ByteArray.size b:Nat):Int):Int)=1→((0:Int)≤0)∧∃d:UInt8,b[Int.toNat 0]?= some d∧
 (Wf Tryz.prog K 105 [.string a,(.int .u8 ((d.toNat:Nat):Int))] h fun e f=>
 (∃g,e=(.int .i64 g)∧
 (Q (.int .i64 g) f))))∧
 (¬(((ByteArray.size b:Nat):Int):Int)=1→((((ByteArray.size a:Nat):Int):Int)≤((ByteArray.size b:Nat):Int)→Q (.int .i64 (-1)) h)∧
 (¬(((ByteArray.size a:Nat):Int):Int)≤((ByteArray.size b:Nat):Int)→False))))):
 Wf Tryz.prog K 101 [.string a,.string b] h Q:=
  zai (hs:=[]) hk (Eq.mpr (by kernel_rfl) H)
theorem zdJ {K:Xs} (hk:K 105=none) (a:ByteArray) (b:Int) (h:AH) (Q:Value→AH→Prop) (H:
 Wf Tryz.prog K 109 [.string a,.int .u8 b] h fun d e=>
 (∃f,d=(.int .i64 f)∧
 (Q (.int .i64 f) e))):
 Wf Tryz.prog K 105 [.string a,.int .u8 b] h Q:=
  zai (hs:=[]) hk (Eq.mpr (by kernel_rfl) H)
end Go.Am
