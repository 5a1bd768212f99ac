/-
  WEAKEST CONDITIONS of some functions of this program, printed by a program.
-/
import Derived.Test.YtihmdaifbmchjaaGreatVAbb
import Derived.Test.YtihmdaifbmchjaaGreatRows
set_option linter.unusedVariables false
set_option maxRecDepth 100000
namespace Go.Am
open Go.Proofs
theorem zm1 {K:Xs} (hk:K 162=none) (a:Option Addr) (b d:Nat) (e:Option Addr) (f g:Nat) (h:AH) (Q:Value→AH→Prop) (H:
 Wf Tryz.prog K 140 [.slice a b d] h fun i j=>
 (((i=(.bool true)∧
 (Wf Tryz.prog K 140 [.slice e f g] j fun k l=>
 (((k=(.bool true)∧
 (Wf Tryz.prog K 171 [.slice a b d,.slice e f g] l fun m o=>
 (∃p q r,m=(.slice p q r)∧
 (∃s:Option Addr→Nat→Nat→Int→Nat→AH→Prop,(∃n,s none 0 0 0 n o)∧
 ∀(t:Nat) (u:AH),∀(v:Option Addr) (w:Nat) (x:Nat),∀(y:Int),s v w x y t u→
 ((y:Int) < ((q:Nat):Int)→zai p fun z aa=>(((0:Int)≤y)∧((y:Int) < ((q:Nat):Int))∧
 (∃ab ac,ldN u z (aa+Int.toNat y * 2) 2=some [.int .i64 ab,.int .i64 ac]∧
 (∀ad,ad=u.alloc (.cells [.int .i64 0,.int .i64 0] 90 false)→
 (2=2)∧∃ae,stN ad u.next 0 [.int .i64 ab,.int .i64 ac]=some ae∧
 (∃af ag,ldN ae u.next 0 2=some [.int .i64 af,.int .i64 ag]∧
 (∀ah,ah=ae.alloc (.cells [.bool false,.int .i64 af,.int .i64 ag] 205 false)→
 ∃ai aj ak al,zal Tryz.prog ah .append #[170,170] [.slice v w x,(.slice (some ⟨ae.next,0,none⟩) 1 1)]=some (.slice ai aj ak,al)∧
 (∀am:Int,am=IntKind.wrap .i64 (y+1)→∃an,an < t∧s ai aj ak am an al)))))))∧
 (¬(y:Int) < ((q:Nat):Int)→Wf Tryz.prog K 171 [.slice e f g,.slice a b d] u fun ao ap=>
 (∃aq ar au,ao=(.slice aq ar au)∧
 (∃av:Option Addr→Nat→Nat→Int→Nat→AH→Prop,(∃n,av v w x 0 n ap)∧
 ∀(aw:Nat) (ax:AH),∀(ay:Option Addr) (az:Nat) (a0:Nat),∀(a1:Int),av ay az a0 a1 aw ax→
 ((a1:Int) < ((ar:Nat):Int)→zai aq fun a2 a3=>(((0:Int)≤a1)∧((a1:Int) < ((ar:Nat):Int))∧
 (∃a4 a5,ldN ax a2 (a3+Int.toNat a1 * 2) 2=some [.int .i64 a4,.int .i64 a5]∧
 (∀a6,a6=ax.alloc (.cells [.int .i64 0,.int .i64 0] 90 false)→
 (2=2)∧∃a7,stN a6 ax.next 0 [.int .i64 a4,.int .i64 a5]=some a7∧
 (∃a8 a9,ldN a7 ax.next 0 2=some [.int .i64 a8,.int .i64 a9]∧
 (∀ba,ba=a7.alloc (.cells [.bool true,.int .i64 a8,.int .i64 a9] 205 false)→
 ∃bb bc bd be,zal Tryz.prog ba .append #[170,170] [.slice ay az a0,(.slice (some ⟨a7.next,0,none⟩) 1 1)]=some (.slice bb bc bd,be)∧
 (∀bf:Int,bf=IntKind.wrap .i64 (a1+1)→∃bg,bg < aw∧av bb bc bd bf bg be)))))))∧
 (¬(a1:Int) < ((ar:Nat):Int)→Q (.slice ay az a0) ax))))))))∨(k=(.bool false)∧
 (Q (.slice none 0 0) l))))))∨(i=(.bool false)∧
 (Q (.slice none 0 0) j))))):
 Wf Tryz.prog K 162 [.slice a b d,.slice e f g] h Q:=
  zaf (hs:=[(5,[(5,.slice none 0 0),(22,.int .i64 0)]),(10,[(5,.slice none 0 0),(36,.int .i64 0)])]) hk (Eq.mpr (by kernel_rfl) H)
theorem zhb {K:Xs} (hk:K 141=none) (a:Option Addr) (b d:Nat) (h:AH) (Q:Value→AH→Prop) (H:
 Wf Tryz.prog K 162 [.slice none 0 0,.slice a b d] h fun e f=>
 (∃g i j,e=(.slice g i j)∧
 (Q (.slice g i j) f))):
 Wf Tryz.prog K 141 [.slice a b d] h Q:=
  zaf (hs:=[]) hk (Eq.mpr (by kernel_rfl) H)
theorem zk4 {K:Xs} (hk:K 142=none) (a:Option Addr) (b d:Nat) (h:AH) (Q:Value→AH→Prop) (H:
 ((4096:Int) < ((b:Nat):Int)→Q (.tuple #[.slice none 0 0,.int .i64 81]) h)∧
 (¬(4096:Int) < ((b:Nat):Int)→∀e:Int,e=IntKind.wrap .i64 (5 * ((b:Nat):Int))→((0:Int)≤0∧(0:Int)≤e∧(e:Int)≤9223372036854775807∧(1:Int) * e≤281474976710656)∧∀f,f=h.alloc (.cells ((List.replicate (Int.toNat e) [.int .u8 0]).flatten) 5 false)→
 ∃g:Option Addr→Nat→Nat→Int→Nat→AH→Prop,(∃n,g (some ⟨h.next,0,none⟩) (Int.toNat 0) (Int.toNat e) 0 n f)∧
 ∀(i:Nat) (j:AH),∀(k:Option Addr) (l:Nat) (m:Nat),∀(o:Int),g k l m o i j→
 ((o:Int) < ((b:Nat):Int)→zai a fun p q=>(((0:Int)≤o)∧((o:Int) < ((b:Nat):Int))∧
 (∃r s t,ldN j p (q+Int.toNat o * 3) 3=some [.bool r,.int .i64 s,.int .i64 t]∧
 (∀u,u=j.alloc (.cells [.bool false,.int .i64 0,.int .i64 0] 205 false)→
 (3=3)∧∃v,stN u j.next 0 [.bool r,.int .i64 s,.int .i64 t]=some v∧
 (∃w x y,ldN v j.next 0 3=some [.bool w,.int .i64 x,.int .i64 y]∧
 (Wf Tryz.prog K 139 [.agg #[.bool w,.int .i64 x,.int .i64 y]] v fun z aa=>
 (((z=(.bool true)∧
 (((ld1 aa j.next 0=some (.bool true)∧
 (Wf Tryz.prog K 138 [] aa fun ab ac=>
 (∃ad ae af,ab=(.slice ad ae af)∧
 (∃ag,ld1 ac j.next 1=some (.int .i64 ag)∧
 (∀ah:Int,ah=IntKind.wrap .u64 ag→∃ai,ld1 ac j.next 2=some (.int .i64 ai)∧
 (∀aj:Int,aj=IntKind.wrap .u64 ai→∀ak,ak=ac.alloc (.cells [.int .u64 1,.int .u64 ah,.int .u64 aj] 22 false)→
 Wf Tryz.prog K 119 [.slice ad ae af,(.slice (some ⟨ac.next,0,none⟩) 3 3)] ak fun al am=>
 (∃an ao ap aq,al=(.tuple #[.slice an ao ap,.int .i64 aq])∧
 ((ld1 aa j.next 1=some (.int .i64 ag))∧
 ((ld1 ac j.next 1=some (.int .i64 ag))∧
 ((ld1 aa j.next 2=some (.int .i64 ai))∧
 ((ld1 ac j.next 2=some (.int .i64 ai))∧
 (((aq:Int)=0→∃ar au av aw,zal Tryz.prog am .append #[53,53] [.slice k l m,.slice an ao ap]=some (.slice ar au av,aw)∧
 (∀ax:Int,ax=IntKind.wrap .i64 (o+1)→∃ay,ay < i∧g ar au av ax ay aw))∧
 (¬(aq:Int)=0→Q (.tuple #[.slice none 0 0,.int .i64 81]) am)))))))))))))∨(ld1 aa j.next 0=some (.bool false)∧
 (Wf Tryz.prog K 138 [] aa fun az a0=>
 (∃a1 a2 a3,az=(.slice a1 a2 a3)∧
 (∃a4,ld1 a0 j.next 1=some (.int .i64 a4)∧
 (∀a5:Int,a5=IntKind.wrap .u64 a4→∃a6,ld1 a0 j.next 2=some (.int .i64 a6)∧
 (∀a7:Int,a7=IntKind.wrap .u64 a6→∀a8,a8=a0.alloc (.cells [.int .u64 0,.int .u64 a5,.int .u64 a7] 22 false)→
 Wf Tryz.prog K 119 [.slice a1 a2 a3,(.slice (some ⟨a0.next,0,none⟩) 3 3)] a8 fun a9 ba=>
 (∃bb bc bd be,a9=(.tuple #[.slice bb bc bd,.int .i64 be])∧
 ((ld1 aa j.next 1=some (.int .i64 a4))∧
 ((ld1 a0 j.next 1=some (.int .i64 a4))∧
 ((ld1 aa j.next 2=some (.int .i64 a6))∧
 ((ld1 a0 j.next 2=some (.int .i64 a6))∧
 (((be:Int)=0→∃bf bg bh bi,zal Tryz.prog ba .append #[53,53] [.slice k l m,.slice bb bc bd]=some (.slice bf bg bh,bi)∧
 (∀bj:Int,bj=IntKind.wrap .i64 (o+1)→∃ay,ay < i∧g bf bg bh bj ay bi))∧
 (¬(be:Int)=0→Q (.tuple #[.slice none 0 0,.int .i64 81]) ba))))))))))))))))∨(z=(.bool false)∧
 (Q (.tuple #[.slice none 0 0,.int .i64 81]) aa))))))))))∧
 (¬(o:Int) < ((b:Nat):Int)→Q (.tuple #[.slice k l m,.int .i64 0]) j))):
 Wf Tryz.prog K 142 [.slice a b d] h Q:=
  zaf (hs:=[(5,[(4,.slice none 0 0),(19,.int .i64 0)])]) hk (Eq.mpr (by kernel_rfl) H)
theorem zm2 {K:Xs} (hk:K 106=none) (a:Option Addr) (b d:Nat) (h:AH) (Q:Value→AH→Prop) (H:
 (5≠(0:Int))∧(∀e:Int,e=Int.tmod ((b:Nat):Int) 5→((e:Int)=0→((20480:Int) < ((b:Nat):Int)→Q (.tuple #[.slice none 0 0,.int .i64 81]) h)∧
 (¬(20480:Int) < ((b:Nat):Int)→(5≠(0:Int))∧(∀f:Int,f=IntKind.wrap .i64 (Int.tdiv ((b:Nat):Int) 5)→((0:Int)≤0∧(0:Int)≤f∧(f:Int)≤9223372036854775807∧(24:Int) * f≤281474976710656)∧∀g,g=h.alloc (.cells ((List.replicate (Int.toNat f) [.bool false,.int .i64 0,.int .i64 0]).flatten) 205 false)→
 ∃i:Option Addr→Nat→Nat→Option Addr→Nat→Nat→Nat→AH→Prop,(∃n,i a b d (some ⟨h.next,0,none⟩) (Int.toNat 0) (Int.toNat f) n g)∧
 ∀(j:Nat) (k:AH),∀(l:Option Addr) (m:Nat) (o:Nat),∀(p:Option Addr) (q:Nat) (r:Nat),i l m o p q r j k→
 ((0:Int) < ((m:Nat):Int)→Wf Tryz.prog K 138 [] k fun s t=>
 (∃u v w,s=(.slice u v w)∧
 (∃x y z,zar Tryz.prog t 53 (.slice l m o) none (some (.int .i64 5)) none=some (.slice x y z)∧
 (Wf Tryz.prog K 96 [.slice u v w,.slice x y z] t fun aa ab=>
 (∃ac ad ae af,aa=(.tuple #[.slice ac ad ae,.int .i64 af])∧
 ((zar Tryz.prog k 53 (.slice l m o) none (some (.int .i64 5)) none=some (.slice x y z))∧
 ((zar Tryz.prog t 53 (.slice l m o) none (some (.int .i64 5)) none=some (.slice x y z))∧
 (((af:Int)=0→zai ac fun ag ah=>(((0:Int)≤0)∧((0:Int) < ((ad:Nat):Int))∧
 (∃ai,ld1 ab ag ah=some (.int .u64 ai)∧
 (((1:Int) < ai→Q (.tuple #[.slice none 0 0,.int .i64 81]) ab)∧
 (¬(1:Int) < ai→zai ac fun aj ak=>(((0:Int)≤0)∧((0:Int) < ((ad:Nat):Int))∧
 (∃al,ld1 ab aj ak=some (.int .u64 al)∧
 (((al:Int)=1→zai ac fun am an=>(((0:Int)≤1)∧((1:Int) < ((ad:Nat):Int))∧
 (∃ao,ld1 ab am (an+1)=some (.int .u64 ao)∧
 (∀ap:Int,ap=IntKind.wrap .i64 ao→zai ac fun aq ar=>(((0:Int)≤2)∧((2:Int) < ((ad:Nat):Int))∧
 (∃au,ld1 ab aq (ar+2)=some (.int .u64 au)∧
 (∀av:Int,av=IntKind.wrap .i64 au→∀aw,aw=ab.alloc (.cells [.bool false,.int .i64 0,.int .i64 0] 205 false)→
 (3=3)∧∃ax,stN aw ab.next 0 [.bool true,.int .i64 ap,.int .i64 av]=some ax∧
 (∃ay az a0,ldN ax ab.next 0 3=some [.bool ay,.int .i64 az,.int .i64 a0]∧
 (Wf Tryz.prog K 139 [.agg #[.bool ay,.int .i64 az,.int .i64 a0]] ax fun a1 a2=>
 (((a1=(.bool true)∧
 (∃a3 a4 a5,ldN a2 ab.next 0 3=some [.bool a3,.int .i64 a4,.int .i64 a5]∧
 (∀a6,a6=a2.alloc (.cells [.bool a3,.int .i64 a4,.int .i64 a5] 205 false)→
 ∃a7 a8 a9 ba,zal Tryz.prog a6 .append #[170,170] [.slice p q r,(.slice (some ⟨a2.next,0,none⟩) 1 1)]=some (.slice a7 a8 a9,ba)∧
 (∃bb bc bd,zar Tryz.prog ba 53 (.slice l m o) (some (.int .i64 5)) none none=some (.slice bb bc bd)∧
 (∃be,be < j∧i bb bc bd a7 a8 a9 be ba)))))∨(a1=(.bool false)∧
 (Q (.tuple #[.slice none 0 0,.int .i64 81]) a2)))))))))))))∧
 (¬(al:Int)=1→zai ac fun bf bg=>(((0:Int)≤1)∧((1:Int) < ((ad:Nat):Int))∧
 (∃bh,ld1 ab bf (bg+1)=some (.int .u64 bh)∧
 (∀bi:Int,bi=IntKind.wrap .i64 bh→zai ac fun bj bk=>(((0:Int)≤2)∧((2:Int) < ((ad:Nat):Int))∧
 (∃bl,ld1 ab bj (bk+2)=some (.int .u64 bl)∧
 (∀bm:Int,bm=IntKind.wrap .i64 bl→∀bn,bn=ab.alloc (.cells [.bool false,.int .i64 0,.int .i64 0] 205 false)→
 (3=3)∧∃bo,stN bn ab.next 0 [.bool false,.int .i64 bi,.int .i64 bm]=some bo∧
 (∃bp bq br,ldN bo ab.next 0 3=some [.bool bp,.int .i64 bq,.int .i64 br]∧
 (Wf Tryz.prog K 139 [.agg #[.bool bp,.int .i64 bq,.int .i64 br]] bo fun bs bt=>
 (((bs=(.bool true)∧
 (∃bu bv bw,ldN bt ab.next 0 3=some [.bool bu,.int .i64 bv,.int .i64 bw]∧
 (∀bx,bx=bt.alloc (.cells [.bool bu,.int .i64 bv,.int .i64 bw] 205 false)→
 ∃bz b0 b1 b2,zal Tryz.prog bx .append #[170,170] [.slice p q r,(.slice (some ⟨bt.next,0,none⟩) 1 1)]=some (.slice bz b0 b1,b2)∧
 (∃b3 b4 b5,zar Tryz.prog b2 53 (.slice l m o) (some (.int .i64 5)) none none=some (.slice b3 b4 b5)∧
 (∃be,be < j∧i b3 b4 b5 bz b0 b1 be b2)))))∨(bs=(.bool false)∧
 (Q (.tuple #[.slice none 0 0,.int .i64 81]) bt)))))))))))))))))))))∧
 (¬(af:Int)=0→Q (.tuple #[.slice none 0 0,.int .i64 81]) ab)))))))))∧
 (¬(0:Int) < ((m:Nat):Int)→Q (.tuple #[.slice p q r,.int .i64 0]) k))))∧
 (¬(e:Int)=0→Q (.tuple #[.slice none 0 0,.int .i64 81]) h))):
 Wf Tryz.prog K 106 [.slice a b d] h Q:=
  zaf (hs:=[(4,[(0,.slice none 0 0),(4,.slice none 0 0)])]) hk (Eq.mpr (by kernel_rfl) H)
theorem zjq {K:Xs} (hk:K 107=none) (a:Option Addr) (b d:Nat) (e:Option Addr) (f g:Nat) (h:AH) (Q:Value→AH→Prop) (H:
 Wf Tryz.prog K 140 [.slice a b d] h fun i j=>
 (((i=(.bool true)∧
 (∃k:List Value,zan Tryz.prog 138=some k∧∀l,l=j.alloc (.cells k 138 false)→
 Wf Tryz.prog K 70 [.slice a b d] l fun m o=>
 (∃p q r,m=(.slice p q r)∧
 (∃s:Int→Nat→AH→Prop,(∃n,s 0 n o)∧
 ∀(t:Nat) (u:AH),∀(v:Int),s v t u→
 ((v:Int) < ((q:Nat):Int)→zai p fun w x=>(((0:Int)≤v)∧((v:Int) < ((q:Nat):Int))∧
 (∃y,ld1 u w (x+Int.toNat v * 1)=some (.int .i64 y)∧
 (((0:Int)≤y)∧((y:Int) < 4096)∧
 (∃z,st1 u j.next (0+Int.toNat y * 1) (.bool true)=some z∧
 (∀aa:Int,aa=IntKind.wrap .i64 (v+1)→∃ab,ab < t∧s aa ab z))))))∧
 (¬(v:Int) < ((q:Nat):Int)→∃ac:Int→Nat→AH→Prop,(∃n,ac 0 n u)∧
 ∀(ad:Nat) (ae:AH),∀(af:Int),ac af ad ae→
 ((af:Int) < ((f:Nat):Int)→zai e fun ag ah=>(((0:Int)≤af)∧((af:Int) < ((f:Nat):Int))∧
 (∃ai aj ak,ldN ae ag (ah+Int.toNat af * 3) 3=some [.bool ai,.int .i64 aj,.int .i64 ak]∧
 (∀al,al=ae.alloc (.cells [.bool false,.int .i64 0,.int .i64 0] 205 false)→
 (3=3)∧∃am,stN al ae.next 0 [.bool ai,.int .i64 aj,.int .i64 ak]=some am∧
 (∃an ao ap,ldN am ae.next 0 3=some [.bool an,.int .i64 ao,.int .i64 ap]∧
 (Wf Tryz.prog K 139 [.agg #[.bool an,.int .i64 ao,.int .i64 ap]] am fun aq ar=>
 (((aq=(.bool true)∧
 (∃au,ld1 ar ae.next 2=some (.int .i64 au)∧
 (∃av:Int→Nat→AH→Prop,(∃n,av 0 n ar)∧
 ∀(aw:Nat) (ax:AH),∀(ay:Int),av ay aw ax→
 ((ay:Int) < au→∃az,ld1 ax ae.next 1=some (.int .i64 az)∧
 (∀a0:Int,a0=IntKind.wrap .i64 (az+ay)→((0:Int)≤a0)∧((a0:Int) < 4096)∧
 (((ld1 ax j.next (0+Int.toNat a0 * 1)=some (.bool true)∧
 (((ld1 ax ae.next 0=some (.bool true)∧
 (Q (.tuple #[.slice none 0 0,.int .i64 81]) ax))∨(ld1 ax ae.next 0=some (.bool false)∧
 (((ld1 ax ae.next 0=some (.bool true)∧
 (((0:Int)≤a0)∧((a0:Int) < 4096)∧
 (∃a1,st1 ax j.next (0+Int.toNat a0 * 1) (.bool true)=some a1∧
 (∀a2:Int,a2=IntKind.wrap .i64 (ay+1)→∃a3,a3 < aw∧av a2 a3 a1))))∨(ld1 ax ae.next 0=some (.bool false)∧
 (((0:Int)≤a0)∧((a0:Int) < 4096)∧
 (∃a4,st1 ax j.next (0+Int.toNat a0 * 1) (.bool false)=some a4∧
 (∀a5:Int,a5=IntKind.wrap .i64 (ay+1)→∃a3,a3 < aw∧av a5 a3 a4))))))))))∨(ld1 ax j.next (0+Int.toNat a0 * 1)=some (.bool false)∧
 (((ld1 ax ae.next 0=some (.bool true)∧
 (((ld1 ax ae.next 0=some (.bool true)∧
 (((0:Int)≤a0)∧((a0:Int) < 4096)∧
 (∃a6,st1 ax j.next (0+Int.toNat a0 * 1) (.bool true)=some a6∧
 (∀a7:Int,a7=IntKind.wrap .i64 (ay+1)→∃a3,a3 < aw∧av a7 a3 a6))))∨(ld1 ax ae.next 0=some (.bool false)∧
 (((0:Int)≤a0)∧((a0:Int) < 4096)∧
 (∃a8,st1 ax j.next (0+Int.toNat a0 * 1) (.bool false)=some a8∧
 (∀a9:Int,a9=IntKind.wrap .i64 (ay+1)→∃a3,a3 < aw∧av a9 a3 a8)))))))∨(ld1 ax ae.next 0=some (.bool false)∧
 (Q (.tuple #[.slice none 0 0,.int .i64 81]) ax)))))))))∧
 (¬(ay:Int) < au→∀ba:Int,ba=IntKind.wrap .i64 (af+1)→∃bb,bb < ad∧ac ba bb ax))))∨(aq=(.bool false)∧
 (Q (.tuple #[.slice none 0 0,.int .i64 81]) ar))))))))))∧
 (¬(af:Int) < ((f:Nat):Int)→∃l53:List Value,ldN ae j.next 0 4096=some l53∧
 (∃bc:Option Addr→Nat→Nat→Int→Nat→AH→Prop,(∃n,bc none 0 0 0 n ae)∧
 ∀(bd:Nat) (be:AH),∀(bf:Option Addr) (bg:Nat) (bh:Nat),∀(bi:Int),bc bf bg bh bi bd be→
 ((bi:Int) < 4096→((0:Int)≤bi)∧((bi:Int) < 4096)∧((((l53:List Value)[(Int.toNat bi * 1)]?= some (.bool true)∧
 (∀bj,bj=be.alloc (.cells [.int .i64 bi] 3 false)→
 ∃bk bl bm bn,zal Tryz.prog bj .append #[48,48] [.slice bf bg bh,(.slice (some ⟨be.next,0,none⟩) 1 1)]=some (.slice bk bl bm,bn)∧
 (∀bo:Int,bo=IntKind.wrap .i64 (bi+1)→∃bp,bp < bd∧bc bk bl bm bo bp bn)))∨((l53:List Value)[(Int.toNat bi * 1)]?= some (.bool false)∧
 (∀bq:Int,bq=IntKind.wrap .i64 (bi+1)→∃bp,bp < bd∧bc bf bg bh bq bp be)))))∧
 (¬(bi:Int) < 4096→Wf Tryz.prog K 57 [.slice bf bg bh] be fun br bs=>
 (∃bt bu bv,br=(.slice bt bu bv)∧
 (Q (.tuple #[.slice bt bu bv,.int .i64 0]) bs))))))))))∨(i=(.bool false)∧
 (Q (.tuple #[.slice none 0 0,.int .i64 81]) j))))):
 Wf Tryz.prog K 107 [.slice a b d,.slice e f g] h Q:=
  zaf (hs:=[(5,[(22,.int .i64 0)]),(10,[(31,.int .i64 0)]),(15,[(41,.int .i64 0)]),(25,[(13,.slice none 0 0),(62,.int .i64 0)])]) hk (Eq.mpr (by kernel_rfl) H)
theorem zk5 {K:Xs} (hk:K 139=none) (a:Bool) (b:Int) (d:Int) (h:AH) (Q:Value→AH→Prop) (H:
 ∀e,e=h.alloc (.cells [.bool a,.int .i64 b,.int .i64 d] 205 false)→
 ∃f g,ldN e h.next 1 2=some [.int .i64 f,.int .i64 g]∧
 (∀i,i=e.alloc (.cells [.int .i64 f,.int .i64 g] 90 false)→
 Wf Tryz.prog K 140 [(.slice (some ⟨e.next,0,none⟩) 1 1)] i fun j k=>
 (((j=(.bool true)∧
 (Q (.bool true) k))∨(j=(.bool false)∧
 (Q (.bool false) k)))))):
 Wf Tryz.prog K 139 [.agg #[.bool a,.int .i64 b,.int .i64 d]] h Q:=
  zaf (hs:=[]) hk (Eq.mpr (by kernel_rfl) H)
theorem zeK {K:Xs} (hk:K 138=none)  (h:AH) (Q:Value→AH→Prop) (H:
 ∀a,a=h.alloc (.cells [.int .i64 1,.int .i64 2,.int .i64 2] 3 false)→
 Q (.slice (some ⟨h.next,0,none⟩) 3 3) a):
 Wf Tryz.prog K 138 [] h Q:=
  zaf (hs:=[]) hk (Eq.mpr (by kernel_rfl) H)
end Go.Am
