/-
  WEAKEST CONDITIONS of some functions of this program, printed by a program.
-/
import Derived.Test.YtkapnilnhoiooaaGreatVAbb
import Derived.Test.YtkapnilnhoiooaaGreatRows
set_option linter.unusedVariables false
set_option maxRecDepth 100000
namespace Go.Am
open Go.Proofs
theorem zf5 {K:Xs} (hk:K 68=none) (a:ByteArray) (h:AH) (Q:Value→AH→Prop) (H:
 Wf Tryz.prog K 27 [.string a] h fun b d=>
 (∃e f g,b=(.tuple #[.string e,.string f,.int .i64 g])∧
 (((g:Int)=0→(f=(ByteArray.mk #[])→Q (.bool true) d)∧
 (¬f=(ByteArray.mk #[])→Q (.bool false) d))∧
 (¬(g:Int)=0→Q (.bool false) d)))):
 Wf Tryz.prog K 68 [.string a] h Q:=
  zai (hs:=[]) hk (Eq.mpr (by kernel_rfl) H)
theorem zfB {K:Xs} (hk:K 72=none) (a:ByteArray) (h:AH) (Q:Value→AH→Prop) (H:
 Wf Tryz.prog K 27 [.string a] h fun b d=>
 (∃e f g,b=(.tuple #[.string e,.string f,.int .i64 g])∧
 (((g:Int)=0→(f=(ByteArray.mk #[])→Q (.bool false) d)∧
 (¬f=(ByteArray.mk #[])→Q (.bool true) d))∧
 (¬(g:Int)=0→Q (.bool false) d)))):
 Wf Tryz.prog K 72 [.string a] h Q:=
  zai (hs:=[]) hk (Eq.mpr (by kernel_rfl) H)
abbrev zc5 (K:Xs) (i:AH) (j:Int) (k:ByteArray) (l:Bool) (m:Int) (n:Int) (o:Int) (p:Int) (q:Int) (r:Int) (s:Int) (t:Option Addr) (u:Nat) (v:Nat) (w:Option Addr) (x:Nat) (y:Nat) (z:Int) (aa:Nat) (ab:Option Addr→Nat→Nat→Int→Nat→AH→Prop):Prop:=
 (∀ac,ac=i.alloc (.cells (sC j k l m n o p q r s t u v) 81 false)→
 ∃ad ae af ag,zan Tryz.prog ac .append #[27,27] [.slice w x y,(.slice (some ⟨i.next,0,none⟩) 1 1)]=some (.slice ad ae af,ag)∧
 (∀ah:Int,ah=IntKind.wrap .i64 (z+1)→∃ai,ai < aa∧ab ad ae af ah ai ag))
theorem zf6 {K:Xs} (hk:K 74=none) (a:Option Addr) (b d:Nat) (e:Int) (f:ByteArray) (g:Bool) (i:Int) (j:Int) (k:Int) (l:Int) (m:Int) (o:Int) (p:Int) (q:Option Addr) (r s:Nat) (t:AH) (Q:Value→AH→Prop) (H:
 ∀u,u=t.alloc (.cells (sC e f g i j k l m o p q r s) 81 false)→
 ∀v,v=u.alloc (.cells [] 81 false)→
 ∃w:Option Addr→Nat→Nat→Int→Nat→AH→Prop,(∃n,w (some ⟨u.next,0,none⟩) 0 0 0 n v)∧
 ∀(x:Nat) (y:AH),∀(z:Option Addr) (aa:Nat) (ab:Nat),∀(ac:Int),w z aa ab ac x y→
 ((ac:Int) < ((b:Nat):Int)→zal a fun ad ae=>(((0:Int)≤ac)∧((ac:Int) < ((b:Nat):Int))∧
 (∃af ag ah ai aj ak al am an ao ap aq ar,ldN y ad (ae+Int.toNat ac * 11) 11=some (sC af ag ah ai aj ak al am an ao ap aq ar)∧
 (∀au,au=y.alloc (.cells (zC) 81 false)→
 (11=11)∧∃av,stN au y.next 0 (sC af ag ah ai aj ak al am an ao ap aq ar)=some av∧
 (∃aw,ld1 av y.next 0=some (.int .u64 aw)∧
 (∃ax,ld1 av t.next 0=some (.int .u64 ax)∧
 (((aw:Int)=ax→∃ay az a0 a1 a2 a3 a4 a5 a6 a7 a8 a9 ba,ldN av t.next 0 11=some (sC ay az a0 a1 a2 a3 a4 a5 a6 a7 a8 a9 ba)∧
 (zc5 K av ay az a0 a1 a2 a3 a4 a5 a6 a7 a8 a9 ba z aa ab ac x w))∧
 (¬(aw:Int)=ax→∃bb bc bd be bf bg bh bi bj bk bl bm bn,ldN av y.next 0 11=some (sC bb bc bd be bf bg bh bi bj bk bl bm bn)∧
 (zc5 K av bb bc bd be bf bg bh bi bj bk bl bm bn z aa ab ac x w)))))))))∧
 (¬(ac:Int) < ((b:Nat):Int)→Q (.slice z aa ab) y)):
 Wf Tryz.prog K 74 [.slice a b d,.agg (sC e f g i j k l m o p q r s).toArray] t Q:=
  zai (hs:=[(3,[(5,.slice none 0 0),(11,.int .i64 0)])]) hk (Eq.mpr (by kernel_rfl) H)
theorem zf7 {K:Xs} (hk:K 79=none) (a:Option Addr) (b d:Nat) (e:Int) (h:AH) (Q:Value→AH→Prop) (H:
 ∀f,f=h.alloc (.cells [] 81 false)→
 ∃g:Option Addr→Nat→Nat→Int→Nat→AH→Prop,(∃n,g (some ⟨h.next,0,none⟩) 0 0 0 n f)∧
 ∀(i:Nat) (j:AH),∀(k:Option Addr) (l:Nat) (m:Nat),∀(o:Int),g k l m o i j→
 ((o:Int) < ((b:Nat):Int)→zal a fun p q=>(((0:Int)≤o)∧((o:Int) < ((b:Nat):Int))∧
 (∃r s t u v w x y z aa ab ac ad,ldN j p (q+Int.toNat o * 11) 11=some (sC r s t u v w x y z aa ab ac ad)∧
 (∀ae,ae=j.alloc (.cells (zC) 81 false)→
 (11=11)∧∃af,stN ae j.next 0 (sC r s t u v w x y z aa ab ac ad)=some af∧
 (∃ag,ld1 af j.next 0=some (.int .u64 ag)∧
 (((ag:Int)=e→∀ah:Int,ah=IntKind.wrap .i64 (o+1)→∃ai,ai < i∧g k l m ah ai af)∧
 (¬(ag:Int)=e→∃aj ak al am an ao ap aq ar au av aw ax,ldN af j.next 0 11=some (sC aj ak al am an ao ap aq ar au av aw ax)∧
 (∀ay,ay=af.alloc (.cells (sC aj ak al am an ao ap aq ar au av aw ax) 81 false)→
 ∃az a0 a1 a2,zan Tryz.prog ay .append #[27,27] [.slice k l m,(.slice (some ⟨af.next,0,none⟩) 1 1)]=some (.slice az a0 a1,a2)∧
 (∀a3:Int,a3=IntKind.wrap .i64 (o+1)→∃ai,ai < i∧g az a0 a1 a3 ai a2)))))))))∧
 (¬(o:Int) < ((b:Nat):Int)→Q (.slice k l m) j)):
 Wf Tryz.prog K 79 [.slice a b d,.int .u64 e] h Q:=
  zai (hs:=[(3,[(5,.slice none 0 0),(11,.int .i64 0)])]) hk (Eq.mpr (by kernel_rfl) H)
abbrev zc6 (K:Xs) (Q:Value→AH→Prop) (a4:AH) (a5:AH) (f:AH) (a6:AH):Prop:=
 (∀a7,a7=a4.alloc (.cells [] 81 false)→
 ∃a8 a9 ba,ld1 a7 a5.next 1=some (.slice a8 a9 ba)∧
 (∃bb bc bd be,zan Tryz.prog a7 .append #[27,27] [(.slice (some ⟨a4.next,0,none⟩) 0 0),.slice a8 a9 ba]=some (.slice bb bc bd,be)∧
 (∃bf bg bh w x y z aa bi bj bk bl bm,ldN be f.next 0 11=some (sC bf bg bh w x y z aa bi bj bk bl bm)∧
 (∀bn,bn=be.alloc (.cells (sC bf bg bh w x y z aa bi bj bk bl bm) 81 false)→
 ∃bo bp bq br,zan Tryz.prog bn .append #[27,27] [.slice bb bc bd,(.slice (some ⟨be.next,0,none⟩) 1 1)]=some (.slice bo bp bq,br)∧
 (∃am,ld1 br a5.next 0=some (.int .u64 am)∧
 (∀an:Int,an=IntKind.wrap .u64 (am+1)→(2=2)∧∃bs,stN br a6.next 0 (bC an bo bp bq)=some bs∧
 ((ld1 bn a5.next 0=some (.int .u64 am))∧
 ((ld1 br a5.next 0=some (.int .u64 am))∧
 (∃ap bt bu bv,ldN bs a6.next 0 2=some (bC ap bt bu bv)∧
 (Q (.agg (bC ap bt bu bv).toArray) bs))))))))))
theorem zf8 {K:Xs} (hk:K 70=none) (a:Int) (b:Option Addr) (d e:Nat) (f:Int) (g:ByteArray) (i:Bool) (j:Int) (k:Int) (l:Int) (m:Int) (n:Int) (o:Int) (p:Int) (q:Option Addr) (r s:Nat) (t:AH) (Q:Value→AH→Prop) (H:
 ∀u,u=t.alloc (.cells (bC a b d e) 29 false)→
 ∀v,v=u.alloc (.cells (sC f g i j k l m n o p q r s) 81 false)→
 ∀w,w=v.alloc (.cells [.int .u64 0,.slice none 0 0] 29 false)→
 ∃x,ld1 w t.next 0=some (.int .u64 x)∧
 (∃y,st1 w u.next 0 (.int .u64 x)=some y∧
 (((ld1 y u.next 2=some (.bool true)∧
 (zc6 K Q y t u v))∨(ld1 y u.next 2=some (.bool false)∧
 (∃z,ld1 y t.next 0=some (.int .u64 z)∧
 (∃aa,st1 y u.next 3 (.int .u64 z)=some aa∧
 (zc6 K Q aa t u v)))))))):
 Wf Tryz.prog K 70 [.agg (bC a b d e).toArray,.agg (sC f g i j k l m n o p q r s).toArray] t Q:=
  zai (hs:=[]) hk (Eq.mpr (by kernel_rfl) H)
theorem zeR {K:Xs} (hk:K 69=none) (a:Int) (b:Option Addr) (d e:Nat) (f:ByteArray) (h:AH) (Q:Value→AH→Prop) (H:
 ∀g,g=h.alloc (.cells (bC a b d e) 29 false)→
 ∃i j k,ld1 g h.next 1=some (.slice i j k)∧
 (Wf Tryz.prog K 45 [.slice i j k,.string f] g fun l m=>
 (∃n o p q r s t u v w x y z aa,l=(.tuple #[.agg (sC n o p q r s t u v w x y z).toArray,.int .i64 aa])∧
 (∀ab,ab=m.alloc (.cells (zC) 81 false)→
 (11=11)∧∃ac,stN ab m.next 0 (sC n o p q r s t u v w x y z)=some ac∧
 (((aa:Int)=0→Q (.bool true) ac)∧
 (¬(aa:Int)=0→Q (.bool false) ac)))))):
 Wf Tryz.prog K 69 [.agg (bC a b d e).toArray,.string f] h Q:=
  zai (hs:=[]) hk (Eq.mpr (by kernel_rfl) H)
abbrev zck (K:Xs) (Q:Value→AH→Prop) (ad:AH) (ae:AH) (g:AH) (af:Int):Prop:=
 (∃ag ah ai aj,ldN ad ae.next 0 2=some (bC ag ah ai aj)∧
 ((2=2)∧∃ak,stN ad g.next 0 (bC ag ah ai aj)=some ak∧
 (∃al am an ao,ldN ak g.next 0 2=some (bC al am an ao)∧
 (Q (.tuple #[.agg (bC al am an ao).toArray,.int .i64 af]) ak))))
theorem zeq {K:Xs} (hk:K 28=none) (a:Int) (b:Option Addr) (d e:Nat) (f:ByteArray) (g:Int) (i:AH) (Q:Value→AH→Prop) (H:
 ∀j,j=i.alloc (.cells (bC a b d e) 29 false)→
 ∀k,k=j.alloc (.cells [.int .u64 0,.slice none 0 0] 29 false)→
 Wf Tryz.prog K 68 [.string f] k fun l m=>
 (((l=(.bool true)∧
 (((g:Int) < 1→∃n o p q,ldN m i.next 0 2=some (bC n o p q)∧
 ((2=2)∧∃r,stN m j.next 0 (bC n o p q)=some r∧
 (∃s t u v,ldN r j.next 0 2=some (bC s t u v)∧
 (Q (.tuple #[.agg (bC s t u v).toArray,.int .i64 176]) r))))∧
 (¬(g:Int) < 1→((64:Int) < g→∃w x y z,ldN m i.next 0 2=some (bC w x y z)∧
 ((2=2)∧∃aa,stN m j.next 0 (bC w x y z)=some aa∧
 (∃ab ac ad ae,ldN aa j.next 0 2=some (bC ab ac ad ae)∧
 (Q (.tuple #[.agg (bC ab ac ad ae).toArray,.int .i64 176]) aa))))∧
 (¬(64:Int) < g→∃af ag ah,ld1 m i.next 1=some (.slice af ag ah)∧
 (((32:Int)≤((ag:Nat):Int)→∃ai aj ak al,ldN m i.next 0 2=some (bC ai aj ak al)∧
 ((2=2)∧∃am,stN m j.next 0 (bC ai aj ak al)=some am∧
 (∃an ao ap aq,ldN am j.next 0 2=some (bC an ao ap aq)∧
 (Q (.tuple #[.agg (bC an ao ap aq).toArray,.int .i64 175]) am))))∧
 (¬(32:Int)≤((ag:Nat):Int)→∃ar au av aw,ldN m i.next 0 2=some (bC ar au av aw)∧
 (Wf Tryz.prog K 69 [.agg (bC ar au av aw).toArray,.string f] m fun ax ay=>
 (((ax=(.bool true)∧
 (zck K Q ay i j 171))∨(ax=(.bool false)∧
 (∃az a0 a1 a2,ldN ay i.next 0 2=some (bC az a0 a1 a2)∧
 (Wf Tryz.prog K 70 [.agg (bC az a0 a1 a2).toArray,.agg #[.int .u64 0,.string f,.bool false,.int .u64 0,.int .u64 0,.int .u64 0,.int .i64 g,.int .i64 0,.int .u64 0,.int .u32 0,.slice none 0 0]] ay fun a3 a4=>
 (∃a5 a6 a7 a8,a3=(.agg (bC a5 a6 a7 a8).toArray)∧
 ((2=2)∧∃a9,stN a4 j.next 0 (bC a5 a6 a7 a8)=some a9∧
 (∃ba bb bc bd,ldN a9 j.next 0 2=some (bC ba bb bc bd)∧
 (Q (.tuple #[.agg (bC ba bb bc bd).toArray,.int .i64 0]) a9))))))))))))))))∨(l=(.bool false)∧
 (zck K Q m i j 141))))):
 Wf Tryz.prog K 28 [.agg (bC a b d e).toArray,.string f,.int .i64 g] i Q:=
  zai (hs:=[]) hk (Eq.mpr (by kernel_rfl) H)
abbrev zcH (K:Xs) (Q:Value→AH→Prop) (be:AH) (i:AH) (j:AH) (bf:Int):Prop:=
 (∃bg bh bi bj,ldN be i.next 0 2=some (bC bg bh bi bj)∧
 ((2=2)∧∃bk,stN be j.next 0 (bC bg bh bi bj)=some bk∧
 (∃bl bm bn bo,ldN bk j.next 0 2=some (bC bl bm bn bo)∧
 (Q (.tuple #[.agg (bC bl bm bn bo).toArray,.int .i64 bf]) bk))))
theorem zfC {K:Xs} (hk:K 33=none) (a:Int) (b:Option Addr) (d e:Nat) (f:ByteArray) (g:Int) (i:AH) (Q:Value→AH→Prop) (H:
 ∀j,j=i.alloc (.cells (bC a b d e) 29 false)→
 ∀k,k=j.alloc (.cells [.int .u64 0,.slice none 0 0] 29 false)→
 Wf Tryz.prog K 72 [.string f] k fun l m=>
 (((l=(.bool true)∧
 (Wf Tryz.prog K 27 [.string f] m fun n o=>
 (∃p q r,n=(.tuple #[.string p,.string q,.int .i64 r])∧
 (∃s t u,ld1 o i.next 1=some (.slice s t u)∧
 (Wf Tryz.prog K 45 [.slice s t u,.string p] o fun v w=>
 (∃x y z aa ab ac ad ae af ag ah ai aj ak,v=(.tuple #[.agg (sC x y z aa ab ac ad ae af ag ah ai aj).toArray,.int .i64 ak])∧
 (∀al,al=w.alloc (.cells (zC) 81 false)→
 (11=11)∧∃am,stN al w.next 0 (sC x y z aa ab ac ad ae af ag ah ai aj)=some am∧
 (((ak:Int)=0→∃an ao ap,ld1 am i.next 1=some (.slice an ao ap)∧
 (((32:Int)≤((ao:Nat):Int)→∃aq ar au av,ldN am i.next 0 2=some (bC aq ar au av)∧
 ((2=2)∧∃aw,stN am j.next 0 (bC aq ar au av)=some aw∧
 (∃ax ay az a0,ldN aw j.next 0 2=some (bC ax ay az a0)∧
 (Q (.tuple #[.agg (bC ax ay az a0).toArray,.int .i64 175]) aw))))∧
 (¬(32:Int)≤((ao:Nat):Int)→∃a1 a2 a3 a4,ldN am i.next 0 2=some (bC a1 a2 a3 a4)∧
 (Wf Tryz.prog K 69 [.agg (bC a1 a2 a3 a4).toArray,.string f] am fun a5 a6=>
 (((a5=(.bool true)∧
 (zcH K Q a6 i j 171))∨(a5=(.bool false)∧
 (((g:Int) < 1→∃a7 a8 a9 ba,ldN a6 i.next 0 2=some (bC a7 a8 a9 ba)∧
 ((2=2)∧∃bb,stN a6 j.next 0 (bC a7 a8 a9 ba)=some bb∧
 (∃bc bd be bf,ldN bb j.next 0 2=some (bC bc bd be bf)∧
 (Q (.tuple #[.agg (bC bc bd be bf).toArray,.int .i64 176]) bb))))∧
 (¬(g:Int) < 1→((281474976710656:Int)≤g→∃bg bh bi bj,ldN a6 i.next 0 2=some (bC bg bh bi bj)∧
 ((2=2)∧∃bk,stN a6 j.next 0 (bC bg bh bi bj)=some bk∧
 (∃bl bm bn bo,ldN bk j.next 0 2=some (bC bl bm bn bo)∧
 (Q (.tuple #[.agg (bC bl bm bn bo).toArray,.int .i64 176]) bk))))∧
 (¬(281474976710656:Int)≤g→∃bp bq br,ld1 a6 i.next 1=some (.slice bp bq br)∧
 (∃bs,ld1 a6 w.next 0=some (.int .u64 bs)∧
 (Wf Tryz.prog K 73 [.slice bp bq br,.int .u64 bs] a6 fun bt bu=>
 (∃bv,bt=(.int .u64 bv)∧
 (((g:Int)≤bv→∃bw bx bz b0,ldN bu i.next 0 2=some (bC bw bx bz b0)∧
 ((2=2)∧∃b1,stN bu j.next 0 (bC bw bx bz b0)=some b1∧
 (∃b2 b3 b4 b5,ldN b1 j.next 0 2=some (bC b2 b3 b4 b5)∧
 (Q (.tuple #[.agg (bC b2 b3 b4 b5).toArray,.int .i64 176]) b1))))∧
 (¬(g:Int)≤bv→∃b6,ld1 bu w.next 0=some (.int .u64 b6)∧
 (∃b7,ld1 bu w.next 4=some (.int .u64 b7)∧
 (∃b8,ld1 bu w.next 6=some (.int .i64 b8)∧
 (∃b9 da db,ldN bu w.next 7 3=some (qL b9 da db)∧
 (∃dc dd de,ld1 bu w.next 10=some (.slice dc dd de)∧
 (∀df,df=bu.alloc (.cells (zC) 81 false)→
 (11=11)∧∃dg,stN df bu.next 0 [.int .u64 0,.string q,.bool true,.int .u64 b6,.int .u64 b7,.int .u64 g,.int .i64 b8,.int .i64 b9,.int .u64 da,.int .u32 db,.slice dc dd de]=some dg∧
 (∃dh,ld1 dg i.next 0=some (.int .u64 dh)∧
 (∃di,st1 dg w.next 4 (.int .u64 dh)=some di∧
 (∃dj,st1 di w.next 10 (.slice none 0 0)=some dj∧
 (∃dk dl dm,ld1 dj i.next 1=some (.slice dk dl dm)∧
 (∃dn dp dq dr ds dt du dv dw dx dy dz d0,ldN dj w.next 0 11=some (sC dn dp dq dr ds dt du dv dw dx dy dz d0)∧
 (Wf Tryz.prog K 74 [.slice dk dl dm,.agg (sC dn dp dq dr ds dt du dv dw dx dy dz d0).toArray] dj fun d1 d2=>
 (∃d3 d4 d5,d1=(.slice d3 d4 d5)∧
 (∃d6,ld1 d2 i.next 0=some (.int .u64 d6)∧
 (∃d7 d8 d9 ea eb ec ed ee ef eg eh ei ej,ldN d2 bu.next 0 11=some (sC d7 d8 d9 ea eb ec ed ee ef eg eh ei ej)∧
 (Wf Tryz.prog K 70 [.agg (bC d6 d3 d4 d5).toArray,.agg (sC d7 d8 d9 ea eb ec ed ee ef eg eh ei ej).toArray] d2 fun ek el=>
 (∃em en eo ep,ek=(.agg (bC em en eo ep).toArray)∧
 ((2=2)∧∃eq,stN el j.next 0 (bC em en eo ep)=some eq∧
 ((ld1 dj i.next 0=some (.int .u64 d6))∧
 ((ld1 d2 i.next 0=some (.int .u64 d6))∧
 ((ldN dj bu.next 0 11=some (sC d7 d8 d9 ea eb ec ed ee ef eg eh ei ej))∧
 ((ldN d2 bu.next 0 11=some (sC d7 d8 d9 ea eb ec ed ee ef eg eh ei ej))∧
 (∃er es et eu,ldN eq j.next 0 2=some (bC er es et eu)∧
 (Q (.tuple #[.agg (bC er es et eu).toArray,.int .i64 0]) eq))))))))))))))))))))))))))))))))))))))∧
 (¬(ak:Int)=0→∃ev ew ex ey,ldN am i.next 0 2=some (bC ev ew ex ey)∧
 ((2=2)∧∃ez,stN am j.next 0 (bC ev ew ex ey)=some ez∧
 (∃e0 e1 e2 e3,ldN ez j.next 0 2=some (bC e0 e1 e2 e3)∧
 (Q (.tuple #[.agg (bC e0 e1 e2 e3).toArray,.int .i64 172]) ez))))))))))))∨(l=(.bool false)∧
 (zcH K Q m i j 141))))):
 Wf Tryz.prog K 33 [.agg (bC a b d e).toArray,.string f,.int .u64 g] i Q:=
  zai (hs:=[]) hk (Eq.mpr (by kernel_rfl) H)
abbrev zbG (K:Xs) (Q:Value→AH→Prop) (e4:AH) (i:AH) (j:AH) (e5:Int):Prop:=
 (∃e6 e7 e8 e9,ldN e4 i.next 0 2=some (bC e6 e7 e8 e9)∧
 ((2=2)∧∃fa,stN e4 j.next 0 (bC e6 e7 e8 e9)=some fa∧
 (∃fb fc fd fe,ldN fa j.next 0 2=some (bC fb fc fd fe)∧
 (Q (.tuple #[.agg (bC fb fc fd fe).toArray,.int .i64 e5]) fa))))
theorem zeS {K:Xs} (hk:K 34=none) (a:Int) (b:Option Addr) (d e:Nat) (f:ByteArray) (g:ByteArray) (i:AH) (Q:Value→AH→Prop) (H:
 ∀j,j=i.alloc (.cells (bC a b d e) 29 false)→
 ∀k,k=j.alloc (.cells [.int .u64 0,.slice none 0 0] 29 false)→
 Wf Tryz.prog K 72 [.string f] k fun l m=>
 (((l=(.bool true)∧
 (Wf Tryz.prog K 68 [.string g] m fun o p=>
 (((o=(.bool true)∧
 (∃q r s,ld1 p i.next 1=some (.slice q r s)∧
 (Wf Tryz.prog K 45 [.slice q r s,.string f] p fun t u=>
 (∃v w x y z aa ab ac ad ae af ag ah ai,t=(.tuple #[.agg (sC v w x y z aa ab ac ad ae af ag ah).toArray,.int .i64 ai])∧
 (∀aj,aj=u.alloc (.cells (zC) 81 false)→
 (11=11)∧∃ak,stN aj u.next 0 (sC v w x y z aa ab ac ad ae af ag ah)=some ak∧
 (((ai:Int)=0→∃al am an,ld1 ak i.next 1=some (.slice al am an)∧
 (((32:Int)≤((am:Nat):Int)→∃ao ap aq ar,ldN ak i.next 0 2=some (bC ao ap aq ar)∧
 ((2=2)∧∃au,stN ak j.next 0 (bC ao ap aq ar)=some au∧
 (∃av aw ax ay,ldN au j.next 0 2=some (bC av aw ax ay)∧
 (Q (.tuple #[.agg (bC av aw ax ay).toArray,.int .i64 175]) au))))∧
 (¬(32:Int)≤((am:Nat):Int)→∃az a0 a1 a2,ldN ak i.next 0 2=some (bC az a0 a1 a2)∧
 (Wf Tryz.prog K 69 [.agg (bC az a0 a1 a2).toArray,.string g] ak fun a3 a4=>
 (((a3=(.bool true)∧
 (zbG K Q a4 i j 171))∨(a3=(.bool false)∧
 (∃a5 a6 a7 a8,ldN a4 i.next 0 2=some (bC a5 a6 a7 a8)∧
 (∃a9,ld1 a4 u.next 0=some (.int .u64 a9)∧
 (∃ba,ld1 a4 u.next 6=some (.int .i64 ba)∧
 (∃bb bc bd,ldN a4 u.next 7 3=some (qL bb bc bd)∧
 (Wf Tryz.prog K 70 [.agg (bC a5 a6 a7 a8).toArray,.agg #[.int .u64 0,.string g,.bool false,.int .u64 0,.int .u64 a9,.int .u64 0,.int .i64 ba,.int .i64 bb,.int .u64 bc,.int .u32 bd,.slice none 0 0]] a4 fun be bf=>
 (∃bg bh bi bj,be=(.agg (bC bg bh bi bj).toArray)∧
 ((2=2)∧∃bk,stN bf j.next 0 (bC bg bh bi bj)=some bk∧
 (∃bl bm bn bo,ldN bk j.next 0 2=some (bC bl bm bn bo)∧
 (Q (.tuple #[.agg (bC bl bm bn bo).toArray,.int .i64 0]) bk))))))))))))))))∧
 (¬(ai:Int)=0→∃bp bq br bs,ldN ak i.next 0 2=some (bC bp bq br bs)∧
 ((2=2)∧∃bt,stN ak j.next 0 (bC bp bq br bs)=some bt∧
 (∃bu bv bw bx,ldN bt j.next 0 2=some (bC bu bv bw bx)∧
 (Q (.tuple #[.agg (bC bu bv bw bx).toArray,.int .i64 172]) bt))))))))))∨(o=(.bool false)∧
 (zbG K Q p i j 141))))))∨(l=(.bool false)∧
 (zbG K Q m i j 141))))):
 Wf Tryz.prog K 34 [.agg (bC a b d e).toArray,.string f,.string g] i Q:=
  zai (hs:=[]) hk (Eq.mpr (by kernel_rfl) H)
abbrev zca (K:Xs) (Q:Value→AH→Prop) (bz:AH) (b0:Int) (b1:ByteArray) (b2:Bool) (b3:Int) (b4:Int) (a5:Int) (b5:Int) (b6:Int) (b7:Int) (a9:Int) (b8:Option Addr) (b9:Nat) (da:Nat) (i:AH) (db:Int) (f:ByteArray) (j:AH) (dc:Int) (dd:AH):Prop:=
 (∀de,de=bz.alloc (.cells (zC) 81 false)→
 (11=11)∧∃df,stN de bz.next 0 (sC b0 b1 b2 b3 b4 a5 b5 b6 b7 a9 b8 b9 da)=some df∧
 (∃dg dh di,ld1 df i.next 1=some (.slice dg dh di)∧
 (∃dj:Int→Option Addr→Nat→Nat→Int→Nat→AH→Prop,(∃n,dj db dg dh di 0 n df)∧
 ∀(dk:Nat) (bk:AH),∀(dl:Int),∀(dm:Option Addr) (dn:Nat) (dp:Nat),∀(dq:Int),dj dl dm dn dp dq dk bk→
 ∃dr ds dt,ld1 bk i.next 1=some (.slice dr ds dt)∧
 (((dq:Int) < ((ds:Nat):Int)→∃du dv dw,ld1 bk i.next 1=some (.slice du dv dw)∧
 (Wf Tryz.prog K 75 [.slice du dv dw,.int .u64 dl] bk fun dx dy=>
 (∃dz d0 d1 d2 d3 d4 d5 d6 d7 d8 d9 ea eb,((dx=(.tuple #[.agg (sC dz d0 d1 d2 d3 d4 d5 d6 d7 d8 d9 ea eb).toArray,.bool true])∧
 (∀ec,ec=dy.alloc (.cells (zC) 81 false)→
 (11=11)∧∃ed,stN ec dy.next 0 (sC dz d0 d1 d2 d3 d4 d5 d6 d7 d8 d9 ea eb)=some ed∧
 (∃ee,ld1 ed dy.next 3=some (.int .u64 ee)∧
 (∃ef,ld1 ed bz.next 3=some (.int .u64 ef)∧
 (((ee:Int)=ef→∃eg eh ei ej,ldN ed i.next 0 2=some (bC eg eh ei ej)∧
 ((((ByteArray.size f+ByteArray.size (ByteArray.mk #[64]):Nat):Int)≤9223372036854775807)∧∀ek:ByteArray,ek=f ++ (ByteArray.mk #[64])→∃el,ld1 ed dy.next 1=some (.string el)∧
 ((((ByteArray.size ek+ByteArray.size el:Nat):Int)≤9223372036854775807)∧∀em:ByteArray,em=ek ++ el→Wf Tryz.prog K 69 [.agg (bC eg eh ei ej).toArray,.string em] ed fun en eo=>
 (((en=(.bool true)∧
 (∃ep eq er es,ldN eo i.next 0 2=some (bC ep eq er es)∧
 ((2=2)∧∃et,stN eo j.next 0 (bC ep eq er es)=some et∧
 (∃eu ev ew ex,ldN et j.next 0 2=some (bC eu ev ew ex)∧
 (Q (.tuple #[.agg (bC eu ev ew ex).toArray,.int .i64 dc]) et)))))∨(en=(.bool false)∧
 (∃ey,ld1 eo dd.next 0=some (.int .u64 ey)∧
 (∃ez,st1 eo dy.next 3 (.int .u64 ey)=some ez∧
 (∃e0 e1 e2 e3 e4 e5 e6 e7 e8 e9 fa fb fc,ldN ez dy.next 0 11=some (sC e0 e1 e2 e3 e4 e5 e6 e7 e8 e9 fa fb fc)∧
 (Wf Tryz.prog K 74 [.slice dm dn dp,.agg (sC e0 e1 e2 e3 e4 e5 e6 e7 e8 e9 fa fb fc).toArray] ez fun fd fe=>
 (∃ff fg fh,fd=(.slice ff fg fh)∧
 (∃fi,ld1 fe dy.next 4=some (.int .u64 fi)∧
 (∀fj:Int,fj=IntKind.wrap .i64 (dq+1)→∃fk,fk < dk∧dj fi ff fg fh fj fk fe)))))))))))))∧
 (¬(ee:Int)=ef→∃fl,ld1 ed i.next 0=some (.int .u64 fl)∧
 ((2=2)∧∃fm,stN ed j.next 0 (bC fl dm dn dp)=some fm∧
 (∃fn fo fp fq,ldN fm j.next 0 2=some (bC fn fo fp fq)∧
 (Q (.tuple #[.agg (bC fn fo fp fq).toArray,.int .i64 0]) fm)))))))))∨(dx=(.tuple #[.agg (sC dz d0 d1 d2 d3 d4 d5 d6 d7 d8 d9 ea eb).toArray,.bool false])∧
 (∀fr,fr=dy.alloc (.cells (zC) 81 false)→
 (11=11)∧∃fs,stN fr dy.next 0 (sC dz d0 d1 d2 d3 d4 d5 d6 d7 d8 d9 ea eb)=some fs∧
 (∃ft,ld1 fs i.next 0=some (.int .u64 ft)∧
 ((2=2)∧∃fu,stN fs j.next 0 (bC ft dm dn dp)=some fu∧
 (∃fv fw fx fy,ldN fu j.next 0 2=some (bC fv fw fx fy)∧
 (Q (.tuple #[.agg (bC fv fw fx fy).toArray,.int .i64 0]) fu))))))))))∧
 (¬(dq:Int) < ((ds:Nat):Int)→∃fz,ld1 bk i.next 0=some (.int .u64 fz)∧
 ((2=2)∧∃f0,stN bk j.next 0 (bC fz dm dn dp)=some f0∧
 (∃f1 f2 f3 f4,ldN f0 j.next 0 2=some (bC f1 f2 f3 f4)∧
 (Q (.tuple #[.agg (bC f1 f2 f3 f4).toArray,.int .i64 0]) f0))))))))
theorem zeb {K:Xs} (hk:K 35=none) (a:Int) (b:Option Addr) (d e:Nat) (f:ByteArray) (g:AH) (Q:Value→AH→Prop) (H:
 ∀i,i=g.alloc (.cells (bC a b d e) 29 false)→
 ∀j,j=i.alloc (.cells [.int .u64 0,.slice none 0 0] 29 false)→
 Wf Tryz.prog K 68 [.string f] j fun k l=>
 (((k=(.bool true)∧
 (∃m n o,ld1 l g.next 1=some (.slice m n o)∧
 (Wf Tryz.prog K 45 [.slice m n o,.string f] l fun p q=>
 (∃r s t u v w x y z aa ab ac ad ae,p=(.tuple #[.agg (sC r s t u v w x y z aa ab ac ad).toArray,.int .i64 ae])∧
 (∀af,af=q.alloc (.cells (zC) 81 false)→
 (11=11)∧∃ag,stN af q.next 0 (sC r s t u v w x y z aa ab ac ad)=some ag∧
 (((ae:Int)=0→∃ah ai aj,ld1 ag g.next 1=some (.slice ah ai aj)∧
 (∃ak,ld1 ag q.next 0=some (.int .u64 ak)∧
 (Wf Tryz.prog K 42 [.slice ah ai aj,.int .u64 ak] ag fun al am=>
 (∃an ao ap aq,al=(.tuple #[.slice an ao ap,.int .u64 aq])∧
 (((aq:Int)=0→∃ar au av aw,ldN am g.next 0 2=some (bC ar au av aw)∧
 ((2=2)∧∃ax,stN am i.next 0 (bC ar au av aw)=some ax∧
 (∃ay az a0 a1,ldN ax i.next 0 2=some (bC ay az a0 a1)∧
 (Q (.tuple #[.agg (bC ay az a0 a1).toArray,.int .i64 174]) ax))))∧
 (¬(aq:Int)=0→∃a2 a3 a4,ld1 am g.next 1=some (.slice a2 a3 a4)∧
 (Wf Tryz.prog K 75 [.slice a2 a3 a4,.int .u64 aq] am fun a5 a6=>
 (∃a7 a8 a9 ba bb bc bd be bf bg bh bi bj,((a5=(.tuple #[.agg (sC a7 a8 a9 ba bb bc bd be bf bg bh bi bj).toArray,.bool true])∧
 (zca K Q a6 a7 a8 a9 ba bb bc bd be bf bg bh bi bj g aq f i 171 q))∨(a5=(.tuple #[.agg (sC a7 a8 a9 ba bb bc bd be bf bg bh bi bj).toArray,.bool false])∧
 (zca K Q a6 a7 a8 a9 ba bb bc bd be bf bg bh bi bj g aq f i 171 q)))))))))))∧
 (¬(ae:Int)=0→∃bk bl bm bn,ldN ag g.next 0 2=some (bC bk bl bm bn)∧
 ((2=2)∧∃bo,stN ag i.next 0 (bC bk bl bm bn)=some bo∧
 (∃bp bq br bs,ldN bo i.next 0 2=some (bC bp bq br bs)∧
 (Q (.tuple #[.agg (bC bp bq br bs).toArray,.int .i64 172]) bo))))))))))∨(k=(.bool false)∧
 (∃bt bu bv bw,ldN l g.next 0 2=some (bC bt bu bv bw)∧
 ((2=2)∧∃bx,stN l i.next 0 (bC bt bu bv bw)=some bx∧
 (∃bz b0 b1 b2,ldN bx i.next 0 2=some (bC bz b0 b1 b2)∧
 (Q (.tuple #[.agg (bC bz b0 b1 b2).toArray,.int .i64 141]) bx)))))))):
 Wf Tryz.prog K 35 [.agg (bC a b d e).toArray,.string f] g Q:=
  zai (hs:=[(12,[(9,.int .u64 0),(12,.slice none 0 0),(13,.int .i64 0)])]) hk (Eq.mpr (by kernel_rfl) H)
abbrev zbO (K:Xs) (Q:Value→AH→Prop) (b3:Int) (b4:Option Addr) (b5:Nat) (b6:Nat) (b7:AH) (i:AH) (j:AH) (b8:Int):Prop:=
 ((2=2)∧∃b9,stN b7 i.next 0 (bC b3 b4 b5 b6)=some b9∧
 ((11=11)∧∃da,stN b9 j.next 0 (zC)=some da∧
 (∃db dc dd de,ldN da i.next 0 2=some (bC db dc dd de)∧
 (∃df dg dh di dj dk dl dm dn dp dq dr ds,ldN da j.next 0 11=some (sC df dg dh di dj dk dl dm dn dp dq dr ds)∧
 (Q (.tuple #[.agg (bC db dc dd de).toArray,.agg (sC df dg dh di dj dk dl dm dn dp dq dr ds).toArray,.int .i64 b8]) da)))))
theorem zfD {K:Xs} (hk:K 36=none) (a:Int) (b:Option Addr) (d e:Nat) (f:ByteArray) (g:AH) (Q:Value→AH→Prop) (H:
 ∀i,i=g.alloc (.cells (bC a b d e) 29 false)→
 ∀j,j=i.alloc (.cells [.int .u64 0,.slice none 0 0] 29 false)→
 ∀k,k=j.alloc (.cells (zC) 81 false)→
 Wf Tryz.prog K 68 [.string f] k fun l m=>
 (((l=(.bool true)∧
 (∃n o p,ld1 m g.next 1=some (.slice n o p)∧
 (Wf Tryz.prog K 45 [.slice n o p,.string f] m fun q r=>
 (∃s t u v w x y z aa ab ac ad ae af,q=(.tuple #[.agg (sC s t u v w x y z aa ab ac ad ae).toArray,.int .i64 af])∧
 (∀ag,ag=r.alloc (.cells (zC) 81 false)→
 (11=11)∧∃ah,stN ag r.next 0 (sC s t u v w x y z aa ab ac ad ae)=some ah∧
 (((af:Int)=0→∃ai aj ak,ld1 ah g.next 1=some (.slice ai aj ak)∧
 (∃al,ld1 ah r.next 4=some (.int .u64 al)∧
 (Wf Tryz.prog K 75 [.slice ai aj ak,.int .u64 al] ah fun am an=>
 (∃ao ap aq ar au av aw ax ay az a0 a1 a2,((am=(.tuple #[.agg (sC ao ap aq ar au av aw ax ay az a0 a1 a2).toArray,.bool true])∧
 (∀a3,a3=an.alloc (.cells (zC) 81 false)→
 (11=11)∧∃a4,stN a3 an.next 0 (sC ao ap aq ar au av aw ax ay az a0 a1 a2)=some a4∧
 (∃a5 a6 a7 a8 a9 ba bb bc bd be bf bg bh,ldN a4 r.next 0 11=some (sC a5 a6 a7 a8 a9 ba bb bc bd be bf bg bh)∧
 (∀bi,bi=a4.alloc (.cells (zC) 81 false)→
 (11=11)∧∃bj,stN bi a4.next 0 (sC a5 a6 a7 a8 a9 ba bb bc bd be bf bg bh)=some bj∧
 (∃bk bl bm,ldN bj an.next 7 3=some (qL bk bl bm)∧
 ((3=3)∧∃bn,stN bj a4.next 7 (qL bk bl bm)=some bn∧
 (∃bo,st1 bn a4.next 10 (.slice none 0 0)=some bo∧
 (∃bp bq br,ld1 bo g.next 1=some (.slice bp bq br)∧
 (∃bs bt bu bv bw bx bz b0 b1 b2 b3 b4 b5,ldN bo a4.next 0 11=some (sC bs bt bu bv bw bx bz b0 b1 b2 b3 b4 b5)∧
 (Wf Tryz.prog K 74 [.slice bp bq br,.agg (sC bs bt bu bv bw bx bz b0 b1 b2 b3 b4 b5).toArray] bo fun b6 b7=>
 (∃b8 b9 da,b6=(.slice b8 b9 da)∧
 (∃db,ld1 b7 g.next 0=some (.int .u64 db)∧
 ((2=2)∧∃dc,stN b7 i.next 0 (bC db b8 b9 da)=some dc∧
 (∃dd de df dg dh di dj dk dl dm dn dp dq,ldN dc r.next 0 11=some (sC dd de df dg dh di dj dk dl dm dn dp dq)∧
 ((11=11)∧∃dr,stN dc j.next 0 (sC dd de df dg dh di dj dk dl dm dn dp dq)=some dr∧
 ((ld1 bo g.next 0=some (.int .u64 db))∧
 ((ld1 b7 g.next 0=some (.int .u64 db))∧
 ((ldN bo r.next 0 11=some (sC dd de df dg dh di dj dk dl dm dn dp dq))∧
 ((ldN b7 r.next 0 11=some (sC dd de df dg dh di dj dk dl dm dn dp dq))∧
 ((ldN b7 r.next 0 11=some (sC dd de df dg dh di dj dk dl dm dn dp dq))∧
 ((ldN dc r.next 0 11=some (sC dd de df dg dh di dj dk dl dm dn dp dq))∧
 (∃ds dt du dv,ldN dr i.next 0 2=some (bC ds dt du dv)∧
 (∃dw dx dy dz d0 d1 d2 d3 d4 d5 d6 d7 d8,ldN dr j.next 0 11=some (sC dw dx dy dz d0 d1 d2 d3 d4 d5 d6 d7 d8)∧
 (Q (.tuple #[.agg (bC ds dt du dv).toArray,.agg (sC dw dx dy dz d0 d1 d2 d3 d4 d5 d6 d7 d8).toArray,.int .i64 0]) dr))))))))))))))))))))))))∨(am=(.tuple #[.agg (sC ao ap aq ar au av aw ax ay az a0 a1 a2).toArray,.bool false])∧
 (∀d9,d9=an.alloc (.cells (zC) 81 false)→
 (11=11)∧∃ea,stN d9 an.next 0 (sC ao ap aq ar au av aw ax ay az a0 a1 a2)=some ea∧
 (∃eb ec ed ee,ldN ea g.next 0 2=some (bC eb ec ed ee)∧
 (zbO K Q eb ec ed ee ea i j 174)))))))))∧
 (¬(af:Int)=0→∃ef eg eh ei,ldN ah g.next 0 2=some (bC ef eg eh ei)∧
 (zbO K Q ef eg eh ei ah i j 172))))))))∨(l=(.bool false)∧
 (∃ej ek el em,ldN m g.next 0 2=some (bC ej ek el em)∧
 (zbO K Q ej ek el em m i j 141)))))):
 Wf Tryz.prog K 36 [.agg (bC a b d e).toArray,.string f] g Q:=
  zai (hs:=[]) hk (Eq.mpr (by kernel_rfl) H)
abbrev zbm (K:Xs) (Q:Value→AH→Prop) (bb:Int) (en:Option Addr) (eo:Nat) (ep:Nat) (eq:AH) (i:AH) (j:AH) (er:Int):Prop:=
 ((2=2)∧∃es,stN eq i.next 0 (bC bb en eo ep)=some es∧
 ((11=11)∧∃et,stN es j.next 0 (zC)=some et∧
 (∃eu ev ew ex,ldN et i.next 0 2=some (bC eu ev ew ex)∧
 (∃bl ey ez e0 e1 e2 e3 bs e4 e5 e6 e7 e8,ldN et j.next 0 11=some (sC bl ey ez e0 e1 e2 e3 bs e4 e5 e6 e7 e8)∧
 (Q (.tuple #[.agg (bC eu ev ew ex).toArray,.agg (sC bl ey ez e0 e1 e2 e3 bs e4 e5 e6 e7 e8).toArray,.int .i64 er]) et)))))
theorem zec {K:Xs} (hk:K 39=none) (a:Int) (b:Option Addr) (d e:Nat) (f:ByteArray) (g:AH) (Q:Value→AH→Prop) (H:
 ∀i,i=g.alloc (.cells (bC a b d e) 29 false)→
 ∀j,j=i.alloc (.cells [.int .u64 0,.slice none 0 0] 29 false)→
 ∀k,k=j.alloc (.cells (zC) 81 false)→
 Wf Tryz.prog K 68 [.string f] k fun l m=>
 (((l=(.bool true)∧
 (∃o p q,ld1 m g.next 1=some (.slice o p q)∧
 (Wf Tryz.prog K 45 [.slice o p q,.string f] m fun r s=>
 (∃t u v w x y z aa ab ac ad ae af ag,r=(.tuple #[.agg (sC t u v w x y z aa ab ac ad ae af).toArray,.int .i64 ag])∧
 (∀ah,ah=s.alloc (.cells (zC) 81 false)→
 (11=11)∧∃ai,stN ah s.next 0 (sC t u v w x y z aa ab ac ad ae af)=some ai∧
 (((ag:Int)=0→∃aj ak al,ld1 ai g.next 1=some (.slice aj ak al)∧
 (∃am:Int→Nat→AH→Prop,(∃n,am 0 n ai)∧
 ∀(an:Nat) (ao:AH),∀(ap:Int),am ap an ao→
 ((ap:Int) < ((ak:Nat):Int)→zal aj fun aq ar=>(((0:Int)≤ap)∧((ap:Int) < ((ak:Nat):Int))∧
 (∃au av aw ax ay az a0 a1 a2 a3 a4 a5 a6,ldN ao aq (ar+Int.toNat ap * 11) 11=some (sC au av aw ax ay az a0 a1 a2 a3 a4 a5 a6)∧
 (∀a7,a7=ao.alloc (.cells (zC) 81 false)→
 (11=11)∧∃a8,stN a7 ao.next 0 (sC au av aw ax ay az a0 a1 a2 a3 a4 a5 a6)=some a8∧
 (((ld1 a8 ao.next 2=some (.bool true)∧
 (∃a9,ld1 a8 ao.next 3=some (.int .u64 a9)∧
 (∃ba,ld1 a8 s.next 0=some (.int .u64 ba)∧
 (((a9:Int)=ba→∃bb bc bd be,ldN a8 g.next 0 2=some (bC bb bc bd be)∧
 (zbm K Q bb bc bd be a8 i j 173))∧
 (¬(a9:Int)=ba→∀bf:Int,bf=IntKind.wrap .i64 (ap+1)→∃bg,bg < an∧am bf bg a8)))))∨(ld1 a8 ao.next 2=some (.bool false)∧
 (∀bh:Int,bh=IntKind.wrap .i64 (ap+1)→∃bg,bg < an∧am bh bg a8))))))))∧
 (¬(ap:Int) < ((ak:Nat):Int)→∃bi bj bk,ld1 ao g.next 1=some (.slice bi bj bk)∧
 (∃bl,ld1 ao s.next 0=some (.int .u64 bl)∧
 (Wf Tryz.prog K 79 [.slice bi bj bk,.int .u64 bl] ao fun bm bn=>
 (∃bo bp bq,bm=(.slice bo bp bq)∧
 (∃br,ld1 bn g.next 0=some (.int .u64 br)∧
 ((2=2)∧∃bs,stN bn i.next 0 (bC br bo bp bq)=some bs∧
 (∃bt bu bv bw bx bz b0 b1 b2 b3 b4 b5 b6,ldN bs s.next 0 11=some (sC bt bu bv bw bx bz b0 b1 b2 b3 b4 b5 b6)∧
 ((11=11)∧∃b7,stN bs j.next 0 (sC bt bu bv bw bx bz b0 b1 b2 b3 b4 b5 b6)=some b7∧
 ((ld1 ao g.next 0=some (.int .u64 br))∧
 ((ld1 bn g.next 0=some (.int .u64 br))∧
 ((ldN ao s.next 0 11=some (sC bt bu bv bw bx bz b0 b1 b2 b3 b4 b5 b6))∧
 ((ldN bn s.next 0 11=some (sC bt bu bv bw bx bz b0 b1 b2 b3 b4 b5 b6))∧
 ((ldN bn s.next 0 11=some (sC bt bu bv bw bx bz b0 b1 b2 b3 b4 b5 b6))∧
 ((ldN bs s.next 0 11=some (sC bt bu bv bw bx bz b0 b1 b2 b3 b4 b5 b6))∧
 (∃b8 b9 da db,ldN b7 i.next 0 2=some (bC b8 b9 da db)∧
 (∃dc dd de df dg dh di dj dk dl dm dn dp,ldN b7 j.next 0 11=some (sC dc dd de df dg dh di dj dk dl dm dn dp)∧
 (Q (.tuple #[.agg (bC b8 b9 da db).toArray,.agg (sC dc dd de df dg dh di dj dk dl dm dn dp).toArray,.int .i64 0]) b7)))))))))))))))))))∧
 (¬(ag:Int)=0→∃dq dr ds dt,ldN ai g.next 0 2=some (bC dq dr ds dt)∧
 (zbm K Q dq dr ds dt ai i j 172))))))))∨(l=(.bool false)∧
 (∃du dv dw dx,ldN m g.next 0 2=some (bC du dv dw dx)∧
 (zbm K Q du dv dw dx m i j 141)))))):
 Wf Tryz.prog K 39 [.agg (bC a b d e).toArray,.string f] g Q:=
  zai (hs:=[(7,[(30,.int .i64 0)])]) hk (Eq.mpr (by kernel_rfl) H)
abbrev zbZ (K:Xs) (Q:Value→AH→Prop) (dy:AH) (dz:Int) (d0:ByteArray) (d1:Bool) (d2:Int) (d3:Int) (d4:Int) (d5:Int) (d6:Int) (d7:Int) (d8:Int) (d9:Option Addr) (ea:Nat) (eb:Nat) (g:AH) (ec:AH) (i:AH) (ed:Int):Prop:=
 (∀ee,ee=dy.alloc (.cells (zC) 81 false)→
 (11=11)∧∃ef,stN ee dy.next 0 (sC dz d0 d1 d2 d3 d4 d5 d6 d7 d8 d9 ea eb)=some ef∧
 (∃eg eh ei,ld1 ef g.next 1=some (.slice eg eh ei)∧
 (∃ej,ld1 ef ec.next 0=some (.int .u64 ej)∧
 (Wf Tryz.prog K 73 [.slice eg eh ei,.int .u64 ej] ef fun ek el=>
 (∃em,ek=(.int .u64 em)∧
 (∃en eo ep,ld1 el dy.next 10=some (.slice en eo ep)∧
 (Wf Tryz.prog K 77 [.slice en eo ep,.int .u64 em] el fun eq er=>
 (∃es et eu bo bp bq,eq=(.tuple #[.slice es et eu,.slice bo bp bq])∧
 ((ld1 ef dy.next 10=some (.slice en eo ep))∧
 ((ld1 el dy.next 10=some (.slice en eo ep))∧
 (∃ev ew ex,ld1 er ec.next 10=some (.slice ev ew ex)∧
 (Wf Tryz.prog K 78 [.slice es et eu,.slice ev ew ex] er fun ey ez=>
 (∃e0 e1 e2 b0,ey=(.tuple #[.slice e0 e1 e2,.int .i64 b0])∧
 (((b0:Int)=0→((4000:Int) < ((e1:Nat):Int)→∃b1 e3 e4 e5,ldN ez g.next 0 2=some (bC b1 e3 e4 e5)∧
 ((2=2)∧∃e6,stN ez i.next 0 (bC b1 e3 e4 e5)=some e6∧
 (∃e7 e8 e9 fa,ldN e6 i.next 0 2=some (bC e7 e8 e9 fa)∧
 (Q (.tuple #[.agg (bC e7 e8 e9 fa).toArray,.slice none 0 0,.int .i64 ed]) e6))))∧
 (¬(4000:Int) < ((e1:Nat):Int)→∃fb,st1 ez dy.next 10 (.slice e0 e1 e2)=some fb∧
 (∃fc,ld1 fb ec.next 4=some (.int .u64 fc)∧
 (∃fd,st1 fb dy.next 4 (.int .u64 fc)=some fd∧
 (∃fe ff fg,ld1 fd g.next 1=some (.slice fe ff fg)∧
 (∃dg fh fi dj dk dl fj fk fl dq dr ds dt,ldN fd dy.next 0 11=some (sC dg fh fi dj dk dl fj fk fl dq dr ds dt)∧
 (Wf Tryz.prog K 74 [.slice fe ff fg,.agg (sC dg fh fi dj dk dl fj fk fl dq dr ds dt).toArray] fd fun fm fn=>
 (∃fo fp fq,fm=(.slice fo fp fq)∧
 (∃fr,ld1 fn ec.next 0=some (.int .u64 fr)∧
 (Wf Tryz.prog K 79 [.slice fo fp fq,.int .u64 fr] fn fun fs ft=>
 (∃fu fv fw,fs=(.slice fu fv fw)∧
 (∃fx,ld1 ft g.next 0=some (.int .u64 fx)∧
 ((2=2)∧∃fy,stN ft i.next 0 (bC fx fu fv fw)=some fy∧
 ((ld1 fd ec.next 0=some (.int .u64 fr))∧
 ((ld1 fn ec.next 0=some (.int .u64 fr))∧
 ((ld1 fd g.next 0=some (.int .u64 fx))∧
 ((ld1 fn g.next 0=some (.int .u64 fx))∧
 ((ld1 fn g.next 0=some (.int .u64 fx))∧
 ((ld1 ft g.next 0=some (.int .u64 fx))∧
 (∃fz f0 f1 f2,ldN fy i.next 0 2=some (bC fz f0 f1 f2)∧
 (Q (.tuple #[.agg (bC fz f0 f1 f2).toArray,.slice bo bp bq,.int .i64 0]) fy)))))))))))))))))))))∧
 (¬(b0:Int)=0→∃f3 f4 f5 f6,ldN ez g.next 0 2=some (bC f3 f4 f5 f6)∧
 ((2=2)∧∃f7,stN ez i.next 0 (bC f3 f4 f5 f6)=some f7∧
 (∃f8 f9 ga gb,ldN f7 i.next 0 2=some (bC f8 f9 ga gb)∧
 (Q (.tuple #[.agg (bC f8 f9 ga gb).toArray,.slice none 0 0,.int .i64 ed]) f7))))))))))))))))))
theorem zdK {K:Xs} (hk:K 38=none) (a:Int) (b:Option Addr) (d e:Nat) (f:ByteArray) (g:AH) (Q:Value→AH→Prop) (H:
 ∀i,i=g.alloc (.cells (bC a b d e) 29 false)→
 ∀j,j=i.alloc (.cells [.int .u64 0,.slice none 0 0] 29 false)→
 Wf Tryz.prog K 72 [.string f] j fun k l=>
 (((k=(.bool true)∧
 (∃m n o,ld1 l g.next 1=some (.slice m n o)∧
 (Wf Tryz.prog K 45 [.slice m n o,.string f] l fun p q=>
 (∃r s t u v w x y z aa ab ac ad ae,p=(.tuple #[.agg (sC r s t u v w x y z aa ab ac ad).toArray,.int .i64 ae])∧
 (∀af,af=q.alloc (.cells (zC) 81 false)→
 (11=11)∧∃ag,stN af q.next 0 (sC r s t u v w x y z aa ab ac ad)=some ag∧
 (((ae:Int)=0→∃ah ai aj,ld1 ag g.next 1=some (.slice ah ai aj)∧
 (∃ak,ld1 ag q.next 0=some (.int .u64 ak)∧
 (Wf Tryz.prog K 76 [.slice ah ai aj,.int .u64 ak] ag fun al am=>
 (∃an ao ap aq ar au,al=(.tuple #[.slice an ao ap,.slice aq ar au])∧
 (((0:Int) < ((ar:Nat):Int)→∃av aw ax ay,ldN am g.next 0 2=some (bC av aw ax ay)∧
 ((2=2)∧∃az,stN am i.next 0 (bC av aw ax ay)=some az∧
 (∃a0 a1 a2 a3,ldN az i.next 0 2=some (bC a0 a1 a2 a3)∧
 (Q (.tuple #[.agg (bC a0 a1 a2 a3).toArray,.slice none 0 0,.int .i64 173]) az))))∧
 (¬(0:Int) < ((ar:Nat):Int)→∃a4 a5 a6,ld1 am g.next 1=some (.slice a4 a5 a6)∧
 (zal an fun a7 a8=>(((0:Int)≤0)∧((0:Int) < ((ao:Nat):Int))∧
 (∃a9,ld1 am a7 a8=some (.int .u64 a9)∧
 (Wf Tryz.prog K 75 [.slice a4 a5 a6,.int .u64 a9] am fun ba bb=>
 (∃bc bd be bf bg bh bi bj bk bl bm bn bo,((ba=(.tuple #[.agg (sC bc bd be bf bg bh bi bj bk bl bm bn bo).toArray,.bool true])∧
 (zbZ K Q bb bc bd be bf bg bh bi bj bk bl bm bn bo g q i 131))∨(ba=(.tuple #[.agg (sC bc bd be bf bg bh bi bj bk bl bm bn bo).toArray,.bool false])∧
 (zbZ K Q bb bc bd be bf bg bh bi bj bk bl bm bn bo g q i 131))))))))))))))∧
 (¬(ae:Int)=0→∃bp bq br bs,ldN ag g.next 0 2=some (bC bp bq br bs)∧
 ((2=2)∧∃bt,stN ag i.next 0 (bC bp bq br bs)=some bt∧
 (∃bu bv bw bx,ldN bt i.next 0 2=some (bC bu bv bw bx)∧
 (Q (.tuple #[.agg (bC bu bv bw bx).toArray,.slice none 0 0,.int .i64 172]) bt))))))))))∨(k=(.bool false)∧
 (∃bz b0 b1 b2,ldN l g.next 0 2=some (bC bz b0 b1 b2)∧
 ((2=2)∧∃b3,stN l i.next 0 (bC bz b0 b1 b2)=some b3∧
 (∃b4 b5 b6 b7,ldN b3 i.next 0 2=some (bC b4 b5 b6 b7)∧
 (Q (.tuple #[.agg (bC b4 b5 b6 b7).toArray,.slice none 0 0,.int .i64 141]) b3)))))))):
 Wf Tryz.prog K 38 [.agg (bC a b d e).toArray,.string f] g Q:=
  zai (hs:=[]) hk (Eq.mpr (by kernel_rfl) H)
abbrev zaM (K:Xs) (b8:AH) (b9:AH) (da:Option Addr) (db:Nat) (dc:Nat) (x:Int) (dd:Nat) (de:Option Addr→Nat→Nat→Bool→Int→Nat→AH→Prop) (df:Bool):Prop:=
 (∃dg bf bg,ldN b8 b9.next 0 3=some (qL dg bf bg)∧
 (∀dh,dh=b8.alloc (.cells (qL dg bf bg) 78 false)→
 ∃di dj dk dl,zan Tryz.prog dh .append #[79,79] [.slice da db dc,(.slice (some ⟨b8.next,0,none⟩) 1 1)]=some (.slice di dj dk,dl)∧
 (∀dm:Int,dm=IntKind.wrap .i64 (x+1)→∃dn,dn < dd∧de di dj dk df dm dn dl)))
abbrev zbn (K:Xs) (dp:Value) (df:Bool) (b8:AH) (g:AH) (da:Option Addr) (db:Nat) (dc:Nat) (b9:AH) (x:Int) (dd:Nat) (de:Option Addr→Nat→Nat→Bool→Int→Nat→AH→Prop):Prop:=
 (((dp=(.bool true)∧
 (cond (!df) (∃dq dr ds,ldN b8 g.next 0 3=some (qL dq dr ds)∧
 (∀dt,dt=b8.alloc (.cells (qL dq dr ds) 78 false)→
 ∃a1 a2 a3 du,zan Tryz.prog dt .append #[79,79] [.slice da db dc,(.slice (some ⟨b8.next,0,none⟩) 1 1)]=some (.slice a1 a2 a3,du)∧
 (∃dv dw dx,ldN du b9.next 0 3=some (qL dv dw dx)∧
 (∀dy,dy=du.alloc (.cells (qL dv dw dx) 78 false)→
 ∃dz d0 d1 d2,zan Tryz.prog dy .append #[79,79] [.slice a1 a2 a3,(.slice (some ⟨du.next,0,none⟩) 1 1)]=some (.slice dz d0 d1,d2)∧
 (∀d3:Int,d3=IntKind.wrap .i64 (x+1)→∃dn,dn < dd∧de dz d0 d1 true d3 dn d2))))) (zaM K b8 b9 da db dc x dd de df)))∨(dp=(.bool false)∧
 (cond (!df) (zaM K b8 b9 da db dc x dd de df) (zaM K b8 b9 da db dc x dd de df)))))
theorem zf9 {K:Xs} (hk:K 93=none) (a:Option Addr) (b d:Nat) (e:Int) (f:Int) (g:Int) (i:AH) (Q:Value→AH→Prop) (H:
 ∀j,j=i.alloc (.cells (qL e f g) 78 false)→
 ∃k l m,ldN j i.next 0 3=some (qL k l m)∧
 (Wf Tryz.prog K 99 [.agg (qL k l m).toArray] j fun o p=>
 (((o=(.bool true)∧
 (∀q,q=p.alloc (.cells [] 78 false)→
 ∃r:Option Addr→Nat→Nat→Bool→Int→Nat→AH→Prop,(∃n,r (some ⟨p.next,0,none⟩) 0 0 false 0 n q)∧
 ∀(s:Nat) (t:AH),∀(u:Option Addr) (v:Nat) (w:Nat),∀(x:Bool),∀(y:Int),r u v w x y s t→
 ((y:Int) < ((b:Nat):Int)→zal a fun z aa=>(((0:Int)≤y)∧((y:Int) < ((b:Nat):Int))∧
 (∃ab ac ad,ldN t z (aa+Int.toNat y * 3) 3=some (qL ab ac ad)∧
 (∀ae,ae=t.alloc (.cells [.int .i64 0,.int .u64 0,.int .u32 0] 78 false)→
 (3=3)∧∃af,stN ae t.next 0 (qL ab ac ad)=some af∧
 (∃ag ah ai,ldN af t.next 0 3=some (qL ag ah ai)∧
 (∃aj ak al,ldN af i.next 0 3=some (qL aj ak al)∧
 (∃la29 lb30,zdx Tryz.prog 78 (.agg (qL ag ah ai).toArray)=some la29∧zdx Tryz.prog 78 (.agg (qL aj ak al).toArray)=some lb30∧
 (zaN la29 lb30=true→Q (.tuple #[.slice none 0 0,.int .i64 131]) af)∧
 (zaN la29 lb30=false→cond ((!x) == true) (∃am an ao,ldN af i.next 0 3=some (qL am an ao)∧
 (cond ((!x) == true) (∃ap aq ar,ldN af t.next 0 3=some (qL ap aq ar)∧
 (cond ((!x) == true) (Wf Tryz.prog K 100 [.agg (qL am an ao).toArray,.agg (qL ap aq ar).toArray] af fun au av=>
 (zbn K au x av i u v w t y s r)) (cond (!x) (False) (zaM K af t u v w y s r x)))) (cond ((!x) == true) (Wf Tryz.prog K 100 [.agg (qL am an ao).toArray,zd2] af fun aw ax=>
 (zbn K aw x ax i u v w t y s r)) (cond (!x) (False) (zaM K af t u v w y s r x))))) (cond ((!x) == true) (∃ay az a0,ldN af t.next 0 3=some (qL ay az a0)∧
 (cond ((!x) == true) (Wf Tryz.prog K 100 [zd2,.agg (qL ay az a0).toArray] af fun a1 a2=>
 (zbn K a1 x a2 i u v w t y s r)) (cond (!x) (False) (zaM K af t u v w y s r x)))) (cond ((!x) == true) (Wf Tryz.prog K 100 [zd2,zd2] af fun a3 a4=>
 (zbn K a3 x a4 i u v w t y s r)) (cond (!x) (False) (zaM K af t u v w y s r x))))))))))))∧
 (¬(y:Int) < ((b:Nat):Int)→cond (!x) (∃a5 a6 a7,ldN t i.next 0 3=some (qL a5 a6 a7)∧
 (∀a8,a8=t.alloc (.cells (qL a5 a6 a7) 78 false)→
 ∃a9 ba bb bc,zan Tryz.prog a8 .append #[79,79] [.slice u v w,(.slice (some ⟨t.next,0,none⟩) 1 1)]=some (.slice a9 ba bb,bc)∧
 (Q (.tuple #[.slice a9 ba bb,.int .i64 0]) bc)))
 (Q (.tuple #[.slice u v w,.int .i64 0]) t))))∨(o=(.bool false)∧
 (Q (.tuple #[.slice none 0 0,.int .i64 131]) p)))))):
 Wf Tryz.prog K 93 [.slice a b d,.agg (qL e f g).toArray] i Q:=
  zai (hs:=[(6,[(6,.slice none 0 0),(7,.bool false),(16,.int .i64 0)])]) hk (Eq.mpr (by kernel_rfl) H)
theorem zeT {K:Xs} (hk:K 77=none) (a:Option Addr) (b d:Nat) (e:Int) (h:AH) (Q:Value→AH→Prop) (H:
 ∀f,f=h.alloc (.cells [] 78 false)→
 ∀g,g=f.alloc (.cells [] 78 false)→
 ∃i:Option Addr→Nat→Nat→Option Addr→Nat→Nat→Int→Nat→AH→Prop,(∃n,i (some ⟨h.next,0,none⟩) 0 0 (some ⟨f.next,0,none⟩) 0 0 0 n g)∧
 ∀(j:Nat) (k:AH),∀(l:Option Addr) (m:Nat) (o:Nat),∀(p:Option Addr) (q:Nat) (r:Nat),∀(s:Int),i l m o p q r s j k→
 ((s:Int) < ((b:Nat):Int)→zal a fun t u=>(((0:Int)≤s)∧((s:Int) < ((b:Nat):Int))∧
 (∃v w x,ldN k t (u+Int.toNat s * 3) 3=some (qL v w x)∧
 (∀y,y=k.alloc (.cells [.int .i64 0,.int .u64 0,.int .u32 0] 78 false)→
 (3=3)∧∃z,stN y k.next 0 (qL v w x)=some z∧
 (∃aa,ld1 z k.next 1=some (.int .u64 aa)∧
 (((e:Int) < aa→∃ab ac ad,ldN z k.next 0 3=some (qL ab ac ad)∧
 (∀ae,ae=z.alloc (.cells (qL ab ac ad) 78 false)→
 ∃af ag ah ai,zan Tryz.prog ae .append #[79,79] [.slice p q r,(.slice (some ⟨z.next,0,none⟩) 1 1)]=some (.slice af ag ah,ai)∧
 (∀aj:Int,aj=IntKind.wrap .i64 (s+1)→∃ak,ak < j∧i l m o af ag ah aj ak ai)))∧
 (¬(e:Int) < aa→∃al am an,ldN z k.next 0 3=some (qL al am an)∧
 (∀ao,ao=z.alloc (.cells (qL al am an) 78 false)→
 ∃ap aq ar au,zan Tryz.prog ao .append #[79,79] [.slice l m o,(.slice (some ⟨z.next,0,none⟩) 1 1)]=some (.slice ap aq ar,au)∧
 (∀av:Int,av=IntKind.wrap .i64 (s+1)→∃ak,ak < j∧i ap aq ar p q r av ak au)))))))))∧
 (¬(s:Int) < ((b:Nat):Int)→Q (.tuple #[.slice l m o,.slice p q r]) k)):
 Wf Tryz.prog K 77 [.slice a b d,.int .u64 e] h Q:=
  zai (hs:=[(4,[(6,.slice none 0 0),(7,.slice none 0 0),(14,.int .i64 0)])]) hk (Eq.mpr (by kernel_rfl) H)
theorem zeU {K:Xs} (hk:K 78=none) (a:Option Addr) (b d:Nat) (e:Option Addr) (f g:Nat) (h:AH) (Q:Value→AH→Prop) (H:
 ∀i,i=h.alloc (.cells [] 78 false)→
 ∃j k l m,zan Tryz.prog i .append #[79,79] [(.slice (some ⟨h.next,0,none⟩) 0 0),.slice a b d]=some (.slice j k l,m)∧
 (∃o:Option Addr→Nat→Nat→Int→Nat→AH→Prop,(∃n,o j k l 0 n m)∧
 ∀(p:Nat) (q:AH),∀(r:Option Addr) (s:Nat) (t:Nat),∀(u:Int),o r s t u p q→
 ((u:Int) < ((f:Nat):Int)→zal e fun v w=>(((0:Int)≤u)∧((u:Int) < ((f:Nat):Int))∧
 (∃x y z,ldN q v (w+Int.toNat u * 3) 3=some (qL x y z)∧
 (∀aa,aa=q.alloc (.cells [.int .i64 0,.int .u64 0,.int .u32 0] 78 false)→
 (3=3)∧∃ab,stN aa q.next 0 (qL x y z)=some ab∧
 (∃ac ad ae,ldN ab q.next 0 3=some (qL ac ad ae)∧
 (Wf Tryz.prog K 93 [.slice r s t,.agg (qL ac ad ae).toArray] ab fun af ag=>
 (∃ah ai aj ak,af=(.tuple #[.slice ah ai aj,.int .i64 ak])∧
 (((ak:Int)=0→∀al:Int,al=IntKind.wrap .i64 (u+1)→∃am,am < p∧o ah ai aj al am ag)∧
 (¬(ak:Int)=0→Q (.tuple #[.slice none 0 0,.int .i64 131]) ag)))))))))∧
 (¬(u:Int) < ((f:Nat):Int)→Q (.tuple #[.slice r s t,.int .i64 0]) q))):
 Wf Tryz.prog K 78 [.slice a b d,.slice e f g] h Q:=
  zai (hs:=[(3,[(6,.slice none 0 0),(16,.int .i64 0)])]) hk (Eq.mpr (by kernel_rfl) H)
end Go.Am
