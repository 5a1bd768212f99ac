/-
  WEAKEST CONDITIONS of some functions of this program, printed by a program.
-/
import Derived.Test.YtkapnilnhoiooaaGreatVAbb
import Derived.Test.YtkapnilnhoiooaaGreatRows
set_option linter.unusedVariables false
set_option maxRecDepth 100000
namespace Go.Am
open Go.Proofs
theorem zjH {K:Xs} (hk:K 47=none) (a:Int) (b:Option Addr) (d e:Nat) (h:AH) (Q:Value→AH→Prop) (H:
 ∀f,f=h.alloc (.cells (bC a b d e) 29 false)→
 ∀g,g=f.alloc (.cells [.int .u64 0,.slice none 0 0] 29 false)→
 ∃i j k,ld1 g h.next 1=some (.slice i j k)∧
 (((0:Int)≤((j:Nat):Int)∧(((j:Nat):Int):Int)≤((j:Nat):Int)∧(((j:Nat):Int):Int)≤9223372036854775807∧(112:Int) * ((j:Nat):Int)≤281474976710656)∧∀l,l=g.alloc (.cells ((List.replicate (Int.toNat ((j:Nat):Int)) (zC)).flatten) 81 false)→
 ∃m o p,ld1 l h.next 1=some (.slice m o p)∧
 (∃q:Int→Nat→AH→Prop,(∃n,q 0 n l)∧
 ∀(r:Nat) (s:AH),∀(t:Int),q t r s→
 ((t:Int) < ((o:Nat):Int)→∃u v w,ld1 s h.next 1=some (.slice u v w)∧
 (zal u fun x y=>(((0:Int)≤t)∧((t:Int) < ((v:Nat):Int))∧
 (∃z aa ab ac ad ae af ag ah ai aj ak al,ldN s x (y+Int.toNat t * 11) 11=some (sC z aa ab ac ad ae af ag ah ai aj ak al)∧
 (Wf Tryz.prog K 56 [.agg (sC z aa ab ac ad ae af ag ah ai aj ak al).toArray] s fun am an=>
 (∃ao ap aq ar au av aw ax ay az a0 a1 a2,am=(.agg (sC ao ap aq ar au av aw ax ay az a0 a1 a2).toArray)∧
 (((0:Int)≤t)∧((t:Int) < (((Int.toNat ((j:Nat):Int)):Nat):Int))∧
 ((11=11)∧∃a3,stN an g.next (0+Int.toNat t * 11) (sC ao ap aq ar au av aw ax ay az a0 a1 a2)=some a3∧
 (∀a4:Int,a4=IntKind.wrap .i64 (t+1)→∃a5,a5 < r∧q a4 a5 a3)))))))))∧
 (¬(t:Int) < ((o:Nat):Int)→∃a6,ld1 s h.next 0=some (.int .u64 a6)∧
 ((2=2)∧∃a7,stN s f.next 0 [.int .u64 a6,(.slice (some ⟨g.next,0,none⟩) (Int.toNat ((j:Nat):Int)) (Int.toNat ((j:Nat):Int)))]=some a7∧
 (∃a8 a9 ba bb,ldN a7 f.next 0 2=some (bC a8 a9 ba bb)∧
 (Q (.agg (bC a8 a9 ba bb).toArray) a7))))))):
 Wf Tryz.prog K 47 [.agg (bC a b d e).toArray] h Q:=
  zai (hs:=[(3,[(12,.int .i64 0)])]) hk (Eq.mpr (by kernel_rfl) H)
theorem zkX {K:Xs} (hk:K 60=none) (a:Option Addr) (b d:Nat) (e:Int) (h:AH) (Q:Value→AH→Prop) (H:
 ∀f,f=h.alloc (.cells [.int .u64 e] 26 false)→
 Wf Tryz.prog K 84 [.slice a b d,(.func (.func 85) #[] #[(.pointer (some ⟨h.next,0,none⟩))])] f fun g i=>
 (∃j,g=(.int .i64 j)∧
 (Q (.int .i64 j) i))):
 Wf Tryz.prog K 60 [.slice a b d,.int .u64 e] h Q:=
  zai (hs:=[]) hk (Eq.mpr (by kernel_rfl) H)
theorem ziS {K:Xs} (hk:K 85=none) (a:Int) (b:ByteArray) (d:Bool) (e:Int) (f:Int) (g:Int) (i:Int) (j:Int) (k:Int) (l:Int) (m:Option Addr) (n o:Nat) (p:Option Addr) (h:AH) (Q:Value→AH→Prop) (H:
 ∀q,q=h.alloc (.cells (sC a b d e f g i j k l m n o) 81 false)→
 ∃r,ld1 q h.next 0=some (.int .u64 r)∧
 (zal p fun s t=>(∃u,ld1 q s t=some (.int .u64 u)∧
 (((r:Int)=u→Q (.bool true) q)∧
 (¬(r:Int)=u→Q (.bool false) q))))):
 Wf Tryz.prog K 85 [.agg (sC a b d e f g i j k l m n o).toArray,.pointer p] h Q:=
  zai (hs:=[]) hk (Eq.mpr (by kernel_rfl) H)
theorem zkY {K:Xs} (hk:K 49=none) (a:Int) (b:Option Addr) (d e:Nat) (f:Int) (g:ByteArray) (i:Bool) (j:Int) (k:Int) (l:Int) (m:Int) (n:Int) (o:Int) (p:Int) (q:Option Addr) (r s:Nat) (h:AH) (Q:Value→AH→Prop) (H:
 ∀t,t=h.alloc (.cells (bC a b d e) 29 false)→
 ∀u,u=t.alloc (.cells (sC f g i j k l m n o p q r s) 81 false)→
 ∀v,v=u.alloc (.cells [.int .u64 0,.slice none 0 0] 29 false)→
 ∃w x y z,ldN v h.next 0 2=some (bC w x y z)∧
 (Wf Tryz.prog K 47 [.agg (bC w x y z).toArray] v fun aa ab=>
 (∃ac ad ae af,aa=(.agg (bC ac ad ae af).toArray)∧
 (∀ag,ag=ab.alloc (.cells [.int .u64 0,.slice none 0 0] 29 false)→
 (2=2)∧∃ah,stN ag ab.next 0 (bC ac ad ae af)=some ah∧
 (∃ai aj ak,ld1 ah ab.next 1=some (.slice ai aj ak)∧
 (∃al am an ao ap aq ar au av aw ax ay az,ldN ah t.next 0 11=some (sC al am an ao ap aq ar au av aw ax ay az)∧
 (∀a0,a0=ah.alloc (.cells (sC al am an ao ap aq ar au av aw ax ay az) 81 false)→
 ∃a1 a2 a3 a4,zan Tryz.prog a0 .append #[27,27] [.slice ai aj ak,(.slice (some ⟨ah.next,0,none⟩) 1 1)]=some (.slice a1 a2 a3,a4)∧
 (∃a5,st1 a4 ab.next 1 (.slice a1 a2 a3)=some a5∧
 (∃a6,ld1 a5 ab.next 0=some (.int .u64 a6)∧
 (∀a7:Int,a7=IntKind.wrap .u64 (a6+1)→∃a8,st1 a5 ab.next 0 (.int .u64 a7)=some a8∧
 (∃a9 ba bb bc,ldN a8 ab.next 0 2=some (bC a9 ba bb bc)∧
 ((2=2)∧∃bd,stN a8 u.next 0 (bC a9 ba bb bc)=some bd∧
 (∃be bf bg bh,ldN bd u.next 0 2=some (bC be bf bg bh)∧
 (Q (.agg (bC be bf bg bh).toArray) bd)))))))))))))):
 Wf Tryz.prog K 49 [.agg (bC a b d e).toArray,.agg (sC f g i j k l m n o p q r s).toArray] h Q:=
  zai (hs:=[]) hk (Eq.mpr (by kernel_rfl) H)
theorem ziT {K:Xs} (hk:K 46=none) (a:ByteArray) (h:AH) (Q:Value→AH→Prop) (H:
 Wf Tryz.prog K 64 [.string a] h fun b d=>
 (∃e f g,b=(.tuple #[.string e,.string f,.int .i64 g])∧
 (((g:Int)=0→(f=(ByteArray.mk #[])→Q (.tuple #[.string e,.int .i64 0]) d)∧
 (¬f=(ByteArray.mk #[])→Q (.tuple #[(.string (ByteArray.mk #[])),.int .i64 141]) d))∧
 (¬(g:Int)=0→Q (.tuple #[(.string (ByteArray.mk #[])),.int .i64 141]) d)))):
 Wf Tryz.prog K 46 [.string a] h Q:=
  zai (hs:=[]) hk (Eq.mpr (by kernel_rfl) H)
theorem zhK {K:Xs} (hk:K 54=none) (a:ByteArray) (h:AH) (Q:Value→AH→Prop) (H:
 Wf Tryz.prog K 64 [.string a] h fun b d=>
 (∃e f g,b=(.tuple #[.string e,.string f,.int .i64 g])∧
 (((g:Int)=0→(f=(ByteArray.mk #[])→Q (.tuple #[(.string (ByteArray.mk #[])),(.string (ByteArray.mk #[])),.int .i64 141]) d)∧
 (¬f=(ByteArray.mk #[])→Q (.tuple #[.string e,.string f,.int .i64 0]) d))∧
 (¬(g:Int)=0→Q (.tuple #[(.string (ByteArray.mk #[])),(.string (ByteArray.mk #[])),.int .i64 141]) d)))):
 Wf Tryz.prog K 54 [.string a] h Q:=
  zai (hs:=[]) hk (Eq.mpr (by kernel_rfl) H)
theorem zkZ {K:Xs} (hk:K 48=none) (a:Int) (b:Option Addr) (d e:Nat) (f:ByteArray) (h:AH) (Q:Value→AH→Prop) (H:
 ∀g,g=h.alloc (.cells (bC a b d e) 29 false)→
 ∃i j k,ld1 g h.next 1=some (.slice i j k)∧
 (Wf Tryz.prog K 44 [.slice i j k,.string f] g fun l m=>
 (∃n o p q r s t u v w x y z aa,l=(.tuple #[.agg (sC n o p q r s t u v w x y z).toArray,.int .i64 aa])∧
 (∀ab,ab=m.alloc (.cells (zC) 81 false)→
 (11=11)∧∃ac,stN ab m.next 0 (sC n o p q r s t u v w x y z)=some ac∧
 (((aa:Int)=0→∃ad ae af,ld1 ac h.next 1=some (.slice ad ae af)∧
 (∃ag,ld1 ac m.next 0=some (.int .u64 ag)∧
 (Wf Tryz.prog K 60 [.slice ad ae af,.int .u64 ag] ac fun ah ai=>
 (∃aj,ah=(.int .i64 aj)∧
 (Q (.int .i64 aj) ai)))))∧
 (¬(aa:Int)=0→Q (.int .i64 (-1)) ac)))))):
 Wf Tryz.prog K 48 [.agg (bC a b d e).toArray,.string f] h Q:=
  zai (hs:=[]) hk (Eq.mpr (by kernel_rfl) H)
theorem zk0 {K:Xs} (hk:K 57=none) (a:Int) (b:Option Addr) (d e:Nat) (f:ByteArray) (h:AH) (Q:Value→AH→Prop) (H:
 ∀g,g=h.alloc (.cells (bC a b d e) 29 false)→
 Wf Tryz.prog K 46 [.string f] g fun i j=>
 (∃k l,i=(.tuple #[.string k,.int .i64 l])∧
 (((l:Int)=0→∃m n o p,ldN j h.next 0 2=some (bC m n o p)∧
 (Wf Tryz.prog K 48 [.agg (bC m n o p).toArray,.string f] j fun q r=>
 (∃s,q=(.int .i64 s)∧
 (((s:Int) < 0→Q (.tuple #[(.int .i64 (-1)),.int .i64 172]) r)∧
 (¬(s:Int) < 0→Q (.tuple #[.int .i64 s,.int .i64 0]) r)))))∧
 (¬(l:Int)=0→Q (.tuple #[(.int .i64 (-1)),.int .i64 l]) j)))):
 Wf Tryz.prog K 57 [.agg (bC a b d e).toArray,.string f] h Q:=
  zai (hs:=[]) hk (Eq.mpr (by kernel_rfl) H)
abbrev zbT (K:Xs) (Q:Value→AH→Prop) (t:Int) (u:Option Addr) (v:Nat) (w:Nat) (x:AH) (g:AH) (y:Int):Prop:=
 (Wf Tryz.prog K 47 [.agg (bC t u v w).toArray] x fun z aa=>
 (∃ab ac ad ae,z=(.agg (bC ab ac ad ae).toArray)∧
 ((2=2)∧∃af,stN aa g.next 0 (bC ab ac ad ae)=some af∧
 (∃ag ah ai aj,ldN af g.next 0 2=some (bC ag ah ai aj)∧
 (Q (.tuple #[.agg (bC ag ah ai aj).toArray,.int .i64 y]) af)))))
theorem zjI {K:Xs} (hk:K 17=none) (a:Int) (b:Option Addr) (d e:Nat) (f:ByteArray) (g:Int) (i:AH) (Q:Value→AH→Prop) (H:
 ∀j,j=i.alloc (.cells (bC a b d e) 29 false)→
 ∀k,k=j.alloc (.cells [.int .u64 0,.slice none 0 0] 29 false)→
 Wf Tryz.prog K 46 [.string f] k fun l m=>
 (∃n o,l=(.tuple #[.string n,.int .i64 o])∧
 (((o:Int)=0→((g:Int) < 1→∃p q r s,ldN m i.next 0 2=some (bC p q r s)∧
 (zbT K Q p q r s m j 176))∧
 (¬(g:Int) < 1→((64:Int) < g→∃t u v w,ldN m i.next 0 2=some (bC t u v w)∧
 (zbT K Q t u v w m j 176))∧
 (¬(64:Int) < g→∃x y z,ld1 m i.next 1=some (.slice x y z)∧
 (((32:Int)≤((y:Nat):Int)→∃aa ab ac ad,ldN m i.next 0 2=some (bC aa ab ac ad)∧
 (zbT K Q aa ab ac ad m j 175))∧
 (¬(32:Int)≤((y:Nat):Int)→∃ae af ag ah,ldN m i.next 0 2=some (bC ae af ag ah)∧
 (Wf Tryz.prog K 48 [.agg (bC ae af ag ah).toArray,.string f] m fun ai aj=>
 (∃ak,ai=(.int .i64 ak)∧
 (((0:Int)≤ak→∃al am an ao,ldN aj i.next 0 2=some (bC al am an ao)∧
 (zbT K Q al am an ao aj j 171))∧
 (¬(0:Int)≤ak→∃ap aq ar au,ldN aj i.next 0 2=some (bC ap aq ar au)∧
 (∃av,ld1 aj i.next 0=some (.int .u64 av)∧
 (∃aw,ld1 aj i.next 0=some (.int .u64 aw)∧
 (Wf Tryz.prog K 49 [.agg (bC ap aq ar au).toArray,.agg #[.int .u64 av,.string n,.bool false,.int .u64 aw,.int .u64 0,.int .u64 0,.int .i64 g,.int .i64 0,.int .u64 0,.int .u32 0,.slice none 0 0]] aj fun ax ay=>
 (∃az a0 a1 a2,ax=(.agg (bC az a0 a1 a2).toArray)∧
 ((2=2)∧∃a3,stN ay j.next 0 (bC az a0 a1 a2)=some a3∧
 (∃a4 a5 a6 a7,ldN a3 j.next 0 2=some (bC a4 a5 a6 a7)∧
 (Q (.tuple #[.agg (bC a4 a5 a6 a7).toArray,.int .i64 0]) a3))))))))))))))))∧
 (¬(o:Int)=0→∃a8 a9 ba bb,ldN m i.next 0 2=some (bC a8 a9 ba bb)∧
 (zbT K Q a8 a9 ba bb m j o))))):
 Wf Tryz.prog K 17 [.agg (bC a b d e).toArray,.string f,.int .i64 g] i Q:=
  zai (hs:=[]) hk (Eq.mpr (by kernel_rfl) H)
abbrev zbF (K:Xs) (Q:Value→AH→Prop) (bc:Int) (bd:Option Addr) (be:Nat) (bf:Nat) (bg:AH) (j:AH) (bh:Int):Prop:=
 (Wf Tryz.prog K 47 [.agg (bC bc bd be bf).toArray] bg fun bi bj=>
 (∃bk bl bm bn,bi=(.agg (bC bk bl bm bn).toArray)∧
 ((2=2)∧∃bo,stN bj j.next 0 (bC bk bl bm bn)=some bo∧
 (∃bp bq br bs,ldN bo j.next 0 2=some (bC bp bq br bs)∧
 (Q (.tuple #[.agg (bC bp bq br bs).toArray,.int .i64 bh]) bo)))))
theorem zms {K:Xs} (hk:K 22=none) (a:Int) (b:Option Addr) (d e:Nat) (f:ByteArray) (g:Int) (i:AH) (Q:Value→AH→Prop) (H:
 ∀j,j=i.alloc (.cells (bC a b d e) 29 false)→
 ∀k,k=j.alloc (.cells [.int .u64 0,.slice none 0 0] 29 false)→
 Wf Tryz.prog K 54 [.string f] k fun l m=>
 (∃n o p,l=(.tuple #[.string n,.string o,.int .i64 p])∧
 (((p:Int)=0→∃q r s t,ldN m i.next 0 2=some (bC q r s t)∧
 (Wf Tryz.prog K 48 [.agg (bC q r s t).toArray,.string n] m fun u v=>
 (∃w,u=(.int .i64 w)∧
 (((w:Int) < 0→∃x y z aa,ldN v i.next 0 2=some (bC x y z aa)∧
 (zbF K Q x y z aa v j 172))∧
 (¬(w:Int) < 0→∃ab ac ad,ld1 v i.next 1=some (.slice ab ac ad)∧
 (((32:Int)≤((ac:Nat):Int)→∃ae af ag ah,ldN v i.next 0 2=some (bC ae af ag ah)∧
 (zbF K Q ae af ag ah v j 175))∧
 (¬(32:Int)≤((ac:Nat):Int)→∃ai aj ak al,ldN v i.next 0 2=some (bC ai aj ak al)∧
 (Wf Tryz.prog K 48 [.agg (bC ai aj ak al).toArray,.string f] v fun am an=>
 (∃ao,am=(.int .i64 ao)∧
 (((0:Int)≤ao→∃ap aq ar au,ldN an i.next 0 2=some (bC ap aq ar au)∧
 (zbF K Q ap aq ar au an j 171))∧
 (¬(0:Int)≤ao→∃av aw ax,ld1 an i.next 1=some (.slice av aw ax)∧
 (zal av fun ay az=>(((0:Int)≤w)∧((w:Int) < ((aw:Nat):Int))∧
 (∃a0,ld1 an ay (az+Int.toNat w * 11)=some (.int .u64 a0)∧
 (((g:Int) < 1→∃a1 a2 a3 a4,ldN an i.next 0 2=some (bC a1 a2 a3 a4)∧
 (zbF K Q a1 a2 a3 a4 an j 176))∧
 (¬(g:Int) < 1→((281474976710655:Int) < g→∃a5 a6 a7 a8,ldN an i.next 0 2=some (bC a5 a6 a7 a8)∧
 (zbF K Q a5 a6 a7 a8 an j 176))∧
 (¬(281474976710655:Int) < g→∃a9 ba bb,ld1 an i.next 1=some (.slice a9 ba bb)∧
 (Wf Tryz.prog K 55 [.slice a9 ba bb,.int .u64 a0] an fun bc bd=>
 (∃be,bc=(.int .u64 be)∧
 (((g:Int)≤be→∃bf bg bh bi,ldN bd i.next 0 2=some (bC bf bg bh bi)∧
 (zbF K Q bf bg bh bi bd j 176))∧
 (¬(g:Int)≤be→∃bj bk bl,ld1 bd i.next 1=some (.slice bj bk bl)∧
 (zal bj fun bm bn=>(((0:Int)≤w)∧((w:Int) < ((bk:Nat):Int))∧
 (∃bo bp bq br bs bt bu bv bw bx bz b0 b1,ldN bd bm (bn+Int.toNat w * 11) 11=some (sC bo bp bq br bs bt bu bv bw bx bz b0 b1)∧
 (Wf Tryz.prog K 56 [.agg (sC bo bp bq br bs bt bu bv bw bx bz b0 b1).toArray] bd fun b2 b3=>
 (∃b4 b5 b6 b7 b8 b9 da db dc dd de df dg,b2=(.agg (sC b4 b5 b6 b7 b8 b9 da db dc dd de df dg).toArray)∧
 (∀dh,dh=b3.alloc (.cells (zC) 81 false)→
 (11=11)∧∃di,stN dh b3.next 0 (sC b4 b5 b6 b7 b8 b9 da db dc dd de df dg)=some di∧
 (∃dj,ld1 di i.next 0=some (.int .u64 dj)∧
 (∃dk,st1 di b3.next 0 (.int .u64 dj)=some dk∧
 (∃dl,st1 dk b3.next 1 (.string o)=some dl∧
 (∃dm,st1 dl b3.next 2 (.bool true)=some dm∧
 (∃dn,st1 dm b3.next 3 (.int .u64 a0)=some dn∧
 (∃dp,st1 dn b3.next 5 (.int .u64 g)=some dp∧
 (∃dq dr ds dt,ldN dp i.next 0 2=some (bC dq dr ds dt)∧
 (∃du dv dw dx dy dz d0 d1 d2 d3 d4 d5 d6,ldN dp b3.next 0 11=some (sC du dv dw dx dy dz d0 d1 d2 d3 d4 d5 d6)∧
 (Wf Tryz.prog K 49 [.agg (bC dq dr ds dt).toArray,.agg (sC du dv dw dx dy dz d0 d1 d2 d3 d4 d5 d6).toArray] dp fun d7 d8=>
 (∃d9 ea eb ec,d7=(.agg (bC d9 ea eb ec).toArray)∧
 (∀ed,ed=d8.alloc (.cells [.int .u64 0,.slice none 0 0] 29 false)→
 (2=2)∧∃ee,stN ed d8.next 0 (bC d9 ea eb ec)=some ee∧
 (∃ef eg eh,ld1 ee d8.next 1=some (.slice ef eg eh)∧
 (∃ei,ld1 ee b3.next 0=some (.int .u64 ei)∧
 (zal ef fun ej ek=>(((0:Int)≤w)∧((w:Int) < ((eg:Nat):Int))∧
 (∃el,st1 ee ej ((ek+Int.toNat w * 11)+4) (.int .u64 ei)=some el∧
 (∃em en eo,ld1 el d8.next 1=some (.slice em en eo)∧
 (zal em fun ep eq=>(((0:Int)≤w)∧((w:Int) < ((en:Nat):Int))∧
 (∃er,st1 el ep ((eq+Int.toNat w * 11)+10) (.slice none 0 0)=some er∧
 ((ld1 ee d8.next 1=some (.slice em en eo))∧
 ((ld1 el d8.next 1=some (.slice em en eo))∧
 (∃es et eu ev,ldN er d8.next 0 2=some (bC es et eu ev)∧
 ((2=2)∧∃ew,stN er j.next 0 (bC es et eu ev)=some ew∧
 (∃ex ey ez e0,ldN ew j.next 0 2=some (bC ex ey ez e0)∧
 (Q (.tuple #[.agg (bC ex ey ez e0).toArray,.int .i64 0]) ew)))))))))))))))))))))))))))))))))))))))))))))))))))))∧
 (¬(p:Int)=0→∃e1 e2 e3 e4,ldN m i.next 0 2=some (bC e1 e2 e3 e4)∧
 (zbF K Q e1 e2 e3 e4 m j p))))):
 Wf Tryz.prog K 22 [.agg (bC a b d e).toArray,.string f,.int .u64 g] i Q:=
  zai (hs:=[]) hk (Eq.mpr (by kernel_rfl) H)
abbrev zb9 (K:Xs) (Q:Value→AH→Prop) (e5:Int) (e6:Option Addr) (e7:Nat) (e8:Nat) (e9:AH) (j:AH) (fa:Int):Prop:=
 (Wf Tryz.prog K 47 [.agg (bC e5 e6 e7 e8).toArray] e9 fun fb fc=>
 (∃fd fe ff fg,fb=(.agg (bC fd fe ff fg).toArray)∧
 ((2=2)∧∃fh,stN fc j.next 0 (bC fd fe ff fg)=some fh∧
 (∃fi fj fk fl,ldN fh j.next 0 2=some (bC fi fj fk fl)∧
 (Q (.tuple #[.agg (bC fi fj fk fl).toArray,.int .i64 fa]) fh)))))
theorem zk1 {K:Xs} (hk:K 23=none) (a:Int) (b:Option Addr) (d e:Nat) (f:ByteArray) (g:ByteArray) (i:AH) (Q:Value→AH→Prop) (H:
 ∀j,j=i.alloc (.cells (bC a b d e) 29 false)→
 ∀k,k=j.alloc (.cells [.int .u64 0,.slice none 0 0] 29 false)→
 Wf Tryz.prog K 54 [.string f] k fun l m=>
 (∃n o p,l=(.tuple #[.string n,.string o,.int .i64 p])∧
 (((p:Int)=0→Wf Tryz.prog K 46 [.string g] m fun q r=>
 (∃s t,q=(.tuple #[.string s,.int .i64 t])∧
 (((t:Int)=0→∃u v w x,ldN r i.next 0 2=some (bC u v w x)∧
 (Wf Tryz.prog K 48 [.agg (bC u v w x).toArray,.string f] r fun y z=>
 (∃aa,y=(.int .i64 aa)∧
 (((aa:Int) < 0→∃ab ac ad ae,ldN z i.next 0 2=some (bC ab ac ad ae)∧
 (zb9 K Q ab ac ad ae z j 172))∧
 (¬(aa:Int) < 0→∃af ag ah,ld1 z i.next 1=some (.slice af ag ah)∧
 (((32:Int)≤((ag:Nat):Int)→∃ai aj ak al,ldN z i.next 0 2=some (bC ai aj ak al)∧
 (zb9 K Q ai aj ak al z j 175))∧
 (¬(32:Int)≤((ag:Nat):Int)→∃am an ao ap,ldN z i.next 0 2=some (bC am an ao ap)∧
 (Wf Tryz.prog K 48 [.agg (bC am an ao ap).toArray,.string g] z fun aq ar=>
 (∃au,aq=(.int .i64 au)∧
 (((0:Int)≤au→∃av aw ax ay,ldN ar i.next 0 2=some (bC av aw ax ay)∧
 (zb9 K Q av aw ax ay ar j 171))∧
 (¬(0:Int)≤au→∃az a0 a1,ld1 ar i.next 1=some (.slice az a0 a1)∧
 (zal az fun a2 a3=>(((0:Int)≤aa)∧((aa:Int) < ((a0:Nat):Int))∧
 (∃a4 a5 a6 a7,ldN ar i.next 0 2=some (bC a4 a5 a6 a7)∧
 (∃a8,ld1 ar i.next 0=some (.int .u64 a8)∧
 (∃a9,ld1 ar i.next 0=some (.int .u64 a9)∧
 (∃ba,ld1 ar a2 (a3+Int.toNat aa * 11)=some (.int .u64 ba)∧
 (∃bb,ld1 ar a2 ((a3+Int.toNat aa * 11)+6)=some (.int .i64 bb)∧
 (∃bc bd be,ldN ar a2 ((a3+Int.toNat aa * 11)+7) 3=some (qL bc bd be)∧
 (Wf Tryz.prog K 49 [.agg (bC a4 a5 a6 a7).toArray,.agg #[.int .u64 a8,.string s,.bool false,.int .u64 a9,.int .u64 ba,.int .u64 0,.int .i64 bb,.int .i64 bc,.int .u64 bd,.int .u32 be,.slice none 0 0]] ar fun bf bg=>
 (∃bh bi bj bk,bf=(.agg (bC bh bi bj bk).toArray)∧
 ((2=2)∧∃bl,stN bg j.next 0 (bC bh bi bj bk)=some bl∧
 (∃bm bn bo bp,ldN bl j.next 0 2=some (bC bm bn bo bp)∧
 (Q (.tuple #[.agg (bC bm bn bo bp).toArray,.int .i64 0]) bl))))))))))))))))))))))))∧
 (¬(t:Int)=0→∃bq br bs bt,ldN r i.next 0 2=some (bC bq br bs bt)∧
 (zb9 K Q bq br bs bt r j t)))))∧
 (¬(p:Int)=0→∃bu bv bw bx,ldN m i.next 0 2=some (bC bu bv bw bx)∧
 (zb9 K Q bu bv bw bx m j p))))):
 Wf Tryz.prog K 23 [.agg (bC a b d e).toArray,.string f,.string g] i Q:=
  zai (hs:=[]) hk (Eq.mpr (by kernel_rfl) H)
abbrev zc4 (K:Xs) (Q:Value→AH→Prop) (bz:Int) (b0:Option Addr) (b1:Nat) (b2:Nat) (b3:AH) (j:AH) (b4:Int):Prop:=
 (Wf Tryz.prog K 47 [.agg (bC bz b0 b1 b2).toArray] b3 fun b5 b6=>
 (∃b7 b8 b9 da,b5=(.agg (bC b7 b8 b9 da).toArray)∧
 ((2=2)∧∃db,stN b6 j.next 0 (bC b7 b8 b9 da)=some db∧
 (∃dc dd de df,ldN db j.next 0 2=some (bC dc dd de df)∧
 (Q (.tuple #[.agg (bC dc dd de df).toArray,.int .i64 b4]) db)))))
theorem ziU {K:Xs} (hk:K 24=none) (a:Int) (b:Option Addr) (d e:Nat) (f:ByteArray) (g:AH) (Q:Value→AH→Prop) (H:
 ∀i,i=g.alloc (.cells (bC a b d e) 29 false)→
 ∀j,j=i.alloc (.cells [.int .u64 0,.slice none 0 0] 29 false)→
 ∃k l m o,ldN j g.next 0 2=some (bC k l m o)∧
 (Wf Tryz.prog K 57 [.agg (bC k l m o).toArray,.string f] j fun p q=>
 (∃r s,p=(.tuple #[.int .i64 r,.int .i64 s])∧
 (((s:Int)=0→∃t u v,ld1 q g.next 1=some (.slice t u v)∧
 (zal t fun w x=>(((0:Int)≤r)∧((r:Int) < ((u:Nat):Int))∧
 (∃y,ld1 q w (x+Int.toNat r * 11)=some (.int .u64 y)∧
 (∀z,z=q.alloc (.cells [.int .u64 0] 26 false)→
 ∃aa,st1 z q.next 0 (.int .u64 y)=some aa∧
 (∃ab ac ad,ld1 aa g.next 1=some (.slice ab ac ad)∧
 (∃ae,ld1 aa q.next 0=some (.int .u64 ae)∧
 (Wf Tryz.prog K 41 [.slice ab ac ad,.int .u64 ae] aa fun af ag=>
 (∃ah,af=(.int .u64 ah)∧
 (∃ai aj ak,ld1 ag g.next 1=some (.slice ai aj ak)∧
 (Wf Tryz.prog K 50 [.slice ai aj ak,.int .u64 ah] ag fun al am=>
 (∃an ao ap aq ar au av aw ax ay az a0 a1,((al=(.tuple #[.agg (sC an ao ap aq ar au av aw ax ay az a0 a1).toArray,.bool true])∧
 (∀a2,a2=am.alloc (.cells (zC) 81 false)→
 (11=11)∧∃a3,stN a2 am.next 0 (sC an ao ap aq ar au av aw ax ay az a0 a1)=some a3∧
 ((ld1 aa g.next 1=some (.slice ai aj ak))∧
 ((ld1 ag g.next 1=some (.slice ai aj ak))∧
 (∃a4 a5 a6,ld1 a3 g.next 1=some (.slice a4 a5 a6)∧
 (∃a7,ld1 a3 am.next 3=some (.int .u64 a7)∧
 (Wf Tryz.prog K 58 [.slice a4 a5 a6,.int .u64 a7] a3 fun a8 a9=>
 (∃ba bb bc,a8=(.slice ba bb bc)∧
 (∃bd,ld1 a9 am.next 0=some (.int .u64 bd)∧
 (Wf Tryz.prog K 59 [.slice ba bb bc,.int .u64 bd] a9 fun be bf=>
 (∃bg,be=(.int .i64 bg)∧
 (∀bh:Int,bh=(if 0 > (bg:Int) then 0 else (bg:Int))→∃bi bj bk,zaB Tryz.prog bf 102 (.slice ba bb bc) (some (.int .i64 bh)) none none=some (.slice bi bj bk)∧
 (∃bl bm bn bo,ldN bf g.next 0 2=some (bC bl bm bn bo)∧
 (Wf Tryz.prog K 47 [.agg (bC bl bm bn bo).toArray] bf fun bp bq=>
 (∃br bs bt bu,bp=(.agg (bC br bs bt bu).toArray)∧
 (∀bv,bv=bq.alloc (.cells [.int .u64 0,.slice none 0 0] 29 false)→
 (2=2)∧∃bw,stN bv bq.next 0 (bC br bs bt bu)=some bw∧
 (∃bx:Int→Nat→AH→Prop,(∃n,bx 0 n bw)∧
 ∀(bz:Nat) (b0:AH),∀(b1:Int),bx b1 bz b0→
 ((b1:Int) < ((bj:Nat):Int)→zal bi fun b2 b3=>(((0:Int)≤b1)∧((b1:Int) < ((bj:Nat):Int))∧
 (∃b4,ld1 b0 b2 (b3+Int.toNat b1 * 1)=some (.int .u64 b4)∧
 (∃b5 b6 b7,ld1 b0 g.next 1=some (.slice b5 b6 b7)∧
 (Wf Tryz.prog K 60 [.slice b5 b6 b7,.int .u64 b4] b0 fun b8 b9=>
 (∃da,b8=(.int .i64 da)∧
 (∀db,db=b9.alloc (.cells [.int .i64 0] 3 false)→
 ∃dc,st1 db b9.next 0 (.int .i64 da)=some dc∧
 (∃dd de df,ld1 dc g.next 1=some (.slice dd de df)∧
 (Wf Tryz.prog K 61 [.slice dd de df,(.func (.func 62) #[] #[(.pointer (some ⟨q.next,0,none⟩)),(.pointer (some ⟨g.next,0,none⟩)),(.pointer (some ⟨b9.next,0,none⟩))])] dc fun dg dh=>
 (((dg=(.bool true)∧
 (∃di dj dk dl,ldN dh g.next 0 2=some (bC di dj dk dl)∧
 (zc4 K Q di dj dk dl dh i 171)))∨(dg=(.bool false)∧
 (∃dm dn dp,ld1 dh bq.next 1=some (.slice dm dn dp)∧
 (∃dq,ld1 dh b9.next 0=some (.int .i64 dq)∧
 (∃dr,ld1 dh q.next 0=some (.int .u64 dr)∧
 (zal dm fun ds dt=>(((0:Int)≤dq)∧((dq:Int) < ((dn:Nat):Int))∧
 (∃du,st1 dh ds ((dt+Int.toNat dq * 11)+3) (.int .u64 dr)=some du∧
 (∀dv:Int,dv=IntKind.wrap .i64 (b1+1)→∃dw,dw < bz∧bx dv dw du)))))))))))))))))))∧
 (¬(b1:Int) < ((bj:Nat):Int)→∃dx dy dz d0,ldN b0 bq.next 0 2=some (bC dx dy dz d0)∧
 ((2=2)∧∃d1,stN b0 i.next 0 (bC dx dy dz d0)=some d1∧
 (∃d2 d3 d4 d5,ldN d1 i.next 0 2=some (bC d2 d3 d4 d5)∧
 (Q (.tuple #[.agg (bC d2 d3 d4 d5).toArray,.int .i64 0]) d1)))))))))))))))))))))∨(al=(.tuple #[.agg (sC an ao ap aq ar au av aw ax ay az a0 a1).toArray,.bool false])∧
 (∀d6,d6=am.alloc (.cells (zC) 81 false)→
 (11=11)∧∃d7,stN d6 am.next 0 (sC an ao ap aq ar au av aw ax ay az a0 a1)=some d7∧
 ((ld1 aa g.next 1=some (.slice ai aj ak))∧
 ((ld1 ag g.next 1=some (.slice ai aj ak))∧
 (∃d8 d9 ea eb,ldN d7 g.next 0 2=some (bC d8 d9 ea eb)∧
 (zc4 K Q d8 d9 ea eb d7 i 174)))))))))))))))))))∧
 (¬(s:Int)=0→∃ec ed ee ef,ldN q g.next 0 2=some (bC ec ed ee ef)∧
 (zc4 K Q ec ed ee ef q i s)))))):
 Wf Tryz.prog K 24 [.agg (bC a b d e).toArray,.string f] g Q:=
  zai (hs:=[(12,[(63,.int .i64 0)])]) hk (Eq.mpr (by kernel_rfl) H)
theorem zhd {K:Xs} (hk:K 62=none) (a:Int) (b:ByteArray) (d:Bool) (e:Int) (f:Int) (g:Int) (i:Int) (j:Int) (k:Int) (l:Int) (m:Option Addr) (n o:Nat) (p:Option Addr) (q:Option Addr) (r:Option Addr) (h:AH) (Q:Value→AH→Prop) (H:
 ∀s,s=h.alloc (.cells (sC a b d e f g i j k l m n o) 81 false)→
 ((ld1 s h.next 2=some (.bool true)∧
 (∃t,ld1 s h.next 3=some (.int .u64 t)∧
 (zal p fun u v=>(∃w,ld1 s u v=some (.int .u64 w)∧
 (((t:Int)=w→∃x,ld1 s h.next 1=some (.string x)∧
 (zal q fun y z=>(∃aa ab ac,ld1 s y (z+1)=some (.slice aa ab ac)∧
 (zal r fun ad ae=>(∃af,ld1 s ad ae=some (.int .i64 af)∧
 (zal aa fun ag ah=>(((0:Int)≤af)∧((af:Int) < ((ab:Nat):Int))∧
 (∃ai,ld1 s ag ((ah+Int.toNat af * 11)+1)=some (.string ai)∧
 ((x=ai→Q (.bool true) s)∧
 (¬x=ai→Q (.bool false) s))))))))))∧
 (¬(t:Int)=w→Q (.bool false) s))))))∨(ld1 s h.next 2=some (.bool false)∧
 (Q (.bool false) s)))):
 Wf Tryz.prog K 62 [.agg (sC a b d e f g i j k l m n o).toArray,.pointer p,.pointer q,.pointer r] h Q:=
  zai (hs:=[]) hk (Eq.mpr (by kernel_rfl) H)
abbrev zhy (K:Xs) (Q:Value→AH→Prop) (aj:Int) (ak:Option Addr) (al:Nat) (am:Nat) (an:AH) (s:AH) (ao:AH) (ap:Int):Prop:=
 (Wf Tryz.prog K 47 [.agg (bC aj ak al am).toArray] an fun aq ar=>
 (∃au av aw ax,aq=(.agg (bC au av aw ax).toArray)∧
 ((2=2)∧∃ay,stN ar s.next 0 (bC au av aw ax)=some ay∧
 ((11=11)∧∃az,stN ay ao.next 0 (zC)=some az∧
 (∃a0 a1 a2 a3,ldN az s.next 0 2=some (bC a0 a1 a2 a3)∧
 (∃a4 a5 a6 a7 a8 a9 ba bb bc bd be bf bg,ldN az ao.next 0 11=some (sC a4 a5 a6 a7 a8 a9 ba bb bc bd be bf bg)∧
 (Q (.tuple #[.agg (bC a0 a1 a2 a3).toArray,.agg (sC a4 a5 a6 a7 a8 a9 ba bb bc bd be bf bg).toArray,.int .i64 ap]) az)))))))
theorem zmt {K:Xs} (hk:K 63=none) (a:Int) (b:Option Addr) (d e:Nat) (f:ByteArray) (g:AH) (Q:Value→AH→Prop) (H:
 ∀i,i=g.alloc (.cells (bC a b d e) 29 false)→
 ∀j,j=i.alloc (.cells [.int .u64 0,.slice none 0 0] 29 false)→
 ∀k,k=j.alloc (.cells (zC) 81 false)→
 ∃l m n o,ldN k g.next 0 2=some (bC l m n o)∧
 (Wf Tryz.prog K 57 [.agg (bC l m n o).toArray,.string f] k fun p q=>
 (∃r s,p=(.tuple #[.int .i64 r,.int .i64 s])∧
 (((s:Int)=0→∃t u v,ld1 q g.next 1=some (.slice t u v)∧
 (∃w x y,ld1 q g.next 1=some (.slice w x y)∧
 (zal w fun z aa=>(((0:Int)≤r)∧((r:Int) < ((x:Nat):Int))∧
 (∃ab,ld1 q z ((aa+Int.toNat r * 11)+4)=some (.int .u64 ab)∧
 (Wf Tryz.prog K 50 [.slice t u v,.int .u64 ab] q fun ac ad=>
 (∃ae af ag ah ai aj ak al am an ao ap aq,((ac=(.tuple #[.agg (sC ae af ag ah ai aj ak al am an ao ap aq).toArray,.bool true])∧
 (∀ar,ar=ad.alloc (.cells (zC) 81 false)→
 (11=11)∧∃au,stN ar ad.next 0 (sC ae af ag ah ai aj ak al am an ao ap aq)=some au∧
 (∃av aw ax ay,ldN au g.next 0 2=some (bC av aw ax ay)∧
 (Wf Tryz.prog K 47 [.agg (bC av aw ax ay).toArray] au fun az a0=>
 (∃a1 a2 a3 a4,az=(.agg (bC a1 a2 a3 a4).toArray)∧
 (∀a5,a5=a0.alloc (.cells [.int .u64 0,.slice none 0 0] 29 false)→
 (2=2)∧∃a6,stN a5 a0.next 0 (bC a1 a2 a3 a4)=some a6∧
 (∃a7 a8 a9,ld1 a6 a0.next 1=some (.slice a7 a8 a9)∧
 (∃ba bb bc,ldN a6 ad.next 7 3=some (qL ba bb bc)∧
 (zal a7 fun bd be=>(((0:Int)≤r)∧((r:Int) < ((a8:Nat):Int))∧
 ((3=3)∧∃bf,stN a6 bd ((be+Int.toNat r * 11)+7) (qL ba bb bc)=some bf∧
 (∃bg bh bi,ld1 bf a0.next 1=some (.slice bg bh bi)∧
 (zal bg fun bj bk=>(((0:Int)≤r)∧((r:Int) < ((bh:Nat):Int))∧
 (∃bl,st1 bf bj ((bk+Int.toNat r * 11)+10) (.slice none 0 0)=some bl∧
 ((ld1 a6 a0.next 1=some (.slice bg bh bi))∧
 ((ld1 bf a0.next 1=some (.slice bg bh bi))∧
 (∃bm bn bo,ld1 bl g.next 1=some (.slice bm bn bo)∧
 (zal bm fun bp bq=>(((0:Int)≤r)∧((r:Int) < ((bn:Nat):Int))∧
 (∃br bs bt bu bv bw bx bz b0 b1 b2 b3 b4,ldN bl bp (bq+Int.toNat r * 11) 11=some (sC br bs bt bu bv bw bx bz b0 b1 b2 b3 b4)∧
 (Wf Tryz.prog K 56 [.agg (sC br bs bt bu bv bw bx bz b0 b1 b2 b3 b4).toArray] bl fun b5 b6=>
 (∃b7 b8 b9 da db dc dd de df dg dh di dj,b5=(.agg (sC b7 b8 b9 da db dc dd de df dg dh di dj).toArray)∧
 (∃dk dl dm dn,ldN b6 a0.next 0 2=some (bC dk dl dm dn)∧
 ((2=2)∧∃dp,stN b6 i.next 0 (bC dk dl dm dn)=some dp∧
 ((11=11)∧∃dq,stN dp j.next 0 (sC b7 b8 b9 da db dc dd de df dg dh di dj)=some dq∧
 ((ldN bl a0.next 0 2=some (bC dk dl dm dn))∧
 ((ldN b6 a0.next 0 2=some (bC dk dl dm dn))∧
 (∃dr ds dt du,ldN dq i.next 0 2=some (bC dr ds dt du)∧
 (∃dv dw dx dy dz d0 d1 d2 d3 d4 d5 d6 d7,ldN dq j.next 0 11=some (sC dv dw dx dy dz d0 d1 d2 d3 d4 d5 d6 d7)∧
 (Q (.tuple #[.agg (bC dr ds dt du).toArray,.agg (sC dv dw dx dy dz d0 d1 d2 d3 d4 d5 d6 d7).toArray,.int .i64 0]) dq)))))))))))))))))))))))))))))))∨(ac=(.tuple #[.agg (sC ae af ag ah ai aj ak al am an ao ap aq).toArray,.bool false])∧
 (∀d8,d8=ad.alloc (.cells (zC) 81 false)→
 (11=11)∧∃d9,stN d8 ad.next 0 (sC ae af ag ah ai aj ak al am an ao ap aq)=some d9∧
 (∃ea eb ec ed,ldN d9 g.next 0 2=some (bC ea eb ec ed)∧
 (zhy K Q ea eb ec ed d9 i j 174))))))))))))∧
 (¬(s:Int)=0→∃ee ef eg eh,ldN q g.next 0 2=some (bC ee ef eg eh)∧
 (zhy K Q ee ef eg eh q i j s)))))):
 Wf Tryz.prog K 63 [.agg (bC a b d e).toArray,.string f] g Q:=
  zai (hs:=[]) hk (Eq.mpr (by kernel_rfl) H)
abbrev zeQ (K:Xs) (Q:Value→AH→Prop) (ah:Int) (ei:Option Addr) (ej:Nat) (ek:Nat) (ad:AH) (i:AH) (j:AH) (el:Int):Prop:=
 (Wf Tryz.prog K 47 [.agg (bC ah ei ej ek).toArray] ad fun em en=>
 (∃an ao ap aq,em=(.agg (bC an ao ap aq).toArray)∧
 ((2=2)∧∃ar,stN en i.next 0 (bC an ao ap aq)=some ar∧
 ((11=11)∧∃au,stN ar j.next 0 (zC)=some au∧
 (∃av aw ax ay,ldN au i.next 0 2=some (bC av aw ax ay)∧
 (∃eo ep eq er es et eu ev ew ex ey ez e0,ldN au j.next 0 11=some (sC eo ep eq er es et eu ev ew ex ey ez e0)∧
 (Q (.tuple #[.agg (bC av aw ax ay).toArray,.agg (sC eo ep eq er es et eu ev ew ex ey ez e0).toArray,.int .i64 el]) au)))))))
theorem ziV {K:Xs} (hk:K 65=none) (a:Int) (b:Option Addr) (d e:Nat) (f:ByteArray) (g:AH) (Q:Value→AH→Prop) (H:
 ∀i,i=g.alloc (.cells (bC a b d e) 29 false)→
 ∀j,j=i.alloc (.cells [.int .u64 0,.slice none 0 0] 29 false)→
 ∀k,k=j.alloc (.cells (zC) 81 false)→
 ∃l m n o,ldN k g.next 0 2=some (bC l m n o)∧
 (Wf Tryz.prog K 57 [.agg (bC l m n o).toArray,.string f] k fun p q=>
 (∃r s,p=(.tuple #[.int .i64 r,.int .i64 s])∧
 (((s:Int)=0→∃t u v,ld1 q g.next 1=some (.slice t u v)∧
 (∃w x y,ld1 q g.next 1=some (.slice w x y)∧
 (zal w fun z aa=>(((0:Int)≤r)∧((r:Int) < ((x:Nat):Int))∧
 (∃ab,ld1 q z (aa+Int.toNat r * 11)=some (.int .u64 ab)∧
 (Wf Tryz.prog K 58 [.slice t u v,.int .u64 ab] q fun ac ad=>
 (∃ae af ag,ac=(.slice ae af ag)∧
 (((0:Int) < ((af:Nat):Int)→∃ah ai aj ak,ldN ad g.next 0 2=some (bC ah ai aj ak)∧
 (zeQ K Q ah ai aj ak ad i j 173))∧
 (¬(0:Int) < ((af:Nat):Int)→∃al am an ao,ldN ad g.next 0 2=some (bC al am an ao)∧
 (Wf Tryz.prog K 47 [.agg (bC al am an ao).toArray] ad fun ap aq=>
 (∃ar au av aw,ap=(.agg (bC ar au av aw).toArray)∧
 (∀ax,ax=aq.alloc (.cells [.int .u64 0,.slice none 0 0] 29 false)→
 (2=2)∧∃ay,stN ax aq.next 0 (bC ar au av aw)=some ay∧
 (∃az a0 a1,ld1 ay aq.next 1=some (.slice az a0 a1)∧
 (∀a2:Int,a2=IntKind.wrap .i64 (r+1)→Wf Tryz.prog K 88 [.slice az a0 a1,.int .i64 r,.int .i64 a2] ay fun a3 a4=>
 (∃a5 a6 a7,a3=(.slice a5 a6 a7)∧
 (∃a8,st1 a4 aq.next 1 (.slice a5 a6 a7)=some a8∧
 (∃a9 ba bb,ld1 a8 g.next 1=some (.slice a9 ba bb)∧
 (zal a9 fun bc bd=>(((0:Int)≤r)∧((r:Int) < ((ba:Nat):Int))∧
 (∃be bf bg bh bi bj bk bl bm bn bo bp bq,ldN a8 bc (bd+Int.toNat r * 11) 11=some (sC be bf bg bh bi bj bk bl bm bn bo bp bq)∧
 (Wf Tryz.prog K 56 [.agg (sC be bf bg bh bi bj bk bl bm bn bo bp bq).toArray] a8 fun br bs=>
 (∃bt bu bv bw bx bz b0 b1 b2 b3 b4 b5 b6,br=(.agg (sC bt bu bv bw bx bz b0 b1 b2 b3 b4 b5 b6).toArray)∧
 (∃b7 b8 b9 da,ldN bs aq.next 0 2=some (bC b7 b8 b9 da)∧
 ((2=2)∧∃db,stN bs i.next 0 (bC b7 b8 b9 da)=some db∧
 ((11=11)∧∃dc,stN db j.next 0 (sC bt bu bv bw bx bz b0 b1 b2 b3 b4 b5 b6)=some dc∧
 ((ldN a8 aq.next 0 2=some (bC b7 b8 b9 da))∧
 ((ldN bs aq.next 0 2=some (bC b7 b8 b9 da))∧
 (∃dd de df dg,ldN dc i.next 0 2=some (bC dd de df dg)∧
 (∃dh di dj dk dl dm dn dp dq dr ds dt du,ldN dc j.next 0 11=some (sC dh di dj dk dl dm dn dp dq dr ds dt du)∧
 (Q (.tuple #[.agg (bC dd de df dg).toArray,.agg (sC dh di dj dk dl dm dn dp dq dr ds dt du).toArray,.int .i64 0]) dc))))))))))))))))))))))))))))))∧
 (¬(s:Int)=0→∃dv dw dx dy,ldN q g.next 0 2=some (bC dv dw dx dy)∧
 (zeQ K Q dv dw dx dy q i j s)))))):
 Wf Tryz.prog K 65 [.agg (bC a b d e).toArray,.string f] g Q:=
  zai (hs:=[]) hk (Eq.mpr (by kernel_rfl) H)
abbrev za6 (K:Xs) (Q:Value→AH→Prop) (dz:Int) (d0:Option Addr) (d1:Nat) (d2:Nat) (d3:AH) (i:AH) (d4:Int):Prop:=
 (Wf Tryz.prog K 47 [.agg (bC dz d0 d1 d2).toArray] d3 fun d5 d6=>
 (∃d7 d8 d9 ea,d5=(.agg (bC d7 d8 d9 ea).toArray)∧
 ((2=2)∧∃eb,stN d6 i.next 0 (bC d7 d8 d9 ea)=some eb∧
 (∃ah ai aj ak,ldN eb i.next 0 2=some (bC ah ai aj ak)∧
 (Q (.tuple #[.agg (bC ah ai aj ak).toArray,.slice none 0 0,.int .i64 d4]) eb)))))
theorem zhL {K:Xs} (hk:K 66=none) (a:Int) (b:Option Addr) (d e:Nat) (f:ByteArray) (g:AH) (Q:Value→AH→Prop) (H:
 ∀i,i=g.alloc (.cells (bC a b d e) 29 false)→
 ∀j,j=i.alloc (.cells [.int .u64 0,.slice none 0 0] 29 false)→
 Wf Tryz.prog K 54 [.string f] j fun k l=>
 (∃m n o,k=(.tuple #[.string m,.string n,.int .i64 o])∧
 (((o:Int)=0→∃p q r s,ldN l g.next 0 2=some (bC p q r s)∧
 (Wf Tryz.prog K 48 [.agg (bC p q r s).toArray,.string f] l fun t u=>
 (∃v,t=(.int .i64 v)∧
 (((v:Int) < 0→∃w x y z,ldN u g.next 0 2=some (bC w x y z)∧
 (za6 K Q w x y z u i 172))∧
 (¬(v:Int) < 0→∃aa ab ac,ld1 u g.next 1=some (.slice aa ab ac)∧
 (zal aa fun ad ae=>(((0:Int)≤v)∧((v:Int) < ((ab:Nat):Int))∧
 (∃af ag ah,ld1 u g.next 1=some (.slice af ag ah)∧
 (∃ai,ld1 u ad (ae+Int.toNat v * 11)=some (.int .u64 ai)∧
 (Wf Tryz.prog K 89 [.slice af ag ah,.int .u64 ai] u fun aj ak=>
 (∃al am an,aj=(.slice al am an)∧
 (((0:Int) < ((am:Nat):Int)→∃ao ap aq ar,ldN ak g.next 0 2=some (bC ao ap aq ar)∧
 (za6 K Q ao ap aq ar ak i 173))∧
 (¬(0:Int) < ((am:Nat):Int)→∃au av aw,ld1 ak g.next 1=some (.slice au av aw)∧
 (∃ax,ld1 ak ad (ae+Int.toNat v * 11)=some (.int .u64 ax)∧
 (Wf Tryz.prog K 90 [.slice au av aw,.int .u64 ax] ak fun ay az=>
 (∃a0,ay=(.int .u64 a0)∧
 (∃a1 a2 a3,ld1 az g.next 1=some (.slice a1 a2 a3)∧
 (Wf Tryz.prog K 60 [.slice a1 a2 a3,.int .u64 a0] az fun a4 a5=>
 (∃a6,a4=(.int .i64 a6)∧
 ((ld1 ak g.next 1=some (.slice a1 a2 a3))∧
 ((ld1 az g.next 1=some (.slice a1 a2 a3))∧
 (((a6:Int) < 0→∃a7 a8 a9 ba,ldN a5 g.next 0 2=some (bC a7 a8 a9 ba)∧
 (za6 K Q a7 a8 a9 ba a5 i 172))∧
 (¬(a6:Int) < 0→∃bb bc bd,ld1 a5 g.next 1=some (.slice bb bc bd)∧
 (∃be,ld1 a5 ad (ae+Int.toNat v * 11)=some (.int .u64 be)∧
 (Wf Tryz.prog K 55 [.slice bb bc bd,.int .u64 be] a5 fun bf bg=>
 (∃bh,bf=(.int .u64 bh)∧
 (∃bi bj bk,ld1 bg g.next 1=some (.slice bi bj bk)∧
 (zal bi fun bl bm=>(((0:Int)≤a6)∧((a6:Int) < ((bj:Nat):Int))∧
 (∃bn bo bp,ld1 bg bl ((bm+Int.toNat a6 * 11)+10)=some (.slice bn bo bp)∧
 (Wf Tryz.prog K 91 [.slice bn bo bp,.int .u64 bh] bg fun bq br=>
 (∃bs bt bu bv bw bx,bq=(.tuple #[.slice bs bt bu,.slice bv bw bx])∧
 ((ld1 a5 g.next 1=some (.slice bi bj bk))∧
 ((ld1 bg g.next 1=some (.slice bi bj bk))∧
 ((ld1 a5 bl ((bm+Int.toNat a6 * 11)+10)=some (.slice bn bo bp))∧
 ((ld1 bg bl ((bm+Int.toNat a6 * 11)+10)=some (.slice bn bo bp))∧
 (∃bz b0 b1,ld1 br ad ((ae+Int.toNat v * 11)+10)=some (.slice bz b0 b1)∧
 (Wf Tryz.prog K 92 [.slice bs bt bu,.slice bz b0 b1] br fun b2 b3=>
 (∃b4 b5 b6 b7,b2=(.tuple #[.slice b4 b5 b6,.int .i64 b7])∧
 (((b7:Int)=0→((4000:Int) < ((b5:Nat):Int)→∃b8 b9 da db,ldN b3 g.next 0 2=some (bC b8 b9 da db)∧
 (za6 K Q b8 b9 da db b3 i 131))∧
 (¬(4000:Int) < ((b5:Nat):Int)→∃dc dd de df,ldN b3 g.next 0 2=some (bC dc dd de df)∧
 (Wf Tryz.prog K 47 [.agg (bC dc dd de df).toArray] b3 fun dg dh=>
 (∃di dj dk dl,dg=(.agg (bC di dj dk dl).toArray)∧
 (∀dm,dm=dh.alloc (.cells [.int .u64 0,.slice none 0 0] 29 false)→
 (2=2)∧∃dn,stN dm dh.next 0 (bC di dj dk dl)=some dn∧
 (∃dp dq dr,ld1 dn dh.next 1=some (.slice dp dq dr)∧
 (∃ds,ld1 dn ad ((ae+Int.toNat v * 11)+4)=some (.int .u64 ds)∧
 (zal dp fun dt du=>(((0:Int)≤a6)∧((a6:Int) < ((dq:Nat):Int))∧
 (∃dv,st1 dn dt ((du+Int.toNat a6 * 11)+10) (.slice b4 b5 b6)=some dv∧
 (∃dw dx dy,ld1 dv dh.next 1=some (.slice dw dx dy)∧
 (zal dw fun dz d0=>(((0:Int)≤a6)∧((a6:Int) < ((dx:Nat):Int))∧
 (∃d1,st1 dv dz ((d0+Int.toNat a6 * 11)+4) (.int .u64 ds)=some d1∧
 ((ld1 dn dh.next 1=some (.slice dw dx dy))∧
 ((ld1 dv dh.next 1=some (.slice dw dx dy))∧
 (∃d2 d3 d4,ld1 d1 dh.next 1=some (.slice d2 d3 d4)∧
 (∀d5:Int,d5=IntKind.wrap .i64 (v+1)→Wf Tryz.prog K 88 [.slice d2 d3 d4,.int .i64 v,.int .i64 d5] d1 fun d6 d7=>
 (∃d8 d9 ea,d6=(.slice d8 d9 ea)∧
 (∃eb,st1 d7 dh.next 1 (.slice d8 d9 ea)=some eb∧
 (∃ec ed ee ef,ldN eb dh.next 0 2=some (bC ec ed ee ef)∧
 ((2=2)∧∃eg,stN eb i.next 0 (bC ec ed ee ef)=some eg∧
 (∃eh ei ej ek,ldN eg i.next 0 2=some (bC eh ei ej ek)∧
 (Q (.tuple #[.agg (bC eh ei ej ek).toArray,.slice bv bw bx,.int .i64 0]) eg))))))))))))))))))))))))∧
 (¬(b7:Int)=0→∃el em en eo,ldN b3 g.next 0 2=some (bC el em en eo)∧
 (za6 K Q el em en eo b3 i 131))))))))))))))))))))))))))))))))))))))))))∧
 (¬(o:Int)=0→∃ep eq er es,ldN l g.next 0 2=some (bC ep eq er es)∧
 (za6 K Q ep eq er es l i o))))):
 Wf Tryz.prog K 66 [.agg (bC a b d e).toArray,.string f] g Q:=
  zai (hs:=[]) hk (Eq.mpr (by kernel_rfl) H)
theorem zk2 {K:Xs} (hk:K 91=none) (a:Option Addr) (b d:Nat) (e:Int) (h:AH) (Q:Value→AH→Prop) (H:
 ∃f:Option Addr→Nat→Nat→Option Addr→Nat→Nat→Int→Nat→AH→Prop,(∃n,f none 0 0 none 0 0 0 n h)∧
 ∀(g:Nat) (i:AH),∀(j:Option Addr) (k:Nat) (l:Nat),∀(m:Option Addr) (o:Nat) (p:Nat),∀(q:Int),f j k l m o p q g i→
 ((q:Int) < ((b:Nat):Int)→zal a fun r s=>(((0:Int)≤q)∧((q:Int) < ((b:Nat):Int))∧
 (∃t u v,ldN i r (s+Int.toNat q * 3) 3=some (qL t u v)∧
 (∀w,w=i.alloc (.cells [.int .i64 0,.int .u64 0,.int .u32 0] 78 false)→
 (3=3)∧∃x,stN w i.next 0 (qL t u v)=some x∧
 (∃y z aa,ldN x i.next 0 3=some (qL y z aa)∧
 (Wf Tryz.prog K 97 [.agg (qL y z aa).toArray,.int .u64 e] x fun ab ac=>
 (((ab=(.bool true)∧
 (∃ad ae af,ldN ac i.next 0 3=some (qL ad ae af)∧
 (∀ag,ag=ac.alloc (.cells (qL ad ae af) 78 false)→
 ∃ah ai aj ak,zan Tryz.prog ag .append #[79,79] [.slice m o p,(.slice (some ⟨ac.next,0,none⟩) 1 1)]=some (.slice ah ai aj,ak)∧
 (∀al:Int,al=IntKind.wrap .i64 (q+1)→∃am,am < g∧f j k l ah ai aj al am ak))))∨(ab=(.bool false)∧
 (∃an ao ap,ldN ac i.next 0 3=some (qL an ao ap)∧
 (∀aq,aq=ac.alloc (.cells (qL an ao ap) 78 false)→
 ∃ar au av aw,zan Tryz.prog aq .append #[79,79] [.slice j k l,(.slice (some ⟨ac.next,0,none⟩) 1 1)]=some (.slice ar au av,aw)∧
 (∀ax:Int,ax=IntKind.wrap .i64 (q+1)→∃am,am < g∧f ar au av m o p ax am aw))))))))))))∧
 (¬(q:Int) < ((b:Nat):Int)→Q (.tuple #[.slice j k l,.slice m o p]) i)):
 Wf Tryz.prog K 91 [.slice a b d,.int .u64 e] h Q:=
  zai (hs:=[(3,[(6,.slice none 0 0),(7,.slice none 0 0),(12,.int .i64 0)])]) hk (Eq.mpr (by kernel_rfl) H)
theorem zk3 {K:Xs} (hk:K 92=none) (a:Option Addr) (b d:Nat) (e:Option Addr) (f g:Nat) (i:AH) (Q:Value→AH→Prop) (H:
 ∀j:Int,j=IntKind.wrap .i64 (((b:Nat):Int)+((f:Nat):Int))→((0:Int)≤0∧(0:Int)≤j∧(j:Int)≤9223372036854775807∧(24:Int) * j≤281474976710656)∧∀k,k=i.alloc (.cells ((List.replicate (Int.toNat j) [.int .i64 0,.int .u64 0,.int .u32 0]).flatten) 78 false)→
 ∃l:Option Addr→Nat→Nat→Option Addr→Nat→Nat→Option Addr→Nat→Nat→Nat→AH→Prop,(∃n,l a b d e f g (some ⟨i.next,0,none⟩) (Int.toNat 0) (Int.toNat j) n k)∧
 ∀(m:Nat) (o:AH),∀(p:Option Addr) (q:Nat) (r:Nat),∀(s:Option Addr) (t:Nat) (u:Nat),∀(v:Option Addr) (w:Nat) (x:Nat),l p q r s t u v w x m o→
 ((0:Int) < ((q:Nat):Int)→((0:Int) < ((t:Nat):Int)→zal p fun y z=>(((0:Int)≤0)∧((0:Int) < ((q:Nat):Int))∧
 (∃aa ab ac,ldN o y z 3=some (qL aa ab ac)∧
 (zal s fun ad ae=>(((0:Int)≤0)∧((0:Int) < ((t:Nat):Int))∧
 (∃af ag ah,ldN o ad ae 3=some (qL af ag ah)∧
 (Wf Tryz.prog K 98 [.agg (qL aa ab ac).toArray,.agg (qL af ag ah).toArray] o fun ai aj=>
 (((ai=(.bool true)∧
 (zal p fun ak al=>(((0:Int)≤0)∧((0:Int) < ((q:Nat):Int))∧
 (∃am an ao,ldN aj ak al 3=some (qL am an ao)∧
 (∀ap,ap=aj.alloc (.cells (qL am an ao) 78 false)→
 ∃aq ar au av,zan Tryz.prog ap .append #[79,79] [.slice v w x,(.slice (some ⟨aj.next,0,none⟩) 1 1)]=some (.slice aq ar au,av)∧
 (∃aw ax ay,zaB Tryz.prog av 79 (.slice p q r) (some (.int .i64 1)) none none=some (.slice aw ax ay)∧
 ((zaB Tryz.prog ap 79 (.slice p q r) (some (.int .i64 1)) none none=some (.slice aw ax ay))∧
 ((zaB Tryz.prog av 79 (.slice p q r) (some (.int .i64 1)) none none=some (.slice aw ax ay))∧
 (∃az,az < m∧l aw ax ay s t u aq ar au az av)))))))))∨(ai=(.bool false)∧
 (zal s fun a0 a1=>(((0:Int)≤0)∧((0:Int) < ((t:Nat):Int))∧
 (∃a2 a3 a4,ldN aj a0 a1 3=some (qL a2 a3 a4)∧
 (zal p fun a5 a6=>(((0:Int)≤0)∧((0:Int) < ((q:Nat):Int))∧
 (∃a7 a8 a9,ldN aj a5 a6 3=some (qL a7 a8 a9)∧
 (Wf Tryz.prog K 98 [.agg (qL a2 a3 a4).toArray,.agg (qL a7 a8 a9).toArray] aj fun ba bb=>
 (((ba=(.bool true)∧
 (zal s fun bc bd=>(((0:Int)≤0)∧((0:Int) < ((t:Nat):Int))∧
 (∃be bf bg,ldN bb bc bd 3=some (qL be bf bg)∧
 (∀bh,bh=bb.alloc (.cells (qL be bf bg) 78 false)→
 ∃bi bj bk bl,zan Tryz.prog bh .append #[79,79] [.slice v w x,(.slice (some ⟨bb.next,0,none⟩) 1 1)]=some (.slice bi bj bk,bl)∧
 (∃bm bn bo,zaB Tryz.prog bl 79 (.slice s t u) (some (.int .i64 1)) none none=some (.slice bm bn bo)∧
 ((zaB Tryz.prog bh 79 (.slice s t u) (some (.int .i64 1)) none none=some (.slice bm bn bo))∧
 ((zaB Tryz.prog bl 79 (.slice s t u) (some (.int .i64 1)) none none=some (.slice bm bn bo))∧
 (∃az,az < m∧l p q r bm bn bo bi bj bk az bl)))))))))∨(ba=(.bool false)∧
 (Q (.tuple #[.slice none 0 0,.int .i64 131]) bb)))))))))))))))))))))∧
 (¬(0:Int) < ((t:Nat):Int)→∃bp bq br bs,zan Tryz.prog o .append #[79,79] [.slice v w x,.slice p q r]=some (.slice bp bq br,bs)∧
 (∃bt bu bv bw,zan Tryz.prog bs .append #[79,79] [.slice bp bq br,.slice s t u]=some (.slice bt bu bv,bw)∧
 (Q (.tuple #[.slice bt bu bv,.int .i64 0]) bw))))∧
 (¬(0:Int) < ((q:Nat):Int)→∃bx bz b0 b1,zan Tryz.prog o .append #[79,79] [.slice v w x,.slice p q r]=some (.slice bx bz b0,b1)∧
 (∃b2 b3 b4 b5,zan Tryz.prog b1 .append #[79,79] [.slice bx bz b0,.slice s t u]=some (.slice b2 b3 b4,b5)∧
 (Q (.tuple #[.slice b2 b3 b4,.int .i64 0]) b5)))):
 Wf Tryz.prog K 92 [.slice a b d,.slice e f g] i Q:=
  zai (hs:=[(2,[(0,.slice none 0 0),(1,.slice none 0 0),(6,.slice none 0 0)])]) hk (Eq.mpr (by kernel_rfl) H)
theorem zmu {K:Xs} (hk:K 97=none) (a:Int) (b:Int) (d:Int) (e:Int) (h:AH) (Q:Value→AH→Prop) (H:
 ∀f,f=h.alloc (.cells (qL a b d) 78 false)→
 ∃g i j,ldN f h.next 0 3=some (qL g i j)∧
 (∃la4 lb5,zdx Tryz.prog 78 (.agg (qL g i j).toArray)=some la4∧zdx Tryz.prog 78 (.agg #[.int .i64 0,.int .u64 0,.int .u32 0])=some lb5∧
 (zaN la4 lb5=true→Q (.bool false) f)∧
 (zaN la4 lb5=false→∃k,ld1 f h.next 1=some (.int .u64 k)∧
 (((e:Int) < k→Q (.bool true) f)∧
 (¬(e:Int) < k→Q (.bool false) f))))):
 Wf Tryz.prog K 97 [.agg (qL a b d).toArray,.int .u64 e] h Q:=
  zai (hs:=[]) hk (Eq.mpr (by kernel_rfl) H)
theorem zcg {K:Xs} (hk:K 59=none) (a:Option Addr) (b d:Nat) (e:Int) (h:AH) (Q:Value→AH→Prop) (H:
 ∃f:Int→Nat→AH→Prop,(∃n,f 0 n h)∧
 ∀(g:Nat) (i:AH),∀(j:Int),f j g i→
 ((j:Int) < ((b:Nat):Int)→zal a fun k l=>(((0:Int)≤j)∧((j:Int) < ((b:Nat):Int))∧
 (∃m,ld1 i k (l+Int.toNat j * 1)=some (.int .u64 m)∧
 (((e:Int)=m→Q (.int .i64 j) i)∧
 (¬(e:Int)=m→∀o:Int,o=IntKind.wrap .i64 (j+1)→∃p,p < g∧f o p i)))))∧
 (¬(j:Int) < ((b:Nat):Int)→Q (.int .i64 (-1)) i)):
 Wf Tryz.prog K 59 [.slice a b d,.int .u64 e] h Q:=
  zai (hs:=[(2,[(8,.int .i64 0)])]) hk (Eq.mpr (by kernel_rfl) H)
theorem zbN {K:Xs} (hk:K 61=none) (a:Option Addr) (b d:Nat) (e:Option Addr) (f:Option Addr) (g:Option Addr) (h:AH) (Q:Value→AH→Prop) (H:
 Wf Tryz.prog K 84 [.slice a b d,(.func (.func 62) #[] #[.pointer e,.pointer f,.pointer g])] h fun i j=>
 (∃k,i=(.int .i64 k)∧
 (((0:Int)≤k→Q (.bool true) j)∧
 (¬(0:Int)≤k→Q (.bool false) j)))):
 Wf Tryz.prog K 61 [.slice a b d,(.func (.func 62) #[] #[.pointer e,.pointer f,.pointer g])] h Q:=
  zai (hs:=[]) hk (Eq.mpr (by kernel_rfl) H)
theorem znT {K:Xs} (hk:K 88=none) (a:Option Addr) (b d:Nat) (e:Int) (f:Int) (h:AH) (Q:Value→AH→Prop) (H:
 ∃g i j,zaB Tryz.prog h 27 (.slice a b d) (some (.int .i64 e)) (some (.int .i64 f)) (some (.int .i64 ((b:Nat):Int)))=some (.slice g i j)∧
 (((e:Int)=f→Q (.slice a b d) h)∧
 (¬(e:Int)=f→∃k l m,zaB Tryz.prog h 27 (.slice a b d) none (some (.int .i64 e)) none=some (.slice k l m)∧
 (∃n o p,zaB Tryz.prog h 27 (.slice a b d) (some (.int .i64 f)) none none=some (.slice n o p)∧
 (∃q r s t,zan Tryz.prog h .append #[27,27] [.slice k l m,.slice n o p]=some (.slice q r s,t)∧
 (∃u v w,zaB Tryz.prog t 27 (.slice q r s) (some (.int .i64 ((r:Nat):Int))) (some (.int .i64 ((b:Nat):Int))) none=some (.slice u v w)∧
 (∃x,zan Tryz.prog t .clear #[27] [.slice u v w]=some (undef,x)∧
 (Q (.slice q r s) x)))))))):
 Wf Tryz.prog K 88 [.slice a b d,.int .i64 e,.int .i64 f] h Q:=
  zai (hs:=[]) hk (Eq.mpr (by kernel_rfl) H)
theorem zch {K:Xs} (hk:K 84=none) (a:Option Addr) (b d:Nat) (e:Option Addr) (h:AH) (Q:Value→AH→Prop) (H:
 ∃f:Int→Nat→AH→Prop,(∃n,f 0 n h)∧
 ∀(g:Nat) (i:AH),∀(j:Int),f j g i→
 ((j:Int) < ((b:Nat):Int)→zal a fun k l=>(((0:Int)≤j)∧((j:Int) < ((b:Nat):Int))∧
 (∃m o p q r s t u v w x y z,ldN i k (l+Int.toNat j * 11) 11=some (sC m o p q r s t u v w x y z)∧
 (Wf Tryz.prog K 85 [.agg (sC m o p q r s t u v w x y z).toArray,.pointer e] i fun aa ab=>
 (((aa=(.bool true)∧
 (Q (.int .i64 j) ab))∨(aa=(.bool false)∧
 (∀ac:Int,ac=IntKind.wrap .i64 (j+1)→∃ad,ad < g∧f ac ad ab))))))))∧
 (¬(j:Int) < ((b:Nat):Int)→Q (.int .i64 (-1)) i)):
 Wf Tryz.prog K 84 [.slice a b d,(.func (.func 85) #[] #[.pointer e])] h Q:=
  zai (hs:=[(2,[(8,.int .i64 0)])]) hk (Eq.mpr (by kernel_rfl) H)
theorem zb1 {K:Xs} (hk:K 84=none) (a:Option Addr) (b d:Nat) (e:Option Addr) (f:Option Addr) (g:Option Addr) (h:AH) (Q:Value→AH→Prop) (H:
 ∃i:Int→Nat→AH→Prop,(∃n,i 0 n h)∧
 ∀(j:Nat) (k:AH),∀(l:Int),i l j k→
 ((l:Int) < ((b:Nat):Int)→zal a fun m o=>(((0:Int)≤l)∧((l:Int) < ((b:Nat):Int))∧
 (∃p q r s t u v w x y z aa ab,ldN k m (o+Int.toNat l * 11) 11=some (sC p q r s t u v w x y z aa ab)∧
 (Wf Tryz.prog K 62 [.agg (sC p q r s t u v w x y z aa ab).toArray,.pointer e,.pointer f,.pointer g] k fun ac ad=>
 (((ac=(.bool true)∧
 (Q (.int .i64 l) ad))∨(ac=(.bool false)∧
 (∀ae:Int,ae=IntKind.wrap .i64 (l+1)→∃af,af < j∧i ae af ad))))))))∧
 (¬(l:Int) < ((b:Nat):Int)→Q (.int .i64 (-1)) k)):
 Wf Tryz.prog K 84 [.slice a b d,(.func (.func 62) #[] #[.pointer e,.pointer f,.pointer g])] h Q:=
  zai (hs:=[(2,[(8,.int .i64 0)])]) hk (Eq.mpr (by kernel_rfl) H)
end Go.Am
