/-
  WEAKEST CONDITIONS of some functions of this program, printed by a program.
-/
import Derived.Test.YtkapnilnhoiooaaGreatVAbb
import Derived.Test.YtkapnilnhoiooaaGreatRows
set_option linter.unusedVariables false
set_option maxRecDepth 100000
namespace Go.Am
open Go.Proofs
theorem zmv {K:Xs} (hk:K 5=none)  (h:AH) (Q:Value→AH→Prop) (H:
 ∀a,a=h.alloc (.map [] 0)→
 ∀b,b=a.alloc (.cells [.int .u64 1,.slice none 0 0,(.map (some h.next)),.int .u64 2,.int .u64 0] 58 false)→
 Q (.pointer (some ⟨a.next,0,none⟩)) b):
 Wf Tryz.prog K 5 [] h Q:=
  zai (hs:=[]) hk (Eq.mpr (by kernel_rfl) H)
theorem zhe {K:Xs} (hk:K 7=none) (a:Option Addr) (b:Int) (d:ByteArray) (e:ByteArray) (f:Int) (g:Option Addr) (i j:Nat) (k:Option Addr) (l m:Nat) (n:AH) (Q:Value→AH→Prop) (H:
 ∀o,o=n.alloc (.cells [.int .i64 b,.string d,.string e,.int .i64 f,.slice g i j,.slice k l m] 37 false)→
 ∀p,p=o.alloc (.cells (List.replicate 128 (.int .u8 0):List Value) 39 false)→
 ∃q,ld1 p n.next 0=some (.int .i64 q)∧
 (((q:Int)=0→zal a fun r s=>(∃t u v w,ldN p r s 2=some (bC t u v w)∧
 (∃x,ld1 p n.next 1=some (.string x)∧
 (∃y,ld1 p n.next 3=some (.int .i64 y)∧
 (Wf Tryz.prog K 17 [.agg (bC t u v w).toArray,.string x,.int .i64 y] p fun z aa=>
 (∃ab ac ad ae af,z=(.tuple #[.agg (bC ab ac ad ae).toArray,.int .i64 af])∧
 (∀ag,ag=aa.alloc (.cells [.int .u64 0,.slice none 0 0] 29 false)→
 (2=2)∧∃ah,stN ag aa.next 0 (bC ab ac ad ae)=some ah∧
 (∃l20:List Value,zaE Tryz.prog 39 #[]=some (.agg l20.toArray)∧
 (∃ai aj ak al,ldN ah aa.next 0 2=some (bC ai aj ak al)∧
 (Wf Tryz.prog K 18 [.pointer a,.agg (bC ai aj ak al).toArray,.int .i64 af] ah fun am an=>
 (∃ao,am=(.int .i64 ao)∧
 ((List.length l20=128)∧∃ap,stN an o.next 0 l20=some ap∧
 (∃l29:List Value,ldN ap o.next 0 128=some l29∧
 (Q (.tuple #[.agg l29.toArray,.int .i64 ao]) ap))))))))))))))∧
 (¬(q:Int)=0→((q:Int)=1→∃l30:List Value,zaE Tryz.prog 39 #[]=some (.agg l30.toArray)∧
 (∃aq,ld1 p n.next 1=some (.string aq)∧
 (∃ar,ld1 p n.next 3=some (.int .i64 ar)∧
 (∃au av aw,ld1 p n.next 4=some (.slice au av aw)∧
 (Wf Tryz.prog K 19 [.pointer a,.string aq,.int .i64 ar,.slice au av aw] p fun ax ay=>
 (∃az,ax=(.int .i64 az)∧
 ((List.length l30=128)∧∃a0,stN ay o.next 0 l30=some a0∧
 (∃l40:List Value,ldN a0 o.next 0 128=some l40∧
 (Q (.tuple #[.agg l40.toArray,.int .i64 az]) a0)))))))))∧
 (¬(q:Int)=1→((q:Int)=2→∃l41:List Value,zaE Tryz.prog 39 #[]=some (.agg l41.toArray)∧
 (∃a1,ld1 p n.next 1=some (.string a1)∧
 (∃a2,ld1 p n.next 3=some (.int .i64 a2)∧
 (Wf Tryz.prog K 20 [.pointer a,.string a1,.int .i64 a2] p fun a3 a4=>
 (∃a5,a3=(.int .i64 a5)∧
 ((List.length l41=128)∧∃a6,stN a4 o.next 0 l41=some a6∧
 (∃l48:List Value,ldN a6 o.next 0 128=some l48∧
 (Q (.tuple #[.agg l48.toArray,.int .i64 a5]) a6))))))))∧
 (¬(q:Int)=2→((q:Int)=3→∃a7,ld1 p n.next 1=some (.string a7)∧
 (∃a8,ld1 p n.next 3=some (.int .i64 a8)∧
 (Wf Tryz.prog K 21 [.pointer a,.string a7,.int .i64 a8] p fun a9 ba=>
 (∃l53:List Value,∃bb,a9=(.tuple #[.agg l53.toArray,.int .i64 bb])∧
 ((List.length l53=128)∧∃bc,stN ba o.next 0 l53=some bc∧
 (∃l56:List Value,ldN bc o.next 0 128=some l56∧
 (Q (.tuple #[.agg l56.toArray,.int .i64 bb]) bc)))))))∧
 (¬(q:Int)=3→((q:Int)=4→zal a fun bd be=>(∃bf bg bh bi,ldN p bd be 2=some (bC bf bg bh bi)∧
 (∃bj,ld1 p n.next 1=some (.string bj)∧
 (zal a fun bk bl=>(∃bm,ld1 p bk (bl+3)=some (.int .u64 bm)∧
 (Wf Tryz.prog K 22 [.agg (bC bf bg bh bi).toArray,.string bj,.int .u64 bm] p fun bn bo=>
 (∃bp bq br bs bt,bn=(.tuple #[.agg (bC bp bq br bs).toArray,.int .i64 bt])∧
 (∀bu,bu=bo.alloc (.cells [.int .u64 0,.slice none 0 0] 29 false)→
 (2=2)∧∃bv,stN bu bo.next 0 (bC bp bq br bs)=some bv∧
 (((bt:Int)=0→zal a fun bw bx=>(∃bz,ld1 bv bw (bx+3)=some (.int .u64 bz)∧
 (∀b0:Int,b0=IntKind.wrap .u64 (bz+1)→zal a fun b1 b2=>(∃b4,st1 bv b1 (b2+3) (.int .u64 b0)=some b4∧
 (∃l83:List Value,zaE Tryz.prog 39 #[]=some (.agg l83.toArray)∧
 (∃b5 b6 b7 b8,ldN b4 bo.next 0 2=some (bC b5 b6 b7 b8)∧
 (Wf Tryz.prog K 18 [.pointer a,.agg (bC b5 b6 b7 b8).toArray,.int .i64 bt] b4 fun b9 da=>
 (∃db,b9=(.int .i64 db)∧
 ((List.length l83=128)∧∃dc,stN da o.next 0 l83=some dc∧
 (∃l92:List Value,ldN dc o.next 0 128=some l92∧
 (Q (.tuple #[.agg l92.toArray,.int .i64 db]) dc)))))))))))∧
 (¬(bt:Int)=0→∃l93:List Value,zaE Tryz.prog 39 #[]=some (.agg l93.toArray)∧
 (∃dd de df dg,ldN bv bo.next 0 2=some (bC dd de df dg)∧
 (Wf Tryz.prog K 18 [.pointer a,.agg (bC dd de df dg).toArray,.int .i64 bt] bv fun dh di=>
 (∃dj,dh=(.int .i64 dj)∧
 ((List.length l93=128)∧∃dk,stN di o.next 0 l93=some dk∧
 (∃l102:List Value,ldN dk o.next 0 128=some l102∧
 (Q (.tuple #[.agg l102.toArray,.int .i64 dj]) dk))))))))))))))))∧
 (¬(q:Int)=4→((q:Int)=5→zal a fun dl dm=>(∃dn dp dq dr,ldN p dl dm 2=some (bC dn dp dq dr)∧
 (∃ds,ld1 p n.next 1=some (.string ds)∧
 (∃dt,ld1 p n.next 2=some (.string dt)∧
 (Wf Tryz.prog K 23 [.agg (bC dn dp dq dr).toArray,.string ds,.string dt] p fun du dv=>
 (∃dw dx dy dz d0,du=(.tuple #[.agg (bC dw dx dy dz).toArray,.int .i64 d0])∧
 (∀d1,d1=dv.alloc (.cells [.int .u64 0,.slice none 0 0] 29 false)→
 (2=2)∧∃d2,stN d1 dv.next 0 (bC dw dx dy dz)=some d2∧
 (∃l120:List Value,zaE Tryz.prog 39 #[]=some (.agg l120.toArray)∧
 (∃d3 d4 d5 d6,ldN d2 dv.next 0 2=some (bC d3 d4 d5 d6)∧
 (Wf Tryz.prog K 18 [.pointer a,.agg (bC d3 d4 d5 d6).toArray,.int .i64 d0] d2 fun d7 d8=>
 (∃d9,d7=(.int .i64 d9)∧
 ((List.length l120=128)∧∃ea,stN d8 o.next 0 l120=some ea∧
 (∃l129:List Value,ldN ea o.next 0 128=some l129∧
 (Q (.tuple #[.agg l129.toArray,.int .i64 d9]) ea))))))))))))))∧
 (¬(q:Int)=5→((q:Int)=6→zal a fun eb ec=>(∃ed ee ef eg,ldN p eb ec 2=some (bC ed ee ef eg)∧
 (∃eh,ld1 p n.next 1=some (.string eh)∧
 (Wf Tryz.prog K 24 [.agg (bC ed ee ef eg).toArray,.string eh] p fun ei ej=>
 (∃ek el em en eo,ei=(.tuple #[.agg (bC ek el em en).toArray,.int .i64 eo])∧
 (∀ep,ep=ej.alloc (.cells [.int .u64 0,.slice none 0 0] 29 false)→
 (2=2)∧∃eq,stN ep ej.next 0 (bC ek el em en)=some eq∧
 (((eo:Int)=0→∃er es et eu,ldN eq ej.next 0 2=some (bC er es et eu)∧
 (zal a fun ev ew=>((2=2)∧∃ex,stN eq ev ew (bC er es et eu)=some ex∧
 (∃l153:List Value,zaE Tryz.prog 39 #[]=some (.agg l153.toArray)∧
 ((List.length l153=128)∧∃ey,stN ex o.next 0 l153=some ey∧
 (∃l155:List Value,ldN ey o.next 0 128=some l155∧
 (Q (.tuple #[.agg l155.toArray,.int .i64 eo]) ey)))))))∧
 (¬(eo:Int)=0→∃l156:List Value,zaE Tryz.prog 39 #[]=some (.agg l156.toArray)∧
 ((List.length l156=128)∧∃ez,stN eq o.next 0 l156=some ez∧
 (∃l158:List Value,ldN ez o.next 0 128=some l158∧
 (Q (.tuple #[.agg l158.toArray,.int .i64 eo]) ez)))))))))))∧
 (¬(q:Int)=6→((q:Int)=7→∃l159:List Value,zaE Tryz.prog 39 #[]=some (.agg l159.toArray)∧
 (∃e0,ld1 p n.next 1=some (.string e0)∧
 (Wf Tryz.prog K 25 [.pointer a,.string e0] p fun e1 e2=>
 (∃e3,e1=(.int .i64 e3)∧
 ((List.length l159=128)∧∃e4,stN e2 o.next 0 l159=some e4∧
 (∃l165:List Value,ldN e4 o.next 0 128=some l165∧
 (Q (.tuple #[.agg l165.toArray,.int .i64 e3]) e4)))))))∧
 (¬(q:Int)=7→((q:Int)=8→∃l166:List Value,zaE Tryz.prog 39 #[]=some (.agg l166.toArray)∧
 (∃e5,ld1 p n.next 1=some (.string e5)∧
 (Wf Tryz.prog K 26 [.pointer a,.string e5] p fun e6 e7=>
 (∃e8,e6=(.int .i64 e8)∧
 ((List.length l166=128)∧∃e9,stN e7 o.next 0 l166=some e9∧
 (∃l172:List Value,ldN e9 o.next 0 128=some l172∧
 (Q (.tuple #[.agg l172.toArray,.int .i64 e8]) e9)))))))∧
 (¬(q:Int)=8→((q:Int)=9→zal a fun fa fb=>(∃fc,ld1 p fa (fb+3)=some (.int .u64 fc)∧
 (∀fd:Int,fd=IntKind.wrap .u64 (fc+1)→zal a fun fe ff=>(∃fg,st1 p fe (ff+3) (.int .u64 fd)=some fg∧
 (∃l180:List Value,zaE Tryz.prog 39 #[]=some (.agg l180.toArray)∧
 ((List.length l180=128)∧∃fh,stN fg o.next 0 l180=some fh∧
 (∃l182:List Value,ldN fh o.next 0 128=some l182∧
 (Q (.tuple #[.agg l182.toArray,.int .i64 0]) fh))))))))∧
 (¬(q:Int)=9→∃l183:List Value,zaE Tryz.prog 39 #[]=some (.agg l183.toArray)∧
 ((List.length l183=128)∧∃fi,stN p o.next 0 l183=some fi∧
 (∃l185:List Value,ldN fi o.next 0 128=some l185∧
 (Q (.tuple #[.agg l185.toArray,.int .i64 0]) fi))))))))))))))):
 Wf Tryz.prog K 7 [.pointer a,.agg #[.int .i64 b,.string d,.string e,.int .i64 f,.slice g i j,.slice k l m]] n Q:=
  zai (hs:=[]) hk (Eq.mpr (by kernel_rfl) H)
theorem zga {K:Xs} (hk:K 18=none) (a:Option Addr) (b:Int) (d:Option Addr) (e f:Nat) (g:Int) (i:AH) (Q:Value→AH→Prop) (H:
 ∀j,j=i.alloc (.cells (bC b d e f) 29 false)→
 ((g:Int)=0→∃k l m,ld1 j i.next 1=some (.slice k l m)∧
 (zal a fun n o=>(∃p,ld1 j n o=some (.int .u64 p)∧
 (Wf Tryz.prog K 50 [.slice k l m,.int .u64 p] j fun q r=>
 (∃s t u v w x y z aa ab ac ad ae,((q=(.tuple #[.agg (sC s t u v w x y z aa ab ac ad ae).toArray,.bool true])∧
 (∀af,af=r.alloc (.cells (zC) 81 false)→
 (11=11)∧∃ag,stN af r.next 0 (sC s t u v w x y z aa ab ac ad ae)=some ag∧
 (∃ah,ld1 ag r.next 4=some (.int .u64 ah)∧
 (((ld1 ag r.next 2=some (.bool true)∧
 (∃ai,ld1 ag r.next 3=some (.int .u64 ai)∧
 (zal a fun aj ak=>(∃m28:Option Nat,ld1 ag aj (ak+2)=some (.map m28)∧
 (∃al,ld1 ag r.next 0=some (.int .u64 al)∧
 (zal a fun am an=>(∃m32:Option Nat,ld1 ag am (an+2)=some (.map m32)∧
 (∃l33:List Value,zbu Tryz.prog ag 56 (.map m32) (.int .u64 ai) false=some (.agg l33.toArray)∧
 (∃ao,zaF Tryz.prog ag 56 (.map m28) (.int .u64 al) (.agg l33.toArray)=some ao∧
 (∃ap aq ar au,ldN ao i.next 0 2=some (bC ap aq ar au)∧
 (zal a fun av aw=>((2=2)∧∃ax,stN ao av aw (bC ap aq ar au)=some ax∧
 (Q (.int .i64 0) ax)))))))))))))∨(ld1 ag r.next 2=some (.bool false)∧
 (zal a fun ay az=>(∃m44:Option Nat,ld1 ag ay (az+2)=some (.map m44)∧
 (∃a0,ld1 ag r.next 0=some (.int .u64 a0)∧
 (zal a fun a1 a2=>(∃m48:Option Nat,ld1 ag a1 (a2+2)=some (.map m48)∧
 (∃l49:List Value,zbu Tryz.prog ag 56 (.map m48) (.int .u64 ah) false=some (.agg l49.toArray)∧
 (∃a3,zaF Tryz.prog ag 56 (.map m44) (.int .u64 a0) (.agg l49.toArray)=some a3∧
 (∃a4 a5 a6 a7,ldN a3 i.next 0 2=some (bC a4 a5 a6 a7)∧
 (zal a fun a8 a9=>((2=2)∧∃ba,stN a3 a8 a9 (bC a4 a5 a6 a7)=some ba∧
 (Q (.int .i64 0) ba)))))))))))))))))∨(q=(.tuple #[.agg (sC s t u v w x y z aa ab ac ad ae).toArray,.bool false])∧
 (∀bb,bb=r.alloc (.cells (zC) 81 false)→
 (11=11)∧∃bc,stN bb r.next 0 (sC s t u v w x y z aa ab ac ad ae)=some bc∧
 (∃bd,ld1 bc r.next 4=some (.int .u64 bd)∧
 (((ld1 bc r.next 2=some (.bool true)∧
 (∃be,ld1 bc r.next 3=some (.int .u64 be)∧
 (zal a fun bf bg=>(∃m64:Option Nat,ld1 bc bf (bg+2)=some (.map m64)∧
 (∃bh,ld1 bc r.next 0=some (.int .u64 bh)∧
 (zal a fun bi bj=>(∃m68:Option Nat,ld1 bc bi (bj+2)=some (.map m68)∧
 (∃l69:List Value,zbu Tryz.prog bc 56 (.map m68) (.int .u64 be) false=some (.agg l69.toArray)∧
 (∃bk,zaF Tryz.prog bc 56 (.map m64) (.int .u64 bh) (.agg l69.toArray)=some bk∧
 (∃bl bm bn bo,ldN bk i.next 0 2=some (bC bl bm bn bo)∧
 (zal a fun bp bq=>((2=2)∧∃br,stN bk bp bq (bC bl bm bn bo)=some br∧
 (Q (.int .i64 0) br)))))))))))))∨(ld1 bc r.next 2=some (.bool false)∧
 (zal a fun bs bt=>(∃m80:Option Nat,ld1 bc bs (bt+2)=some (.map m80)∧
 (∃bu,ld1 bc r.next 0=some (.int .u64 bu)∧
 (zal a fun bv bw=>(∃m84:Option Nat,ld1 bc bv (bw+2)=some (.map m84)∧
 (∃l85:List Value,zbu Tryz.prog bc 56 (.map m84) (.int .u64 bd) false=some (.agg l85.toArray)∧
 (∃bx,zaF Tryz.prog bc 56 (.map m80) (.int .u64 bu) (.agg l85.toArray)=some bx∧
 (∃bz b0 b1 b2,ldN bx i.next 0 2=some (bC bz b0 b1 b2)∧
 (zal a fun b3 b5=>((2=2)∧∃b6,stN bx b3 b5 (bC bz b0 b1 b2)=some b6∧
 (Q (.int .i64 0) b6)))))))))))))))))))))))∧
 (¬(g:Int)=0→Q (.int .i64 g) j)):
 Wf Tryz.prog K 18 [.pointer a,.agg (bC b d e f).toArray,.int .i64 g] i Q:=
  zai (hs:=[]) hk (Eq.mpr (by kernel_rfl) H)
abbrev zbo (K:Xs) (Q:Value→AH→Prop) (b7:AH) (i:AH) (b8:Int):Prop:=
 (∃ai b9 da db al dc dd de df dg dh di dj,ldN b7 i.next 0 11=some (sC ai b9 da db al dc dd de df dg dh di dj)∧
 (Q (.tuple #[.agg (sC ai b9 da db al dc dd de df dg dh di dj).toArray,.int .i64 b8]) b7))
theorem zgb {K:Xs} (hk:K 53=none) (a:Option Addr) (b:ByteArray) (d:Int) (e:AH) (Q:Value→AH→Prop) (H:
 ∀f,f=e.alloc (.cells (zC) 81 false)→
 zal a fun g i=>(∃j k l,ld1 f g (i+1)=some (.slice j k l)∧
 (Wf Tryz.prog K 44 [.slice j k l,.string b] f fun m n=>
 (∃o p q r s t u v w x y z aa ab,m=(.tuple #[.agg (sC o p q r s t u v w x y z aa).toArray,.int .i64 ab])∧
 (∀ac,ac=n.alloc (.cells (zC) 81 false)→
 (11=11)∧∃ad,stN ac n.next 0 (sC o p q r s t u v w x y z aa)=some ad∧
 (((ab:Int)=141→(11=11)∧∃ae,stN ad e.next 0 (zC)=some ae∧
 (zbo K Q ae e ab))∧
 (¬(ab:Int)=141→((ab:Int)=0→((d:Int) < 0→(11=11)∧∃af,stN ad e.next 0 (zC)=some af∧
 (zbo K Q af e 176))∧
 (¬(d:Int) < 0→∃ag,ld1 ad n.next 6=some (.int .i64 ag)∧
 (((ag:Int)≤d→(11=11)∧∃ah,stN ad e.next 0 (zC)=some ah∧
 (zbo K Q ah e 176))∧
 (¬(ag:Int)≤d→∃ai aj ak al am an ao ap aq ar au av aw,ldN ad n.next 0 11=some (sC ai aj ak al am an ao ap aq ar au av aw)∧
 ((11=11)∧∃ax,stN ad e.next 0 (sC ai aj ak al am an ao ap aq ar au av aw)=some ax∧
 (∃ay az a0 a1 a2 a3 a4 a5 a6 a7 a8 a9 ba,ldN ax e.next 0 11=some (sC ay az a0 a1 a2 a3 a4 a5 a6 a7 a8 a9 ba)∧
 (Q (.tuple #[.agg (sC ay az a0 a1 a2 a3 a4 a5 a6 a7 a8 a9 ba).toArray,.int .i64 0]) ax)))))))∧
 (¬(ab:Int)=0→(11=11)∧∃bb,stN ad e.next 0 (zC)=some bb∧
 (zbo K Q bb e 172))))))))):
 Wf Tryz.prog K 53 [.pointer a,.string b,.int .i64 d] e Q:=
  zai (hs:=[]) hk (Eq.mpr (by kernel_rfl) H)
abbrev zbH (K:Xs) (Q:Value→AH→Prop) (ac:AH) (e:AH) (ab:Int):Prop:=
 (∃bc bd be bf bg bh bi bj bk bl bm bn bo,ldN ac e.next 0 11=some (sC bc bd be bf bg bh bi bj bk bl bm bn bo)∧
 (Q (.tuple #[.agg (sC bc bd be bf bg bh bi bj bk bl bm bn bo).toArray,.int .i64 ab]) ac))
theorem zeV {K:Xs} (hk:K 51=none) (a:Option Addr) (b:ByteArray) (d:Int) (e:AH) (Q:Value→AH→Prop) (H:
 ∀f,f=e.alloc (.cells (zC) 81 false)→
 Wf Tryz.prog K 64 [.string b] f fun g i=>
 (∃j k l,g=(.tuple #[.string j,.string k,.int .i64 l])∧
 (((l:Int)=0→(k=(ByteArray.mk #[])→Wf Tryz.prog K 53 [.pointer a,.string b,.int .i64 d] i fun m n=>
 (∃o p q r s t u v w x y z aa ab,m=(.tuple #[.agg (sC o p q r s t u v w x y z aa).toArray,.int .i64 ab])∧
 ((11=11)∧∃ac,stN n e.next 0 (sC o p q r s t u v w x y z aa)=some ac∧
 (zbH K Q ac e ab))))∧
 (¬k=(ByteArray.mk #[])→(11=11)∧∃ad,stN i e.next 0 (zC)=some ad∧
 (zbH K Q ad e 141)))∧
 (¬(l:Int)=0→(11=11)∧∃ae,stN i e.next 0 (zC)=some ae∧
 (zbH K Q ae e 141))))):
 Wf Tryz.prog K 51 [.pointer a,.string b,.int .i64 d] e Q:=
  zai (hs:=[]) hk (Eq.mpr (by kernel_rfl) H)
theorem zfE {K:Xs} (hk:K 19=none) (a:Option Addr) (b:ByteArray) (d:Int) (e:Option Addr) (f g:Nat) (h:AH) (Q:Value→AH→Prop) (H:
 Wf Tryz.prog K 51 [.pointer a,.string b,.int .i64 d] h fun i j=>
 (∃k l m n o p q r s t u v w x,i=(.tuple #[.agg (sC k l m n o p q r s t u v w).toArray,.int .i64 x])∧
 (∀y,y=j.alloc (.cells (zC) 81 false)→
 (11=11)∧∃z,stN y j.next 0 (sC k l m n o p q r s t u v w)=some z∧
 (((x:Int)=0→((128:Int) < ((f:Nat):Int)→Q (.int .i64 92) z)∧
 (¬(128:Int) < ((f:Nat):Int)→zal a fun aa ab=>(∃ac,ld1 z aa (ab+4)=some (.int .u64 ac)∧
 (∀ad:Int,ad=IntKind.wrap .u64 (ac+1)→zal a fun ae af=>(∃ag,st1 z ae (af+4) (.int .u64 ad)=some ag∧
 (zal a fun ah ai=>(∃aj,ld1 ag ah (ai+4)=some (.int .u64 aj)∧
 (∃l28:List Value,zaE Tryz.prog 107 #[(1,(.int .u64 aj))]=some (.agg l28.toArray)∧
 (∀ak,ak=ag.alloc (.cells (List.replicate 128 (.int .u8 0) ++ [.int .u64 0]:List Value) 107 false)→
 (List.length l28=129)∧∃al,stN ak ag.next 0 l28=some al∧
 (∃am an ao,zaB Tryz.prog al 39 (.pointer (some ⟨ag.next,0,none⟩)) none none none=some (.slice am an ao)∧
 (∃(ap:Int) (aq:AH),zan Tryz.prog al .copy #[34,34] [.slice am an ao,.slice e f g]=some (.int .i64 ap,aq)∧
 (∃ar,ld1 aq j.next 0=some (.int .u64 ar)∧
 (∃l37:List Value,ldN aq ag.next 0 129=some l37∧
 (Wf Tryz.prog K 52 [.pointer a,.int .u64 ar,.int .i64 d,.agg l37.toArray] aq fun au av=>
 (Q (.int .i64 0) av)))))))))))))))∧
 (¬(x:Int)=0→Q (.int .i64 x) z))))):
 Wf Tryz.prog K 19 [.pointer a,.string b,.int .i64 d,.slice e f g] h Q:=
  zai (hs:=[]) hk (Eq.mpr (by kernel_rfl) H)
theorem zgc {K:Xs} (hk:K 20=none) (a:Option Addr) (b:ByteArray) (d:Int) (h:AH) (Q:Value→AH→Prop) (H:
 Wf Tryz.prog K 51 [.pointer a,.string b,.int .i64 d] h fun e f=>
 (∃g i j k l m n o p q r s t u,e=(.tuple #[.agg (sC g i j k l m n o p q r s t).toArray,.int .i64 u])∧
 (∀v,v=f.alloc (.cells (zC) 81 false)→
 (11=11)∧∃w,stN v f.next 0 (sC g i j k l m n o p q r s t)=some w∧
 (((u:Int)=0→∃x,ld1 w f.next 0=some (.int .u64 x)∧
 (∃l19:List Value,zaE Tryz.prog 107 #[]=some (.agg l19.toArray)∧
 (Wf Tryz.prog K 52 [.pointer a,.int .u64 x,.int .i64 d,.agg l19.toArray] w fun y z=>
 (Q (.int .i64 0) z))))∧
 (¬(u:Int)=0→Q (.int .i64 u) w))))):
 Wf Tryz.prog K 20 [.pointer a,.string b,.int .i64 d] h Q:=
  zai (hs:=[]) hk (Eq.mpr (by kernel_rfl) H)
theorem zgH {K:Xs} (hk:K 52=none) (a:Option Addr) (b:Int) (d:Int) (la3:List Value) (h:AH) (Q:Value→AH→Prop) (H:
 ∀e,e=h.alloc (.cells la3 107 false)→
 zal a fun f g=>(∃m3:Option Nat,ld1 e f (g+2)=some (.map m3)∧
 (∃l4:List Value,zbu Tryz.prog e 56 (.map m3) (.int .u64 b) false=some (.agg l4.toArray)∧
 (∃i:List Value,zas Tryz.prog 108=some i∧∀j,j=e.alloc (.cells i 108 false)→
 (List.length l4=8256)∧∃k,stN j e.next 0 l4=some k∧
 (∃l8:List Value,ldN k h.next 0 129=some l8∧
 (((0:Int)≤d)∧((d:Int) < 64)∧
 ((List.length l8=129)∧∃l,stN k e.next (0+Int.toNat d * 129) l8=some l∧
 (zal a fun m n=>(∃m12:Option Nat,ld1 l m (n+2)=some (.map m12)∧
 (∃l13:List Value,ldN l e.next 0 8256=some l13∧
 (∃o,zaF Tryz.prog l 56 (.map m12) (.int .u64 b) (.agg l13.toArray)=some o∧
 (Q (.tuple #[]) o)))))))))))):
 Wf Tryz.prog K 52 [.pointer a,.int .u64 b,.int .i64 d,.agg la3.toArray] h Q:=
  zai (hs:=[]) hk (Eq.mpr (by kernel_rfl) H)
theorem zgd {K:Xs} (hk:K 21=none) (a:Option Addr) (b:ByteArray) (d:Int) (h:AH) (Q:Value→AH→Prop) (H:
 ∀e,e=h.alloc (.cells (List.replicate 128 (.int .u8 0):List Value) 39 false)→
 Wf Tryz.prog K 53 [.pointer a,.string b,.int .i64 d] e fun f g=>
 (∃i j k l m n o p q r s t u v,f=(.tuple #[.agg (sC i j k l m n o p q r s t u).toArray,.int .i64 v])∧
 (∀w,w=g.alloc (.cells (zC) 81 false)→
 (11=11)∧∃x,stN w g.next 0 (sC i j k l m n o p q r s t u)=some x∧
 (((v:Int)=0→zal a fun y z=>(∃m21:Option Nat,ld1 x y (z+2)=some (.map m21)∧
 (∃aa,ld1 x g.next 0=some (.int .u64 aa)∧
 (∃l23:List Value,zbu Tryz.prog x 56 (.map m21) (.int .u64 aa) false=some (.agg l23.toArray)∧
 (((0:Int)≤d)∧((d:Int) < 64)∧(∃l24:List Value,(List.take 129 (List.drop (Int.toNat d * 129) l23))=l24∧
 (∃l25:List Value,(List.take 128 (List.drop 0 l24))=l25∧
 ((List.length l25=128)∧∃ab,stN x h.next 0 l25=some ab∧
 (∃l27:List Value,ldN ab h.next 0 128=some l27∧
 (Q (.tuple #[.agg l27.toArray,.int .i64 0]) ab))))))))))∧
 (¬(v:Int)=0→∃l28:List Value,zaE Tryz.prog 39 #[]=some (.agg l28.toArray)∧
 ((List.length l28=128)∧∃ac,stN x h.next 0 l28=some ac∧
 (∃l30:List Value,ldN ac h.next 0 128=some l30∧
 (Q (.tuple #[.agg l30.toArray,.int .i64 v]) ac)))))))):
 Wf Tryz.prog K 21 [.pointer a,.string b,.int .i64 d] h Q:=
  zai (hs:=[]) hk (Eq.mpr (by kernel_rfl) H)
theorem zge {K:Xs} (hk:K 25=none) (a:Option Addr) (b:ByteArray) (h:AH) (Q:Value→AH→Prop) (H:
 zal a fun d e=>(∃f g i j,ldN h d e 2=some (bC f g i j)∧
 (Wf Tryz.prog K 63 [.agg (bC f g i j).toArray,.string b] h fun k l=>
 (∃m n o p q r s t u v w x y z aa ab ac ad,k=(.tuple #[.agg (bC m n o p).toArray,.agg (sC q r s t u v w x y z aa ab ac).toArray,.int .i64 ad])∧
 (∀ae,ae=l.alloc (.cells [.int .u64 0,.slice none 0 0] 29 false)→
 ∀af,af=ae.alloc (.cells (zC) 81 false)→
 (2=2)∧∃ag,stN af l.next 0 (bC m n o p)=some ag∧
 ((11=11)∧∃ah,stN ag ae.next 0 (sC q r s t u v w x y z aa ab ac)=some ah∧
 (((ad:Int)=0→zal a fun ai aj=>(∃m32:Option Nat,ld1 ah ai (aj+2)=some (.map m32)∧
 (∃ak,ld1 ah ae.next 0=some (.int .u64 ak)∧
 (zal a fun al am=>(∃m36:Option Nat,ld1 ah al (am+2)=some (.map m36)∧
 (∃an,ld1 ah ae.next 4=some (.int .u64 an)∧
 (∃l38:List Value,zbu Tryz.prog ah 56 (.map m36) (.int .u64 an) false=some (.agg l38.toArray)∧
 (∃ao,zaF Tryz.prog ah 56 (.map m32) (.int .u64 ak) (.agg l38.toArray)=some ao∧
 (∃ap aq ar au,ldN ao l.next 0 2=some (bC ap aq ar au)∧
 (zal a fun av aw=>((2=2)∧∃ax,stN ao av aw (bC ap aq ar au)=some ax∧
 (Q (.int .i64 0) ax))))))))))))∧
 (¬(ad:Int)=0→Q (.int .i64 ad) ah)))))))):
 Wf Tryz.prog K 25 [.pointer a,.string b] h Q:=
  zai (hs:=[]) hk (Eq.mpr (by kernel_rfl) H)
theorem zer {K:Xs} (hk:K 26=none) (a:Option Addr) (b:ByteArray) (d:AH) (Q:Value→AH→Prop) (H:
 Wf Tryz.prog K 64 [.string b] d fun e f=>
 (∃g i j,e=(.tuple #[.string g,.string i,.int .i64 j])∧
 (((j:Int)=0→zal a fun k l=>(∃m n o,ld1 f k (l+1)=some (.slice m n o)∧
 (Wf Tryz.prog K 44 [.slice m n o,.string b] f fun p q=>
 (∃r s t u v w x y z aa ab ac ad ae,p=(.tuple #[.agg (sC r s t u v w x y z aa ab ac ad).toArray,.int .i64 ae])∧
 (∀af,af=q.alloc (.cells (zC) 81 false)→
 (11=11)∧∃ag,stN af q.next 0 (sC r s t u v w x y z aa ab ac ad)=some ag∧
 (∀ah,ah=ag.alloc (.cells [.int .u64 0,.slice none 0 0] 29 false)→
 (i=(ByteArray.mk #[])→zal a fun ai aj=>(∃ak al am an,ldN ah ai aj 2=some (bC ak al am an)∧
 (Wf Tryz.prog K 65 [.agg (bC ak al am an).toArray,.string b] ah fun ao ap=>
 (∃aq ar au av aw ax ay az a0 a1 a2 a3 a4 a5 a6 a7 a8 a9,ao=(.tuple #[.agg (bC aq ar au av).toArray,.agg (sC aw ax ay az a0 a1 a2 a3 a4 a5 a6 a7 a8).toArray,.int .i64 a9])∧
 ((2=2)∧∃ba,stN ap ag.next 0 (bC aq ar au av)=some ba∧
 (((a9:Int)=0→zal a fun bb bc=>(∃m58:Option Nat,ld1 ba bb (bc+2)=some (.map m58)∧
 (∃bd,ld1 ba q.next 0=some (.int .u64 bd)∧
 (∃be,zan Tryz.prog ba .delete #[56,26] [(.map m58),.int .u64 bd]=some (undef,be)∧
 (∃bf bg bh bi,ldN be ag.next 0 2=some (bC bf bg bh bi)∧
 (zal a fun bj bk=>((2=2)∧∃bl,stN be bj bk (bC bf bg bh bi)=some bl∧
 (Q (.int .i64 0) bl))))))))∧
 (¬(a9:Int)=0→Q (.int .i64 a9) ba)))))))∧
 (¬i=(ByteArray.mk #[])→zal a fun bm bn=>(∃bo bp bq br,ldN ah bm bn 2=some (bC bo bp bq br)∧
 (Wf Tryz.prog K 66 [.agg (bC bo bp bq br).toArray,.string b] ah fun bs bt=>
 (∃bu bv bw bx bz b0 b1 b2,bs=(.tuple #[.agg (bC bu bv bw bx).toArray,.slice bz b0 b1,.int .i64 b2])∧
 ((2=2)∧∃b3,stN bt ag.next 0 (bC bu bv bw bx)=some b3∧
 (((b2:Int)=0→zal a fun b4 b6=>(∃m87:Option Nat,ld1 b3 b4 (b6+2)=some (.map m87)∧
 (∃b7,ld1 b3 q.next 0=some (.int .u64 b7)∧
 (∃b8,zan Tryz.prog b3 .delete #[56,26] [(.map m87),.int .u64 b7]=some (undef,b8)∧
 (∃b9 da db dc,ldN b8 ag.next 0 2=some (bC b9 da db dc)∧
 (zal a fun dd de=>((2=2)∧∃df,stN b8 dd de (bC b9 da db dc)=some df∧
 (Q (.int .i64 0) df))))))))∧
 (¬(b2:Int)=0→Q (.int .i64 b2) b3)))))))))))))∧
 (¬(j:Int)=0→Q (.int .i64 141) f)))):
 Wf Tryz.prog K 26 [.pointer a,.string b] d Q:=
  zai (hs:=[]) hk (Eq.mpr (by kernel_rfl) H)
theorem zgf {K:Xs} (hk:K 10=none) (a:Option Addr) (h:AH) (Q:Value→AH→Prop) (H:
 zal a fun b d=>(∃e f g,ld1 h b (d+1)=some (.slice e f g)∧
 (∃i:Option Addr→Nat→Nat→Int→Nat→AH→Prop,(∃n,i none 0 0 0 n h)∧
 ∀(j:Nat) (k:AH),∀(l:Option Addr) (m:Nat) (o:Nat),∀(p:Int),i l m o p j k→
 ((p:Int) < ((f:Nat):Int)→zal e fun q r=>(((0:Int)≤p)∧((p:Int) < ((f:Nat):Int))∧
 (∃s,ld1 k q (r+Int.toNat p * 11)=some (.int .u64 s)∧
 (Wf Tryz.prog K 40 [.slice e f g,.int .u64 s] k fun t u=>
 (∃v,t=(.string v)∧
 (∃w,ld1 u q ((r+Int.toNat p * 11)+6)=some (.int .i64 w)∧
 (∀x,x=u.alloc (.cells [(.string (ByteArray.mk #[])),.int .i64 0,.int .i64 0,(.string (ByteArray.mk #[]))] 98 false)→
 (4=4)∧∃y,stN x u.next 0 [.string v,.int .i64 w,.int .i64 0,(.string (ByteArray.mk #[]))]=some y∧
 ((ld1 k q ((r+Int.toNat p * 11)+6)=some (.int .i64 w))∧
 ((ld1 u q ((r+Int.toNat p * 11)+6)=some (.int .i64 w))∧
 (((ld1 y q ((r+Int.toNat p * 11)+2)=some (.bool true)∧
 (∃z aa ab ac,ldN y u.next 0 4=some [.string z,.int .i64 aa,.int .i64 ab,.string ac]∧
 (∀ad,ad=y.alloc (.cells [.string z,.int .i64 aa,.int .i64 ab,.string ac] 98 false)→
 ∃ae af ag ah,zan Tryz.prog ad .append #[46,46] [.slice l m o,(.slice (some ⟨y.next,0,none⟩) 1 1)]=some (.slice ae af ag,ah)∧
 (∀ai:Int,ai=IntKind.wrap .i64 (p+1)→∃aj,aj < j∧i ae af ag ai aj ah))))∨(ld1 y q ((r+Int.toNat p * 11)+2)=some (.bool false)∧
 (∃ak,ld1 y q (r+Int.toNat p * 11)=some (.int .u64 ak)∧
 (Wf Tryz.prog K 41 [.slice e f g,.int .u64 ak] y fun al am=>
 (∃an,al=(.int .u64 an)∧
 (Wf Tryz.prog K 40 [.slice e f g,.int .u64 an] am fun ao ap=>
 (∃aq,ao=(.string aq)∧
 (∃ar,st1 ap u.next 3 (.string aq)=some ar∧
 (∃au av aw ax,ldN ar u.next 0 4=some [.string au,.int .i64 av,.int .i64 aw,.string ax]∧
 (∀ay,ay=ar.alloc (.cells [.string au,.int .i64 av,.int .i64 aw,.string ax] 98 false)→
 ∃az a0 a1 a2,zan Tryz.prog ay .append #[46,46] [.slice l m o,(.slice (some ⟨ar.next,0,none⟩) 1 1)]=some (.slice az a0 a1,a2)∧
 (∀a3:Int,a3=IntKind.wrap .i64 (p+1)→∃aj,aj < j∧i az a0 a1 a3 aj a2)))))))))))))))))))))∧
 (¬(p:Int) < ((f:Nat):Int)→Q (.slice l m o) k)))):
 Wf Tryz.prog K 10 [.pointer a] h Q:=
  zai (hs:=[(4,[(4,.slice none 0 0),(15,.int .i64 0)])]) hk (Eq.mpr (by kernel_rfl) H)
theorem zes {K:Xs} (hk:K 15=none) (a:Option Addr) (b:ByteArray) (h:AH) (Q:Value→AH→Prop) (H:
 zal a fun d e=>(∃f g i,ld1 h d (e+1)=some (.slice f g i)∧
 (Wf Tryz.prog K 44 [.slice f g i,.string b] h fun j k=>
 (∃l m o p q r s t u v w x y z,j=(.tuple #[.agg (sC l m o p q r s t u v w x y).toArray,.int .i64 z])∧
 (∀aa,aa=k.alloc (.cells (zC) 81 false)→
 (11=11)∧∃ab,stN aa k.next 0 (sC l m o p q r s t u v w x y)=some ab∧
 (((z:Int)=0→zal a fun ac ad=>(∃m25:Option Nat,ld1 ab ac (ad+2)=some (.map m25)∧
 (∃ae,ld1 ab k.next 0=some (.int .u64 ae)∧
 (∃l27:List Value,zbu Tryz.prog ab 56 (.map m25) (.int .u64 ae) false=some (.agg l27.toArray)∧
 (∃af:Option Addr→Nat→Nat→Int→Nat→AH→Prop,(∃n,af none 0 0 0 n ab)∧
 ∀(ag:Nat) (ah:AH),∀(ai:Option Addr) (aj:Nat) (ak:Nat),∀(al:Int),af ai aj ak al ag ah→
 ((al:Int) < 64→((0:Int)≤al)∧((al:Int) < 64)∧(∃l36:List Value,(List.take 129 (List.drop (Int.toNat al * 129) l27))=l36∧
 (∀am,am=ah.alloc (.cells (List.replicate 128 (.int .u8 0) ++ [.int .u64 0]:List Value) 107 false)→
 (List.length l36=129)∧∃an,stN am ah.next 0 l36=some an∧
 (∃ao,ld1 an ah.next 128=some (.int .u64 ao)∧
 (((ao:Int)=0→∀ap:Int,ap=IntKind.wrap .i64 (al+1)→∃aq,aq < ag∧af ai aj ak ap aq an)∧
 (¬(ao:Int)=0→∀ar,ar=an.alloc (.cells [.int .i64 al] 3 false)→
 ∃au av aw ax,zan Tryz.prog ar .append #[52,52] [.slice ai aj ak,(.slice (some ⟨an.next,0,none⟩) 1 1)]=some (.slice au av aw,ax)∧
 (∀ay:Int,ay=IntKind.wrap .i64 (al+1)→∃aq,aq < ag∧af au av aw ay aq ax)))))))∧
 (¬(al:Int) < 64→Q (.slice ai aj ak) ah))))))∧
 (¬(z:Int)=0→Q (.slice none 0 0) ab))))))):
 Wf Tryz.prog K 15 [.pointer a,.string b] h Q:=
  zai (hs:=[(6,[(7,.slice none 0 0),(29,.int .i64 0)])]) hk (Eq.mpr (by kernel_rfl) H)
theorem zdL {K:Xs} (hk:K 9=none) (a:Option Addr) (b d:Nat) (e:Option Addr) (f g:Nat) (h:AH) (Q:Value→AH→Prop) (H:
 ((((b:Nat):Int):Int)=((f:Nat):Int)→∃i:Int→Nat→AH→Prop,(∃n,i 0 n h)∧
 ∀(j:Nat) (k:AH),∀(l:Int),i l j k→
 ((l:Int) < ((b:Nat):Int)→zal a fun m o=>(((0:Int)≤l)∧((l:Int) < ((b:Nat):Int))∧
 (∃p q r s,ldN k m (o+Int.toNat l * 4) 4=some [.string p,.int .i64 q,.int .i64 r,.string s]∧
 (zal e fun t u=>(((0:Int)≤l)∧((l:Int) < ((f:Nat):Int))∧
 (∃v w x y,ldN k t (u+Int.toNat l * 4) 4=some [.string v,.int .i64 w,.int .i64 x,.string y]∧
 (∃la17 lb18,zdx Tryz.prog 98 (.agg #[.string p,.int .i64 q,.int .i64 r,.string s])=some la17∧zdx Tryz.prog 98 (.agg #[.string v,.int .i64 w,.int .i64 x,.string y])=some lb18∧
 (zaN la17 lb18=true→∀z:Int,z=IntKind.wrap .i64 (l+1)→∃aa,aa < j∧i z aa k)∧
 (zaN la17 lb18=false→Q (.bool false) k))))))))∧
 (¬(l:Int) < ((b:Nat):Int)→Q (.bool true) k))∧
 (¬(((b:Nat):Int):Int)=((f:Nat):Int)→Q (.bool false) h)):
 Wf Tryz.prog K 9 [.slice a b d,.slice e f g] h Q:=
  zai (hs:=[(4,[(13,.int .i64 0)])]) hk (Eq.mpr (by kernel_rfl) H)
theorem zdM {K:Xs} (hk:K 14=none) (a:Option Addr) (b d:Nat) (e:Option Addr) (f g:Nat) (h:AH) (Q:Value→AH→Prop) (H:
 ((((b:Nat):Int):Int)=((f:Nat):Int)→∃i:Int→Nat→AH→Prop,(∃n,i 0 n h)∧
 ∀(j:Nat) (k:AH),∀(l:Int),i l j k→
 ((l:Int) < ((b:Nat):Int)→zal a fun m o=>(((0:Int)≤l)∧((l:Int) < ((b:Nat):Int))∧
 (∃p,ld1 k m (o+Int.toNat l * 1)=some (.int .i64 p)∧
 (zal e fun q r=>(((0:Int)≤l)∧((l:Int) < ((f:Nat):Int))∧
 (∃s,ld1 k q (r+Int.toNat l * 1)=some (.int .i64 s)∧
 (((p:Int)=s→∀t:Int,t=IntKind.wrap .i64 (l+1)→∃u,u < j∧i t u k)∧
 (¬(p:Int)=s→Q (.bool false) k))))))))∧
 (¬(l:Int) < ((b:Nat):Int)→Q (.bool true) k))∧
 (¬(((b:Nat):Int):Int)=((f:Nat):Int)→Q (.bool false) h)):
 Wf Tryz.prog K 14 [.slice a b d,.slice e f g] h Q:=
  zai (hs:=[(4,[(13,.int .i64 0)])]) hk (Eq.mpr (by kernel_rfl) H)
end Go.Am
