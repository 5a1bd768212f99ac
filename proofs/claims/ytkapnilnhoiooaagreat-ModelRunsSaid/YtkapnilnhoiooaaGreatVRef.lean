/-
  WEAKEST CONDITIONS of some functions of this program, printed by a program.
-/
import Derived.Test.YtkapnilnhoiooaaGreatVAbb
import Derived.Test.YtkapnilnhoiooaaGreatRows
set_option linter.unusedVariables false
set_option maxRecDepth 100000
namespace Go.Am
open Go.Proofs
theorem zfv {K:Xs} (hk:K 75=none) (a:Option Addr) (b d:Nat) (e:Int) (f:AH) (Q:Value→AH→Prop) (H:
 ∀g,g=f.alloc (.cells (zC) 81 false)→
 ∃i:Int→Nat→AH→Prop,(∃n,i 0 n g)∧
 ∀(j:Nat) (k:AH),∀(l:Int),i l j k→
 ((l:Int) < ((b:Nat):Int)→zal a fun m o=>(((0:Int)≤l)∧((l:Int) < ((b:Nat):Int))∧
 (∃p q r s t u v w x y z aa ab,ldN k m (o+Int.toNat l * 11) 11=some (sC p q r s t u v w x y z aa ab)∧
 (∀ac,ac=k.alloc (.cells (zC) 81 false)→
 (11=11)∧∃ad,stN ac k.next 0 (sC p q r s t u v w x y z aa ab)=some ad∧
 (∃ae,ld1 ad k.next 0=some (.int .u64 ae)∧
 (((ae:Int)=e→∃af ag ah ai aj ak al am an ao ap aq ar,ldN ad k.next 0 11=some (sC af ag ah ai aj ak al am an ao ap aq ar)∧
 ((11=11)∧∃au,stN ad f.next 0 (sC af ag ah ai aj ak al am an ao ap aq ar)=some au∧
 (∃av aw ax ay az a0 a1 a2 a3 a4 a5 a6 a7,ldN au f.next 0 11=some (sC av aw ax ay az a0 a1 a2 a3 a4 a5 a6 a7)∧
 (Q (.tuple #[.agg (sC av aw ax ay az a0 a1 a2 a3 a4 a5 a6 a7).toArray,.bool true]) au))))∧
 (¬(ae:Int)=e→∀a8:Int,a8=IntKind.wrap .i64 (l+1)→∃a9,a9 < j∧i a8 a9 ad)))))))∧
 (¬(l:Int) < ((b:Nat):Int)→(11=11)∧∃ba,stN k f.next 0 (zC)=some ba∧
 (∃bb bc bd be bf bg bh bi bj bk bl bm bn,ldN ba f.next 0 11=some (sC bb bc bd be bf bg bh bi bj bk bl bm bn)∧
 (Q (.tuple #[.agg (sC bb bc bd be bf bg bh bi bj bk bl bm bn).toArray,.bool false]) ba)))):
 Wf Tryz.prog K 75 [.slice a b d,.int .u64 e] f Q:=
  zai (hs:=[(2,[(10,.int .i64 0)])]) hk (Eq.mpr (by kernel_rfl) H)
abbrev zcw (K:Xs) (Q:Value→AH→Prop) (al:Int) (bo:ByteArray) (bp:Bool) (ao:Int) (bq:Int) (br:Int) (bs:Int) (bt:Int) (av:Int) (bu:Int) (bv:Option Addr) (bw:Nat) (bx:Nat) (bz:AH) (f:AH):Prop:=
 ((11=11)∧∃b0,stN bz f.next 0 (sC al bo bp ao bq br bs bt av bu bv bw bx)=some b0∧
 (∃a1 b1 b2 a4 b3 b4 b5 a8 b7 bb b8 b9 da,ldN b0 f.next 0 11=some (sC a1 b1 b2 a4 b3 b4 b5 a8 b7 bb b8 b9 da)∧
 (Q (.tuple #[.agg (sC a1 b1 b2 a4 b3 b4 b5 a8 b7 bb b8 b9 da).toArray,.int .i64 0]) b0)))
abbrev zcx (K:Xs) (Q:Value→AH→Prop) (db:AH) (f:AH) (dc:Int):Prop:=
 (∃dd de df dg dh di dj dk dl dm dn dp dq,ldN db f.next 0 11=some (sC dd de df dg dh di dj dk dl dm dn dp dq)∧
 (Q (.tuple #[.agg (sC dd de df dg dh di dj dk dl dm dn dp dq).toArray,.int .i64 dc]) db))
theorem zeL {K:Xs} (hk:K 45=none) (a:Option Addr) (b d:Nat) (e:ByteArray) (f:AH) (Q:Value→AH→Prop) (H:
 ∀g,g=f.alloc (.cells (zC) 81 false)→
 Wf Tryz.prog K 27 [.string e] g fun i j=>
 (∃k l m,i=(.tuple #[.string k,.string l,.int .i64 m])∧
 (((m:Int)=0→∃o:Int→Nat→AH→Prop,(∃n,o 0 n j)∧
 ∀(p:Nat) (q:AH),∀(r:Int),o r p q→
 ((r:Int) < ((b:Nat):Int)→zal a fun s t=>(((0:Int)≤r)∧((r:Int) < ((b:Nat):Int))∧
 (∃u v w x y z aa ab ac ad ae af ag,ldN q s (t+Int.toNat r * 11) 11=some (sC u v w x y z aa ab ac ad ae af ag)∧
 (∀ah,ah=q.alloc (.cells (zC) 81 false)→
 (11=11)∧∃ai,stN ah q.next 0 (sC u v w x y z aa ab ac ad ae af ag)=some ai∧
 (((ld1 ai q.next 2=some (.bool true)∧
 (∀aj:Int,aj=IntKind.wrap .i64 (r+1)→∃ak,ak < p∧o aj ak ai))∨(ld1 ai q.next 2=some (.bool false)∧
 (∃al,ld1 ai q.next 1=some (.string al)∧
 ((al=k→(l=(ByteArray.mk #[])→∃am an ao ap aq ar au av aw ax ay az a0,ldN ai q.next 0 11=some (sC am an ao ap aq ar au av aw ax ay az a0)∧
 (zcw K Q am an ao ap aq ar au av aw ax ay az a0 ai f))∧
 (¬l=(ByteArray.mk #[])→∃a1:Int→Nat→AH→Prop,(∃n,a1 0 n ai)∧
 ∀(a2:Nat) (a3:AH),∀(a4:Int),a1 a4 a2 a3→
 ((a4:Int) < ((b:Nat):Int)→zal a fun a5 a6=>(((0:Int)≤a4)∧((a4:Int) < ((b:Nat):Int))∧
 (∃a7 a8 a9 ba bb bc bd be bf bg bh bi bj,ldN a3 a5 (a6+Int.toNat a4 * 11) 11=some (sC a7 a8 a9 ba bb bc bd be bf bg bh bi bj)∧
 (∀bk,bk=a3.alloc (.cells (zC) 81 false)→
 (11=11)∧∃bl,stN bk a3.next 0 (sC a7 a8 a9 ba bb bc bd be bf bg bh bi bj)=some bl∧
 (((ld1 bl a3.next 2=some (.bool true)∧
 (∃bm,ld1 bl a3.next 3=some (.int .u64 bm)∧
 (∃bn,ld1 bl q.next 0=some (.int .u64 bn)∧
 (((bm:Int)=bn→∃bo,ld1 bl a3.next 1=some (.string bo)∧
 ((bo=l→∃bp bq br bs bt bu bv bw bx bz b0 b1 b2,ldN bl a3.next 0 11=some (sC bp bq br bs bt bu bv bw bx bz b0 b1 b2)∧
 (zcw K Q bp bq br bs bt bu bv bw bx bz b0 b1 b2 bl f))∧
 (¬bo=l→∀b3:Int,b3=IntKind.wrap .i64 (a4+1)→∃b4,b4 < a2∧a1 b3 b4 bl)))∧
 (¬(bm:Int)=bn→∀b5:Int,b5=IntKind.wrap .i64 (a4+1)→∃b4,b4 < a2∧a1 b5 b4 bl)))))∨(ld1 bl a3.next 2=some (.bool false)∧
 (∀b6:Int,b6=IntKind.wrap .i64 (a4+1)→∃b4,b4 < a2∧a1 b6 b4 bl))))))))∧
 (¬(a4:Int) < ((b:Nat):Int)→∀b7:Int,b7=IntKind.wrap .i64 (r+1)→∃ak,ak < p∧o b7 ak a3)))∧
 (¬al=k→∀b8:Int,b8=IntKind.wrap .i64 (r+1)→∃ak,ak < p∧o b8 ak ai))))))))))∧
 (¬(r:Int) < ((b:Nat):Int)→(11=11)∧∃b9,stN q f.next 0 (zC)=some b9∧
 (zcx K Q b9 f 161)))∧
 (¬(m:Int)=0→(11=11)∧∃da,stN j f.next 0 (zC)=some da∧
 (zcx K Q da f 141))))):
 Wf Tryz.prog K 45 [.slice a b d,.string e] f Q:=
  zai (hs:=[(5,[(24,.int .i64 0)]),(11,[(41,.int .i64 0)])]) hk (Eq.mpr (by kernel_rfl) H)
abbrev zcF (K:Xs) (Q:Value→AH→Prop) (db:AH) (ab:Int) (dc:ByteArray) (dd:Bool) (de:Int) (df:Int) (dg:Int) (dh:Int) (di:Int) (aj:Int) (dj:Int) (dk:Option Addr) (dl:Nat) (dm:Nat) (dn:AH):Prop:=
 (∀dp,dp=db.alloc (.cells (zC) 81 false)→
 (11=11)∧∃dq,stN dp db.next 0 (sC ab dc dd de df dg dh di aj dj dk dl dm)=some dq∧
 (∃dr,ld1 dq db.next 1=some (.string dr)∧
 ((((ByteArray.size dr+ByteArray.size (ByteArray.mk #[64]):Nat):Int)≤9223372036854775807)∧∀ds:ByteArray,ds=dr ++ (ByteArray.mk #[64])→∃dt,ld1 dq dn.next 1=some (.string dt)∧
 ((((ByteArray.size ds+ByteArray.size dt:Nat):Int)≤9223372036854775807)∧∀du:ByteArray,du=ds ++ dt→Q (.string du) dq))))
theorem zfw {K:Xs} (hk:K 43=none) (a:Option Addr) (b d:Nat) (e:Int) (f:AH) (Q:Value→AH→Prop) (H:
 Wf Tryz.prog K 75 [.slice a b d,.int .u64 e] f fun g i=>
 (∃j k l m n o p q r s t u v,((g=(.tuple #[.agg (sC j k l m n o p q r s t u v).toArray,.bool true])∧
 (∀w,w=i.alloc (.cells (zC) 81 false)→
 (11=11)∧∃x,stN w i.next 0 (sC j k l m n o p q r s t u v)=some x∧
 (((ld1 x i.next 2=some (.bool true)∧
 (∃y,ld1 x i.next 3=some (.int .u64 y)∧
 (Wf Tryz.prog K 75 [.slice a b d,.int .u64 y] x fun z aa=>
 (∃ab ac ad ae af ag ah ai aj ak al am an,((z=(.tuple #[.agg (sC ab ac ad ae af ag ah ai aj ak al am an).toArray,.bool true])∧
 (zcF K Q aa ab ac ad ae af ag ah ai aj ak al am an i))∨(z=(.tuple #[.agg (sC ab ac ad ae af ag ah ai aj ak al am an).toArray,.bool false])∧
 (zcF K Q aa ab ac ad ae af ag ah ai aj ak al am an i)))))))∨(ld1 x i.next 2=some (.bool false)∧
 (∃ao,ld1 x i.next 1=some (.string ao)∧
 (Q (.string ao) x)))))))∨(g=(.tuple #[.agg (sC j k l m n o p q r s t u v).toArray,.bool false])∧
 (∀ap,ap=i.alloc (.cells (zC) 81 false)→
 (11=11)∧∃aq,stN ap i.next 0 (sC j k l m n o p q r s t u v)=some aq∧
 (Q (.string (ByteArray.mk #[])) aq)))))):
 Wf Tryz.prog K 43 [.slice a b d,.int .u64 e] f Q:=
  zai (hs:=[]) hk (Eq.mpr (by kernel_rfl) H)
abbrev zcG (K:Xs) (ar:Int) (e:Int) (ap:AH) (au:AH) (av:Option Addr) (aw:Nat) (ax:Nat) (ak:Int) (ay:Nat) (az:Option Addr→Nat→Nat→Option Addr→Nat→Nat→Int→Nat→AH→Prop) (a0:Option Addr) (a1:Nat) (a2:Nat):Prop:=
 (((ar:Int)=e→∃a3,ld1 ap au.next 0=some (.int .u64 a3)∧
 (∀a4,a4=ap.alloc (.cells [.int .u64 a3] 26 false)→
 ∃a5 a6 a7 a8,zan Tryz.prog a4 .append #[102,102] [.slice av aw ax,(.slice (some ⟨ap.next,0,none⟩) 1 1)]=some (.slice a5 a6 a7,a8)∧
 (∀a9:Int,a9=IntKind.wrap .i64 (ak+1)→∃ba,ba < ay∧az a0 a1 a2 a5 a6 a7 a9 ba a8)))∧
 (¬(ar:Int)=e→∀bb:Int,bb=IntKind.wrap .i64 (ak+1)→∃ba,ba < ay∧az a0 a1 a2 av aw ax bb ba ap))
theorem zfx {K:Xs} (hk:K 76=none) (a:Option Addr) (b d:Nat) (e:Int) (f:AH) (Q:Value→AH→Prop) (H:
 ∀g,g=f.alloc (.cells [] 26 false)→
 ∀i,i=g.alloc (.cells [] 26 false)→
 Wf Tryz.prog K 75 [.slice a b d,.int .u64 e] i fun j k=>
 (∃l m o p q r s t u v w x y,((j=(.tuple #[.agg (sC l m o p q r s t u v w x y).toArray,.bool true])∧
 (∀z,z=k.alloc (.cells (zC) 81 false)→
 (11=11)∧∃aa,stN z k.next 0 (sC l m o p q r s t u v w x y)=some aa∧
 (((ld1 aa k.next 2=some (.bool true)∧
 (∃ab:Option Addr→Nat→Nat→Option Addr→Nat→Nat→Int→Nat→AH→Prop,(∃n,ab (some ⟨f.next,0,none⟩) 0 0 (some ⟨g.next,0,none⟩) 0 0 0 n aa)∧
 ∀(ac:Nat) (ad:AH),∀(ae:Option Addr) (af:Nat) (ag:Nat),∀(ah:Option Addr) (ai:Nat) (aj:Nat),∀(ak:Int),ab ae af ag ah ai aj ak ac ad→
 ((ak:Int) < ((b:Nat):Int)→zal a fun al am=>(((0:Int)≤ak)∧((ak:Int) < ((b:Nat):Int))∧
 (∃an ao ap aq ar au av aw ax ay az a0 a1,ldN ad al (am+Int.toNat ak * 11) 11=some (sC an ao ap aq ar au av aw ax ay az a0 a1)∧
 (∀a2,a2=ad.alloc (.cells (zC) 81 false)→
 (11=11)∧∃a3,stN a2 ad.next 0 (sC an ao ap aq ar au av aw ax ay az a0 a1)=some a3∧
 (∃a4,ld1 a3 ad.next 4=some (.int .u64 a4)∧
 (((a4:Int)=e→∃a5,ld1 a3 ad.next 3=some (.int .u64 a5)∧
 (∃a6,ld1 a3 k.next 3=some (.int .u64 a6)∧
 (((a5:Int)=a6→∃a7,ld1 a3 ad.next 0=some (.int .u64 a7)∧
 (∀a8,a8=a3.alloc (.cells [.int .u64 a7] 26 false)→
 ∃a9 ba bb bc,zan Tryz.prog a8 .append #[102,102] [.slice ae af ag,(.slice (some ⟨a3.next,0,none⟩) 1 1)]=some (.slice a9 ba bb,bc)∧
 (∀bd:Int,bd=IntKind.wrap .i64 (ak+1)→∃be,be < ac∧ab a9 ba bb ah ai aj bd be bc)))∧
 (¬(a5:Int)=a6→∃bf,ld1 a3 ad.next 4=some (.int .u64 bf)∧
 (zcG K bf e a3 ad ah ai aj ak ac ab ae af ag)))))∧
 (¬(a4:Int)=e→∃bg,ld1 a3 ad.next 4=some (.int .u64 bg)∧
 (zcG K bg e a3 ad ah ai aj ak ac ab ae af ag))))))))∧
 (¬(ak:Int) < ((b:Nat):Int)→Q (.tuple #[.slice ae af ag,.slice ah ai aj]) ad)))∨(ld1 aa k.next 2=some (.bool false)∧
 (Q (.tuple #[(.slice (some ⟨f.next,0,none⟩) 0 0),(.slice (some ⟨g.next,0,none⟩) 0 0)]) aa))))))∨(j=(.tuple #[.agg (sC l m o p q r s t u v w x y).toArray,.bool false])∧
 (∀bh,bh=k.alloc (.cells (zC) 81 false)→
 (11=11)∧∃bi,stN bh k.next 0 (sC l m o p q r s t u v w x y)=some bi∧
 (Q (.tuple #[(.slice (some ⟨f.next,0,none⟩) 0 0),(.slice (some ⟨g.next,0,none⟩) 0 0)]) bi)))))):
 Wf Tryz.prog K 76 [.slice a b d,.int .u64 e] f Q:=
  zai (hs:=[(7,[(6,.slice none 0 0),(7,.slice none 0 0),(31,.int .i64 0)])]) hk (Eq.mpr (by kernel_rfl) H)
theorem zfy {K:Xs} (hk:K 42=none) (a:Option Addr) (b d:Nat) (e:Int) (f:AH) (Q:Value→AH→Prop) (H:
 ∀g,g=f.alloc (.cells [] 26 false)→
 Wf Tryz.prog K 75 [.slice a b d,.int .u64 e] g fun i j=>
 (∃k l m o p q r s t u v w x,((i=(.tuple #[.agg (sC k l m o p q r s t u v w x).toArray,.bool true])∧
 (∀y,y=j.alloc (.cells (zC) 81 false)→
 (11=11)∧∃z,stN y j.next 0 (sC k l m o p q r s t u v w x)=some z∧
 (((ld1 z j.next 2=some (.bool true)∧
 (Q (.tuple #[(.slice (some ⟨f.next,0,none⟩) 0 0),.int .u64 0]) z))∨(ld1 z j.next 2=some (.bool false)∧
 (∃aa,ld1 z j.next 4=some (.int .u64 aa)∧
 (∃ab:Option Addr→Nat→Nat→Int→Int→Nat→AH→Prop,(∃n,ab (some ⟨f.next,0,none⟩) 0 0 aa 0 n z)∧
 ∀(ac:Nat) (ad:AH),∀(ae:Option Addr) (af:Nat) (ag:Nat),∀(ah:Int),∀(ai:Int),ab ae af ag ah ai ac ad→
 ((ai:Int) < ((b:Nat):Int)→Wf Tryz.prog K 75 [.slice a b d,.int .u64 ah] ad fun aj ak=>
 (∃al am an ao ap aq ar au av aw ax ay az,((aj=(.tuple #[.agg (sC al am an ao ap aq ar au av aw ax ay az).toArray,.bool true])∧
 (∀a0,a0=ak.alloc (.cells (zC) 81 false)→
 (11=11)∧∃a1,stN a0 ak.next 0 (sC al am an ao ap aq ar au av aw ax ay az)=some a1∧
 (∃a2,ld1 a1 ak.next 3=some (.int .u64 a2)∧
 (((a2:Int)=e→∀a3,a3=a1.alloc (.cells [.int .u64 ah] 26 false)→
 ∃a4 a5 a6 a7,zan Tryz.prog a3 .append #[102,102] [.slice ae af ag,(.slice (some ⟨a1.next,0,none⟩) 1 1)]=some (.slice a4 a5 a6,a7)∧
 (∃a8,ld1 a7 ak.next 4=some (.int .u64 a8)∧
 (∀a9:Int,a9=IntKind.wrap .i64 (ai+1)→∃ba,ba < ac∧ab a4 a5 a6 a8 a9 ba a7)))∧
 (¬(a2:Int)=e→Q (.tuple #[.slice ae af ag,.int .u64 ah]) a1)))))∨(aj=(.tuple #[.agg (sC al am an ao ap aq ar au av aw ax ay az).toArray,.bool false])∧
 (∀bb,bb=ak.alloc (.cells (zC) 81 false)→
 (11=11)∧∃bc,stN bb ak.next 0 (sC al am an ao ap aq ar au av aw ax ay az)=some bc∧
 (Q (.tuple #[.slice ae af ag,.int .u64 ah]) bc))))))∧
 (¬(ai:Int) < ((b:Nat):Int)→Q (.tuple #[.slice ae af ag,.int .u64 ah]) ad))))))))∨(i=(.tuple #[.agg (sC k l m o p q r s t u v w x).toArray,.bool false])∧
 (∀bd,bd=j.alloc (.cells (zC) 81 false)→
 (11=11)∧∃be,stN bd j.next 0 (sC k l m o p q r s t u v w x)=some be∧
 (Q (.tuple #[(.slice (some ⟨f.next,0,none⟩) 0 0),.int .u64 0]) be)))))):
 Wf Tryz.prog K 42 [.slice a b d,.int .u64 e] f Q:=
  zai (hs:=[(7,[(6,.slice none 0 0),(9,.int .u64 0),(10,.int .i64 0)])]) hk (Eq.mpr (by kernel_rfl) H)
abbrev zcy (K:Xs) (Q:Value→AH→Prop) (bf:AH) (bg:Int) (bh:ByteArray) (bi:Bool) (bj:Int) (bk:Int) (bl:Int) (ah:Int) (ai:Int) (bm:Int) (bn:Int) (bo:Option Addr) (bp:Nat) (bq:Nat):Prop:=
 (∀br,br=bf.alloc (.cells (zC) 81 false)→
 (11=11)∧∃bs,stN br bf.next 0 (sC bg bh bi bj bk bl ah ai bm bn bo bp bq)=some bs∧
 (Q (.int .u64 0) bs))
theorem zeM {K:Xs} (hk:K 73=none) (a:Option Addr) (b d:Nat) (e:Int) (f:AH) (Q:Value→AH→Prop) (H:
 Wf Tryz.prog K 75 [.slice a b d,.int .u64 e] f fun g i=>
 (∃j k l m n o p q r s t u v,((g=(.tuple #[.agg (sC j k l m n o p q r s t u v).toArray,.bool true])∧
 (∀w,w=i.alloc (.cells (zC) 81 false)→
 (11=11)∧∃x,stN w i.next 0 (sC j k l m n o p q r s t u v)=some x∧
 (∃y,ld1 x i.next 4=some (.int .u64 y)∧
 (Wf Tryz.prog K 75 [.slice a b d,.int .u64 y] x fun z aa=>
 (∃ab ac ad ae af ag ah ai aj ak al am an,((z=(.tuple #[.agg (sC ab ac ad ae af ag ah ai aj ak al am an).toArray,.bool true])∧
 (∀ao,ao=aa.alloc (.cells (zC) 81 false)→
 (11=11)∧∃ap,stN ao aa.next 0 (sC ab ac ad ae af ag ah ai aj ak al am an)=some ap∧
 (∃aq,ld1 ap aa.next 5=some (.int .u64 aq)∧
 (Q (.int .u64 aq) ap))))∨(z=(.tuple #[.agg (sC ab ac ad ae af ag ah ai aj ak al am an).toArray,.bool false])∧
 (zcy K Q aa ab ac ad ae af ag ah ai aj ak al am an))))))))∨(g=(.tuple #[.agg (sC j k l m n o p q r s t u v).toArray,.bool false])∧
 (zcy K Q i j k l m n o p q r s t u v))))):
 Wf Tryz.prog K 73 [.slice a b d,.int .u64 e] f Q:=
  zai (hs:=[]) hk (Eq.mpr (by kernel_rfl) H)
theorem zeN {K:Xs} (hk:K 27=none) (a:ByteArray) (h:AH) (Q:Value→AH→Prop) (H:
 Wf Tryz.prog K 67 [.string a] h fun b d=>
 (((b=(.bool true)∧
 (Q (.tuple #[.string a,(.string (ByteArray.mk #[])),.int .i64 0]) d))∨(b=(.bool false)∧
 (∃e:Int→Nat→AH→Prop,(∃n,e 0 n d)∧
 ∀(f:Nat) (g:AH),∀(i:Int),e i f g→
 ((i:Int) < ((ByteArray.size a:Nat):Int)→((0:Int)≤i)∧∃j:UInt8,a[Int.toNat i]?= some j∧
 (((((j.toNat:Nat):Int):Int)=64→∃k,zaB Tryz.prog g 9 (.string a) none (some (.int .i64 i)) none=some (.string k)∧
 (Wf Tryz.prog K 67 [.string k] g fun l m=>
 (((l=(.bool true)∧
 (∀o:Int,o=IntKind.wrap .i64 (i+1)→∃p,zaB Tryz.prog m 9 (.string a) (some (.int .i64 o)) none none=some (.string p)∧
 (Wf Tryz.prog K 67 [.string p] m fun q r=>
 (((q=(.bool true)∧
 (∃s,zaB Tryz.prog r 9 (.string a) none (some (.int .i64 i)) none=some (.string s)∧
 (∀t:Int,t=IntKind.wrap .i64 (i+1)→∃u,zaB Tryz.prog r 9 (.string a) (some (.int .i64 t)) none none=some (.string u)∧
 (Q (.tuple #[.string s,.string u,.int .i64 0]) r))))∨(q=(.bool false)∧
 (∀v:Int,v=IntKind.wrap .i64 (i+1)→∃w,w < f∧e v w r)))))))∨(l=(.bool false)∧
 (∀x:Int,x=IntKind.wrap .i64 (i+1)→∃w,w < f∧e x w m))))))∧
 (¬(((j.toNat:Nat):Int):Int)=64→∀y:Int,y=IntKind.wrap .i64 (i+1)→∃w,w < f∧e y w g)))∧
 (¬(i:Int) < ((ByteArray.size a:Nat):Int)→Q (.tuple #[(.string (ByteArray.mk #[])),(.string (ByteArray.mk #[])),.int .i64 141]) g)))))):
 Wf Tryz.prog K 27 [.string a] h Q:=
  zai (hs:=[(4,[(5,.int .i64 0)])]) hk (Eq.mpr (by kernel_rfl) H)
theorem zeO {K:Xs} (hk:K 67=none) (a:ByteArray) (h:AH) (Q:Value→AH→Prop) (H:
 ((((ByteArray.size a:Nat):Int):Int) < 1→Q (.bool false) h)∧
 (¬(((ByteArray.size a:Nat):Int):Int) < 1→((24:Int) < ((ByteArray.size a:Nat):Int)→Q (.bool false) h)∧
 (¬(24:Int) < ((ByteArray.size a:Nat):Int)→∃b:Int→Nat→AH→Prop,(∃n,b 0 n h)∧
 ∀(d:Nat) (e:AH),∀(f:Int),b f d e→
 ((f:Int) < ((ByteArray.size a:Nat):Int)→((0:Int)≤f)∧∃g:UInt8,a[Int.toNat f]?= some g∧
 (((97:Int)≤((g.toNat:Nat):Int)→((((g.toNat:Nat):Int):Int)≤122→∀i:Int,i=IntKind.wrap .i64 (f+1)→∃j,j < d∧b i j e)∧
 (¬(((g.toNat:Nat):Int):Int)≤122→((48:Int)≤((g.toNat:Nat):Int)→((((g.toNat:Nat):Int):Int)≤57→∀k:Int,k=IntKind.wrap .i64 (f+1)→∃j,j < d∧b k j e)∧
 (¬(((g.toNat:Nat):Int):Int)≤57→((((g.toNat:Nat):Int):Int)=45→∀l:Int,l=IntKind.wrap .i64 (f+1)→∃j,j < d∧b l j e)∧
 (¬(((g.toNat:Nat):Int):Int)=45→((((g.toNat:Nat):Int):Int)=95→∀m:Int,m=IntKind.wrap .i64 (f+1)→∃j,j < d∧b m j e)∧
 (¬(((g.toNat:Nat):Int):Int)=95→Q (.bool false) e))))∧
 (¬(48:Int)≤((g.toNat:Nat):Int)→((((g.toNat:Nat):Int):Int)=45→∀o:Int,o=IntKind.wrap .i64 (f+1)→∃j,j < d∧b o j e)∧
 (¬(((g.toNat:Nat):Int):Int)=45→((((g.toNat:Nat):Int):Int)=95→∀p:Int,p=IntKind.wrap .i64 (f+1)→∃j,j < d∧b p j e)∧
 (¬(((g.toNat:Nat):Int):Int)=95→Q (.bool false) e)))))∧
 (¬(97:Int)≤((g.toNat:Nat):Int)→((48:Int)≤((g.toNat:Nat):Int)→((((g.toNat:Nat):Int):Int)≤57→∀q:Int,q=IntKind.wrap .i64 (f+1)→∃j,j < d∧b q j e)∧
 (¬(((g.toNat:Nat):Int):Int)≤57→((((g.toNat:Nat):Int):Int)=45→∀r:Int,r=IntKind.wrap .i64 (f+1)→∃j,j < d∧b r j e)∧
 (¬(((g.toNat:Nat):Int):Int)=45→((((g.toNat:Nat):Int):Int)=95→∀s:Int,s=IntKind.wrap .i64 (f+1)→∃j,j < d∧b s j e)∧
 (¬(((g.toNat:Nat):Int):Int)=95→Q (.bool false) e))))∧
 (¬(48:Int)≤((g.toNat:Nat):Int)→((((g.toNat:Nat):Int):Int)=45→∀t:Int,t=IntKind.wrap .i64 (f+1)→∃j,j < d∧b t j e)∧
 (¬(((g.toNat:Nat):Int):Int)=45→((((g.toNat:Nat):Int):Int)=95→∀u:Int,u=IntKind.wrap .i64 (f+1)→∃j,j < d∧b u j e)∧
 (¬(((g.toNat:Nat):Int):Int)=95→Q (.bool false) e))))))∧
 (¬(f:Int) < ((ByteArray.size a:Nat):Int)→Q (.bool true) e)))):
 Wf Tryz.prog K 67 [.string a] h Q:=
  zai (hs:=[(4,[(3,.int .i64 0)])]) hk (Eq.mpr (by kernel_rfl) H)
theorem zeP {K:Xs} (hk:K 104=none) (a:Int) (b:Int) (d:Int) (h:AH) (Q:Value→AH→Prop) (H:
 ∀e,e=h.alloc (.cells (qL a b d) 78 false)→
 ∃f,ld1 e h.next 0=some (.int .i64 f)∧
 (((f:Int)=0→∃g,ld1 e h.next 1=some (.int .u64 g)∧
 (((g:Int)=0→∃i,ld1 e h.next 2=some (.int .u32 i)∧
 (((i:Int)=0→Q (.bool true) e)∧
 (¬(i:Int)=0→∃j,ld1 e h.next 0=some (.int .i64 j)∧
 (((4:Int)≤j→∃k,ld1 e h.next 0=some (.int .i64 k)∧
 (((k:Int)≤1023→∃l,ld1 e h.next 1=some (.int .u64 l)∧
 (((1:Int)≤l→∃m,ld1 e h.next 1=some (.int .u64 m)∧
 (((m:Int) < 281474976710656→Q (.bool true) e)∧
 (¬(m:Int) < 281474976710656→Q (.bool false) e)))∧
 (¬(1:Int)≤l→Q (.bool false) e)))∧
 (¬(k:Int)≤1023→Q (.bool false) e)))∧
 (¬(4:Int)≤j→Q (.bool false) e)))))∧
 (¬(g:Int)=0→∃n,ld1 e h.next 0=some (.int .i64 n)∧
 (((4:Int)≤n→∃o,ld1 e h.next 0=some (.int .i64 o)∧
 (((o:Int)≤1023→∃p,ld1 e h.next 1=some (.int .u64 p)∧
 (((1:Int)≤p→∃q,ld1 e h.next 1=some (.int .u64 q)∧
 (((q:Int) < 281474976710656→Q (.bool true) e)∧
 (¬(q:Int) < 281474976710656→Q (.bool false) e)))∧
 (¬(1:Int)≤p→Q (.bool false) e)))∧
 (¬(o:Int)≤1023→Q (.bool false) e)))∧
 (¬(4:Int)≤n→Q (.bool false) e)))))∧
 (¬(f:Int)=0→∃r,ld1 e h.next 0=some (.int .i64 r)∧
 (((4:Int)≤r→∃s,ld1 e h.next 0=some (.int .i64 s)∧
 (((s:Int)≤1023→∃t,ld1 e h.next 1=some (.int .u64 t)∧
 (((1:Int)≤t→∃u,ld1 e h.next 1=some (.int .u64 u)∧
 (((u:Int) < 281474976710656→Q (.bool true) e)∧
 (¬(u:Int) < 281474976710656→Q (.bool false) e)))∧
 (¬(1:Int)≤t→Q (.bool false) e)))∧
 (¬(s:Int)≤1023→Q (.bool false) e)))∧
 (¬(4:Int)≤r→Q (.bool false) e))))):
 Wf Tryz.prog K 104 [.agg (qL a b d).toArray] h Q:=
  zai (hs:=[]) hk (Eq.mpr (by kernel_rfl) H)
theorem zf4 {K:Xs} (hk:K 99=none) (a:Int) (b:Int) (d:Int) (h:AH) (Q:Value→AH→Prop) (H:
 ∀e,e=h.alloc (.cells (qL a b d) 78 false)→
 ∃f g i,ldN e h.next 0 3=some (qL f g i)∧
 (Wf Tryz.prog K 103 [.agg (qL f g i).toArray] e fun j k=>
 (((j=(.bool true)∧
 (Q (.bool false) k))∨(j=(.bool false)∧
 (∃l m n,ldN k h.next 0 3=some (qL l m n)∧
 (Wf Tryz.prog K 104 [.agg (qL l m n).toArray] k fun o p=>
 (((o=(.bool true)∧
 (Q (.bool true) p))∨(o=(.bool false)∧
 (Q (.bool false) p))))))))))):
 Wf Tryz.prog K 99 [.agg (qL a b d).toArray] h Q:=
  zai (hs:=[]) hk (Eq.mpr (by kernel_rfl) H)
theorem zfz {K:Xs} (hk:K 100=none) (a:Int) (b:Int) (d:Int) (e:Int) (f:Int) (g:Int) (h:AH) (Q:Value→AH→Prop) (H:
 ∀i,i=h.alloc (.cells (qL a b d) 78 false)→
 ∀j,j=i.alloc (.cells (qL e f g) 78 false)→
 ∃k,ld1 j h.next 1=some (.int .u64 k)∧
 (∃l,ld1 j i.next 1=some (.int .u64 l)∧
 (((k:Int)=l→∃m,ld1 j h.next 0=some (.int .i64 m)∧
 (∃n,ld1 j i.next 0=some (.int .i64 n)∧
 (((m:Int)=n→∃o,ld1 j h.next 2=some (.int .u32 o)∧
 (∃p,ld1 j i.next 2=some (.int .u32 p)∧
 (((o:Int) < p→Q (.bool true) j)∧
 (¬(o:Int) < p→Q (.bool false) j))))∧
 (¬(m:Int)=n→∃q,ld1 j h.next 0=some (.int .i64 q)∧
 (∃r,ld1 j i.next 0=some (.int .i64 r)∧
 (((q:Int) < r→Q (.bool true) j)∧
 (¬(q:Int) < r→Q (.bool false) j)))))))∧
 (¬(k:Int)=l→∃s,ld1 j h.next 1=some (.int .u64 s)∧
 (∃t,ld1 j i.next 1=some (.int .u64 t)∧
 (((s:Int) < t→Q (.bool true) j)∧
 (¬(s:Int) < t→Q (.bool false) j))))))):
 Wf Tryz.prog K 100 [.agg (qL a b d).toArray,.agg (qL e f g).toArray] h Q:=
  zai (hs:=[]) hk (Eq.mpr (by kernel_rfl) H)
theorem zfA {K:Xs} (hk:K 103=none) (a:Int) (b:Int) (d:Int) (h:AH) (Q:Value→AH→Prop) (H:
 ∀e,e=h.alloc (.cells (qL a b d) 78 false)→
 ∃f,ld1 e h.next 0=some (.int .i64 f)∧
 (((f:Int)=0→∃g,ld1 e h.next 1=some (.int .u64 g)∧
 (((g:Int)=0→∃i,ld1 e h.next 2=some (.int .u32 i)∧
 (((i:Int)=0→Q (.bool true) e)∧
 (¬(i:Int)=0→Q (.bool false) e)))∧
 (¬(g:Int)=0→Q (.bool false) e)))∧
 (¬(f:Int)=0→Q (.bool false) e))):
 Wf Tryz.prog K 103 [.agg (qL a b d).toArray] h Q:=
  zai (hs:=[]) hk (Eq.mpr (by kernel_rfl) H)
end Go.Am
