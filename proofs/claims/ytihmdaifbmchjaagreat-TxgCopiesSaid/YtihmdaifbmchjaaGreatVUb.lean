/-
  WEAKEST CONDITIONS of some functions of this program, printed by a program.
-/
import Derived.Test.YtihmdaifbmchjaaGreatVAbb
import Derived.Test.YtihmdaifbmchjaaGreatRows
set_option linter.unusedVariables false
set_option maxRecDepth 100000
namespace Go.Am
open Go.Proofs
theorem zfG {K:Xs} (hk:K 118=none) (a:Int) (b:Int) (d:Int) (e:Int) (f:Int) (g:Int) (i:Int) (h:AH) (Q:Value→AH→Prop) (H:
 ∀j,j=h.alloc (.cells [.int .u64 a,.int .u64 b,.int .i64 d,.int .u64 e,.int .u32 f,.int .i64 g,.int .i64 i] 44 false)→
 ∃k,ld1 j h.next 0=some (.int .u64 k)∧
 (((1:Int)≤k→∃l,ld1 j h.next 0=some (.int .u64 l)∧
 (((l:Int)≤281474976710655→∃m,ld1 j h.next 1=some (.int .u64 m)∧
 (((1:Int)≤m→∃n,ld1 j h.next 1=some (.int .u64 n)∧
 (((n:Int)≤281474976710655→∃o p q,ldN j h.next 2 3=some (qL o p q)∧
 (Wf Tryz.prog K 128 [.agg (qL o p q).toArray] j fun r s=>
 (((r=(.bool true)∧
 (∃t u v,ldN s h.next 2 3=some (qL t u v)∧
 (∃la13 lb14,zcp Tryz.prog 42 (.agg (qL t u v).toArray)=some la13∧zcp Tryz.prog 42 (.agg #[.int .i64 0,.int .u64 0,.int .u32 0])=some lb14∧
 (zaC la13 lb14=true→Q (.bool false) s)∧
 (zaC la13 lb14=false→∃w,ld1 s h.next 5=some (.int .i64 w)∧
 (((1:Int)≤w→∃x,ld1 s h.next 5=some (.int .i64 x)∧
 (((x:Int)≤65535→∃y,ld1 s h.next 6=some (.int .i64 y)∧
 (((64:Int)≤y→∃z,ld1 s h.next 6=some (.int .i64 z)∧
 (((z:Int)≤1024→Q (.bool true) s)∧
 (¬(z:Int)≤1024→Q (.bool false) s)))∧
 (¬(64:Int)≤y→Q (.bool false) s)))∧
 (¬(x:Int)≤65535→Q (.bool false) s)))∧
 (¬(1:Int)≤w→Q (.bool false) s))))))∨(r=(.bool false)∧
 (Q (.bool false) s))))))∧
 (¬(n:Int)≤281474976710655→Q (.bool false) j)))∧
 (¬(1:Int)≤m→Q (.bool false) j)))∧
 (¬(l:Int)≤281474976710655→Q (.bool false) j)))∧
 (¬(1:Int)≤k→Q (.bool false) j))):
 Wf Tryz.prog K 118 [.agg #[.int .u64 a,.int .u64 b,.int .i64 d,.int .u64 e,.int .u32 f,.int .i64 g,.int .i64 i]] h Q:=
  zaf (hs:=[]) hk (Eq.mpr (by kernel_rfl) H)
theorem zfH {K:Xs} (hk:K 78=none) (a:Int) (b:Int) (d:Int) (e:Int) (f:Int) (g:Int) (i:Int) (j:AH) (Q:Value→AH→Prop) (H:
 ∀k,k=j.alloc (.cells [.int .u64 a,.int .u64 b,.int .i64 d,.int .u64 e,.int .u32 f,.int .i64 g,.int .i64 i] 44 false)→
 ∀l,l=k.alloc (.cells (List.replicate 128 (.int .u8 0):List Value) 112 false)→
 ∃m n o p q r s,ldN l j.next 0 7=some [.int .u64 m,.int .u64 n,.int .i64 o,.int .u64 p,.int .u32 q,.int .i64 r,.int .i64 s]∧
 (Wf Tryz.prog K 118 [.agg #[.int .u64 m,.int .u64 n,.int .i64 o,.int .u64 p,.int .u32 q,.int .i64 r,.int .i64 s]] l fun t u=>
 (((t=(.bool true)∧
 (∀v,v=u.alloc (.cells [.int .i64 8,.int .i64 8] 3 false)→
 ∃w,ld1 v j.next 0=some (.int .u64 w)∧
 (∃x,ld1 v j.next 1=some (.int .u64 x)∧
 (∀y,y=v.alloc (.cells [.int .u64 w,.int .u64 x] 22 false)→
 Wf Tryz.prog K 119 [(.slice (some ⟨u.next,0,none⟩) 2 2),(.slice (some ⟨v.next,0,none⟩) 2 2)] y fun z aa=>
 (∃ab ac ad ae,z=(.tuple #[.slice ab ac ad,.int .i64 ae])∧
 (((ae:Int)=0→∃af ag ah,ldN aa j.next 2 3=some (qL af ag ah)∧
 (Wf Tryz.prog K 120 [.agg (qL af ag ah).toArray] aa fun ai aj=>
 (∃ak al am an,ai=(.tuple #[.slice ak al am,.int .i64 an])∧
 (((an:Int)=0→∀ao,ao=aj.alloc (.cells [.int .i64 4,.int .i64 4] 3 false)→
 ∃ap,ld1 ao j.next 5=some (.int .i64 ap)∧
 (∀aq:Int,aq=IntKind.wrap .u64 ap→∃ar,ld1 ao j.next 6=some (.int .i64 ar)∧
 (∀au:Int,au=IntKind.wrap .u64 ar→∀av,av=ao.alloc (.cells [.int .u64 aq,.int .u64 au] 22 false)→
 Wf Tryz.prog K 119 [(.slice (some ⟨aj.next,0,none⟩) 2 2),(.slice (some ⟨ao.next,0,none⟩) 2 2)] av fun aw ax=>
 (∃ay az a0 a1,aw=(.tuple #[.slice ay az a0,.int .i64 a1])∧
 (((a1:Int)=0→∀a2,a2=ax.alloc (.cells (List.replicate 128 (.int .u8 0):List Value) 112 false)→
 ∃a3 a4 a5,zar Tryz.prog a2 112 (.pointer (some ⟨ax.next,0,none⟩)) none none none=some (.slice a3 a4 a5)∧
 (∃(a6:Int) (a7:AH),zal Tryz.prog a2 .copy #[53,9] [.slice a3 a4 a5,(.string (ByteArray.mk #[65,81,70,82]))]=some (.int .i64 a6,a7)∧
 (∃a8 a9 ba,zar Tryz.prog a7 112 (.pointer (some ⟨ax.next,0,none⟩)) (some (.int .i64 4)) none none=some (.slice a8 a9 ba)∧
 (∃(bb:Int) (bc:AH),zal Tryz.prog a7 .copy #[53,53] [.slice a8 a9 ba,.slice ab ac ad]=some (.int .i64 bb,bc)∧
 (∃bd be bf,zar Tryz.prog bc 112 (.pointer (some ⟨ax.next,0,none⟩)) (some (.int .i64 20)) none none=some (.slice bd be bf)∧
 (∃(bg:Int) (bh:AH),zal Tryz.prog bc .copy #[53,53] [.slice bd be bf,.slice ak al am]=some (.int .i64 bg,bh)∧
 (∃bi bj bk,zar Tryz.prog bh 112 (.pointer (some ⟨ax.next,0,none⟩)) (some (.int .i64 36)) none none=some (.slice bi bj bk)∧
 (∃(bl:Int) (bm:AH),zal Tryz.prog bh .copy #[53,53] [.slice bi bj bk,.slice ay az a0]=some (.int .i64 bl,bm)∧
 (∀bn,bn=bm.alloc (.cells [.int .i64 4] 3 false)→
 ∃bo bp bq,zar Tryz.prog bn 112 (.pointer (some ⟨ax.next,0,none⟩)) none (some (.int .i64 124)) none=some (.slice bo bp bq)∧
 (Wf Tryz.prog K 60 [.slice bo bp bq] bn fun br bs=>
 (∃bt,br=(.int .u32 bt)∧
 (∀bu:Int,bu=IntKind.wrap .u64 bt→∀bv,bv=bs.alloc (.cells [.int .u64 bu] 22 false)→
 Wf Tryz.prog K 119 [(.slice (some ⟨bm.next,0,none⟩) 1 1),(.slice (some ⟨bs.next,0,none⟩) 1 1)] bv fun bw bx=>
 (∃bz b0 b1 b2,bw=(.tuple #[.slice bz b0 b1,.int .i64 b2])∧
 (((b2:Int)=0→∃b3 b4 b5,zar Tryz.prog bx 112 (.pointer (some ⟨ax.next,0,none⟩)) (some (.int .i64 124)) none none=some (.slice b3 b4 b5)∧
 (∃(b6:Int) (b7:AH),zal Tryz.prog bx .copy #[53,53] [.slice b3 b4 b5,.slice bz b0 b1]=some (.int .i64 b6,b7)∧
 (∃l83:List Value,ldN b7 ax.next 0 128=some l83∧
 ((List.length l83=128)∧∃b8,stN b7 k.next 0 l83=some b8∧
 (∃l85:List Value,ldN b8 k.next 0 128=some l85∧
 (Q (.tuple #[.agg l85.toArray,.int .i64 0]) b8))))))∧
 (¬(b2:Int)=0→∃l86:List Value,za1 Tryz.prog 112 #[]=some (.agg l86.toArray)∧
 ((List.length l86=128)∧∃b9,stN bx k.next 0 l86=some b9∧
 (∃l88:List Value,ldN b9 k.next 0 128=some l88∧
 (Q (.tuple #[.agg l88.toArray,.int .i64 61]) b9))))))))))))))))))∧
 (¬(a1:Int)=0→∃l89:List Value,za1 Tryz.prog 112 #[]=some (.agg l89.toArray)∧
 ((List.length l89=128)∧∃da,stN ax k.next 0 l89=some da∧
 (∃l91:List Value,ldN da k.next 0 128=some l91∧
 (Q (.tuple #[.agg l91.toArray,.int .i64 61]) da)))))))))∧
 (¬(an:Int)=0→∃l92:List Value,za1 Tryz.prog 112 #[]=some (.agg l92.toArray)∧
 ((List.length l92=128)∧∃db,stN aj k.next 0 l92=some db∧
 (∃l94:List Value,ldN db k.next 0 128=some l94∧
 (Q (.tuple #[.agg l94.toArray,.int .i64 61]) db))))))))∧
 (¬(ae:Int)=0→∃l95:List Value,za1 Tryz.prog 112 #[]=some (.agg l95.toArray)∧
 ((List.length l95=128)∧∃dc,stN aa k.next 0 l95=some dc∧
 (∃l97:List Value,ldN dc k.next 0 128=some l97∧
 (Q (.tuple #[.agg l97.toArray,.int .i64 61]) dc))))))))))∨(t=(.bool false)∧
 (∃l98:List Value,za1 Tryz.prog 112 #[]=some (.agg l98.toArray)∧
 ((List.length l98=128)∧∃dd,stN u k.next 0 l98=some dd∧
 (∃l100:List Value,ldN dd k.next 0 128=some l100∧
 (Q (.tuple #[.agg l100.toArray,.int .i64 61]) dd))))))))):
 Wf Tryz.prog K 78 [.agg #[.int .u64 a,.int .u64 b,.int .i64 d,.int .u64 e,.int .u32 f,.int .i64 g,.int .i64 i]] j Q:=
  zaf (hs:=[]) hk (Eq.mpr (by kernel_rfl) H)
abbrev zcZ (K:Xs) (Q:Value→AH→Prop) (de:Int) (df:AH) (k:AH):Prop:=
 (¬(de:Int)=0→(7=7)∧∃dg,stN df k.next 0 [.int .u64 0,.int .u64 0,.int .i64 0,.int .u64 0,.int .u32 0,.int .i64 0,.int .i64 0]=some dg∧
 (∃dh di dj dk dl dm dn,ldN dg k.next 0 7=some [.int .u64 dh,.int .u64 di,.int .i64 dj,.int .u64 dk,.int .u32 dl,.int .i64 dm,.int .i64 dn]∧
 (Q (.tuple #[.agg #[.int .u64 dh,.int .u64 di,.int .i64 dj,.int .u64 dk,.int .u32 dl,.int .i64 dm,.int .i64 dn],.bool false]) dg)))
theorem zmW {K:Xs} (hk:K 88=none) (la0:List Value) (a:AH) (Q:Value→AH→Prop) (H:
 ∀b,b=a.alloc (.cells la0 112 false)→
 ∀d,d=b.alloc (.cells [.int .u64 0,.int .u64 0,.int .i64 0,.int .u64 0,.int .u32 0,.int .i64 0,.int .i64 0] 44 false)→
 ∀e,e=d.alloc (.cells [.int .i64 8,.int .i64 8] 3 false)→
 ∃f g i,zar Tryz.prog e 112 (.pointer (some ⟨a.next,0,none⟩)) (some (.int .i64 4)) (some (.int .i64 20)) none=some (.slice f g i)∧
 (Wf Tryz.prog K 96 [(.slice (some ⟨d.next,0,none⟩) 2 2),.slice f g i] e fun j k=>
 (∃l m n o,j=(.tuple #[.slice l m n,.int .i64 o])∧
 (((o:Int)=0→∃p q r,zar Tryz.prog k 112 (.pointer (some ⟨a.next,0,none⟩)) (some (.int .i64 20)) (some (.int .i64 36)) none=some (.slice p q r)∧
 (Wf Tryz.prog K 95 [.slice p q r] k fun s t=>
 (∃u v w x,s=(.tuple #[.agg (qL u v w).toArray,.int .i64 x])∧
 (∀y,y=t.alloc (.cells [.int .i64 0,.int .u64 0,.int .u32 0] 42 false)→
 (3=3)∧∃z,stN y t.next 0 (qL u v w)=some z∧
 (((x:Int)=0→∀aa,aa=z.alloc (.cells [.int .i64 4,.int .i64 4] 3 false)→
 ∃ab ac ad,zar Tryz.prog aa 112 (.pointer (some ⟨a.next,0,none⟩)) (some (.int .i64 36)) (some (.int .i64 44)) none=some (.slice ab ac ad)∧
 (Wf Tryz.prog K 96 [(.slice (some ⟨z.next,0,none⟩) 2 2),.slice ab ac ad] aa fun ae af=>
 (∃ag ah ai aj,ae=(.tuple #[.slice ag ah ai,.int .i64 aj])∧
 (((aj:Int)=0→zai l fun ak al=>(((0:Int)≤0)∧((0:Int) < ((m:Nat):Int))∧
 (∃am,ld1 af ak al=some (.int .u64 am)∧
 (zai l fun an ao=>(((0:Int)≤1)∧((1:Int) < ((m:Nat):Int))∧
 (∃ap,ld1 af an (ao+1)=some (.int .u64 ap)∧
 (∃aq ar au,ldN af t.next 0 3=some (qL aq ar au)∧
 (zai ag fun av aw=>(((0:Int)≤0)∧((0:Int) < ((ah:Nat):Int))∧
 (∃ax,ld1 af av aw=some (.int .u64 ax)∧
 (∀ay:Int,ay=IntKind.wrap .i64 ax→zai ag fun az a0=>(((0:Int)≤1)∧((1:Int) < ((ah:Nat):Int))∧
 (∃a1,ld1 af az (a0+1)=some (.int .u64 a1)∧
 (∀a2:Int,a2=IntKind.wrap .i64 a1→∀a3,a3=af.alloc (.cells [.int .u64 0,.int .u64 0,.int .i64 0,.int .u64 0,.int .u32 0,.int .i64 0,.int .i64 0] 44 false)→
 (7=7)∧∃a4,stN a3 af.next 0 [.int .u64 am,.int .u64 ap,.int .i64 aq,.int .u64 ar,.int .u32 au,.int .i64 ay,.int .i64 a2]=some a4∧
 (∃a5 a6 a7 a8 a9 ba bb,ldN a4 af.next 0 7=some [.int .u64 a5,.int .u64 a6,.int .i64 a7,.int .u64 a8,.int .u32 a9,.int .i64 ba,.int .i64 bb]∧
 (Wf Tryz.prog K 78 [.agg #[.int .u64 a5,.int .u64 a6,.int .i64 a7,.int .u64 a8,.int .u32 a9,.int .i64 ba,.int .i64 bb]] a4 fun bc bd=>
 (∃l61:List Value,∃be,bc=(.tuple #[.agg l61.toArray,.int .i64 be])∧
 (∀bf,bf=bd.alloc (.cells (List.replicate 128 (.int .u8 0):List Value) 112 false)→
 (List.length l61=128)∧∃bg,stN bf bd.next 0 l61=some bg∧
 (((be:Int)=0→∃l65:List Value,ldN bg bd.next 0 128=some l65∧
 (∃l66:List Value,ldN bg a.next 0 128=some l66∧
 (∃la67 lb68,zcp Tryz.prog 112 (.agg l65.toArray)=some la67∧zcp Tryz.prog 112 (.agg l66.toArray)=some lb68∧
 (zaC la67 lb68=true→∃bh bi bj bk bl bm bn,ldN bg af.next 0 7=some [.int .u64 bh,.int .u64 bi,.int .i64 bj,.int .u64 bk,.int .u32 bl,.int .i64 bm,.int .i64 bn]∧
 ((7=7)∧∃bo,stN bg b.next 0 [.int .u64 bh,.int .u64 bi,.int .i64 bj,.int .u64 bk,.int .u32 bl,.int .i64 bm,.int .i64 bn]=some bo∧
 (∃bp bq br bs bt bu bv,ldN bo b.next 0 7=some [.int .u64 bp,.int .u64 bq,.int .i64 br,.int .u64 bs,.int .u32 bt,.int .i64 bu,.int .i64 bv]∧
 (Q (.tuple #[.agg #[.int .u64 bp,.int .u64 bq,.int .i64 br,.int .u64 bs,.int .u32 bt,.int .i64 bu,.int .i64 bv],.bool true]) bo))))∧
 (zaC la67 lb68=false→(7=7)∧∃bw,stN bg b.next 0 [.int .u64 0,.int .u64 0,.int .i64 0,.int .u64 0,.int .u32 0,.int .i64 0,.int .i64 0]=some bw∧
 (∃bx bz b0 b1 b2 b3 b4,ldN bw b.next 0 7=some [.int .u64 bx,.int .u64 bz,.int .i64 b0,.int .u64 b1,.int .u32 b2,.int .i64 b3,.int .i64 b4]∧
 (Q (.tuple #[.agg #[.int .u64 bx,.int .u64 bz,.int .i64 b0,.int .u64 b1,.int .u32 b2,.int .i64 b3,.int .i64 b4],.bool false]) bw))))))∧
 (zcZ K Q be bg b))))))))))))))))))))∧
 (zcZ K Q aj af b)))))∧
 (zcZ K Q x z b))))))∧
 (zcZ K Q o k b))))):
 Wf Tryz.prog K 88 [.agg la0.toArray] a Q:=
  zaf (hs:=[]) hk (Eq.mpr (by kernel_rfl) H)
theorem zjo {K:Xs} (hk:K 54=none) (a:Option Addr) (b:Int) (d:Int) (e:Int) (f:Int) (g:Int) (i:Int) (j:Int) (h:AH) (Q:Value→AH→Prop) (H:
 ∀k,k=h.alloc (.cells [.int .u64 b,.int .u64 d,.int .i64 e,.int .u64 f,.int .u32 g,.int .i64 i,.int .i64 j] 44 false)→
 ∃l m n o p q r,ldN k h.next 0 7=some [.int .u64 l,.int .u64 m,.int .i64 n,.int .u64 o,.int .u32 p,.int .i64 q,.int .i64 r]∧
 (Wf Tryz.prog K 78 [.agg #[.int .u64 l,.int .u64 m,.int .i64 n,.int .u64 o,.int .u32 p,.int .i64 q,.int .i64 r]] k fun s t=>
 (∃l10:List Value,∃u,s=(.tuple #[.agg l10.toArray,.int .i64 u])∧
 (∀v,v=t.alloc (.cells (List.replicate 128 (.int .u8 0):List Value) 112 false)→
 (List.length l10=128)∧∃w,stN v t.next 0 l10=some w∧
 (((u:Int)=0→Wf Tryz.prog K 79 [.pointer a] w fun x y=>
 (∃z,x=(.int .i64 z)∧
 (((z:Int)=0→∃aa ab ac ad ae af ag,ldN y h.next 0 7=some [.int .u64 aa,.int .u64 ab,.int .i64 ac,.int .u64 ad,.int .u32 ae,.int .i64 af,.int .i64 ag]∧
 (Wf Tryz.prog K 80 [.agg #[.int .u64 aa,.int .u64 ab,.int .i64 ac,.int .u64 ad,.int .u32 ae,.int .i64 af,.int .i64 ag]] y fun ah ai=>
 (∃aj,ah=(.int .i64 aj)∧
 (∃l27:List Value,ldN ai t.next 0 128=some l27∧
 (Wf Tryz.prog K 59 [.pointer a,.int .i64 aj,.agg l27.toArray] ai fun ak al=>
 (∃am,ak=(.int .i64 am)∧
 (zgQ l27 ((ldN y t.next 0 128=some l27)∧
 (zgQ l27 ((ldN ai t.next 0 128=some l27)∧
 (((am:Int)=0→Wf Tryz.prog K 79 [.pointer a] al fun an ao=>
 (∃ap,an=(.int .i64 ap)∧
 (Q (.int .i64 ap) ao)))∧
 (¬(am:Int)=0→Q (.int .i64 am) al))))))))))))∧
 (¬(z:Int)=0→Q (.int .i64 z) y))))∧
 (¬(u:Int)=0→Q (.int .i64 u) w)))))):
 Wf Tryz.prog K 54 [.pointer a,.agg #[.int .u64 b,.int .u64 d,.int .i64 e,.int .u64 f,.int .u32 g,.int .i64 i,.int .i64 j]] h Q:=
  zaf (hs:=[]) hk (Eq.mpr (by kernel_rfl) H)
theorem zmX {K:Xs} (hk:K 80=none) (a:Int) (b:Int) (d:Int) (e:Int) (f:Int) (g:Int) (i:Int) (h:AH) (Q:Value→AH→Prop) (H:
 ∀j,j=h.alloc (.cells [.int .u64 a,.int .u64 b,.int .i64 d,.int .u64 e,.int .u32 f,.int .i64 g,.int .i64 i] 44 false)→
 ∃k,ld1 j h.next 0=some (.int .u64 k)∧
 ((4≠(0:Int))∧(∀l:Int,l=Int.tmod k 4→∀m:Int,m=IntKind.wrap .i64 l→Q (.int .i64 m) j))):
 Wf Tryz.prog K 80 [.agg #[.int .u64 a,.int .u64 b,.int .i64 d,.int .u64 e,.int .u32 f,.int .i64 g,.int .i64 i]] h Q:=
  zaf (hs:=[]) hk (Eq.mpr (by kernel_rfl) H)
theorem zmY {K:Xs} (hk:K 62=none) (a:Option Addr) (b:AH) (Q:Value→AH→Prop) (H:
 ∃d:Option Addr→Nat→Nat→Int→Nat→AH→Prop,(∃n,d none 0 0 0 n b)∧
 ∀(e:Nat) (f:AH),∀(g:Option Addr) (i:Nat) (j:Nat),∀(k:Int),d g i j k e f→
 ((k:Int) < 4→Wf Tryz.prog K 87 [.pointer a,.int .i64 k] f fun l m=>
 (∃l10:List Value,∃o,l=(.tuple #[.agg l10.toArray,.int .i64 o])∧
 (∀p,p=m.alloc (.cells (List.replicate 128 (.int .u8 0):List Value) 112 false)→
 (List.length l10=128)∧∃q,stN p m.next 0 l10=some q∧
 (((o:Int)=0→∃l14:List Value,ldN q m.next 0 128=some l14∧
 (Wf Tryz.prog K 88 [.agg l14.toArray] q fun r s=>
 (∃t u v w x y z,((r=(.tuple #[.agg #[.int .u64 t,.int .u64 u,.int .i64 v,.int .u64 w,.int .u32 x,.int .i64 y,.int .i64 z],.bool true])∧
 (∀aa,aa=s.alloc (.cells [.int .u64 0,.int .u64 0,.int .i64 0,.int .u64 0,.int .u32 0,.int .i64 0,.int .i64 0] 44 false)→
 (7=7)∧∃ab,stN aa s.next 0 [.int .u64 t,.int .u64 u,.int .i64 v,.int .u64 w,.int .u32 x,.int .i64 y,.int .i64 z]=some ab∧
 (∃ac ad ae af ag ah ai,ldN ab s.next 0 7=some [.int .u64 ac,.int .u64 ad,.int .i64 ae,.int .u64 af,.int .u32 ag,.int .i64 ah,.int .i64 ai]∧
 (Wf Tryz.prog K 80 [.agg #[.int .u64 ac,.int .u64 ad,.int .i64 ae,.int .u64 af,.int .u32 ag,.int .i64 ah,.int .i64 ai]] ab fun aj ak=>
 (∃al,aj=(.int .i64 al)∧
 (((al:Int)=k→∃am an ao ap aq ar au,ldN ak s.next 0 7=some [.int .u64 am,.int .u64 an,.int .i64 ao,.int .u64 ap,.int .u32 aq,.int .i64 ar,.int .i64 au]∧
 (∀av,av=ak.alloc (.cells [.int .u64 am,.int .u64 an,.int .i64 ao,.int .u64 ap,.int .u32 aq,.int .i64 ar,.int .i64 au] 44 false)→
 ∃aw ax ay az,zal Tryz.prog av .append #[116,116] [.slice g i j,(.slice (some ⟨ak.next,0,none⟩) 1 1)]=some (.slice aw ax ay,az)∧
 (∀a0:Int,a0=IntKind.wrap .i64 (k+1)→∃a1,a1 < e∧d aw ax ay a0 a1 az)))∧
 (¬(al:Int)=k→∀a2:Int,a2=IntKind.wrap .i64 (k+1)→∃a1,a1 < e∧d g i j a2 a1 ak)))))))∨(r=(.tuple #[.agg #[.int .u64 t,.int .u64 u,.int .i64 v,.int .u64 w,.int .u32 x,.int .i64 y,.int .i64 z],.bool false])∧
 (∀a3,a3=s.alloc (.cells [.int .u64 0,.int .u64 0,.int .i64 0,.int .u64 0,.int .u32 0,.int .i64 0,.int .i64 0] 44 false)→
 (7=7)∧∃a4,stN a3 s.next 0 [.int .u64 t,.int .u64 u,.int .i64 v,.int .u64 w,.int .u32 x,.int .i64 y,.int .i64 z]=some a4∧
 (∀a5:Int,a5=IntKind.wrap .i64 (k+1)→∃a1,a1 < e∧d g i j a5 a1 a4)))))))∧
 (¬(o:Int)=0→∀a6:Int,a6=IntKind.wrap .i64 (k+1)→∃a1,a1 < e∧d g i j a6 a1 q)))))∧
 (¬(k:Int) < 4→Wf Tryz.prog K 89 [.slice g i j,(.func (.func 90) #[] #[])] f fun a7 a8=>
 (Q (.slice g i j) a8))):
 Wf Tryz.prog K 62 [.pointer a] b Q:=
  zaf (hs:=[(3,[(3,.slice none 0 0),(9,.int .i64 0)])]) hk (Eq.mpr (by kernel_rfl) H)
theorem zmZ {K:Xs} (hk:K 43=none) (a:Option Addr) (h:AH) (Q:Value→AH→Prop) (H:
 ∀b,b=h.alloc (.cells [.int .u64 0,.int .u64 0,.int .i64 0,.int .u64 0,.int .u32 0,.int .i64 0,.int .i64 0] 44 false)→
 Wf Tryz.prog K 62 [.pointer a] b fun d e=>
 (∃f g i,d=(.slice f g i)∧
 (((((g:Nat):Int):Int)=0→(7=7)∧∃j,stN e h.next 0 [.int .u64 0,.int .u64 0,.int .i64 0,.int .u64 0,.int .u32 0,.int .i64 0,.int .i64 0]=some j∧
 (∃k l m n o p q,ldN j h.next 0 7=some [.int .u64 k,.int .u64 l,.int .i64 m,.int .u64 n,.int .u32 o,.int .i64 p,.int .i64 q]∧
 (Q (.tuple #[.agg #[.int .u64 k,.int .u64 l,.int .i64 m,.int .u64 n,.int .u32 o,.int .i64 p,.int .i64 q],.bool false]) j)))∧
 (¬(((g:Nat):Int):Int)=0→∀r:Int,r=IntKind.wrap .i64 (((g:Nat):Int) - 1)→zai f fun s t=>(((0:Int)≤r)∧((r:Int) < ((g:Nat):Int))∧
 (∃u v w x y z aa,ldN e s (t+Int.toNat r * 7) 7=some [.int .u64 u,.int .u64 v,.int .i64 w,.int .u64 x,.int .u32 y,.int .i64 z,.int .i64 aa]∧
 ((7=7)∧∃ab,stN e h.next 0 [.int .u64 u,.int .u64 v,.int .i64 w,.int .u64 x,.int .u32 y,.int .i64 z,.int .i64 aa]=some ab∧
 (∃ac ad ae af ag ah ai,ldN ab h.next 0 7=some [.int .u64 ac,.int .u64 ad,.int .i64 ae,.int .u64 af,.int .u32 ag,.int .i64 ah,.int .i64 ai]∧
 (Q (.tuple #[.agg #[.int .u64 ac,.int .u64 ad,.int .i64 ae,.int .u64 af,.int .u32 ag,.int .i64 ah,.int .i64 ai],.bool true]) ab))))))))):
 Wf Tryz.prog K 43 [.pointer a] h Q:=
  zaf (hs:=[]) hk (Eq.mpr (by kernel_rfl) H)
theorem zm0 {K:Xs} (hk:K 89=none) (a:Option Addr) (b d:Nat) (ga1:FuncId) (capa1:List Value) (h:AH) (Q:Value→AH→Prop) (H:
 ∀e:Int,e=IntKind.wrap .u64 ((b:Nat):Int)→Wf Tryz.prog K 122 [.int .u64 e] h fun f g=>
 (∃i,f=(.int .i64 i)∧
 (Wf Tryz.prog K 121 [.slice a b d,.int .i64 0,(.int .i64 ((b:Nat):Int)),.int .i64 i,(.func (.func ga1) #[] capa1.toArray)] g fun j k=>
 (Q (.tuple #[]) k)))):
 Wf Tryz.prog K 89 [.slice a b d,(.func (.func ga1) #[] capa1.toArray)] h Q:=
  zaf (hs:=[]) hk (Eq.mpr (by kernel_rfl) H)
theorem zoO {K:Xs} (hk:K 122=none) (a:Int) (h:AH) (Q:Value→AH→Prop) (H:
 Wf Tryz.prog K 156 [.int .u64 a] h fun b d=>
 (∃e,b=(.int .i64 e)∧
 (Q (.int .i64 e) d))):
 Wf Tryz.prog K 122 [.int .u64 a] h Q:=
  zaf (hs:=[]) hk (Eq.mpr (by kernel_rfl) H)
abbrev zfI (K:Xs) (Q:Value→AH→Prop) (f:Int) (e:Int) (g:AH):Prop:=
 ((256:Int)≤f→∃i,zba .shr .u64 f 8=some (.int .u64 i)∧
 (∀j:Int,j=IntKind.wrap .i64 (e+8)→∀k:Int,k=IntKind.wrap .u8 i→((0:Int)≤k)∧∃l:UInt8,(ByteArray.mk #[0,1,2,2,3,3,3,3,4,4,4,4,4,4,4,4,5,5,5,5,5,5,5,5,5,5,5,5,5,5,5,5,6,6,6,6,6,6,6,6,6,6,6,6,6,6,6,6,6,6,6,6,6,6,6,6,6,6,6,6,6,6,6,6,7,7,7,7,7,7,7,7,7,7,7,7,7,7,7,7,7,7,7,7,7,7,7,7,7,7,7,7,7,7,7,7,7,7,7,7,7,7,7,7,7,7,7,7,7,7,7,7,7,7,7,7,7,7,7,7,7,7,7,7,7,7,7,7,8,8,8,8,8,8,8,8,8,8,8,8,8,8,8,8,8,8,8,8,8,8,8,8,8,8,8,8,8,8,8,8,8,8,8,8,8,8,8,8,8,8,8,8,8,8,8,8,8,8,8,8,8,8,8,8,8,8,8,8,8,8,8,8,8,8,8,8,8,8,8,8,8,8,8,8,8,8,8,8,8,8,8,8,8,8,8,8,8,8,8,8,8,8,8,8,8,8,8,8,8,8,8,8,8,8,8,8,8,8,8,8,8,8,8,8,8,8,8,8,8,8,8,8,8,8,8,8])[Int.toNat k]?= some l∧
 (∀m:Int,m=IntKind.wrap .i64 ((l.toNat:Nat):Int)→∀n:Int,n=IntKind.wrap .i64 (j+m)→Q (.int .i64 n) g)))
abbrev zfJ (K:Xs) (Q:Value→AH→Prop) (f:Int) (e:Int) (g:AH):Prop:=
 (¬(256:Int)≤f→∀o:Int,o=IntKind.wrap .u8 f→((0:Int)≤o)∧∃p:UInt8,(ByteArray.mk #[0,1,2,2,3,3,3,3,4,4,4,4,4,4,4,4,5,5,5,5,5,5,5,5,5,5,5,5,5,5,5,5,6,6,6,6,6,6,6,6,6,6,6,6,6,6,6,6,6,6,6,6,6,6,6,6,6,6,6,6,6,6,6,6,7,7,7,7,7,7,7,7,7,7,7,7,7,7,7,7,7,7,7,7,7,7,7,7,7,7,7,7,7,7,7,7,7,7,7,7,7,7,7,7,7,7,7,7,7,7,7,7,7,7,7,7,7,7,7,7,7,7,7,7,7,7,7,7,8,8,8,8,8,8,8,8,8,8,8,8,8,8,8,8,8,8,8,8,8,8,8,8,8,8,8,8,8,8,8,8,8,8,8,8,8,8,8,8,8,8,8,8,8,8,8,8,8,8,8,8,8,8,8,8,8,8,8,8,8,8,8,8,8,8,8,8,8,8,8,8,8,8,8,8,8,8,8,8,8,8,8,8,8,8,8,8,8,8,8,8,8,8,8,8,8,8,8,8,8,8,8,8,8,8,8,8,8,8,8,8,8,8,8,8,8,8,8,8,8,8,8,8,8,8,8,8])[Int.toNat o]?= some p∧
 (∀q:Int,q=IntKind.wrap .i64 ((p.toNat:Nat):Int)→∀r:Int,r=IntKind.wrap .i64 (e+q)→Q (.int .i64 r) g))
theorem zk3 {K:Xs} (hk:K 156=none) (a:Int) (b:AH) (Q:Value→AH→Prop) (H:
 ((4294967296:Int)≤a→∃d,zba .shr .u64 a 32=some (.int .u64 d)∧
 (((65536:Int)≤d→∃e,zba .shr .u64 d 16=some (.int .u64 e)∧
 (∀f:Int,f=IntKind.wrap .i64 (32+16)→(zfI K Q e f b)∧
 (zfJ K Q e f b)))∧
 (¬(65536:Int)≤d→((256:Int)≤d→∃g,zba .shr .u64 d 8=some (.int .u64 g)∧
 (∀i:Int,i=IntKind.wrap .i64 (32+8)→∀j:Int,j=IntKind.wrap .u8 g→((0:Int)≤j)∧∃k:UInt8,(ByteArray.mk #[0,1,2,2,3,3,3,3,4,4,4,4,4,4,4,4,5,5,5,5,5,5,5,5,5,5,5,5,5,5,5,5,6,6,6,6,6,6,6,6,6,6,6,6,6,6,6,6,6,6,6,6,6,6,6,6,6,6,6,6,6,6,6,6,7,7,7,7,7,7,7,7,7,7,7,7,7,7,7,7,7,7,7,7,7,7,7,7,7,7,7,7,7,7,7,7,7,7,7,7,7,7,7,7,7,7,7,7,7,7,7,7,7,7,7,7,7,7,7,7,7,7,7,7,7,7,7,7,8,8,8,8,8,8,8,8,8,8,8,8,8,8,8,8,8,8,8,8,8,8,8,8,8,8,8,8,8,8,8,8,8,8,8,8,8,8,8,8,8,8,8,8,8,8,8,8,8,8,8,8,8,8,8,8,8,8,8,8,8,8,8,8,8,8,8,8,8,8,8,8,8,8,8,8,8,8,8,8,8,8,8,8,8,8,8,8,8,8,8,8,8,8,8,8,8,8,8,8,8,8,8,8,8,8,8,8,8,8,8,8,8,8,8,8,8,8,8,8,8,8,8,8,8,8,8,8])[Int.toNat j]?= some k∧
 (∀l:Int,l=IntKind.wrap .i64 ((k.toNat:Nat):Int)→∀m:Int,m=IntKind.wrap .i64 (i+l)→Q (.int .i64 m) b)))∧
 (¬(256:Int)≤d→∀n:Int,n=IntKind.wrap .u8 d→((0:Int)≤n)∧∃o:UInt8,(ByteArray.mk #[0,1,2,2,3,3,3,3,4,4,4,4,4,4,4,4,5,5,5,5,5,5,5,5,5,5,5,5,5,5,5,5,6,6,6,6,6,6,6,6,6,6,6,6,6,6,6,6,6,6,6,6,6,6,6,6,6,6,6,6,6,6,6,6,7,7,7,7,7,7,7,7,7,7,7,7,7,7,7,7,7,7,7,7,7,7,7,7,7,7,7,7,7,7,7,7,7,7,7,7,7,7,7,7,7,7,7,7,7,7,7,7,7,7,7,7,7,7,7,7,7,7,7,7,7,7,7,7,8,8,8,8,8,8,8,8,8,8,8,8,8,8,8,8,8,8,8,8,8,8,8,8,8,8,8,8,8,8,8,8,8,8,8,8,8,8,8,8,8,8,8,8,8,8,8,8,8,8,8,8,8,8,8,8,8,8,8,8,8,8,8,8,8,8,8,8,8,8,8,8,8,8,8,8,8,8,8,8,8,8,8,8,8,8,8,8,8,8,8,8,8,8,8,8,8,8,8,8,8,8,8,8,8,8,8,8,8,8,8,8,8,8,8,8,8,8,8,8,8,8,8,8,8,8,8,8])[Int.toNat n]?= some o∧
 (∀p:Int,p=IntKind.wrap .i64 ((o.toNat:Nat):Int)→∀q:Int,q=IntKind.wrap .i64 (32+p)→Q (.int .i64 q) b)))))∧
 (¬(4294967296:Int)≤a→((65536:Int)≤a→∃r,zba .shr .u64 a 16=some (.int .u64 r)∧
 (∀s:Int,s=IntKind.wrap .i64 (0+16)→(zfI K Q r s b)∧
 (zfJ K Q r s b)))∧
 (¬(65536:Int)≤a→((256:Int)≤a→∃t,zba .shr .u64 a 8=some (.int .u64 t)∧
 (∀u:Int,u=IntKind.wrap .i64 (0+8)→∀v:Int,v=IntKind.wrap .u8 t→((0:Int)≤v)∧∃w:UInt8,(ByteArray.mk #[0,1,2,2,3,3,3,3,4,4,4,4,4,4,4,4,5,5,5,5,5,5,5,5,5,5,5,5,5,5,5,5,6,6,6,6,6,6,6,6,6,6,6,6,6,6,6,6,6,6,6,6,6,6,6,6,6,6,6,6,6,6,6,6,7,7,7,7,7,7,7,7,7,7,7,7,7,7,7,7,7,7,7,7,7,7,7,7,7,7,7,7,7,7,7,7,7,7,7,7,7,7,7,7,7,7,7,7,7,7,7,7,7,7,7,7,7,7,7,7,7,7,7,7,7,7,7,7,8,8,8,8,8,8,8,8,8,8,8,8,8,8,8,8,8,8,8,8,8,8,8,8,8,8,8,8,8,8,8,8,8,8,8,8,8,8,8,8,8,8,8,8,8,8,8,8,8,8,8,8,8,8,8,8,8,8,8,8,8,8,8,8,8,8,8,8,8,8,8,8,8,8,8,8,8,8,8,8,8,8,8,8,8,8,8,8,8,8,8,8,8,8,8,8,8,8,8,8,8,8,8,8,8,8,8,8,8,8,8,8,8,8,8,8,8,8,8,8,8,8,8,8,8,8,8,8])[Int.toNat v]?= some w∧
 (∀x:Int,x=IntKind.wrap .i64 ((w.toNat:Nat):Int)→∀y:Int,y=IntKind.wrap .i64 (u+x)→Q (.int .i64 y) b)))∧
 (¬(256:Int)≤a→∀z:Int,z=IntKind.wrap .u8 a→((0:Int)≤z)∧∃aa:UInt8,(ByteArray.mk #[0,1,2,2,3,3,3,3,4,4,4,4,4,4,4,4,5,5,5,5,5,5,5,5,5,5,5,5,5,5,5,5,6,6,6,6,6,6,6,6,6,6,6,6,6,6,6,6,6,6,6,6,6,6,6,6,6,6,6,6,6,6,6,6,7,7,7,7,7,7,7,7,7,7,7,7,7,7,7,7,7,7,7,7,7,7,7,7,7,7,7,7,7,7,7,7,7,7,7,7,7,7,7,7,7,7,7,7,7,7,7,7,7,7,7,7,7,7,7,7,7,7,7,7,7,7,7,7,8,8,8,8,8,8,8,8,8,8,8,8,8,8,8,8,8,8,8,8,8,8,8,8,8,8,8,8,8,8,8,8,8,8,8,8,8,8,8,8,8,8,8,8,8,8,8,8,8,8,8,8,8,8,8,8,8,8,8,8,8,8,8,8,8,8,8,8,8,8,8,8,8,8,8,8,8,8,8,8,8,8,8,8,8,8,8,8,8,8,8,8,8,8,8,8,8,8,8,8,8,8,8,8,8,8,8,8,8,8,8,8,8,8,8,8,8,8,8,8,8,8,8,8,8,8,8,8])[Int.toNat z]?= some aa∧
 (∀ab:Int,ab=IntKind.wrap .i64 ((aa.toNat:Nat):Int)→∀ac:Int,ac=IntKind.wrap .i64 (0+ab)→Q (.int .i64 ac) b))))):
 Wf Tryz.prog K 156 [.int .u64 a] b Q:=
  zaf (hs:=[]) hk (Eq.mpr (by kernel_rfl) H)
theorem zjp {K:Xs} {c:Code} (hc:ztd Tryz.prog 121 3=some c) (a:Int) (b:Option Addr) (d f:Nat) (g:Int) (i:Int) (j:FuncId) (cap4:List Value) {e:Env} (ha:agr (((((Tr.nil.set 12 (.int .i64 a)).set 0 (.slice b d f)).set 1 (.int .i64 g)).set 2 (.int .i64 i)).set 4 (.func (.func j) #[] cap4.toArray)) e) (h:AH) (Q:AX→AH→Prop) (H:
 ((a:Int)≤12→Wf Tryz.prog K 147 [.slice b d f,.int .i64 g,.int .i64 i,(.func (.func j) #[] cap4.toArray)] h fun k l=>
 (Q AX.ret l))∧
 (¬(a:Int)≤12→Q AX.normal h)):
 Wc Tryz.prog K none c e h fun x _ h'=>Q x h':=
  zvS hc ha (hs:=[]) (Eq.mpr (by kernel_rfl) H)
end Go.Am
