/-
  WEAKEST CONDITIONS of some functions of this program, printed by a program.
-/
import Derived.Test.YtihmdaifbmchjaaGreatVAbb
import Derived.Test.YtihmdaifbmchjaaGreatRows
set_option linter.unusedVariables false
set_option maxRecDepth 100000
set_option maxHeartbeats 2000000
namespace Go.Am
open Go.Proofs
theorem zla {K:Xs} (hk:K 37=none) (a:Int) (b:Option Addr) (d e:Nat) (h:AH) (Q:Value→AH→Prop) (H:
 ∀f,f=h.alloc (.cells (bC a b d e) 25 false)→
 ∀g,g=f.alloc (.cells [.int .u64 0,.slice none 0 0] 25 false)→
 ∃i j k,ld1 g h.next 1=some (.slice i j k)∧
 (((0:Int)≤((j:Nat):Int)∧(((j:Nat):Int):Int)≤((j:Nat):Int)∧(((j:Nat):Int):Int)≤9223372036854775807∧(112:Int) * ((j:Nat):Int)≤281474976710656)∧∀l,l=g.alloc (.cells ((List.replicate (Int.toNat ((j:Nat):Int)) (zC)).flatten) 62 false)→
 ∃m o p,ld1 l h.next 1=some (.slice m o p)∧
 (∃q:Int→Nat→AH→Prop,(∃n,q 0 n l)∧
 ∀(r:Nat) (s:AH),∀(t:Int),q t r s→
 ((t:Int) < ((o:Nat):Int)→∃u v w,ld1 s h.next 1=some (.slice u v w)∧
 (zai u fun x y=>(((0:Int)≤t)∧((t:Int) < ((v:Nat):Int))∧
 (∃z aa ab ac ad ae af ag ah ai aj ak al,ldN s x (y+Int.toNat t * 11) 11=some (sC z aa ab ac ad ae af ag ah ai aj ak al)∧
 (Wf Tryz.prog K 58 [.agg (sC z aa ab ac ad ae af ag ah ai aj ak al).toArray] s fun am an=>
 (∃ao ap aq ar au av aw ax ay az a0 a1 a2,am=(.agg (sC ao ap aq ar au av aw ax ay az a0 a1 a2).toArray)∧
 (((0:Int)≤t)∧((t:Int) < (((Int.toNat ((j:Nat):Int)):Nat):Int))∧
 ((11=11)∧∃a3,stN an g.next (0+Int.toNat t * 11) (sC ao ap aq ar au av aw ax ay az a0 a1 a2)=some a3∧
 (∀a4:Int,a4=IntKind.wrap .i64 (t+1)→∃a5,a5 < r∧q a4 a5 a3)))))))))∧
 (¬(t:Int) < ((o:Nat):Int)→∃a6,ld1 s h.next 0=some (.int .u64 a6)∧
 ((2=2)∧∃a7,stN s f.next 0 [.int .u64 a6,(.slice (some ⟨g.next,0,none⟩) (Int.toNat ((j:Nat):Int)) (Int.toNat ((j:Nat):Int)))]=some a7∧
 (∃a8 a9 ba bb,ldN a7 f.next 0 2=some (bC a8 a9 ba bb)∧
 (Q (.agg (bC a8 a9 ba bb).toArray) a7))))))):
 Wf Tryz.prog K 37 [.agg (bC a b d e).toArray] h Q:=
  zaf (hs:=[(3,[(12,.int .i64 0)])]) hk (Eq.mpr (by kernel_rfl) H)
theorem zlb {K:Xs} (hk:K 7=none) (a:Option Addr) (h:AH) (Q:Value→AH→Prop) (H:
 Wf Tryz.prog K 29 [.pointer a] h fun b d=>
 (∃e,b=(.int .i64 e)∧
 (((e:Int) < 64→Q (.tuple #[.pointer none,.int .i64 191]) d)∧
 (¬(e:Int) < 64→Wf Tryz.prog K 29 [.pointer a] d fun f g=>
 (∃i,f=(.int .i64 i)∧
 (Wf Tryz.prog K 31 [.int .i64 i] g fun j k=>
 (∃l:Option Addr,j=(.pointer l)∧
 (Wf Tryz.prog K 30 [.pointer a,.pointer l,.int .u64 1,.int .u64 0] k fun m n=>
 (∃o:Option Addr,m=(.pointer o)∧
 (∀p,p=n.alloc (.cells [.pointer o,.int .u64 1,.slice none 0 0,.slice none 0 0,.int .u64 0,.int .u64 0,.int .i64 0,.int .u64 0,.int .u32 0,.int .i64 0,.int .i64 0] 77 false)→
 Wf Tryz.prog K 32 [(.pointer (some ⟨n.next,0,none⟩))] p fun q r=>
 (∃s,q=(.int .i64 s)∧
 (((s:Int)=0→Q (.tuple #[(.pointer (some ⟨n.next,0,none⟩)),.int .i64 0]) r)∧
 (¬(s:Int)=0→Q (.tuple #[.pointer none,.int .i64 s]) r))))))))))))):
 Wf Tryz.prog K 7 [.pointer a] h Q:=
  zaf (hs:=[]) hk (Eq.mpr (by kernel_rfl) H)
theorem zlc {K:Xs} (hk:K 20=none) (a:Option Addr) (h:AH) (Q:Value→AH→Prop) (H:
 Wf Tryz.prog K 42 [.pointer a] h fun b d=>
 (((b=(.bool true)∧
 (Q (.tuple #[.pointer none,.int .i64 42]) d))∨(b=(.bool false)∧
 (Wf Tryz.prog K 43 [.pointer a] d fun e f=>
 (∃g i j k l m n,((e=(.tuple #[.agg #[.int .u64 g,.int .u64 i,.int .i64 j,.int .u64 k,.int .u32 l,.int .i64 m,.int .i64 n],.bool true])∧
 (∀o,o=f.alloc (.cells [.int .u64 0,.int .u64 0,.int .i64 0,.int .u64 0,.int .u32 0,.int .i64 0,.int .i64 0] 44 false)→
 (7=7)∧∃p,stN o f.next 0 [.int .u64 g,.int .u64 i,.int .i64 j,.int .u64 k,.int .u32 l,.int .i64 m,.int .i64 n]=some p∧
 (Wf Tryz.prog K 29 [.pointer a] p fun q r=>
 (∃s,q=(.int .i64 s)∧
 (∃t,ld1 r f.next 6=some (.int .i64 t)∧
 (((t:Int)=s→∃u,ld1 r f.next 5=some (.int .i64 u)∧
 (((u:Int)=40→(ld1 p f.next 6=some (.int .i64 t))∧
 ((ld1 r f.next 6=some (.int .i64 t))∧
 (Wf Tryz.prog K 29 [.pointer a] r fun v w=>
 (∃x,v=(.int .i64 x)∧
 (Wf Tryz.prog K 31 [.int .i64 x] w fun y z=>
 (∃aa:Option Addr,y=(.pointer aa)∧
 (Wf Tryz.prog K 30 [.pointer a,.pointer aa,.int .u64 0,.int .u64 0] z fun ab ac=>
 (∃ad:Option Addr,ab=(.pointer ad)∧
 (∃ae af ag,ldN ac f.next 2 3=some (qL ae af ag)∧
 (Wf Tryz.prog K 44 [.pointer ad,.agg (qL ae af ag).toArray] ac fun ah ai=>
 (∃aj ak al am an ao ap aq ar au av,ah=(.tuple #[.agg (bC aj ak al am).toArray,.slice an ao ap,.slice aq ar au,.int .i64 av])∧
 (∀aw,aw=ai.alloc (.cells [.int .u64 0,.slice none 0 0] 25 false)→
 (2=2)∧∃ax,stN aw ai.next 0 (bC aj ak al am)=some ax∧
 ((ldN z f.next 2 3=some (qL ae af ag))∧
 ((ldN ac f.next 2 3=some (qL ae af ag))∧
 (((av:Int)=0→∃ay,ld1 ax f.next 0=some (.int .u64 ay)∧
 (((281474976710652:Int) < ay→Q (.tuple #[.pointer none,.int .i64 192]) ax)∧
 (¬(281474976710652:Int) < ay→∃az,ld1 ax ai.next 0=some (.int .u64 az)∧
 (((281474976710652:Int) < az→Q (.tuple #[.pointer none,.int .i64 192]) ax)∧
 (¬(281474976710652:Int) < az→∃a0,ld1 ax f.next 1=some (.int .u64 a0)∧
 (((281474976710652:Int) < a0→Q (.tuple #[.pointer none,.int .i64 192]) ax)∧
 (¬(281474976710652:Int) < a0→Wf Tryz.prog K 45 [.slice an ao ap,(.func (.func 46) #[.pointer aa] #[])] ax fun a1 a2=>
 (∃a3,ld1 a2 f.next 1=some (.int .u64 a3)∧
 (∀a4:Int,a4=IntKind.wrap .u64 (a3+1)→∃a5,ld1 a2 f.next 1=some (.int .u64 a5)∧
 (Wf Tryz.prog K 30 [.pointer a,.pointer aa,.int .u64 a4,.int .u64 a5] a2 fun a6 a7=>
 (∃a8:Option Addr,a6=(.pointer a8)∧
 (∃a9 ba bb bc,ldN a7 ai.next 0 2=some (bC a9 ba bb bc)∧
 (∃bd be bf bg bh bi bj,ldN a7 f.next 0 7=some [.int .u64 bd,.int .u64 be,.int .i64 bf,.int .u64 bg,.int .u32 bh,.int .i64 bi,.int .i64 bj]∧
 (∀bk,bk=a7.alloc (.cells [.pointer a8,.int .u64 a9,.slice ba bb bc,.slice aq ar au,.int .u64 bd,.int .u64 be,.int .i64 bf,.int .u64 bg,.int .u32 bh,.int .i64 bi,.int .i64 bj] 77 false)→
 (ldN a2 ai.next 0 2=some (bC a9 ba bb bc))∧
 ((ldN a7 ai.next 0 2=some (bC a9 ba bb bc))∧
 ((ldN a2 f.next 0 7=some [.int .u64 bd,.int .u64 be,.int .i64 bf,.int .u64 bg,.int .u32 bh,.int .i64 bi,.int .i64 bj])∧
 ((ldN a7 f.next 0 7=some [.int .u64 bd,.int .u64 be,.int .i64 bf,.int .u64 bg,.int .u32 bh,.int .i64 bi,.int .i64 bj])∧
 (Q (.tuple #[(.pointer (some ⟨a7.next,0,none⟩)),.int .i64 0]) bk))))))))))))))))))∧
 (¬(av:Int)=0→Q (.tuple #[.pointer none,.int .i64 av]) ax))))))))))))))))∧
 (¬(u:Int)=40→(ld1 p f.next 6=some (.int .i64 t))∧
 ((ld1 r f.next 6=some (.int .i64 t))∧
 (Q (.tuple #[.pointer none,.int .i64 91]) r)))))∧
 (¬(t:Int)=s→(ld1 p f.next 6=some (.int .i64 t))∧
 ((ld1 r f.next 6=some (.int .i64 t))∧
 (Q (.tuple #[.pointer none,.int .i64 91]) r)))))))))∨(e=(.tuple #[.agg #[.int .u64 g,.int .u64 i,.int .i64 j,.int .u64 k,.int .u32 l,.int .i64 m,.int .i64 n],.bool false])∧
 (∀bl,bl=f.alloc (.cells [.int .u64 0,.int .u64 0,.int .i64 0,.int .u64 0,.int .u32 0,.int .i64 0,.int .i64 0] 44 false)→
 (7=7)∧∃bm,stN bl f.next 0 [.int .u64 g,.int .u64 i,.int .i64 j,.int .u64 k,.int .u32 l,.int .i64 m,.int .i64 n]=some bm∧
 (Q (.tuple #[.pointer none,.int .i64 91]) bm)))))))))):
 Wf Tryz.prog K 20 [.pointer a] h Q:=
  zaf (hs:=[]) hk (Eq.mpr (by kernel_rfl) H)
theorem zgn {K:Xs} (hk:K 12=none) (a:Option Addr) (h:AH) (Q:Value→AH→Prop) (H:
 zai a fun b d=>(∃e:Option Addr,ld1 h b d=some (.pointer e)∧
 (Wf Tryz.prog K 34 [.pointer e] h fun f g=>
 (∃i:Option Addr,f=(.pointer i)∧
 (Wf Tryz.prog K 9 [.pointer e] g fun j k=>
 (∃l:Option Addr,j=(.pointer l)∧
 (Wf Tryz.prog K 35 [.pointer l] k fun m n=>
 (∃o:Option Addr,m=(.pointer o)∧
 (Wf Tryz.prog K 18 [.pointer e] n fun p q=>
 (∃r,p=(.int .u64 r)∧
 (Wf Tryz.prog K 36 [.pointer e] q fun s t=>
 (∃u,s=(.int .u64 u)∧
 (Wf Tryz.prog K 30 [.pointer i,.pointer o,.int .u64 r,.int .u64 u] t fun v w=>
 (∃x:Option Addr,v=(.pointer x)∧
 (zai a fun y z=>(∃aa ab ac ad,ldN w y (z+1) 2=some (bC aa ab ac ad)∧
 (Wf Tryz.prog K 37 [.agg (bC aa ab ac ad).toArray] w fun ae af=>
 (∃ag ah ai aj,ae=(.agg (bC ag ah ai aj).toArray)∧
 (zai a fun ak al=>(∃am an ao,ld1 af ak (al+3)=some (.slice am an ao)∧
 (Wf Tryz.prog K 38 [.slice am an ao] af fun ap aq=>
 (∃ar au av,ap=(.slice ar au av)∧
 (zai a fun aw ax=>(∃ay az a0 a1 a2 a3 a4,ldN aq aw (ax+4) 7=some [.int .u64 ay,.int .u64 az,.int .i64 a0,.int .u64 a1,.int .u32 a2,.int .i64 a3,.int .i64 a4]∧
 (∀a5,a5=aq.alloc (.cells [.pointer x,.int .u64 ag,.slice ah ai aj,.slice ar au av,.int .u64 ay,.int .u64 az,.int .i64 a0,.int .u64 a1,.int .u32 a2,.int .i64 a3,.int .i64 a4] 77 false)→
 (ldN h y (z+1) 2=some (bC aa ab ac ad))∧
 ((ldN g y (z+1) 2=some (bC aa ab ac ad))∧
 ((ld1 h ak (al+3)=some (.slice am an ao))∧
 ((ld1 g ak (al+3)=some (.slice am an ao))∧
 ((ldN h aw (ax+4) 7=some [.int .u64 ay,.int .u64 az,.int .i64 a0,.int .u64 a1,.int .u32 a2,.int .i64 a3,.int .i64 a4])∧
 ((ldN g aw (ax+4) 7=some [.int .u64 ay,.int .u64 az,.int .i64 a0,.int .u64 a1,.int .u32 a2,.int .i64 a3,.int .i64 a4])∧
 ((ldN g y (z+1) 2=some (bC aa ab ac ad))∧
 ((ldN k y (z+1) 2=some (bC aa ab ac ad))∧
 ((ld1 g ak (al+3)=some (.slice am an ao))∧
 ((ld1 k ak (al+3)=some (.slice am an ao))∧
 ((ldN g aw (ax+4) 7=some [.int .u64 ay,.int .u64 az,.int .i64 a0,.int .u64 a1,.int .u32 a2,.int .i64 a3,.int .i64 a4])∧
 ((ldN k aw (ax+4) 7=some [.int .u64 ay,.int .u64 az,.int .i64 a0,.int .u64 a1,.int .u32 a2,.int .i64 a3,.int .i64 a4])∧
 ((ldN k y (z+1) 2=some (bC aa ab ac ad))∧
 ((ldN n y (z+1) 2=some (bC aa ab ac ad))∧
 ((ld1 k ak (al+3)=some (.slice am an ao))∧
 ((ld1 n ak (al+3)=some (.slice am an ao))∧
 ((ldN k aw (ax+4) 7=some [.int .u64 ay,.int .u64 az,.int .i64 a0,.int .u64 a1,.int .u32 a2,.int .i64 a3,.int .i64 a4])∧
 ((ldN n aw (ax+4) 7=some [.int .u64 ay,.int .u64 az,.int .i64 a0,.int .u64 a1,.int .u32 a2,.int .i64 a3,.int .i64 a4])∧
 ((ldN n y (z+1) 2=some (bC aa ab ac ad))∧
 ((ldN q y (z+1) 2=some (bC aa ab ac ad))∧
 ((ld1 n ak (al+3)=some (.slice am an ao))∧
 ((ld1 q ak (al+3)=some (.slice am an ao))∧
 ((ldN n aw (ax+4) 7=some [.int .u64 ay,.int .u64 az,.int .i64 a0,.int .u64 a1,.int .u32 a2,.int .i64 a3,.int .i64 a4])∧
 ((ldN q aw (ax+4) 7=some [.int .u64 ay,.int .u64 az,.int .i64 a0,.int .u64 a1,.int .u32 a2,.int .i64 a3,.int .i64 a4])∧
 ((ldN q y (z+1) 2=some (bC aa ab ac ad))∧
 ((ldN t y (z+1) 2=some (bC aa ab ac ad))∧
 ((ld1 q ak (al+3)=some (.slice am an ao))∧
 ((ld1 t ak (al+3)=some (.slice am an ao))∧
 ((ldN q aw (ax+4) 7=some [.int .u64 ay,.int .u64 az,.int .i64 a0,.int .u64 a1,.int .u32 a2,.int .i64 a3,.int .i64 a4])∧
 ((ldN t aw (ax+4) 7=some [.int .u64 ay,.int .u64 az,.int .i64 a0,.int .u64 a1,.int .u32 a2,.int .i64 a3,.int .i64 a4])∧
 ((ldN t y (z+1) 2=some (bC aa ab ac ad))∧
 ((ldN w y (z+1) 2=some (bC aa ab ac ad))∧
 ((ld1 t ak (al+3)=some (.slice am an ao))∧
 ((ld1 w ak (al+3)=some (.slice am an ao))∧
 ((ldN t aw (ax+4) 7=some [.int .u64 ay,.int .u64 az,.int .i64 a0,.int .u64 a1,.int .u32 a2,.int .i64 a3,.int .i64 a4])∧
 ((ldN w aw (ax+4) 7=some [.int .u64 ay,.int .u64 az,.int .i64 a0,.int .u64 a1,.int .u32 a2,.int .i64 a3,.int .i64 a4])∧
 ((ld1 w ak (al+3)=some (.slice am an ao))∧
 ((ld1 af ak (al+3)=some (.slice am an ao))∧
 ((ldN w aw (ax+4) 7=some [.int .u64 ay,.int .u64 az,.int .i64 a0,.int .u64 a1,.int .u32 a2,.int .i64 a3,.int .i64 a4])∧
 ((ldN af aw (ax+4) 7=some [.int .u64 ay,.int .u64 az,.int .i64 a0,.int .u64 a1,.int .u32 a2,.int .i64 a3,.int .i64 a4])∧
 ((ldN af aw (ax+4) 7=some [.int .u64 ay,.int .u64 az,.int .i64 a0,.int .u64 a1,.int .u32 a2,.int .i64 a3,.int .i64 a4])∧
 ((ldN aq aw (ax+4) 7=some [.int .u64 ay,.int .u64 az,.int .i64 a0,.int .u64 a1,.int .u32 a2,.int .i64 a3,.int .i64 a4])∧
 (Q (.pointer (some ⟨aq.next,0,none⟩)) a5))))))))))))))))))))))))))))))))))))))))))))))))))))))))))))))))))):
 Wf Tryz.prog K 12 [.pointer a] h Q:=
  zaf (hs:=[]) hk (Eq.mpr (by kernel_rfl) H)
theorem zgo {K:Xs} (hk:K 8=none) (a:Option Addr) (h:AH) (Q:Value→AH→Prop) (H:
 zai a fun b d=>(∃e:Option Addr,ld1 h b d=some (.pointer e)∧
 (Q (.pointer e) h))):
 Wf Tryz.prog K 8 [.pointer a] h Q:=
  zaf (hs:=[]) hk (Eq.mpr (by kernel_rfl) H)
theorem zgp {K:Xs} (hk:K 17=none) (a:Option Addr) (h:AH) (Q:Value→AH→Prop) (H:
 ∀b,b=h.alloc (.cells [.int .u64 0,.slice none 0 0] 25 false)→
 zai a fun d e=>(∃f g i j,ldN b d (e+1) 2=some (bC f g i j)∧
 (Wf Tryz.prog K 37 [.agg (bC f g i j).toArray] b fun k l=>
 (∃m n o p,k=(.agg (bC m n o p).toArray)∧
 ((2=2)∧∃q,stN l h.next 0 (bC m n o p)=some q∧
 (∃r s t u,ldN q h.next 0 2=some (bC r s t u)∧
 (Q (.agg (bC r s t u).toArray) q))))))):
 Wf Tryz.prog K 17 [.pointer a] h Q:=
  zaf (hs:=[]) hk (Eq.mpr (by kernel_rfl) H)
theorem zhd {K:Xs} (hk:K 13=none) (a:Option Addr) (b:Int) (d:Option Addr) (e f:Nat) (h:AH) (Q:Value→AH→Prop) (H:
 ∀g,g=h.alloc (.cells (bC b d e f) 25 false)→
 ∃i j k l,ldN g h.next 0 2=some (bC i j k l)∧
 (Wf Tryz.prog K 37 [.agg (bC i j k l).toArray] g fun m n=>
 (∃o p q r,m=(.agg (bC o p q r).toArray)∧
 (zai a fun s t=>((2=2)∧∃u,stN n s (t+1) (bC o p q r)=some u∧
 (Q (.tuple #[]) u)))))):
 Wf Tryz.prog K 13 [.pointer a,.agg (bC b d e f).toArray] h Q:=
  zaf (hs:=[]) hk (Eq.mpr (by kernel_rfl) H)
theorem zgq {K:Xs} (hk:K 11=none) (a:Option Addr) (h:AH) (Q:Value→AH→Prop) (H:
 ∀b,b=h.alloc (.cells [.int .u64 0,.int .u64 0,.int .i64 0,.int .u64 0,.int .u32 0,.int .i64 0,.int .i64 0] 44 false)→
 zai a fun d e=>(∃f g i j k l m,ldN b d (e+4) 7=some [.int .u64 f,.int .u64 g,.int .i64 i,.int .u64 j,.int .u32 k,.int .i64 l,.int .i64 m]∧
 ((7=7)∧∃n,stN b h.next 0 [.int .u64 f,.int .u64 g,.int .i64 i,.int .u64 j,.int .u32 k,.int .i64 l,.int .i64 m]=some n∧
 (∃o p q r s t u,ldN n h.next 0 7=some [.int .u64 o,.int .u64 p,.int .i64 q,.int .u64 r,.int .u32 s,.int .i64 t,.int .i64 u]∧
 (Q (.agg #[.int .u64 o,.int .u64 p,.int .i64 q,.int .u64 r,.int .u32 s,.int .i64 t,.int .i64 u]) n))))):
 Wf Tryz.prog K 11 [.pointer a] h Q:=
  zaf (hs:=[]) hk (Eq.mpr (by kernel_rfl) H)
theorem ze1 {K:Xs} (hk:K 32=none) (a:Option Addr) (h:AH) (Q:Value→AH→Prop) (H:
 zai a fun b d=>(∃e:Option Addr,ld1 h b d=some (.pointer e)∧
 (zai a fun f g=>(∃i j k l,ldN h f (g+1) 2=some (bC i j k l)∧
 (zai a fun m n=>(∃o p q,ld1 h m (n+3)=some (.slice o p q)∧
 (Wf Tryz.prog K 53 [.pointer e,.agg (bC i j k l).toArray,.slice o p q] h fun r s=>
 (∃t u v w x y z,r=(.tuple #[.agg (qL t u v).toArray,.slice w x y,.int .i64 z])∧
 (∀aa,aa=s.alloc (.cells [.int .i64 0,.int .u64 0,.int .u32 0] 42 false)→
 (3=3)∧∃ab,stN aa s.next 0 (qL t u v)=some ab∧
 (((z:Int)=0→zai a fun ac ad=>(∃ae:Option Addr,ld1 ab ac ad=some (.pointer ae)∧
 (Wf Tryz.prog K 34 [.pointer ae] ab fun af ag=>
 (∃ah:Option Addr,af=(.pointer ah)∧
 (zai a fun ai aj=>(∃ak:Option Addr,ld1 ag ai aj=some (.pointer ak)∧
 (Wf Tryz.prog K 18 [.pointer ak] ag fun al am=>
 (∃an,al=(.int .u64 an)∧
 (Wf Tryz.prog K 29 [.pointer ah] am fun ao ap=>
 (∃aq,ao=(.int .i64 aq)∧
 (zai a fun ar au=>(∃av,ld1 ap ar (au+4)=some (.int .u64 av)∧
 (∀aw:Int,aw=IntKind.wrap .u64 (av+1)→∃ax ay az,ldN ap s.next 0 3=some (qL ax ay az)∧
 (∀a0,a0=ap.alloc (.cells [.int .u64 0,.int .u64 0,.int .i64 0,.int .u64 0,.int .u32 0,.int .i64 0,.int .i64 0] 44 false)→
 (7=7)∧∃a1,stN a0 ap.next 0 [.int .u64 aw,.int .u64 an,.int .i64 ax,.int .u64 ay,.int .u32 az,.int .i64 40,.int .i64 aq]=some a1∧
 ((ld1 ag ar (au+4)=some (.int .u64 av))∧
 ((ld1 am ar (au+4)=some (.int .u64 av))∧
 ((ldN ag s.next 0 3=some (qL ax ay az))∧
 ((ldN am s.next 0 3=some (qL ax ay az))∧
 ((ld1 am ar (au+4)=some (.int .u64 av))∧
 ((ld1 ap ar (au+4)=some (.int .u64 av))∧
 ((ldN am s.next 0 3=some (qL ax ay az))∧
 ((ldN ap s.next 0 3=some (qL ax ay az))∧
 (∃a2 a3 a4 a5 a6 a7 a8,ldN a1 ap.next 0 7=some [.int .u64 a2,.int .u64 a3,.int .i64 a4,.int .u64 a5,.int .u32 a6,.int .i64 a7,.int .i64 a8]∧
 (Wf Tryz.prog K 54 [.pointer ah,.agg #[.int .u64 a2,.int .u64 a3,.int .i64 a4,.int .u64 a5,.int .u32 a6,.int .i64 a7,.int .i64 a8]] a1 fun a9 ba=>
 (∃bb,a9=(.int .i64 bb)∧
 (((bb:Int)=0→zai a fun bc bd=>(∃be,st1 ba bc (bd+3) (.slice w x y)=some be∧
 (∃bf bg bh bi bj bk bl,ldN be ap.next 0 7=some [.int .u64 bf,.int .u64 bg,.int .i64 bh,.int .u64 bi,.int .u32 bj,.int .i64 bk,.int .i64 bl]∧
 (zai a fun bm bn=>((7=7)∧∃bo,stN be bm (bn+4) [.int .u64 bf,.int .u64 bg,.int .i64 bh,.int .u64 bi,.int .u32 bj,.int .i64 bk,.int .i64 bl]=some bo∧
 ((ldN ba ap.next 0 7=some [.int .u64 bf,.int .u64 bg,.int .i64 bh,.int .u64 bi,.int .u32 bj,.int .i64 bk,.int .i64 bl])∧
 ((ldN be ap.next 0 7=some [.int .u64 bf,.int .u64 bg,.int .i64 bh,.int .u64 bi,.int .u32 bj,.int .i64 bk,.int .i64 bl])∧
 (zai a fun bp bq=>(∃br:Option Addr,ld1 bo bp bq=some (.pointer br)∧
 (Wf Tryz.prog K 55 [.pointer br] bo fun bs bt=>
 (Q (.int .i64 0) bt)))))))))))∧
 (¬(bb:Int)=0→Q (.int .i64 bb) ba)))))))))))))))))))))))))))∧
 (¬(z:Int)=0→Q (.int .i64 z) ab))))))))))):
 Wf Tryz.prog K 32 [.pointer a] h Q:=
  zaf (hs:=[]) hk (Eq.mpr (by kernel_rfl) H)
theorem zld {K:Xs} (hk:K 58=none) (a:Int) (b:ByteArray) (d:Bool) (e:Int) (f:Int) (g:Int) (i:Int) (j:Int) (k:Int) (l:Int) (m:Option Addr) (n o:Nat) (h:AH) (Q:Value→AH→Prop) (H:
 ∀p,p=h.alloc (.cells (sC a b d e f g i j k l m n o) 62 false)→
 ∀q,q=p.alloc (.cells (zC) 62 false)→
 ∃r s t,ld1 q h.next 10=some (.slice r s t)∧
 (∃u v w x,zal Tryz.prog q .append #[60,60] [.slice none 0 0,.slice r s t]=some (.slice u v w,x)∧
 (∃y,st1 x h.next 10 (.slice u v w)=some y∧
 (∃z aa ab ac ad ae af ag ah ai aj ak al,ldN y h.next 0 11=some (sC z aa ab ac ad ae af ag ah ai aj ak al)∧
 ((11=11)∧∃am,stN y p.next 0 (sC z aa ab ac ad ae af ag ah ai aj ak al)=some am∧
 (∃an ao ap aq ar au av aw ax ay az a0 a1,ldN am p.next 0 11=some (sC an ao ap aq ar au av aw ax ay az a0 a1)∧
 (Q (.agg (sC an ao ap aq ar au av aw ax ay az a0 a1).toArray) am))))))):
 Wf Tryz.prog K 58 [.agg (sC a b d e f g i j k l m n o).toArray] h Q:=
  zaf (hs:=[]) hk (Eq.mpr (by kernel_rfl) H)
theorem ziA {K:Xs} (hk:K 67=none) (a:Int) (b:Option Addr) (d e:Nat) (h:AH) (Q:Value→AH→Prop) (H:
 ((281474976710655:Int) < a→Q (.bool false) h)∧
 (¬(281474976710655:Int) < a→((32:Int) < ((d:Nat):Int)→Q (.bool false) h)∧
 (¬(32:Int) < ((d:Nat):Int)→∀f,f=h.alloc (.map [] 0)→
 ∃g:Int→Int→Nat→AH→Prop,(∃n,g 0 0 n f)∧
 ∀(i:Nat) (j:AH),∀(k:Int),∀(l:Int),g k l i j→
 ((l:Int) < ((d:Nat):Int)→zai b fun m o=>(((0:Int)≤l)∧((l:Int) < ((d:Nat):Int))∧
 (∃p q r s t u v w x y z aa ab,ldN j m (o+Int.toNat l * 11) 11=some (sC p q r s t u v w x y z aa ab)∧
 (Wf Tryz.prog K 101 [.agg (sC p q r s t u v w x y z aa ab).toArray] j fun ac ad=>
 (((ac=(.bool true)∧
 (∃ae,ld1 ad m (o+Int.toNat l * 11)=some (.int .u64 ae)∧
 (((ae:Int)≤k→Q (.bool false) ad)∧
 (¬(ae:Int)≤k→∃af,ld1 ad m (o+Int.toNat l * 11)=some (.int .u64 af)∧
 (((a:Int)≤af→Q (.bool false) ad)∧
 (¬(a:Int)≤af→∃ag,ld1 ad m (o+Int.toNat l * 11)=some (.int .u64 ag)∧
 (Wf Tryz.prog K 102 [(.pointer (some ⟨m,(o+Int.toNat l * 11),none⟩))] ad fun ah ai=>
 (∃aj ak,ah=(.agg #[.int .u64 aj,.string ak])∧
 (∀al,al=ai.alloc (.cells [.int .u64 0,(.string (ByteArray.mk #[]))] 165 false)→
 (2=2)∧∃am,stN al ai.next 0 [.int .u64 aj,.string ak]=some am∧
 (∃an ao,ldN am ai.next 0 2=some [.int .u64 an,.string ao]∧
 (∃ap aq,zbZ Tryz.prog am 162 (.map (some h.next)) (.agg #[.int .u64 an,.string ao]) true=some (.tuple #[.int .i64 ap,.bool aq])∧
 (cond aq (Q (.bool false) am)
 (∃ar au,ldN am ai.next 0 2=some [.int .u64 ar,.string au]∧
 (∃av,zbs Tryz.prog am 162 (.map (some h.next)) (.agg #[.int .u64 ar,.string au]) (.int .i64 l)=some av∧
 (∀aw:Int,aw=IntKind.wrap .i64 (l+1)→∃ax,ax < i∧g ag aw ax av)))))))))))))))∨(ac=(.bool false)∧
 (Q (.bool false) ad))))))))∧
 (¬(l:Int) < ((d:Nat):Int)→∃ay:Int→Nat→AH→Prop,(∃n,ay 0 n j)∧
 ∀(az:Nat) (a0:AH),∀(a1:Int),ay a1 az a0→
 ((a1:Int) < ((d:Nat):Int)→zai b fun a2 a3=>(((0:Int)≤a1)∧((a1:Int) < ((d:Nat):Int))∧
 (Wf Tryz.prog K 103 [.slice b d e,(.pointer (some ⟨a2,(a3+Int.toNat a1 * 11),none⟩))] a0 fun a4 a5=>
 (((a4=(.bool true)∧
 (zai b fun a6 a7=>(((0:Int)≤a1)∧((a1:Int) < ((d:Nat):Int))∧
 (Wf Tryz.prog K 104 [.slice b d e,(.pointer (some ⟨a6,(a7+Int.toNat a1 * 11),none⟩))] a5 fun a8 a9=>
 (((a8=(.bool true)∧
 (∀ba:Int,ba=IntKind.wrap .i64 (a1+1)→∃bb,bb < az∧ay ba bb a9))∨(a8=(.bool false)∧
 (Q (.bool false) a9))))))))∨(a4=(.bool false)∧
 (Q (.bool false) a5)))))))∧
 (¬(a1:Int) < ((d:Nat):Int)→Q (.bool true) a0))))):
 Wf Tryz.prog K 67 (bC a b d e) h Q:=
  zaf (hs:=[(6,[(6,.int .u64 0),(23,.int .i64 0)]),(19,[(69,.int .i64 0)])]) hk (Eq.mpr (by kernel_rfl) H)
theorem zew {K:Xs} (hk:K 19=none) (a:Option Addr) (b d:Nat) (e:Option Addr) (f g:Nat) (h:AH) (Q:Value→AH→Prop) (H:
 ((((b:Nat):Int):Int)=((f:Nat):Int)→∃i:Int→Nat→AH→Prop,(∃n,i 0 n h)∧
 ∀(j:Nat) (k:AH),∀(l:Int),i l j k→
 ((l:Int) < ((b:Nat):Int)→zai a fun m o=>(((0:Int)≤l)∧((l:Int) < ((b:Nat):Int))∧
 (∃p q,ldN k m (o+Int.toNat l * 2) 2=some [.int .i64 p,.int .i64 q]∧
 (zai e fun r s=>(((0:Int)≤l)∧((l:Int) < ((f:Nat):Int))∧
 (∃t u,ldN k r (s+Int.toNat l * 2) 2=some [.int .i64 t,.int .i64 u]∧
 (∃la13 lb14,zcp Tryz.prog 90 (.agg #[.int .i64 p,.int .i64 q])=some la13∧zcp Tryz.prog 90 (.agg #[.int .i64 t,.int .i64 u])=some lb14∧
 (zaC la13 lb14=true→∀v:Int,v=IntKind.wrap .i64 (l+1)→∃w,w < j∧i v w k)∧
 (zaC la13 lb14=false→Q (.bool false) k))))))))∧
 (¬(l:Int) < ((b:Nat):Int)→Q (.bool true) k))∧
 (¬(((b:Nat):Int):Int)=((f:Nat):Int)→Q (.bool false) h)):
 Wf Tryz.prog K 19 [.slice a b d,.slice e f g] h Q:=
  zaf (hs:=[(4,[(13,.int .i64 0)])]) hk (Eq.mpr (by kernel_rfl) H)
theorem zrh {K:Xs} (hk:K 45=none) (a:Option Addr) (b d:Nat) (e:Option Addr) (h:AH) (Q:Value→AH→Prop) (H:
 Wf Tryz.prog K 70 [.slice a b d] h fun f g=>
 (∃i j k,f=(.slice i j k)∧
 (∃l:Int→Nat→AH→Prop,(∃n,l 0 n g)∧
 ∀(m:Nat) (o:AH),∀(p:Int),l p m o→
 ((p:Int) < ((j:Nat):Int)→zai i fun q r=>(((0:Int)≤p)∧((p:Int) < ((j:Nat):Int))∧
 (∃s,ld1 o q (r+Int.toNat p * 1)=some (.int .i64 s)∧
 (Wf Tryz.prog K 46 [.pointer e,.int .i64 s] o fun t u=>
 (∃v,t=(.int .i64 v)∧
 (∀w:Int,w=IntKind.wrap .i64 (p+1)→∃x,x < m∧l w x u))))))∧
 (¬(p:Int) < ((j:Nat):Int)→Q (.tuple #[]) o)))):
 Wf Tryz.prog K 45 [.slice a b d,(.func (.func 46) #[.pointer e] #[])] h Q:=
  zaf (hs:=[(1,[(9,.int .i64 0)])]) hk (Eq.mpr (by kernel_rfl) H)
end Go.Am
