/-
  WEAKEST CONDITIONS of some functions of this program, printed by a program.
-/
import Derived.Test.YtihmdaifbmchjaaGreatVAbb
import Derived.Test.YtihmdaifbmchjaaGreatRows
set_option linter.unusedVariables false
set_option maxRecDepth 100000
namespace Go.Am
open Go.Proofs
theorem zoH {K:Xs} (hk:K 30=none) (a:Option Addr) (b:Option Addr) (d:Int) (e:Int) (h:AH) (Q:Value→AH→Prop) (H:
 ∀f,f=h.alloc (.cells [.pointer a,.pointer b,.int .u64 d,.int .u64 e] 79 false)→
 Q (.pointer (some ⟨h.next,0,none⟩)) f):
 Wf Tryz.prog K 30 [.pointer a,.pointer b,.int .u64 d,.int .u64 e] h Q:=
  zaf (hs:=[]) hk (Eq.mpr (by kernel_rfl) H)
theorem zoI {K:Xs} (hk:K 6=none) (a:Int) (h:AH) (Q:Value→AH→Prop) (H:
 ∀b:Int,b=(if 0 > (a:Int) then 0 else (a:Int))→∀d:Int,d=(if 1024 < (b:Int) then 1024 else (b:Int))→((0:Int)≤d∧(d:Int)≤d∧(d:Int)≤9223372036854775807∧(128:Int) * d≤281474976710656)∧∀e,e=h.alloc (.cells ((List.replicate (Int.toNat d) (List.replicate 128 (.int .u8 0):List Value)).flatten) 112 false)→
 ((0:Int)≤d∧(d:Int)≤d∧(d:Int)≤9223372036854775807∧(128:Int) * d≤281474976710656)∧∀f,f=e.alloc (.cells ((List.replicate (Int.toNat d) (List.replicate 128 (.int .u8 0):List Value)).flatten) 112 false)→
 ∀g,g=f.alloc (.cells [(.slice (some ⟨h.next,0,none⟩) (Int.toNat d) (Int.toNat d)),(.slice (some ⟨e.next,0,none⟩) (Int.toNat d) (Int.toNat d)),.slice none 0 0,.int .i64 0,(.int .i64 (-1)),.bool false] 73 false)→
 Q (.pointer (some ⟨f.next,0,none⟩)) g):
 Wf Tryz.prog K 6 [.int .i64 a] h Q:=
  zaf (hs:=[]) hk (Eq.mpr (by kernel_rfl) H)
theorem zoJ {K:Xs} (hk:K 31=none) (a:Int) (h:AH) (Q:Value→AH→Prop) (H:
 ∃l0:List Value,za1 Tryz.prog 99 #[]=some (.agg l0.toArray)∧
 (∀b,b=h.alloc (.cells l0 99 false)→
 ∃d:Int→Nat→AH→Prop,(∃n,d 4 n b)∧
 ∀(e:Nat) (f:AH),∀(g:Int),d g e f→
 ∀i:Int,i=(if 1024 < (a:Int) then 1024 else (a:Int))→((g:Int) < i→Wf Tryz.prog K 52 [(.pointer (some ⟨h.next,0,none⟩)),.int .i64 g,.int .u8 1] f fun j k=>
 (∀l:Int,l=IntKind.wrap .i64 (g+1)→∃m,m < e∧d l m k))∧
 (¬(g:Int) < i→Q (.pointer (some ⟨h.next,0,none⟩)) f))):
 Wf Tryz.prog K 31 [.int .i64 a] h Q:=
  zaf (hs:=[(3,[(4,.int .i64 0)])]) hk (Eq.mpr (by kernel_rfl) H)
theorem zg1 {K:Xs} (hk:K 15=none) (a:Option Addr) (b:Option Addr) (d e:Nat) (h:AH) (Q:Value→AH→Prop) (H:
 ∀f,f=h.alloc (.cells [.int .i64 0,.int .u64 0,.int .u32 0] 42 false)→
 ((128:Int) < ((d:Nat):Int)→(3=3)∧∃g,stN f h.next 0 [.int .i64 0,.int .u64 0,.int .u32 0]=some g∧
 (∃i j k,ldN g h.next 0 3=some (qL i j k)∧
 (Q (.tuple #[.agg (qL i j k).toArray,.int .i64 92]) g)))∧
 (¬(128:Int) < ((d:Nat):Int)→zai a fun l m=>(∃n:Option Addr,ld1 f l (m+1)=some (.pointer n)∧
 (Wf Tryz.prog K 39 [.pointer n] f fun o p=>
 (∃q r,o=(.tuple #[.int .i64 q,.int .i64 r])∧
 (((r:Int)=0→Wf Tryz.prog K 40 [.pointer a,.int .i64 q,.slice b d e] p fun s t=>
 (∃u v w x,s=(.tuple #[.agg (qL u v w).toArray,.int .i64 x])∧
 (∀y,y=t.alloc (.cells [.int .i64 0,.int .u64 0,.int .u32 0] 42 false)→
 (3=3)∧∃z,stN y t.next 0 (qL u v w)=some z∧
 (((x:Int)=0→∃aa ab ac,ldN z t.next 0 3=some (qL aa ab ac)∧
 ((3=3)∧∃ad,stN z h.next 0 (qL aa ab ac)=some ad∧
 (∃ae af ag,ldN ad h.next 0 3=some (qL ae af ag)∧
 (Q (.tuple #[.agg (qL ae af ag).toArray,.int .i64 0]) ad))))∧
 (¬(x:Int)=0→zai a fun ah ai=>(∃aj:Option Addr,ld1 z ah (ai+1)=some (.pointer aj)∧
 (Wf Tryz.prog K 41 [.pointer aj,.int .i64 q] z fun ak al=>
 (∃am,ak=(.int .i64 am)∧
 ((3=3)∧∃an,stN al h.next 0 [.int .i64 0,.int .u64 0,.int .u32 0]=some an∧
 (∃ao ap aq,ldN an h.next 0 3=some (qL ao ap aq)∧
 (Q (.tuple #[.agg (qL ao ap aq).toArray,.int .i64 x]) an)))))))))))∧
 (¬(r:Int)=0→(3=3)∧∃ar,stN p h.next 0 [.int .i64 0,.int .u64 0,.int .u32 0]=some ar∧
 (∃au av aw,ldN ar h.next 0 3=some (qL au av aw)∧
 (Q (.tuple #[.agg (qL au av aw).toArray,.int .i64 r]) ar))))))))):
 Wf Tryz.prog K 15 [.pointer a,.slice b d e] h Q:=
  zaf (hs:=[]) hk (Eq.mpr (by kernel_rfl) H)
theorem zfB {K:Xs} (hk:K 117=none) (a:Option Addr) (b:Int) (d:Option Addr) (e f:Nat) (h:AH) (Q:Value→AH→Prop) (H:
 ∀g,g=h.alloc (.cells [.int .i64 0,.int .u64 0,.int .u32 0] 42 false)→
 ((128:Int) < ((e:Nat):Int)→(3=3)∧∃i,stN g h.next 0 [.int .i64 0,.int .u64 0,.int .u32 0]=some i∧
 (∃j k l,ldN i h.next 0 3=some (qL j k l)∧
 (Q (.tuple #[.agg (qL j k l).toArray,.int .i64 92]) i)))∧
 (¬(128:Int) < ((e:Nat):Int)→zai a fun m n=>(∃o:Option Addr,ld1 g m (n+1)=some (.pointer o)∧
 (Wf Tryz.prog K 10 [.pointer o] g fun p q=>
 (∃r s t,p=(.slice r s t)∧
 (Wf Tryz.prog K 146 [.slice r s t,.int .i64 b] q fun u v=>
 (((u=(.bool true)∧
 (Wf Tryz.prog K 40 [.pointer a,.int .i64 b,.slice d e f] v fun w x=>
 (∃y z aa ab,w=(.tuple #[.agg (qL y z aa).toArray,.int .i64 ab])∧
 ((3=3)∧∃ac,stN x h.next 0 (qL y z aa)=some ac∧
 (∃ad ae af,ldN ac h.next 0 3=some (qL ad ae af)∧
 (Q (.tuple #[.agg (qL ad ae af).toArray,.int .i64 ab]) ac))))))∨(u=(.bool false)∧
 ((3=3)∧∃ag,stN v h.next 0 [.int .i64 0,.int .u64 0,.int .u32 0]=some ag∧
 (∃ah ai aj,ldN ag h.next 0 3=some (qL ah ai aj)∧
 (Q (.tuple #[.agg (qL ah ai aj).toArray,.int .i64 72]) ag)))))))))))):
 Wf Tryz.prog K 117 [.pointer a,.int .i64 b,.slice d e f] h Q:=
  zaf (hs:=[]) hk (Eq.mpr (by kernel_rfl) H)
theorem zfC {K:Xs} (hk:K 40=none) (a:Option Addr) (b:Int) (d:Option Addr) (e f:Nat) (h:AH) (Q:Value→AH→Prop) (H:
 ∀g,g=h.alloc (.cells [.int .i64 0,.int .u64 0,.int .u32 0] 42 false)→
 ∀i,i=g.alloc (.cells (List.replicate 128 (.int .u8 0):List Value) 112 false)→
 ∃j k l,zar Tryz.prog i 112 (.pointer (some ⟨g.next,0,none⟩)) none none none=some (.slice j k l)∧
 (∃(m:Int) (n:AH),zal Tryz.prog i .copy #[53,53] [.slice j k l,.slice d e f]=some (.int .i64 m,n)∧
 (zai a fun o p=>(∃q:Option Addr,ld1 n o p=some (.pointer q)∧
 (∃l10:List Value,ldN n g.next 0 128=some l10∧
 (Wf Tryz.prog K 59 [.pointer q,.int .i64 b,.agg l10.toArray] n fun r s=>
 (∃t,r=(.int .i64 t)∧
 (((t:Int)=0→∃u v w,zar Tryz.prog s 112 (.pointer (some ⟨g.next,0,none⟩)) none none none=some (.slice u v w)∧
 (Wf Tryz.prog K 60 [.slice u v w] s fun x y=>
 (∃z,x=(.int .u32 z)∧
 (zai a fun aa ab=>(∃ac,ld1 y aa (ab+2)=some (.int .u64 ac)∧
 ((3=3)∧∃ad,stN y h.next 0 (qL b ac z)=some ad∧
 ((ld1 s aa (ab+2)=some (.int .u64 ac))∧
 ((ld1 y aa (ab+2)=some (.int .u64 ac))∧
 (∃ae af ag,ldN ad h.next 0 3=some (qL ae af ag)∧
 (Q (.tuple #[.agg (qL ae af ag).toArray,.int .i64 0]) ad))))))))))∧
 (¬(t:Int)=0→(3=3)∧∃ah,stN s h.next 0 [.int .i64 0,.int .u64 0,.int .u32 0]=some ah∧
 (∃ai aj ak,ldN ah h.next 0 3=some (qL ai aj ak)∧
 (Q (.tuple #[.agg (qL ai aj ak).toArray,.int .i64 t]) ah))))))))))):
 Wf Tryz.prog K 40 [.pointer a,.int .i64 b,.slice d e f] h Q:=
  zaf (hs:=[]) hk (Eq.mpr (by kernel_rfl) H)
theorem zg2 {K:Xs} (hk:K 125=none) (a:Option Addr) (b:Int) (d:Int) (e:Int) (h:AH) (Q:Value→AH→Prop) (H:
 ∀f,f=h.alloc (.cells (qL b d e) 42 false)→
 ∀g,g=f.alloc (.cells (List.replicate 128 (.int .u8 0):List Value) 112 false)→
 ∃i j k,ldN g h.next 0 3=some (qL i j k)∧
 (∃la5 lb6,zcp Tryz.prog 42 (.agg (qL i j k).toArray)=some la5∧zcp Tryz.prog 42 (.agg #[.int .i64 0,.int .u64 0,.int .u32 0])=some lb6∧
 (zaC la5 lb6=true→∃l7:List Value,za1 Tryz.prog 112 #[]=some (.agg l7.toArray)∧
 ((List.length l7=128)∧∃l,stN g f.next 0 l7=some l∧
 (∃l9:List Value,ldN l f.next 0 128=some l9∧
 (Q (.tuple #[.agg l9.toArray,.int .i64 0]) l))))∧
 (zaC la5 lb6=false→zai a fun m n=>(∃o:Option Addr,ld1 g m n=some (.pointer o)∧
 (∃p,ld1 g h.next 0=some (.int .i64 p)∧
 (Wf Tryz.prog K 87 [.pointer o,.int .i64 p] g fun q r=>
 (∃l16:List Value,∃s,q=(.tuple #[.agg l16.toArray,.int .i64 s])∧
 (∀t,t=r.alloc (.cells (List.replicate 128 (.int .u8 0):List Value) 112 false)→
 (List.length l16=128)∧∃u,stN t r.next 0 l16=some u∧
 (((s:Int)=41→∃l20:List Value,za1 Tryz.prog 112 #[]=some (.agg l20.toArray)∧
 ((List.length l20=128)∧∃v,stN u f.next 0 l20=some v∧
 (∃l22:List Value,ldN v f.next 0 128=some l22∧
 (Q (.tuple #[.agg l22.toArray,.int .i64 91]) v))))∧
 (¬(s:Int)=41→((s:Int)=0→∃w x y,zar Tryz.prog u 112 (.pointer (some ⟨r.next,0,none⟩)) none none none=some (.slice w x y)∧
 (Wf Tryz.prog K 60 [.slice w x y] u fun z aa=>
 (∃ab,z=(.int .u32 ab)∧
 (∃ac,ld1 aa h.next 2=some (.int .u32 ac)∧
 (((ab:Int)=ac→(ld1 u h.next 2=some (.int .u32 ac))∧
 ((ld1 aa h.next 2=some (.int .u32 ac))∧
 (∃l30:List Value,ldN aa r.next 0 128=some l30∧
 ((List.length l30=128)∧∃ad,stN aa f.next 0 l30=some ad∧
 (∃l32:List Value,ldN ad f.next 0 128=some l32∧
 (Q (.tuple #[.agg l32.toArray,.int .i64 0]) ad))))))∧
 (¬(ab:Int)=ac→(ld1 u h.next 2=some (.int .u32 ac))∧
 ((ld1 aa h.next 2=some (.int .u32 ac))∧
 (∃l33:List Value,za1 Tryz.prog 112 #[]=some (.agg l33.toArray)∧
 ((List.length l33=128)∧∃ae,stN aa f.next 0 l33=some ae∧
 (∃l35:List Value,ldN ae f.next 0 128=some l35∧
 (Q (.tuple #[.agg l35.toArray,.int .i64 91]) ae)))))))))))∧
 (¬(s:Int)=0→∃l36:List Value,za1 Tryz.prog 112 #[]=some (.agg l36.toArray)∧
 ((List.length l36=128)∧∃af,stN u f.next 0 l36=some af∧
 (∃l38:List Value,ldN af f.next 0 128=some l38∧
 (Q (.tuple #[.agg l38.toArray,.int .i64 s]) af)))))))))))))):
 Wf Tryz.prog K 125 [.pointer a,.agg (qL b d e).toArray] h Q:=
  zaf (hs:=[]) hk (Eq.mpr (by kernel_rfl) H)
theorem ze0 {K:Xs} (hk:K 55=none) (a:Option Addr) (h:AH) (Q:Value→AH→Prop) (H:
 zai a fun b d=>(∃e:Option Addr,ld1 h b (d+1)=some (.pointer e)∧
 (Wf Tryz.prog K 81 [.pointer e] h fun f g=>
 (zai a fun i j=>(∃k,ld1 g i (j+2)=some (.int .u64 k)∧
 (zai a fun l m=>(∃n,st1 g l (m+3) (.int .u64 k)=some n∧
 (zai a fun o p=>(∃q,ld1 n o (p+2)=some (.int .u64 q)∧
 (∀r:Int,r=IntKind.wrap .u64 (q+1)→zai a fun s t=>(∃u,st1 n s (t+2) (.int .u64 r)=some u∧
 (Q (.tuple #[]) u)))))))))))):
 Wf Tryz.prog K 55 [.pointer a] h Q:=
  zaf (hs:=[]) hk (Eq.mpr (by kernel_rfl) H)
theorem zdE {K:Xs} (hk:K 9=none) (a:Option Addr) (h:AH) (Q:Value→AH→Prop) (H:
 zai a fun b d=>(∃e:Option Addr,ld1 h b (d+1)=some (.pointer e)∧
 (Q (.pointer e) h))):
 Wf Tryz.prog K 9 [.pointer a] h Q:=
  zaf (hs:=[]) hk (Eq.mpr (by kernel_rfl) H)
theorem zg3 {K:Xs} (hk:K 34=none) (a:Option Addr) (h:AH) (Q:Value→AH→Prop) (H:
 zai a fun b d=>(∃e:Option Addr,ld1 h b d=some (.pointer e)∧
 (Q (.pointer e) h))):
 Wf Tryz.prog K 34 [.pointer a] h Q:=
  zaf (hs:=[]) hk (Eq.mpr (by kernel_rfl) H)
theorem zgd {K:Xs} (hk:K 36=none) (a:Option Addr) (h:AH) (Q:Value→AH→Prop) (H:
 zai a fun b d=>(∃e,ld1 h b (d+3)=some (.int .u64 e)∧
 (Q (.int .u64 e) h))):
 Wf Tryz.prog K 36 [.pointer a] h Q:=
  zaf (hs:=[]) hk (Eq.mpr (by kernel_rfl) H)
theorem zcX {K:Xs} (hk:K 18=none) (a:Option Addr) (h:AH) (Q:Value→AH→Prop) (H:
 zai a fun b d=>(∃e,ld1 h b (d+2)=some (.int .u64 e)∧
 (Q (.int .u64 e) h))):
 Wf Tryz.prog K 18 [.pointer a] h Q:=
  zaf (hs:=[]) hk (Eq.mpr (by kernel_rfl) H)
theorem zge {K:Xs} (hk:K 16=none) (a:Option Addr) (h:AH) (Q:Value→AH→Prop) (H:
 zai a fun b d=>(∃e,ld1 h b (d+2)=some (.int .u64 e)∧
 (∀f:Int,f=IntKind.wrap .u64 (e+1)→zai a fun g i=>(∃j,st1 h g (i+2) (.int .u64 f)=some j∧
 (Q (.tuple #[]) j))))):
 Wf Tryz.prog K 16 [.pointer a] h Q:=
  zaf (hs:=[]) hk (Eq.mpr (by kernel_rfl) H)
theorem zgf {K:Xs} (hk:K 39=none) (a:Option Addr) (h:AH) (Q:Value→AH→Prop) (H:
 zai a fun b d=>(∃l2:List Value,ldN h b (d+1024) 16=some l2∧
 (∃e:Int→Int→Nat→AH→Prop,(∃n,e 0 0 n h)∧
 ∀(f:Nat) (g:AH),∀(i:Int),∀(j:Int),e i j f g→
 ((j:Int) < 16→((0:Int)≤j)∧((j:Int) < 16)∧(∃k,(l2:List Value)[(Int.toNat j * 1)]?= some (.int .i64 k)∧
 (zai a fun l m=>(((0:Int)≤i)∧((i:Int) < 16)∧
 (∃o,ld1 g l ((m+1024)+Int.toNat i * 1)=some (.int .i64 o)∧
 (((o:Int) < k→∀p:Int,p=IntKind.wrap .i64 (j+1)→∃q,q < f∧e j p q g)∧
 (¬(o:Int) < k→∀r:Int,r=IntKind.wrap .i64 (j+1)→∃q,q < f∧e i r q g)))))))∧
 (¬(j:Int) < 16→∀s:Int,s=IntKind.wrap .i64 (i * 64)→∃t:Int→Nat→AH→Prop,(∃n,t s n g)∧
 ∀(u:Nat) (v:AH),∀(w:Int),t w u v→
 ∀x:Int,x=IntKind.wrap .i64 (i+1)→∀y:Int,y=IntKind.wrap .i64 (x * 64)→((w:Int) < y→Wf Tryz.prog K 56 [.pointer a,.int .i64 w,.int .u8 1] v fun z aa=>
 (((z=(.bool true)∧
 (Wf Tryz.prog K 52 [.pointer a,.int .i64 w,.int .u8 2] aa fun ab ac=>
 (Q (.tuple #[.int .i64 w,.int .i64 0]) ac)))∨(z=(.bool false)∧
 (∀ad:Int,ad=IntKind.wrap .i64 (w+1)→∃ae,ae < u∧t ad ae aa)))))∧
 (¬(w:Int) < y→Q (.tuple #[.int .i64 0,.int .i64 71]) v))))):
 Wf Tryz.prog K 39 [.pointer a] h Q:=
  zaf (hs:=[(3,[(4,.int .i64 0),(12,.int .i64 0)]),(9,[(7,.int .i64 0)])]) hk (Eq.mpr (by kernel_rfl) H)
theorem ziu {K:Xs} (hk:K 52=none) (a:Option Addr) (b:Int) (d:Int) (h:AH) (Q:Value→AH→Prop) (H:
 zai a fun e f=>(((0:Int)≤b)∧((b:Int) < 1024)∧
 (∃g,ld1 h e (f+Int.toNat b * 1)=some (.int .u8 g)∧
 (((g:Int)=1→(64≠(0:Int))∧(∀i:Int,i=IntKind.wrap .i64 (Int.tdiv b 64)→zai a fun j k=>(((0:Int)≤i)∧((i:Int) < 16)∧
 (∃l,ld1 h j ((k+1024)+Int.toNat i * 1)=some (.int .i64 l)∧
 (∀m:Int,m=IntKind.wrap .i64 (l - 1)→zai a fun n o=>(((0:Int)≤i)∧((i:Int) < 16)∧
 (∃p,st1 h n ((o+1024)+Int.toNat i * 1) (.int .i64 m)=some p∧
 (zai a fun q r=>(((0:Int)≤b)∧((b:Int) < 1024)∧
 (∃s,st1 p q (r+Int.toNat b * 1) (.int .u8 d)=some s∧
 (((d:Int)=1→(64≠(0:Int))∧(∀t:Int,t=IntKind.wrap .i64 (Int.tdiv b 64)→zai a fun u v=>(((0:Int)≤t)∧((t:Int) < 16)∧
 (∃w,ld1 s u ((v+1024)+Int.toNat t * 1)=some (.int .i64 w)∧
 (∀x:Int,x=IntKind.wrap .i64 (w+1)→zai a fun y z=>(((0:Int)≤t)∧((t:Int) < 16)∧
 (∃aa,st1 s y ((z+1024)+Int.toNat t * 1) (.int .i64 x)=some aa∧
 (Q (.tuple #[]) aa))))))))∧
 (¬(d:Int)=1→Q (.tuple #[]) s))))))))))))∧
 (¬(g:Int)=1→zai a fun ab ac=>(((0:Int)≤b)∧((b:Int) < 1024)∧
 (∃ad,st1 h ab (ac+Int.toNat b * 1) (.int .u8 d)=some ad∧
 (((d:Int)=1→(64≠(0:Int))∧(∀ae:Int,ae=IntKind.wrap .i64 (Int.tdiv b 64)→zai a fun af ag=>(((0:Int)≤ae)∧((ae:Int) < 16)∧
 (∃ah,ld1 ad af ((ag+1024)+Int.toNat ae * 1)=some (.int .i64 ah)∧
 (∀ai:Int,ai=IntKind.wrap .i64 (ah+1)→zai a fun aj ak=>(((0:Int)≤ae)∧((ae:Int) < 16)∧
 (∃al,st1 ad aj ((ak+1024)+Int.toNat ae * 1) (.int .i64 ai)=some al∧
 (Q (.tuple #[]) al))))))))∧
 (¬(d:Int)=1→Q (.tuple #[]) ad))))))))):
 Wf Tryz.prog K 52 [.pointer a,.int .i64 b,.int .u8 d] h Q:=
  zaf (hs:=[]) hk (Eq.mpr (by kernel_rfl) H)
theorem zjk {K:Xs} (hk:K 56=none) (a:Option Addr) (b:Int) (d:Int) (h:AH) (Q:Value→AH→Prop) (H:
 ((0:Int)≤b→((b:Int) < 1024→zai a fun e f=>(((0:Int)≤b)∧((b:Int) < 1024)∧
 (∃g,ld1 h e (f+Int.toNat b * 1)=some (.int .u8 g)∧
 (((g:Int)=d→Q (.bool true) h)∧
 (¬(g:Int)=d→Q (.bool false) h)))))∧
 (¬(b:Int) < 1024→Q (.bool false) h))∧
 (¬(0:Int)≤b→Q (.bool false) h)):
 Wf Tryz.prog K 56 [.pointer a,.int .i64 b,.int .u8 d] h Q:=
  zaf (hs:=[]) hk (Eq.mpr (by kernel_rfl) H)
theorem zfD {K:Xs} (hk:K 61=none) (a:Option Addr) (b:Int) (d:Int) (e:Int) (h:AH) (Q:Value→AH→Prop) (H:
 Wf Tryz.prog K 56 [.pointer a,.int .i64 b,.int .u8 d] h fun f g=>
 (((f=(.bool true)∧
 (Wf Tryz.prog K 52 [.pointer a,.int .i64 b,.int .u8 e] g fun i j=>
 (Q (.int .i64 0) j)))∨(f=(.bool false)∧
 (Q (.int .i64 72) g))))):
 Wf Tryz.prog K 61 [.pointer a,.int .i64 b,.int .u8 d,.int .u8 e] h Q:=
  zaf (hs:=[]) hk (Eq.mpr (by kernel_rfl) H)
theorem zfE {K:Xs} (hk:K 81=none) (a:Option Addr) (h:AH) (Q:Value→AH→Prop) (H:
 ∃b:Int→Nat→AH→Prop,(∃n,b 0 n h)∧
 ∀(d:Nat) (e:AH),∀(f:Int),b f d e→
 ((f:Int) < 1024→Wf Tryz.prog K 56 [.pointer a,.int .i64 f,.int .u8 3] e fun g i=>
 (((g=(.bool true)∧
 (Wf Tryz.prog K 52 [.pointer a,.int .i64 f,.int .u8 1] i fun j k=>
 (∀l:Int,l=IntKind.wrap .i64 (f+1)→∃m,m < d∧b l m k)))∨(g=(.bool false)∧
 (∀o:Int,o=IntKind.wrap .i64 (f+1)→∃m,m < d∧b o m i)))))∧
 (¬(f:Int) < 1024→Q (.tuple #[]) e)):
 Wf Tryz.prog K 81 [.pointer a] h Q:=
  zaf (hs:=[(1,[(3,.int .i64 0)])]) hk (Eq.mpr (by kernel_rfl) H)
theorem zgg {K:Xs} (hk:K 22=none) (a:Option Addr) (h:AH) (Q:Value→AH→Prop) (H:
 zai a fun b d=>(∃l2:List Value,ldN h b (d+1024) 16=some l2∧
 (∃e:Int→Int→Nat→AH→Prop,(∃n,e 0 0 n h)∧
 ∀(f:Nat) (g:AH),∀(i:Int),∀(j:Int),e i j f g→
 ((j:Int) < 16→((0:Int)≤j)∧((j:Int) < 16)∧(∃k,(l2:List Value)[(Int.toNat j * 1)]?= some (.int .i64 k)∧
 (∀l:Int,l=IntKind.wrap .i64 (i+k)→∀m:Int,m=IntKind.wrap .i64 (j+1)→∃o,o < f∧e l m o g)))∧
 (¬(j:Int) < 16→Q (.int .i64 i) g)))):
 Wf Tryz.prog K 22 [.pointer a] h Q:=
  zaf (hs:=[(3,[(3,.int .i64 0),(10,.int .i64 0)])]) hk (Eq.mpr (by kernel_rfl) H)
theorem zdi {K:Xs} (hk:K 10=none) (a:Option Addr) (h:AH) (Q:Value→AH→Prop) (H:
 Wf Tryz.prog K 33 [.pointer a,.int .u8 2] h fun b d=>
 (∃e f g,b=(.slice e f g)∧
 (Q (.slice e f g) d))):
 Wf Tryz.prog K 10 [.pointer a] h Q:=
  zaf (hs:=[]) hk (Eq.mpr (by kernel_rfl) H)
theorem zg4 {K:Xs} (hk:K 14=none) (a:Option Addr) (b:Int) (h:AH) (Q:Value→AH→Prop) (H:
 Wf Tryz.prog K 22 [.pointer a] h fun d e=>
 (∃f,d=(.int .i64 f)∧
 (((f:Int) < b→Q (.tuple #[.slice none 0 0,.int .i64 71]) e)∧
 (¬(f:Int) < b→∃g:Option Addr→Nat→Nat→Nat→AH→Prop,(∃n,g none 0 0 n e)∧
 ∀(i:Nat) (j:AH),∀(k:Option Addr) (l:Nat) (m:Nat),g k l m i j→
 ((((l:Nat):Int):Int) < b→Wf Tryz.prog K 39 [.pointer a] j fun o p=>
 (∃q r,o=(.tuple #[.int .i64 q,.int .i64 r])∧
 (((r:Int)=0→∀s,s=p.alloc (.cells [.int .i64 q] 3 false)→
 ∃t u v w,zal Tryz.prog s .append #[48,48] [.slice k l m,(.slice (some ⟨p.next,0,none⟩) 1 1)]=some (.slice t u v,w)∧
 (∃x,x < i∧g t u v x w))∧
 (¬(r:Int)=0→Q (.tuple #[.slice none 0 0,.int .i64 r]) p))))∧
 (¬(((l:Nat):Int):Int) < b→Q (.tuple #[.slice k l m,.int .i64 0]) j))))):
 Wf Tryz.prog K 14 [.pointer a,.int .i64 b] h Q:=
  zaf (hs:=[(4,[(6,.slice none 0 0)])]) hk (Eq.mpr (by kernel_rfl) H)
theorem zg5 {K:Xs} (hk:K 46=none) (a:Option Addr) (b:Int) (h:AH) (Q:Value→AH→Prop) (H:
 Wf Tryz.prog K 61 [.pointer a,.int .i64 b,.int .u8 1,.int .u8 2] h fun d e=>
 (∃f,d=(.int .i64 f)∧
 (Q (.int .i64 f) e))):
 Wf Tryz.prog K 46 [.pointer a,.int .i64 b] h Q:=
  zaf (hs:=[]) hk (Eq.mpr (by kernel_rfl) H)
theorem zg6 {K:Xs} (hk:K 35=none) (a:Option Addr) (h:AH) (Q:Value→AH→Prop) (H:
 zai a fun b d=>(∃l2:List Value,ldN h b d 1040=some l2∧
 (∃e:List Value,zan Tryz.prog 99=some e∧∀f,f=h.alloc (.cells e 99 false)→
 (List.length l2=1040)∧∃g,stN f h.next 0 l2=some g∧
 (Q (.pointer (some ⟨h.next,0,none⟩)) g)))):
 Wf Tryz.prog K 35 [.pointer a] h Q:=
  zaf (hs:=[]) hk (Eq.mpr (by kernel_rfl) H)
theorem zgh {K:Xs} (hk:K 59=none) (a:Option Addr) (b:Int) (la2:List Value) (h:AH) (Q:Value→AH→Prop) (H:
 ∀d,d=h.alloc (.cells la2 112 false)→
 Wf Tryz.prog K 83 [.pointer a] d fun e f=>
 (Wf Tryz.prog K 84 [.pointer a,.int .i64 b] f fun g i=>
 (((g=(.bool true)∧
 (Wf Tryz.prog K 85 [.pointer a] i fun j k=>
 (((j=(.bool true)∧
 (zai a fun l m=>(∃n o p,ld1 k l (m+2)=some (.slice n o p)∧
 (∃l12:List Value,ldN k h.next 0 128=some l12∧
 (∃l13:List Value,za1 Tryz.prog 142 #[(0,(.int .i64 b)),(1,(.agg l12.toArray))]=some (.agg l13.toArray)∧
 (∃q r s t,zay Tryz.prog k 71 1 #[(0,(.agg l13.toArray))]=some (.slice q r s,t)∧
 (∃u v w x,zal Tryz.prog t .append #[71,71] [.slice n o p,.slice q r s]=some (.slice u v w,x)∧
 (zai a fun y z=>(∃aa,st1 x y (z+2) (.slice u v w)=some aa∧
 (zai a fun ab ac=>(∃ad ae af,ld1 aa ab (ac+1)=some (.slice ad ae af)∧
 (∃l30:List Value,ldN aa h.next 0 128=some l30∧
 (zai ad fun ag ah=>(((0:Int)≤b)∧((b:Int) < ((ae:Nat):Int))∧
 ((List.length l30=128)∧∃ai,stN aa ag (ah+Int.toNat b * 128) l30=some ai∧
 (Q (.int .i64 0) ai))))))))))))))))∨(j=(.bool false)∧
 (Q (.int .i64 42) k))))))∨(g=(.bool false)∧
 (Q (.int .i64 41) i)))))):
 Wf Tryz.prog K 59 [.pointer a,.int .i64 b,.agg la2.toArray] h Q:=
  zaf (hs:=[]) hk (Eq.mpr (by kernel_rfl) H)
theorem zg7 {K:Xs} (hk:K 87=none) (a:Option Addr) (b:Int) (h:AH) (Q:Value→AH→Prop) (H:
 ∀d,d=h.alloc (.cells (List.replicate 128 (.int .u8 0):List Value) 112 false)→
 Wf Tryz.prog K 83 [.pointer a] d fun e f=>
 (Wf Tryz.prog K 84 [.pointer a,.int .i64 b] f fun g i=>
 (((g=(.bool true)∧
 (zai a fun j k=>(((ld1 i j (k+5)=some (.bool true)∧
 (∃l7:List Value,za1 Tryz.prog 112 #[]=some (.agg l7.toArray)∧
 ((List.length l7=128)∧∃l,stN i h.next 0 l7=some l∧
 (∃l9:List Value,ldN l h.next 0 128=some l9∧
 (Q (.tuple #[.agg l9.toArray,.int .i64 42]) l)))))∨(ld1 i j (k+5)=some (.bool false)∧
 (zai a fun m n=>(∃o p q,ld1 i m (n+1)=some (.slice o p q)∧
 (zai o fun r s=>(((0:Int)≤b)∧((b:Int) < ((p:Nat):Int))∧
 (∃l17:List Value,ldN i r (s+Int.toNat b * 128) 128=some l17∧
 ((List.length l17=128)∧∃t,stN i h.next 0 l17=some t∧
 (∃l19:List Value,ldN t h.next 0 128=some l19∧
 (Q (.tuple #[.agg l19.toArray,.int .i64 0]) t)))))))))))))∨(g=(.bool false)∧
 (∃l20:List Value,za1 Tryz.prog 112 #[]=some (.agg l20.toArray)∧
 ((List.length l20=128)∧∃u,stN i h.next 0 l20=some u∧
 (∃l22:List Value,ldN u h.next 0 128=some l22∧
 (Q (.tuple #[.agg l22.toArray,.int .i64 41]) u))))))))):
 Wf Tryz.prog K 87 [.pointer a,.int .i64 b] h Q:=
  zaf (hs:=[]) hk (Eq.mpr (by kernel_rfl) H)
theorem ziv {K:Xs} (hk:K 84=none) (a:Option Addr) (b:Int) (h:AH) (Q:Value→AH→Prop) (H:
 ((0:Int)≤b→zai a fun d e=>(∃f g i,ld1 h d e=some (.slice f g i)∧
 (((b:Int) < ((g:Nat):Int)→Q (.bool true) h)∧
 (¬(b:Int) < ((g:Nat):Int)→Q (.bool false) h))))∧
 (¬(0:Int)≤b→Q (.bool false) h)):
 Wf Tryz.prog K 84 [.pointer a,.int .i64 b] h Q:=
  zaf (hs:=[]) hk (Eq.mpr (by kernel_rfl) H)
theorem zgi {K:Xs} (hk:K 83=none) (a:Option Addr) (h:AH) (Q:Value→AH→Prop) (H:
 zai a fun b d=>(∃e,ld1 h b (d+3)=some (.int .i64 e)∧
 (((e:Int) < 4611686018427387903→zai a fun f g=>(∃i,ld1 h f (g+3)=some (.int .i64 i)∧
 (∀j:Int,j=IntKind.wrap .i64 (i+1)→zai a fun k l=>(∃m,st1 h k (l+3) (.int .i64 j)=some m∧
 (Q (.tuple #[]) m)))))∧
 (¬(e:Int) < 4611686018427387903→Q (.tuple #[]) h)))):
 Wf Tryz.prog K 83 [.pointer a] h Q:=
  zaf (hs:=[]) hk (Eq.mpr (by kernel_rfl) H)
theorem zgj {K:Xs} (hk:K 85=none) (a:Option Addr) (h:AH) (Q:Value→AH→Prop) (H:
 zai a fun b d=>(∃e,ld1 h b (d+4)=some (.int .i64 e)∧
 (((e:Int)=0→zai a fun f g=>(∃i,st1 h f (g+5) (.bool true)=some i∧
 (zai a fun j k=>(((ld1 i j (k+5)=some (.bool true)∧
 (Q (.bool false) i))∨(ld1 i j (k+5)=some (.bool false)∧
 (zai a fun l m=>(∃n,ld1 i l (m+4)=some (.int .i64 n)∧
 (((0:Int) < n→zai a fun o p=>(∃q,ld1 i o (p+4)=some (.int .i64 q)∧
 (∀r:Int,r=IntKind.wrap .i64 (q - 1)→zai a fun s t=>(∃u,st1 i s (t+4) (.int .i64 r)=some u∧
 (Q (.bool true) u)))))∧
 (¬(0:Int) < n→Q (.bool true) i))))))))))∧
 (¬(e:Int)=0→zai a fun v w=>(((ld1 h v (w+5)=some (.bool true)∧
 (Q (.bool false) h))∨(ld1 h v (w+5)=some (.bool false)∧
 (zai a fun x y=>(∃z,ld1 h x (y+4)=some (.int .i64 z)∧
 (((0:Int) < z→zai a fun aa ab=>(∃ac,ld1 h aa (ab+4)=some (.int .i64 ac)∧
 (∀ad:Int,ad=IntKind.wrap .i64 (ac - 1)→zai a fun ae af=>(∃ag,st1 h ae (af+4) (.int .i64 ad)=some ag∧
 (Q (.bool true) ag)))))∧
 (¬(0:Int) < z→Q (.bool true) h))))))))))):
 Wf Tryz.prog K 85 [.pointer a] h Q:=
  zaf (hs:=[]) hk (Eq.mpr (by kernel_rfl) H)
theorem zgk {K:Xs} (hk:K 79=none) (a:Option Addr) (h:AH) (Q:Value→AH→Prop) (H:
 Wf Tryz.prog K 83 [.pointer a] h fun b d=>
 (Wf Tryz.prog K 85 [.pointer a] d fun e f=>
 (((e=(.bool true)∧
 (zai a fun g i=>(∃j k l,ld1 f g (i+2)=some (.slice j k l)∧
 (∃m:Int→Nat→AH→Prop,(∃n,m 0 n f)∧
 ∀(o:Nat) (p:AH),∀(q:Int),m q o p→
 ((q:Int) < ((k:Nat):Int)→zai j fun r s=>(((0:Int)≤q)∧((q:Int) < ((k:Nat):Int))∧
 (∃l16:List Value,ldN p r (s+Int.toNat q * 129) 129=some l16∧
 (∀t,t=p.alloc (.cells ([.int .i64 0] ++ List.replicate 128 (.int .u8 0)) 142 false)→
 (List.length l16=129)∧∃u,stN t p.next 0 l16=some u∧
 (zai a fun v w=>(∃x y z,ld1 u v w=some (.slice x y z)∧
 (∃aa,ld1 u p.next 0=some (.int .i64 aa)∧
 (∃l25:List Value,ldN u p.next 1 128=some l25∧
 (zai x fun ab ac=>(((0:Int)≤aa)∧((aa:Int) < ((y:Nat):Int))∧
 ((List.length l25=128)∧∃ad,stN u ab (ac+Int.toNat aa * 128) l25=some ad∧
 (∀ae:Int,ae=IntKind.wrap .i64 (q+1)→∃af,af < o∧m ae af ad))))))))))))∧
 (¬(q:Int) < ((k:Nat):Int)→zai a fun ag ah=>(∃ai,st1 p ag (ah+2) (.slice none 0 0)=some ai∧
 (Q (.int .i64 0) ai)))))))∨(e=(.bool false)∧
 (Q (.int .i64 42) f)))))):
 Wf Tryz.prog K 79 [.pointer a] h Q:=
  zaf (hs:=[(5,[(15,.int .i64 0)])]) hk (Eq.mpr (by kernel_rfl) H)
theorem ziw {K:Xs} (hk:K 29=none) (a:Option Addr) (h:AH) (Q:Value→AH→Prop) (H:
 zai a fun b d=>(∃e f g,ld1 h b d=some (.slice e f g)∧
 (Q (.int .i64 ((f:Nat):Int)) h))):
 Wf Tryz.prog K 29 [.pointer a] h Q:=
  zaf (hs:=[]) hk (Eq.mpr (by kernel_rfl) H)
theorem zg8 {K:Xs} (hk:K 42=none) (a:Option Addr) (h:AH) (Q:Value→AH→Prop) (H:
 zai a fun b d=>(((ld1 h b (d+5)=some (.bool true)∧
 (Q (.bool true) h))∨(ld1 h b (d+5)=some (.bool false)∧
 (Q (.bool false) h))))):
 Wf Tryz.prog K 42 [.pointer a] h Q:=
  zaf (hs:=[]) hk (Eq.mpr (by kernel_rfl) H)
theorem zmL {K:Xs} (hk:K 60=none) (a:Option Addr) (b d:Nat) (h:AH) (Q:Value→AH→Prop) (H:
 Wf Tryz.prog K 86 [.int .u32 0,.slice a b d] h fun e f=>
 (∃g,e=(.int .u32 g)∧
 (Q (.int .u32 g) f))):
 Wf Tryz.prog K 60 [.slice a b d] h Q:=
  zaf (hs:=[]) hk (Eq.mpr (by kernel_rfl) H)
end Go.Am
