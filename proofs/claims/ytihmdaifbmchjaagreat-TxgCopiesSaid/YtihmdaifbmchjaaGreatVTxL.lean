/-
  WEAKEST CONDITIONS of some functions of this program, printed by a program.
-/
import Derived.Test.YtihmdaifbmchjaaGreatVAbb
import Derived.Test.YtihmdaifbmchjaaGreatRows
set_option linter.unusedVariables false
set_option maxRecDepth 100000
set_option maxHeartbeats 2000000
namespace Go.Am
open Go.Proofs
theorem zc3 {K:Xs} (hk:K 3=none) (a:Int) (b:Int) (d:Option Addr) (e f:Nat) (g:Int) (h:AH) (Q:Value→AH→Prop) (H:
 ∀i,i=h.alloc (.cells (bC b d e f) 25 false)→
 Wf Tryz.prog K 4 [] i fun j k=>
 (((j=(.bool true)∧
 (((a:Int) < 64→Q (.bool true) k)∧
 (¬(a:Int) < 64→((300:Int) < a→Q (.bool true) k)∧
 (¬(300:Int) < a→∃l,ld1 k h.next 0=some (.int .u64 l)∧
 (((1000000:Int) < l→Q (.bool true) k)∧
 (¬(1000000:Int) < l→∃m,ld1 k h.next 0=some (.int .u64 m)∧
 (∃n o p,ld1 k h.next 1=some (.slice n o p)∧
 (Wf Tryz.prog K 5 (bC m n o p) k fun q r=>
 (((q=(.bool true)∧
 (((g:Int) < 0→Q (.bool true) r)∧
 (¬(g:Int) < 0→Wf Tryz.prog K 6 [.int .i64 a] r fun s t=>
 (∃u:Option Addr,s=(.pointer u)∧
 (Wf Tryz.prog K 7 [.pointer u] t fun v w=>
 (∃x:Option Addr,∃y,v=(.tuple #[.pointer x,.int .i64 y])∧
 (zrG x (Q (.bool false) w) (((y:Int)=0→Wf Tryz.prog K 8 [.pointer x] w fun z aa=>
 (∃ab:Option Addr,z=(.pointer ab)∧
 (Wf Tryz.prog K 9 [.pointer ab] aa fun ac ad=>
 (∃ae:Option Addr,ac=(.pointer ae)∧
 (Wf Tryz.prog K 10 [.pointer ae] ad fun af ag=>
 (∃ah ai aj,af=(.slice ah ai aj)∧
 (Wf Tryz.prog K 11 [.pointer x] ag fun ak al=>
 (∃am an ao ap aq ar au,ak=(.agg #[.int .u64 am,.int .u64 an,.int .i64 ao,.int .u64 ap,.int .u32 aq,.int .i64 ar,.int .i64 au])∧
 (∀av,av=al.alloc (.cells [.int .u64 0,.int .u64 0,.int .i64 0,.int .u64 0,.int .u32 0,.int .i64 0,.int .i64 0] 44 false)→
 (7=7)∧∃aw,stN av al.next 0 [.int .u64 am,.int .u64 an,.int .i64 ao,.int .u64 ap,.int .u32 aq,.int .i64 ar,.int .i64 au]=some aw∧
 (Wf Tryz.prog K 12 [.pointer x] aw fun ax ay=>
 (∃az:Option Addr,ax=(.pointer az)∧
 (∃a0 a1 a2 a3,ldN ay h.next 0 2=some (bC a0 a1 a2 a3)∧
 (Wf Tryz.prog K 13 [.pointer az,.agg (bC a0 a1 a2 a3).toArray] ay fun a4 a5=>
 (Wf Tryz.prog K 8 [.pointer az] a5 fun a6 a7=>
 (∃a8:Option Addr,a6=(.pointer a8)∧
 (Wf Tryz.prog K 9 [.pointer a8] a7 fun a9 ba=>
 (∃bb:Option Addr,a9=(.pointer bb)∧
 (∀bc:Int,bc=(if 20 < (g:Int) then 20 else (g:Int))→Wf Tryz.prog K 14 [.pointer bb,.int .i64 bc] ba fun bd be=>
 (∃bf bg bh bi,bd=(.tuple #[.slice bf bg bh,.int .i64 bi])∧
 (Wf Tryz.prog K 8 [.pointer az] be fun bj bk=>
 (∃bl:Option Addr,bj=(.pointer bl)∧
 (∀bm,bm=bk.alloc (.cells [.int .u8 120] 5 false)→
 ∃bn bo bp bq,zaH Tryz.prog bm 53 53 (.slice (some ⟨bk.next,0,none⟩) 1 1)=some (.slice bn bo bp,bq)∧
 (Wf Tryz.prog K 15 [.pointer bl,.slice bn bo bp] bq fun br bs=>
 (∃bt bu bv bw,br=(.tuple #[.agg (qL bt bu bv).toArray,.int .i64 bw])∧
 (Wf Tryz.prog K 8 [.pointer az] bs fun bx bz=>
 (∃b0:Option Addr,bx=(.pointer b0)∧
 (Wf Tryz.prog K 16 [.pointer b0] bz fun b1 b2=>
 (Wf Tryz.prog K 17 [.pointer x] b2 fun b3 b4=>
 (∃b5 b6 b7 b8,b3=(.agg (bC b5 b6 b7 b8).toArray)∧
 (((0:Int) < ((b7:Nat):Int)→Q (.bool false) b4)∧
 (¬(0:Int) < ((b7:Nat):Int)→Wf Tryz.prog K 17 [.pointer x] b4 fun b9 da=>
 (∃db dc dd de,b9=(.agg (bC db dc dd de).toArray)∧
 (((db:Int)=1→Wf Tryz.prog K 11 [.pointer x] da fun df dg=>
 (∃dh di dj dk dl dm dn,df=(.agg #[.int .u64 dh,.int .u64 di,.int .i64 dj,.int .u64 dk,.int .u32 dl,.int .i64 dm,.int .i64 dn])∧
 (∃dp dq dr ds dt du dv,ldN dg al.next 0 7=some [.int .u64 dp,.int .u64 dq,.int .i64 dr,.int .u64 ds,.int .u32 dt,.int .i64 du,.int .i64 dv]∧
 (∃la108 lb109,zcp Tryz.prog 44 (.agg #[.int .u64 dh,.int .u64 di,.int .i64 dj,.int .u64 dk,.int .u32 dl,.int .i64 dm,.int .i64 dn])=some la108∧zcp Tryz.prog 44 (.agg #[.int .u64 dp,.int .u64 dq,.int .i64 dr,.int .u64 ds,.int .u32 dt,.int .i64 du,.int .i64 dv])=some lb109∧
 (zaC la108 lb109=true→Wf Tryz.prog K 8 [.pointer x] dg fun dw dx=>
 (∃dy:Option Addr,dw=(.pointer dy)∧
 (Wf Tryz.prog K 18 [.pointer dy] dx fun dz d0=>
 (∃d1,dz=(.int .u64 d1)∧
 (((d1:Int)=2→Wf Tryz.prog K 8 [.pointer x] d0 fun d2 d3=>
 (∃d4:Option Addr,d2=(.pointer d4)∧
 (Wf Tryz.prog K 9 [.pointer d4] d3 fun d5 d6=>
 (∃d7:Option Addr,d5=(.pointer d7)∧
 (Wf Tryz.prog K 10 [.pointer d7] d6 fun d8 d9=>
 (∃ea eb ec,d8=(.slice ea eb ec)∧
 (Wf Tryz.prog K 19 [.slice ea eb ec,.slice ah ai aj] d9 fun ed ee=>
 (((ed=(.bool true)∧
 ((ldN da al.next 0 7=some [.int .u64 dp,.int .u64 dq,.int .i64 dr,.int .u64 ds,.int .u32 dt,.int .i64 du,.int .i64 dv])∧
 ((ldN dg al.next 0 7=some [.int .u64 dp,.int .u64 dq,.int .i64 dr,.int .u64 ds,.int .u32 dt,.int .i64 du,.int .i64 dv])∧
 (Wf Tryz.prog K 20 [.pointer u] ee fun ef eg=>
 (∃eh:Option Addr,∃ei,ef=(.tuple #[.pointer eh,.int .i64 ei])∧
 (((ei:Int)=0→zrG eh (Q (.bool false) eg) (Wf Tryz.prog K 17 [.pointer eh] eg fun ej ek=>
 (∃el em en eo,ej=(.agg (bC el em en eo).toArray)∧
 (((((en:Nat):Int):Int)=0→Wf Tryz.prog K 11 [.pointer eh] ek fun ep eq=>
 (∃er es et eu ev ew ex,ep=(.agg #[.int .u64 er,.int .u64 es,.int .i64 et,.int .u64 eu,.int .u32 ev,.int .i64 ew,.int .i64 ex])∧
 (∃ey ez e0 e1 e2 e3 e4,ldN eq al.next 0 7=some [.int .u64 ey,.int .u64 ez,.int .i64 e0,.int .u64 e1,.int .u32 e2,.int .i64 e3,.int .i64 e4]∧
 (∃la155 lb156,zcp Tryz.prog 44 (.agg #[.int .u64 er,.int .u64 es,.int .i64 et,.int .u64 eu,.int .u32 ev,.int .i64 ew,.int .i64 ex])=some la155∧zcp Tryz.prog 44 (.agg #[.int .u64 ey,.int .u64 ez,.int .i64 e0,.int .u64 e1,.int .u32 e2,.int .i64 e3,.int .i64 e4])=some lb156∧
 (zaC la155 lb156=true→Wf Tryz.prog K 8 [.pointer eh] eq fun e5 e6=>
 (∃e7:Option Addr,e5=(.pointer e7)∧
 (Wf Tryz.prog K 9 [.pointer e7] e6 fun e8 e9=>
 (∃fa:Option Addr,e8=(.pointer fa)∧
 (Wf Tryz.prog K 10 [.pointer fa] e9 fun fb fc=>
 (∃fd fe ff,fb=(.slice fd fe ff)∧
 (Wf Tryz.prog K 19 [.slice fd fe ff,.slice ah ai aj] fc fun fg fh=>
 (((fg=(.bool true)∧
 ((ldN ek al.next 0 7=some [.int .u64 ey,.int .u64 ez,.int .i64 e0,.int .u64 e1,.int .u32 e2,.int .i64 e3,.int .i64 e4])∧
 ((ldN eq al.next 0 7=some [.int .u64 ey,.int .u64 ez,.int .i64 e0,.int .u64 e1,.int .u32 e2,.int .i64 e3,.int .i64 e4])∧
 (Q (.bool true) fh))))∨(fg=(.bool false)∧
 ((ldN ek al.next 0 7=some [.int .u64 ey,.int .u64 ez,.int .i64 e0,.int .u64 e1,.int .u32 e2,.int .i64 e3,.int .i64 e4])∧
 ((ldN eq al.next 0 7=some [.int .u64 ey,.int .u64 ez,.int .i64 e0,.int .u64 e1,.int .u32 e2,.int .i64 e3,.int .i64 e4])∧
 (Q (.bool false) fh)))))))))))))∧
 (zaC la155 lb156=false→(ldN ek al.next 0 7=some [.int .u64 ey,.int .u64 ez,.int .i64 e0,.int .u64 e1,.int .u32 e2,.int .i64 e3,.int .i64 e4])∧
 ((ldN eq al.next 0 7=some [.int .u64 ey,.int .u64 ez,.int .i64 e0,.int .u64 e1,.int .u32 e2,.int .i64 e3,.int .i64 e4])∧
 (Q (.bool false) eq)))))))∧
 (¬(((en:Nat):Int):Int)=0→Q (.bool false) ek)))))∧
 (¬(ei:Int)=0→Q (.bool false) eg)))))))∨(ed=(.bool false)∧
 ((ldN da al.next 0 7=some [.int .u64 dp,.int .u64 dq,.int .i64 dr,.int .u64 ds,.int .u32 dt,.int .i64 du,.int .i64 dv])∧
 ((ldN dg al.next 0 7=some [.int .u64 dp,.int .u64 dq,.int .i64 dr,.int .u64 ds,.int .u32 dt,.int .i64 du,.int .i64 dv])∧
 (Q (.bool false) ee)))))))))))))∧
 (¬(d1:Int)=2→(ldN da al.next 0 7=some [.int .u64 dp,.int .u64 dq,.int .i64 dr,.int .u64 ds,.int .u32 dt,.int .i64 du,.int .i64 dv])∧
 ((ldN dg al.next 0 7=some [.int .u64 dp,.int .u64 dq,.int .i64 dr,.int .u64 ds,.int .u32 dt,.int .i64 du,.int .i64 dv])∧
 (Q (.bool false) d0))))))))∧
 (zaC la108 lb109=false→(ldN da al.next 0 7=some [.int .u64 dp,.int .u64 dq,.int .i64 dr,.int .u64 ds,.int .u32 dt,.int .i64 du,.int .i64 dv])∧
 ((ldN dg al.next 0 7=some [.int .u64 dp,.int .u64 dq,.int .i64 dr,.int .u64 ds,.int .u32 dt,.int .i64 du,.int .i64 dv])∧
 (Q (.bool false) dg)))))))∧
 (¬(db:Int)=1→Q (.bool false) da))))))))))))))))))))))))))))))))))∧
 (¬(y:Int)=0→Q (.bool false) w)))))))))∨(q=(.bool false)∧
 (Q (.bool true) r))))))))))))∨(j=(.bool false)∧
 (Q (.bool false) k))))):
 Wf Tryz.prog K 3 [.int .i64 a,.agg (bC b d e f).toArray,.int .i64 g] h Q:=
  zaf (hs:=[]) hk (Eq.mpr (by kernel_rfl) H)
end Go.Am
