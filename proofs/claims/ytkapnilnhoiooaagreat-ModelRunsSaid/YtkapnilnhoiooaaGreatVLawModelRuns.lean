/-
  WEAKEST CONDITIONS of some functions of this program, printed by a program.
-/
import Derived.Test.YtkapnilnhoiooaaGreatVAbb
import Derived.Test.YtkapnilnhoiooaaGreatRows
set_option linter.unusedVariables false
set_option maxRecDepth 100000
namespace Go.Am
open Go.Proofs
theorem zgg {K:Xs} (hk:K 6=none)  (h:AH) (Q:Value→AH→Prop) (H:
 ∀a,a=h.alloc (.cells [.int .u64 0,.slice none 0 0,.slice none 0 0,.int .u64 0,.int .i64 0] 32 false)→
 (5=5)∧∃b,stN a h.next 0 [.int .u64 1,.slice none 0 0,.slice none 0 0,.int .u64 2,.int .i64 0]=some b∧
 (∃d e f g i j k l m,ldN b h.next 0 5=some [.int .u64 d,.slice e f g,.slice i j k,.int .u64 l,.int .i64 m]∧
 (Q (.agg #[.int .u64 d,.slice e f g,.slice i j k,.int .u64 l,.int .i64 m]) b))):
 Wf Tryz.prog K 6 [] h Q:=
  zai (hs:=[]) hk (Eq.mpr (by kernel_rfl) H)
theorem zgI {K:Xs} (hk:K 8=none) (a:Int) (b:Option Addr) (d e:Nat) (f:Option Addr) (g i:Nat) (j:Int) (k:Int) (l:Int) (m:ByteArray) (n:ByteArray) (o:Int) (p:Option Addr) (q r:Nat) (s:Option Addr) (t u:Nat) (v:AH) (Q:Value→AH→Prop) (H:
 ∀w,w=v.alloc (.cells [.int .u64 a,.slice b d e,.slice f g i,.int .u64 j,.int .i64 k] 32 false)→
 ∀x,x=w.alloc (.cells [.int .i64 l,.string m,.string n,.int .i64 o,.slice p q r,.slice s t u] 37 false)→
 ∀y,y=x.alloc (.cells [.int .u64 0,.slice none 0 0,.slice none 0 0,.int .u64 0,.int .i64 0] 32 false)→
 ∀z,z=y.alloc (.cells (List.replicate 128 (.int .u8 0):List Value) 39 false)→
 ∃aa,ld1 z w.next 1=some (.string aa)∧
 (Wf Tryz.prog K 27 [.string aa] z fun ab ac=>
 (∃ad ae af,ab=(.tuple #[.string ad,.string ae,.int .i64 af])∧
 (∃ag,ld1 ac w.next 0=some (.int .i64 ag)∧
 (((ag:Int)=0→∃ah ai aj ak,ldN ac v.next 0 2=some (bC ah ai aj ak)∧
 (∃al,ld1 ac w.next 1=some (.string al)∧
 (∃am,ld1 ac w.next 3=some (.int .i64 am)∧
 (Wf Tryz.prog K 28 [.agg (bC ah ai aj ak).toArray,.string al,.int .i64 am] ac fun an ao=>
 (∃ap aq ar au av,an=(.tuple #[.agg (bC ap aq ar au).toArray,.int .i64 av])∧
 (∀aw,aw=ao.alloc (.cells [.int .u64 0,.slice none 0 0] 29 false)→
 (2=2)∧∃ax,stN aw ao.next 0 (bC ap aq ar au)=some ax∧
 (∃ay az a0 a1 a2 a3 a4 a5 a6,ldN ax v.next 0 5=some [.int .u64 ay,.slice az a0 a1,.slice a2 a3 a4,.int .u64 a5,.int .i64 a6]∧
 (∃a7 a8 a9 ba,ldN ax ao.next 0 2=some (bC a7 a8 a9 ba)∧
 (Wf Tryz.prog K 29 [.agg #[.int .u64 ay,.slice az a0 a1,.slice a2 a3 a4,.int .u64 a5,.int .i64 a6],.agg (bC a7 a8 a9 ba).toArray,.int .i64 av,(.string (ByteArray.mk #[]))] ax fun bb bc=>
 (∃bd be bf bg bh bi bj bk bl bm,bb=(.tuple #[.agg #[.int .u64 bd,.slice be bf bg,.slice bh bi bj,.int .u64 bk,.int .i64 bl],.int .i64 bm])∧
 ((5=5)∧∃bn,stN bc v.next 0 [.int .u64 bd,.slice be bf bg,.slice bh bi bj,.int .u64 bk,.int .i64 bl]=some bn∧
 (∃bo bp bq br bs bt bu bv bw,ldN bn v.next 0 5=some [.int .u64 bo,.slice bp bq br,.slice bs bt bu,.int .u64 bv,.int .i64 bw]∧
 (∃l61:List Value,zaE Tryz.prog 39 #[]=some (.agg l61.toArray)∧
 ((5=5)∧∃bx,stN bn x.next 0 [.int .u64 bo,.slice bp bq br,.slice bs bt bu,.int .u64 bv,.int .i64 bw]=some bx∧
 ((List.length l61=128)∧∃bz,stN bx y.next 0 l61=some bz∧
 (∃b0 b1 b2 b3 b4 b5 b6 b7 b8,ldN bz x.next 0 5=some [.int .u64 b0,.slice b1 b2 b3,.slice b4 b5 b6,.int .u64 b7,.int .i64 b8]∧
 (∃l73:List Value,ldN bz y.next 0 128=some l73∧
 (Q (.tuple #[.agg #[.int .u64 b0,.slice b1 b2 b3,.slice b4 b5 b6,.int .u64 b7,.int .i64 b8],.agg l73.toArray,.int .i64 bm]) bz))))))))))))))))))∧
 (¬(ag:Int)=0→((ag:Int)=1→∃b9 da db dc dd de df dg dh,ldN ac v.next 0 5=some [.int .u64 b9,.slice da db dc,.slice dd de df,.int .u64 dg,.int .i64 dh]∧
 (∃di dj dk dl dm dn dp dq dr ds,ldN ac w.next 0 6=some [.int .i64 di,.string dj,.string dk,.int .i64 dl,.slice dm dn dp,.slice dq dr ds]∧
 (Wf Tryz.prog K 30 [.agg #[.int .u64 b9,.slice da db dc,.slice dd de df,.int .u64 dg,.int .i64 dh],.agg #[.int .i64 di,.string dj,.string dk,.int .i64 dl,.slice dm dn dp,.slice dq dr ds]] ac fun dt du=>
 (∃dv dw dx dy dz d0 d1 d2 d3 d4,dt=(.tuple #[.agg #[.int .u64 dv,.slice dw dx dy,.slice dz d0 d1,.int .u64 d2,.int .i64 d3],.int .i64 d4])∧
 ((5=5)∧∃d5,stN du v.next 0 [.int .u64 dv,.slice dw dx dy,.slice dz d0 d1,.int .u64 d2,.int .i64 d3]=some d5∧
 (∃d6 d7 d8 d9 ea eb ec ed ee,ldN d5 v.next 0 5=some [.int .u64 d6,.slice d7 d8 d9,.slice ea eb ec,.int .u64 ed,.int .i64 ee]∧
 (∃l115:List Value,zaE Tryz.prog 39 #[]=some (.agg l115.toArray)∧
 ((5=5)∧∃ef,stN d5 x.next 0 [.int .u64 d6,.slice d7 d8 d9,.slice ea eb ec,.int .u64 ed,.int .i64 ee]=some ef∧
 ((List.length l115=128)∧∃eg,stN ef y.next 0 l115=some eg∧
 (∃eh ei ej ek el em en eo ep,ldN eg x.next 0 5=some [.int .u64 eh,.slice ei ej ek,.slice el em en,.int .u64 eo,.int .i64 ep]∧
 (∃l127:List Value,ldN eg y.next 0 128=some l127∧
 (Q (.tuple #[.agg #[.int .u64 eh,.slice ei ej ek,.slice el em en,.int .u64 eo,.int .i64 ep],.agg l127.toArray,.int .i64 d4]) eg))))))))))))∧
 (¬(ag:Int)=1→((ag:Int)=2→∃eq er es et eu ev ew ex ey,ldN ac v.next 0 5=some [.int .u64 eq,.slice er es et,.slice eu ev ew,.int .u64 ex,.int .i64 ey]∧
 (∃ez e0 e1 e2 e3 e4 e5 e6 e7 e8,ldN ac w.next 0 6=some [.int .i64 ez,.string e0,.string e1,.int .i64 e2,.slice e3 e4 e5,.slice e6 e7 e8]∧
 (Wf Tryz.prog K 30 [.agg #[.int .u64 eq,.slice er es et,.slice eu ev ew,.int .u64 ex,.int .i64 ey],.agg #[.int .i64 ez,.string e0,.string e1,.int .i64 e2,.slice e3 e4 e5,.slice e6 e7 e8]] ac fun e9 fa=>
 (∃fb fc fd fe ff fg fh fi fj fk,e9=(.tuple #[.agg #[.int .u64 fb,.slice fc fd fe,.slice ff fg fh,.int .u64 fi,.int .i64 fj],.int .i64 fk])∧
 ((5=5)∧∃fl,stN fa v.next 0 [.int .u64 fb,.slice fc fd fe,.slice ff fg fh,.int .u64 fi,.int .i64 fj]=some fl∧
 (∃fm fn fo fp fq fr fs ft fu,ldN fl v.next 0 5=some [.int .u64 fm,.slice fn fo fp,.slice fq fr fs,.int .u64 ft,.int .i64 fu]∧
 (∃l169:List Value,zaE Tryz.prog 39 #[]=some (.agg l169.toArray)∧
 ((5=5)∧∃fv,stN fl x.next 0 [.int .u64 fm,.slice fn fo fp,.slice fq fr fs,.int .u64 ft,.int .i64 fu]=some fv∧
 ((List.length l169=128)∧∃fw,stN fv y.next 0 l169=some fw∧
 (∃fx fy fz f0 f1 f2 f3 f4 f5,ldN fw x.next 0 5=some [.int .u64 fx,.slice fy fz f0,.slice f1 f2 f3,.int .u64 f4,.int .i64 f5]∧
 (∃l181:List Value,ldN fw y.next 0 128=some l181∧
 (Q (.tuple #[.agg #[.int .u64 fx,.slice fy fz f0,.slice f1 f2 f3,.int .u64 f4,.int .i64 f5],.agg l181.toArray,.int .i64 fk]) fw))))))))))))∧
 (¬(ag:Int)=2→((ag:Int)=3→∃f6 f7 f8 f9 ga gb gc gd ge,ldN ac v.next 0 5=some [.int .u64 f6,.slice f7 f8 f9,.slice ga gb gc,.int .u64 gd,.int .i64 ge]∧
 (∃gf,ld1 ac w.next 1=some (.string gf)∧
 (∃gg,ld1 ac w.next 3=some (.int .i64 gg)∧
 (Wf Tryz.prog K 31 [.agg #[.int .u64 f6,.slice f7 f8 f9,.slice ga gb gc,.int .u64 gd,.int .i64 ge],.string gf,.int .i64 gg] ac fun gh gi=>
 (∃gj gk gl gm gn gp gq gr gs gt gu gv gw gx,gh=(.tuple #[.agg (sC gj gk gl gm gn gp gq gr gs gt gu gv gw).toArray,.int .i64 gx])∧
 (∀gy,gy=gi.alloc (.cells (zC) 81 false)→
 (11=11)∧∃gz,stN gy gi.next 0 (sC gj gk gl gm gn gp gq gr gs gt gu gv gw)=some gz∧
 (((gx:Int)=0→∃g0 g1 g2 g3 g4 g5 g6 g7 g8,ldN gz v.next 0 5=some [.int .u64 g0,.slice g1 g2 g3,.slice g4 g5 g6,.int .u64 g7,.int .i64 g8]∧
 (∃g9,ld1 gz gi.next 0=some (.int .u64 g9)∧
 (Wf Tryz.prog K 32 [.agg #[.int .u64 g0,.slice g1 g2 g3,.slice g4 g5 g6,.int .u64 g7,.int .i64 g8],.int .u64 g9] gz fun ia ib=>
 (∃l223:List Value,ia=(.agg l223.toArray)∧
 (∃ic id ie ig ih ii ij ik il,ldN ib v.next 0 5=some [.int .u64 ic,.slice id ie ig,.slice ih ii ij,.int .u64 ik,.int .i64 il]∧
 ((5=5)∧∃im,stN ib x.next 0 [.int .u64 ic,.slice id ie ig,.slice ih ii ij,.int .u64 ik,.int .i64 il]=some im∧
 (∃l234:List Value,(List.take 8192 (List.drop 1 l223))=l234∧
 (∃io,ld1 im w.next 3=some (.int .i64 io)∧
 (((0:Int)≤io)∧((io:Int) < 64)∧(∃l236:List Value,(List.take 128 (List.drop (Int.toNat io * 128) l234))=l236∧
 ((List.length l236=128)∧∃ip,stN im y.next 0 l236=some ip∧
 ((ldN gz v.next 0 5=some [.int .u64 ic,.slice id ie ig,.slice ih ii ij,.int .u64 ik,.int .i64 il])∧
 ((ldN ib v.next 0 5=some [.int .u64 ic,.slice id ie ig,.slice ih ii ij,.int .u64 ik,.int .i64 il])∧
 ((ld1 gz w.next 3=some (.int .i64 io))∧
 ((ld1 ib w.next 3=some (.int .i64 io))∧
 ((ld1 ib w.next 3=some (.int .i64 io))∧
 ((ld1 im w.next 3=some (.int .i64 io))∧
 (∃iq ir it iu iv iw ix iy iz,ldN ip x.next 0 5=some [.int .u64 iq,.slice ir it iu,.slice iv iw ix,.int .u64 iy,.int .i64 iz]∧
 (∃l247:List Value,ldN ip y.next 0 128=some l247∧
 (Q (.tuple #[.agg #[.int .u64 iq,.slice ir it iu,.slice iv iw ix,.int .u64 iy,.int .i64 iz],.agg l247.toArray,.int .i64 0]) ip))))))))))))))))))))∧
 (¬(gx:Int)=0→∃i0 i1 i2 i3 i4 i5 i6 i7 i8,ldN gz v.next 0 5=some [.int .u64 i0,.slice i1 i2 i3,.slice i4 i5 i6,.int .u64 i7,.int .i64 i8]∧
 (∃l257:List Value,zaE Tryz.prog 39 #[]=some (.agg l257.toArray)∧
 ((5=5)∧∃ja,stN gz x.next 0 [.int .u64 i0,.slice i1 i2 i3,.slice i4 i5 i6,.int .u64 i7,.int .i64 i8]=some ja∧
 ((List.length l257=128)∧∃jb,stN ja y.next 0 l257=some jb∧
 (∃jc jd je jf jg jh ji jj jk,ldN jb x.next 0 5=some [.int .u64 jc,.slice jd je jf,.slice jg jh ji,.int .u64 jj,.int .i64 jk]∧
 (∃l269:List Value,ldN jb y.next 0 128=some l269∧
 (Q (.tuple #[.agg #[.int .u64 jc,.slice jd je jf,.slice jg jh ji,.int .u64 jj,.int .i64 jk],.agg l269.toArray,.int .i64 gx]) jb))))))))))))))∧
 (¬(ag:Int)=3→((ag:Int)=4→∃jl jm jn jo,ldN ac v.next 0 2=some (bC jl jm jn jo)∧
 (∃jp,ld1 ac w.next 1=some (.string jp)∧
 (∃jq,ld1 ac v.next 3=some (.int .u64 jq)∧
 (Wf Tryz.prog K 33 [.agg (bC jl jm jn jo).toArray,.string jp,.int .u64 jq] ac fun jr js=>
 (∃jt ju jv jw jx,jr=(.tuple #[.agg (bC jt ju jv jw).toArray,.int .i64 jx])∧
 (∀jy,jy=js.alloc (.cells [.int .u64 0,.slice none 0 0] 29 false)→
 (2=2)∧∃jz,stN jy js.next 0 (bC jt ju jv jw)=some jz∧
 (∃j0 j1 j2 j3 j4 j5 j6 j7 j8,ldN jz v.next 0 5=some [.int .u64 j0,.slice j1 j2 j3,.slice j4 j5 j6,.int .u64 j7,.int .i64 j8]∧
 (∃j9 ka kb kc,ldN jz js.next 0 2=some (bC j9 ka kb kc)∧
 (Wf Tryz.prog K 29 [.agg #[.int .u64 j0,.slice j1 j2 j3,.slice j4 j5 j6,.int .u64 j7,.int .i64 j8],.agg (bC j9 ka kb kc).toArray,.int .i64 jx,.string ad] jz fun kd ke=>
 (∃kf kg kh ki kj kk kl km kn ko,kd=(.tuple #[.agg #[.int .u64 kf,.slice kg kh ki,.slice kj kk kl,.int .u64 km,.int .i64 kn],.int .i64 ko])∧
 ((5=5)∧∃kp,stN ke v.next 0 [.int .u64 kf,.slice kg kh ki,.slice kj kk kl,.int .u64 km,.int .i64 kn]=some kp∧
 (((ko:Int)=0→∃kq,ld1 kp v.next 3=some (.int .u64 kq)∧
 (∀kr:Int,kr=IntKind.wrap .u64 (kq+1)→∃ks,st1 kp v.next 3 (.int .u64 kr)=some ks∧
 (∃kt ku kv kw kx ky kz k0 k1,ldN ks v.next 0 5=some [.int .u64 kt,.slice ku kv kw,.slice kx ky kz,.int .u64 k0,.int .i64 k1]∧
 (∃l323:List Value,zaE Tryz.prog 39 #[]=some (.agg l323.toArray)∧
 ((5=5)∧∃k2,stN ks x.next 0 [.int .u64 kt,.slice ku kv kw,.slice kx ky kz,.int .u64 k0,.int .i64 k1]=some k2∧
 ((List.length l323=128)∧∃k3,stN k2 y.next 0 l323=some k3∧
 (∃k4 k5 k6 k7 k8 k9 la lb lc,ldN k3 x.next 0 5=some [.int .u64 k4,.slice k5 k6 k7,.slice k8 k9 la,.int .u64 lb,.int .i64 lc]∧
 (∃l335:List Value,ldN k3 y.next 0 128=some l335∧
 (Q (.tuple #[.agg #[.int .u64 k4,.slice k5 k6 k7,.slice k8 k9 la,.int .u64 lb,.int .i64 lc],.agg l335.toArray,.int .i64 ko]) k3)))))))))∧
 (¬(ko:Int)=0→∃ld le lf lg lh li lj lk ll,ldN kp v.next 0 5=some [.int .u64 ld,.slice le lf lg,.slice lh li lj,.int .u64 lk,.int .i64 ll]∧
 (∃l345:List Value,zaE Tryz.prog 39 #[]=some (.agg l345.toArray)∧
 ((5=5)∧∃lm,stN kp x.next 0 [.int .u64 ld,.slice le lf lg,.slice lh li lj,.int .u64 lk,.int .i64 ll]=some lm∧
 ((List.length l345=128)∧∃ln,stN lm y.next 0 l345=some ln∧
 (∃lo lp lq lr ls lt lu lv lw,ldN ln x.next 0 5=some [.int .u64 lo,.slice lp lq lr,.slice ls lt lu,.int .u64 lv,.int .i64 lw]∧
 (∃l357:List Value,ldN ln y.next 0 128=some l357∧
 (Q (.tuple #[.agg #[.int .u64 lo,.slice lp lq lr,.slice ls lt lu,.int .u64 lv,.int .i64 lw],.agg l357.toArray,.int .i64 ko]) ln)))))))))))))))))))∧
 (¬(ag:Int)=4→((ag:Int)=5→∃lx ly lz l0,ldN ac v.next 0 2=some (bC lx ly lz l0)∧
 (∃l1,ld1 ac w.next 1=some (.string l1)∧
 (∃l2,ld1 ac w.next 2=some (.string l2)∧
 (Wf Tryz.prog K 34 [.agg (bC lx ly lz l0).toArray,.string l1,.string l2] ac fun l3 l4=>
 (∃l5 l6 l7 l8 l9,l3=(.tuple #[.agg (bC l5 l6 l7 l8).toArray,.int .i64 l9])∧
 (∀ma,ma=l4.alloc (.cells [.int .u64 0,.slice none 0 0] 29 false)→
 (2=2)∧∃mb,stN ma l4.next 0 (bC l5 l6 l7 l8)=some mb∧
 (∃mc md mf mg mh mi mj ml mm,ldN mb v.next 0 5=some [.int .u64 mc,.slice md mf mg,.slice mh mi mj,.int .u64 ml,.int .i64 mm]∧
 (∃mn mo mp mq,ldN mb l4.next 0 2=some (bC mn mo mp mq)∧
 (∃mr,ld1 mb w.next 1=some (.string mr)∧
 (Wf Tryz.prog K 29 [.agg #[.int .u64 mc,.slice md mf mg,.slice mh mi mj,.int .u64 ml,.int .i64 mm],.agg (bC mn mo mp mq).toArray,.int .i64 l9,.string mr] mb fun ms mt=>
 (∃mu mv mw mx my mz m0 m1 m2 m3,ms=(.tuple #[.agg #[.int .u64 mu,.slice mv mw mx,.slice my mz m0,.int .u64 m1,.int .i64 m2],.int .i64 m3])∧
 ((5=5)∧∃m4,stN mt v.next 0 [.int .u64 mu,.slice mv mw mx,.slice my mz m0,.int .u64 m1,.int .i64 m2]=some m4∧
 (∃m5 m6 m7 m8 m9 na nb nc nd,ldN m4 v.next 0 5=some [.int .u64 m5,.slice m6 m7 m8,.slice m9 na nb,.int .u64 nc,.int .i64 nd]∧
 (∃l409:List Value,zaE Tryz.prog 39 #[]=some (.agg l409.toArray)∧
 ((5=5)∧∃ne,stN m4 x.next 0 [.int .u64 m5,.slice m6 m7 m8,.slice m9 na nb,.int .u64 nc,.int .i64 nd]=some ne∧
 ((List.length l409=128)∧∃nf,stN ne y.next 0 l409=some nf∧
 (∃ng nh ni nj nk nl nm nn no,ldN nf x.next 0 5=some [.int .u64 ng,.slice nh ni nj,.slice nk nl nm,.int .u64 nn,.int .i64 no]∧
 (∃l421:List Value,ldN nf y.next 0 128=some l421∧
 (Q (.tuple #[.agg #[.int .u64 ng,.slice nh ni nj,.slice nk nl nm,.int .u64 nn,.int .i64 no],.agg l421.toArray,.int .i64 m3]) nf)))))))))))))))))))∧
 (¬(ag:Int)=5→((ag:Int)=6→∃np nq nr ns,ldN ac v.next 0 2=some (bC np nq nr ns)∧
 (∃nt,ld1 ac w.next 1=some (.string nt)∧
 (Wf Tryz.prog K 35 [.agg (bC np nq nr ns).toArray,.string nt] ac fun nu nv=>
 (∃nw nx ny nz n0,nu=(.tuple #[.agg (bC nw nx ny nz).toArray,.int .i64 n0])∧
 ((2=2)∧∃n1,stN nv v.next 0 (bC nw nx ny nz)=some n1∧
 (∃n2 n3 n4 n5 n6 n7 n8 n9 oa,ldN n1 v.next 0 5=some [.int .u64 n2,.slice n3 n4 n5,.slice n6 n7 n8,.int .u64 n9,.int .i64 oa]∧
 (∃l444:List Value,zaE Tryz.prog 39 #[]=some (.agg l444.toArray)∧
 ((5=5)∧∃ob,stN n1 x.next 0 [.int .u64 n2,.slice n3 n4 n5,.slice n6 n7 n8,.int .u64 n9,.int .i64 oa]=some ob∧
 ((List.length l444=128)∧∃oc,stN ob y.next 0 l444=some oc∧
 (∃od oe og oh oi oj ok ol om,ldN oc x.next 0 5=some [.int .u64 od,.slice oe og oh,.slice oi oj ok,.int .u64 ol,.int .i64 om]∧
 (∃l456:List Value,ldN oc y.next 0 128=some l456∧
 (Q (.tuple #[.agg #[.int .u64 od,.slice oe og oh,.slice oi oj ok,.int .u64 ol,.int .i64 om],.agg l456.toArray,.int .i64 n0]) oc))))))))))))∧
 (¬(ag:Int)=6→((ag:Int)=7→∃oo op oq os,ldN ac v.next 0 2=some (bC oo op oq os)∧
 (∃ot,ld1 ac w.next 1=some (.string ot)∧
 (Wf Tryz.prog K 36 [.agg (bC oo op oq os).toArray,.string ot] ac fun ou ov=>
 (∃ow ox oy oz o0 o1 o2 o3 o4 o5 o6 o7 o8 o9 pa pb pc pd,ou=(.tuple #[.agg (bC ow ox oy oz).toArray,.agg (sC o0 o1 o2 o3 o4 o5 o6 o7 o8 o9 pa pb pc).toArray,.int .i64 pd])∧
 (∀pe,pe=ov.alloc (.cells [.int .u64 0,.slice none 0 0] 29 false)→
 ∀pf,pf=pe.alloc (.cells (zC) 81 false)→
 (2=2)∧∃pg,stN pf ov.next 0 (bC ow ox oy oz)=some pg∧
 ((11=11)∧∃ph,stN pg pe.next 0 (sC o0 o1 o2 o3 o4 o5 o6 o7 o8 o9 pa pb pc)=some ph∧
 (((pd:Int)=0→∃pj pk pl pm pn po pp pq pr,ldN ph v.next 0 5=some [.int .u64 pj,.slice pk pl pm,.slice pn po pp,.int .u64 pq,.int .i64 pr]∧
 (∃ps,ld1 ph pe.next 4=some (.int .u64 ps)∧
 (Wf Tryz.prog K 32 [.agg #[.int .u64 pj,.slice pk pl pm,.slice pn po pp,.int .u64 pq,.int .i64 pr],.int .u64 ps] ph fun pt pu=>
 (∃l498:List Value,pt=(.agg l498.toArray)∧
 (∃pv:List Value,zas Tryz.prog 87=some pv∧∀pw,pw=pu.alloc (.cells pv 87 false)→
 (List.length l498=8257)∧∃px,stN pw pu.next 0 l498=some px∧
 (∃py,ld1 px pe.next 0=some (.int .u64 py)∧
 (∃pz,st1 px pu.next 0 (.int .u64 py)=some pz∧
 (∃p0 p1 p2,ld1 pz v.next 2=some (.slice p0 p1 p2)∧
 (∃l507:List Value,ldN pz pu.next 0 8257=some l507∧
 (Wf Tryz.prog K 37 [.slice p0 p1 p2,.agg l507.toArray] pz fun p3 p4=>
 (∃p5 p6 p7,p3=(.slice p5 p6 p7)∧
 (∃p8,st1 p4 v.next 2 (.slice p5 p6 p7)=some p8∧
 (∃p9 qa qb qc,ldN p8 ov.next 0 2=some (bC p9 qa qb qc)∧
 ((2=2)∧∃qd,stN p8 v.next 0 (bC p9 qa qb qc)=some qd∧
 (∃qe qf qg qh qi qj qk ql qm,ldN qd v.next 0 5=some [.int .u64 qe,.slice qf qg qh,.slice qi qj qk,.int .u64 ql,.int .i64 qm]∧
 (∃l528:List Value,zaE Tryz.prog 39 #[]=some (.agg l528.toArray)∧
 ((5=5)∧∃qn,stN qd x.next 0 [.int .u64 qe,.slice qf qg qh,.slice qi qj qk,.int .u64 ql,.int .i64 qm]=some qn∧
 ((List.length l528=128)∧∃qo,stN qn y.next 0 l528=some qo∧
 (∃qp qq qr qs qt qu qv qw qx,ldN qo x.next 0 5=some [.int .u64 qp,.slice qq qr qs,.slice qt qu qv,.int .u64 qw,.int .i64 qx]∧
 (∃l540:List Value,ldN qo y.next 0 128=some l540∧
 (Q (.tuple #[.agg #[.int .u64 qp,.slice qq qr qs,.slice qt qu qv,.int .u64 qw,.int .i64 qx],.agg l540.toArray,.int .i64 pd]) qo)))))))))))))))))))))∧
 (¬(pd:Int)=0→∃qy qz q0 q1 q2 q3 q4 q5 q6,ldN ph v.next 0 5=some [.int .u64 qy,.slice qz q0 q1,.slice q2 q3 q4,.int .u64 q5,.int .i64 q6]∧
 (∃l550:List Value,zaE Tryz.prog 39 #[]=some (.agg l550.toArray)∧
 ((5=5)∧∃q7,stN ph x.next 0 [.int .u64 qy,.slice qz q0 q1,.slice q2 q3 q4,.int .u64 q5,.int .i64 q6]=some q7∧
 ((List.length l550=128)∧∃q8,stN q7 y.next 0 l550=some q8∧
 (∃q9 ra rb rc rd re rf rg rh,ldN q8 x.next 0 5=some [.int .u64 q9,.slice ra rb rc,.slice rd re rf,.int .u64 rg,.int .i64 rh]∧
 (∃l562:List Value,ldN q8 y.next 0 128=some l562∧
 (Q (.tuple #[.agg #[.int .u64 q9,.slice ra rb rc,.slice rd re rf,.int .u64 rg,.int .i64 rh],.agg l562.toArray,.int .i64 pd]) q8))))))))))))))∧
 (¬(ag:Int)=7→((ag:Int)=8→((af:Int)=0→(ae=(ByteArray.mk #[])→∃ri rj rk rl,ldN ac v.next 0 2=some (bC ri rj rk rl)∧
 (∃rm,ld1 ac w.next 1=some (.string rm)∧
 (Wf Tryz.prog K 39 [.agg (bC ri rj rk rl).toArray,.string rm] ac fun rn ro=>
 (∃rp rq rr rs rt ru rv rw rx ry rz r0 r1 r2 r3 r4 r6 r7,rn=(.tuple #[.agg (bC rp rq rr rs).toArray,.agg (sC rt ru rv rw rx ry rz r0 r1 r2 r3 r4 r6).toArray,.int .i64 r7])∧
 ((2=2)∧∃r8,stN ro v.next 0 (bC rp rq rr rs)=some r8∧
 (∃r9 sa sb sc sd se sf sg sh,ldN r8 v.next 0 5=some [.int .u64 r9,.slice sa sb sc,.slice sd se sf,.int .u64 sg,.int .i64 sh]∧
 (∃l598:List Value,zaE Tryz.prog 39 #[]=some (.agg l598.toArray)∧
 ((5=5)∧∃si,stN r8 x.next 0 [.int .u64 r9,.slice sa sb sc,.slice sd se sf,.int .u64 sg,.int .i64 sh]=some si∧
 ((List.length l598=128)∧∃sj,stN si y.next 0 l598=some sj∧
 (∃sk sl sm sn so sp sq sr ss,ldN sj x.next 0 5=some [.int .u64 sk,.slice sl sm sn,.slice so sp sq,.int .u64 sr,.int .i64 ss]∧
 (∃l610:List Value,ldN sj y.next 0 128=some l610∧
 (Q (.tuple #[.agg #[.int .u64 sk,.slice sl sm sn,.slice so sp sq,.int .u64 sr,.int .i64 ss],.agg l610.toArray,.int .i64 r7]) sj))))))))))))∧
 (¬ae=(ByteArray.mk #[])→∃st su sv sw,ldN ac v.next 0 2=some (bC st su sv sw)∧
 (∃sx,ld1 ac w.next 1=some (.string sx)∧
 (Wf Tryz.prog K 38 [.agg (bC st su sv sw).toArray,.string sx] ac fun sy sz=>
 (∃s0 s1 s2 s3 s5 s6 s9 ta,sy=(.tuple #[.agg (bC s0 s1 s2 s3).toArray,.slice s5 s6 s9,.int .i64 ta])∧
 ((2=2)∧∃tb,stN sz v.next 0 (bC s0 s1 s2 s3)=some tb∧
 (∃tc td te tf tg th ti tj tk,ldN tb v.next 0 5=some [.int .u64 tc,.slice td te tf,.slice tg th ti,.int .u64 tj,.int .i64 tk]∧
 (∃l636:List Value,zaE Tryz.prog 39 #[]=some (.agg l636.toArray)∧
 ((5=5)∧∃tl,stN tb x.next 0 [.int .u64 tc,.slice td te tf,.slice tg th ti,.int .u64 tj,.int .i64 tk]=some tl∧
 ((List.length l636=128)∧∃tm,stN tl y.next 0 l636=some tm∧
 (∃tn tp tq tr ts tt tu tv tw,ldN tm x.next 0 5=some [.int .u64 tn,.slice tp tq tr,.slice ts tt tu,.int .u64 tv,.int .i64 tw]∧
 (∃l648:List Value,ldN tm y.next 0 128=some l648∧
 (Q (.tuple #[.agg #[.int .u64 tn,.slice tp tq tr,.slice ts tt tu,.int .u64 tv,.int .i64 tw],.agg l648.toArray,.int .i64 ta]) tm)))))))))))))∧
 (¬(af:Int)=0→∃tx ty tz t0 t1 t2 t3 t4 t5,ldN ac v.next 0 5=some [.int .u64 tx,.slice ty tz t0,.slice t1 t2 t3,.int .u64 t4,.int .i64 t5]∧
 (∃l658:List Value,zaE Tryz.prog 39 #[]=some (.agg l658.toArray)∧
 ((5=5)∧∃t6,stN ac x.next 0 [.int .u64 tx,.slice ty tz t0,.slice t1 t2 t3,.int .u64 t4,.int .i64 t5]=some t6∧
 ((List.length l658=128)∧∃t7,stN t6 y.next 0 l658=some t7∧
 (∃t8 t9 ua ub uc ud ue uf ug,ldN t7 x.next 0 5=some [.int .u64 t8,.slice t9 ua ub,.slice uc ud ue,.int .u64 uf,.int .i64 ug]∧
 (∃l670:List Value,ldN t7 y.next 0 128=some l670∧
 (Q (.tuple #[.agg #[.int .u64 t8,.slice t9 ua ub,.slice uc ud ue,.int .u64 uf,.int .i64 ug],.agg l670.toArray,.int .i64 141]) t7))))))))∧
 (¬(ag:Int)=8→((ag:Int)=9→∃uh,ld1 ac v.next 3=some (.int .u64 uh)∧
 (∀ui:Int,ui=IntKind.wrap .u64 (uh+1)→∃uj,st1 ac v.next 3 (.int .u64 ui)=some uj∧
 (∃uk ul um un uo up uq ur ut,ldN uj v.next 0 5=some [.int .u64 uk,.slice ul um un,.slice uo up uq,.int .u64 ur,.int .i64 ut]∧
 (∃l683:List Value,zaE Tryz.prog 39 #[]=some (.agg l683.toArray)∧
 ((5=5)∧∃uu,stN uj x.next 0 [.int .u64 uk,.slice ul um un,.slice uo up uq,.int .u64 ur,.int .i64 ut]=some uu∧
 ((List.length l683=128)∧∃uv,stN uu y.next 0 l683=some uv∧
 (∃uw ux uy uz u0 u1 u2 u3 u4,ldN uv x.next 0 5=some [.int .u64 uw,.slice ux uy uz,.slice u0 u1 u2,.int .u64 u3,.int .i64 u4]∧
 (∃l695:List Value,ldN uv y.next 0 128=some l695∧
 (Q (.tuple #[.agg #[.int .u64 uw,.slice ux uy uz,.slice u0 u1 u2,.int .u64 u3,.int .i64 u4],.agg l695.toArray,.int .i64 0]) uv)))))))))∧
 (¬(ag:Int)=9→∃u5 u6 u7 u9 va vb vc vd ve,ldN ac v.next 0 5=some [.int .u64 u5,.slice u6 u7 u9,.slice va vb vc,.int .u64 vd,.int .i64 ve]∧
 (∃l705:List Value,zaE Tryz.prog 39 #[]=some (.agg l705.toArray)∧
 ((5=5)∧∃vf,stN ac x.next 0 [.int .u64 u5,.slice u6 u7 u9,.slice va vb vc,.int .u64 vd,.int .i64 ve]=some vf∧
 ((List.length l705=128)∧∃vg,stN vf y.next 0 l705=some vg∧
 (∃vh vi vj vk vl vm vn vo vp,ldN vg x.next 0 5=some [.int .u64 vh,.slice vi vj vk,.slice vl vm vn,.int .u64 vo,.int .i64 vp]∧
 (∃l717:List Value,ldN vg y.next 0 128=some l717∧
 (Q (.tuple #[.agg #[.int .u64 vh,.slice vi vj vk,.slice vl vm vn,.int .u64 vo,.int .i64 vp],.agg l717.toArray,.int .i64 0]) vg))))))))))))))))))))):
 Wf Tryz.prog K 8 [.agg #[.int .u64 a,.slice b d e,.slice f g i,.int .u64 j,.int .i64 k],.agg #[.int .i64 l,.string m,.string n,.int .i64 o,.slice p q r,.slice s t u]] v Q:=
  zai (hs:=[]) hk (Eq.mpr (by kernel_rfl) H)
abbrev zbP (K:Xs) (Q:Value→AH→Prop) (vq:Value) (vr:AH) (v:AH) (w:AH) (x:AH):Prop:=
 (∃a8 a9 ba,vq=(.slice a8 a9 ba)∧
 (∃vs,st1 vr v.next 2 (.slice a8 a9 ba)=some vs∧
 (∃vt vu vv vw,ldN vs w.next 0 2=some (bC vt vu vv vw)∧
 ((2=2)∧∃vx,stN vs v.next 0 (bC vt vu vv vw)=some vx∧
 (∃vy vz v0 v1 v2 v3 v4 bo v5,ldN vx v.next 0 5=some [.int .u64 vy,.slice vz v0 v1,.slice v2 v3 v4,.int .u64 bo,.int .i64 v5]∧
 ((5=5)∧∃v6,stN vx x.next 0 [.int .u64 vy,.slice vz v0 v1,.slice v2 v3 v4,.int .u64 bo,.int .i64 v5]=some v6∧
 (∃v7 bs bt bu v8 v9 wa wb wc,ldN v6 x.next 0 5=some [.int .u64 v7,.slice bs bt bu,.slice v8 v9 wa,.int .u64 wb,.int .i64 wc]∧
 (Q (.tuple #[.agg #[.int .u64 v7,.slice bs bt bu,.slice v8 v9 wa,.int .u64 wb,.int .i64 wc],.int .i64 0]) v6))))))))
theorem zfF {K:Xs} (hk:K 29=none) (a:Int) (b:Option Addr) (d e:Nat) (f:Option Addr) (g i:Nat) (j:Int) (k:Int) (l:Int) (m:Option Addr) (n o:Nat) (p:Int) (q:ByteArray) (r:AH) (Q:Value→AH→Prop) (H:
 ∀s,s=r.alloc (.cells [.int .u64 a,.slice b d e,.slice f g i,.int .u64 j,.int .i64 k] 32 false)→
 ∀t,t=s.alloc (.cells (bC l m n o) 29 false)→
 ∀u,u=t.alloc (.cells [.int .u64 0,.slice none 0 0,.slice none 0 0,.int .u64 0,.int .i64 0] 32 false)→
 ((p:Int)=0→∃l3:List Value,zaE Tryz.prog 87 #[]=some (.agg l3.toArray)∧
 (∃v:List Value,zas Tryz.prog 87=some v∧∀w,w=u.alloc (.cells v 87 false)→
 (List.length l3=8257)∧∃x,stN w u.next 0 l3=some x∧
 (∃y z aa,ld1 x r.next 1=some (.slice y z aa)∧
 (Wf Tryz.prog K 45 [.slice y z aa,.string q] x fun ab ac=>
 (∃ad ae af ag ah ai aj ak al am an ao ap aq,ab=(.tuple #[.agg (sC ad ae af ag ah ai aj ak al am an ao ap).toArray,.int .i64 aq])∧
 (∀ar,ar=ac.alloc (.cells (zC) 81 false)→
 (11=11)∧∃au,stN ar ac.next 0 (sC ad ae af ag ah ai aj ak al am an ao ap)=some au∧
 ((q=(ByteArray.mk #[])→∃av,ld1 au r.next 0=some (.int .u64 av)∧
 (∃aw,st1 au u.next 0 (.int .u64 av)=some aw∧
 (∃ax ay az,ld1 aw r.next 2=some (.slice ax ay az)∧
 (∃l33:List Value,ldN aw u.next 0 8257=some l33∧
 (Wf Tryz.prog K 37 [.slice ax ay az,.agg l33.toArray] aw fun a0 a1=>
 (zbP K Q a0 a1 r s t))))))∧
 (¬q=(ByteArray.mk #[])→((aq:Int)=0→∃a2 a3 a4 a5 a6 a7 a8 a9 ba,ldN au r.next 0 5=some [.int .u64 a2,.slice a3 a4 a5,.slice a6 a7 a8,.int .u64 a9,.int .i64 ba]∧
 (∃bb,ld1 au ac.next 0=some (.int .u64 bb)∧
 (Wf Tryz.prog K 32 [.agg #[.int .u64 a2,.slice a3 a4 a5,.slice a6 a7 a8,.int .u64 a9,.int .i64 ba],.int .u64 bb] au fun bc bd=>
 (∃l76:List Value,bc=(.agg l76.toArray)∧
 ((List.length l76=8257)∧∃be,stN bd u.next 0 l76=some be∧
 (∃bf,ld1 be r.next 0=some (.int .u64 bf)∧
 (∃bg,st1 be u.next 0 (.int .u64 bf)=some bg∧
 (∃bh bi bj,ld1 bg r.next 2=some (.slice bh bi bj)∧
 (∃l83:List Value,ldN bg u.next 0 8257=some l83∧
 (Wf Tryz.prog K 37 [.slice bh bi bj,.agg l83.toArray] bg fun bk bl=>
 (zbP K Q bk bl r s t)))))))))))∧
 (¬(aq:Int)=0→∃bm,ld1 au r.next 0=some (.int .u64 bm)∧
 (∃bn,st1 au u.next 0 (.int .u64 bm)=some bn∧
 (∃bo bp bq,ld1 bn r.next 2=some (.slice bo bp bq)∧
 (∃l119:List Value,ldN bn u.next 0 8257=some l119∧
 (Wf Tryz.prog K 37 [.slice bo bp bq,.agg l119.toArray] bn fun br bs=>
 (zbP K Q br bs r s t))))))))))))))∧
 (¬(p:Int)=0→∃bt bu bv bw bx bz b0 b1 b2,ldN u r.next 0 5=some [.int .u64 bt,.slice bu bv bw,.slice bx bz b0,.int .u64 b1,.int .i64 b2]∧
 ((5=5)∧∃b3,stN u t.next 0 [.int .u64 bt,.slice bu bv bw,.slice bx bz b0,.int .u64 b1,.int .i64 b2]=some b3∧
 (∃b4 b5 b6 b7 b8 b9 da db dc,ldN b3 t.next 0 5=some [.int .u64 b4,.slice b5 b6 b7,.slice b8 b9 da,.int .u64 db,.int .i64 dc]∧
 (Q (.tuple #[.agg #[.int .u64 b4,.slice b5 b6 b7,.slice b8 b9 da,.int .u64 db,.int .i64 dc],.int .i64 p]) b3))))):
 Wf Tryz.prog K 29 [.agg #[.int .u64 a,.slice b d e,.slice f g i,.int .u64 j,.int .i64 k],.agg (bC l m n o).toArray,.int .i64 p,.string q] r Q:=
  zai (hs:=[]) hk (Eq.mpr (by kernel_rfl) H)
abbrev zc7 (K:Xs) (Q:Value→AH→Prop) (dd:Value) (de:AH) (r:AH) (t:AH):Prop:=
 (∃df dg dh,dd=(.slice df dg dh)∧
 (∃di,st1 de r.next 2 (.slice df dg dh)=some di∧
 (∃dj dk dl dm dn dp dq dr bm,ldN di r.next 0 5=some [.int .u64 dj,.slice dk dl dm,.slice dn dp dq,.int .u64 dr,.int .i64 bm]∧
 ((5=5)∧∃bn,stN di t.next 0 [.int .u64 dj,.slice dk dl dm,.slice dn dp dq,.int .u64 dr,.int .i64 bm]=some bn∧
 (∃ds dt du dv dw dx dy dz d0,ldN bn t.next 0 5=some [.int .u64 ds,.slice dt du dv,.slice dw dx dy,.int .u64 dz,.int .i64 d0]∧
 (Q (.tuple #[.agg #[.int .u64 ds,.slice dt du dv,.slice dw dx dy,.int .u64 dz,.int .i64 d0],.int .i64 0]) bn))))))
abbrev zc8 (K:Xs) (Q:Value→AH→Prop) (d1:Int) (d2:Option Addr) (d3:Nat) (d4:Nat) (d5:Option Addr) (d6:Nat) (d7:Nat) (d8:Int) (d9:Int) (ea:AH) (t:AH) (eb:Int):Prop:=
 ((5=5)∧∃ec,stN ea t.next 0 [.int .u64 d1,.slice d2 d3 d4,.slice d5 d6 d7,.int .u64 d8,.int .i64 d9]=some ec∧
 (∃ed ee ef eg eh ei ej ek el,ldN ec t.next 0 5=some [.int .u64 ed,.slice ee ef eg,.slice eh ei ej,.int .u64 ek,.int .i64 el]∧
 (Q (.tuple #[.agg #[.int .u64 ed,.slice ee ef eg,.slice eh ei ej,.int .u64 ek,.int .i64 el],.int .i64 eb]) ec)))
theorem zgh {K:Xs} (hk:K 30=none) (a:Int) (b:Option Addr) (d e:Nat) (f:Option Addr) (g i:Nat) (j:Int) (k:Int) (l:Int) (m:ByteArray) (n:ByteArray) (o:Int) (p:Option Addr) (q r:Nat) (s:Option Addr) (t u:Nat) (v:AH) (Q:Value→AH→Prop) (H:
 ∀w,w=v.alloc (.cells [.int .u64 a,.slice b d e,.slice f g i,.int .u64 j,.int .i64 k] 32 false)→
 ∀x,x=w.alloc (.cells [.int .i64 l,.string m,.string n,.int .i64 o,.slice p q r,.slice s t u] 37 false)→
 ∀y,y=x.alloc (.cells [.int .u64 0,.slice none 0 0,.slice none 0 0,.int .u64 0,.int .i64 0] 32 false)→
 ∃z,ld1 y w.next 1=some (.string z)∧
 (Wf Tryz.prog K 27 [.string z] y fun aa ab=>
 (∃ac ad ae,aa=(.tuple #[.string ac,.string ad,.int .i64 ae])∧
 ((ad=(ByteArray.mk #[])→∃af ag ah ai aj ak al am an,ldN ab v.next 0 5=some [.int .u64 af,.slice ag ah ai,.slice aj ak al,.int .u64 am,.int .i64 an]∧
 (∃ao,ld1 ab w.next 1=some (.string ao)∧
 (∃ap,ld1 ab w.next 3=some (.int .i64 ap)∧
 (Wf Tryz.prog K 31 [.agg #[.int .u64 af,.slice ag ah ai,.slice aj ak al,.int .u64 am,.int .i64 an],.string ao,.int .i64 ap] ab fun aq ar=>
 (∃au av aw ax ay az a0 a1 a2 a3 a4 a5 a6 a7,aq=(.tuple #[.agg (sC au av aw ax ay az a0 a1 a2 a3 a4 a5 a6).toArray,.int .i64 a7])∧
 (∀a8,a8=ar.alloc (.cells (zC) 81 false)→
 (11=11)∧∃a9,stN a8 ar.next 0 (sC au av aw ax ay az a0 a1 a2 a3 a4 a5 a6)=some a9∧
 (((a7:Int)=0→∃ba bb bc bd be bf bg bh bi,ldN a9 v.next 0 5=some [.int .u64 ba,.slice bb bc bd,.slice be bf bg,.int .u64 bh,.int .i64 bi]∧
 (∃bj,ld1 a9 ar.next 0=some (.int .u64 bj)∧
 (Wf Tryz.prog K 32 [.agg #[.int .u64 ba,.slice bb bc bd,.slice be bf bg,.int .u64 bh,.int .i64 bi],.int .u64 bj] a9 fun bk bl=>
 (∃l50:List Value,bk=(.agg l50.toArray)∧
 (∃bm:List Value,zas Tryz.prog 87=some bm∧∀bn,bn=bl.alloc (.cells bm 87 false)→
 (List.length l50=8257)∧∃bo,stN bn bl.next 0 l50=some bo∧
 (∃bp,ld1 bo w.next 3=some (.int .i64 bp)∧
 (∃l55:List Value,zaE Tryz.prog 39 #[]=some (.agg l55.toArray)∧
 (((0:Int)≤bp)∧((bp:Int) < 64)∧
 ((List.length l55=128)∧∃bq,stN bo bl.next (1+Int.toNat bp * 128) l55=some bq∧
 (∃br,ld1 bq w.next 3=some (.int .i64 br)∧
 (((0:Int)≤br)∧((br:Int) < 64)∧
 (∃bs,st1 bq bl.next (8193+Int.toNat br * 1) (.int .i64 0)=some bs∧
 (∃bt,ld1 bs w.next 0=some (.int .i64 bt)∧
 (((bt:Int)=1→∃bu bv bw,ld1 bs w.next 4=some (.slice bu bv bw)∧
 (((128:Int) < ((bv:Nat):Int)→∃bx bz b0 b1 b2 b3 b4 b5 b6,ldN bs v.next 0 5=some [.int .u64 bx,.slice bz b0 b1,.slice b2 b3 b4,.int .u64 b5,.int .i64 b6]∧
 ((5=5)∧∃b7,stN bs x.next 0 [.int .u64 bx,.slice bz b0 b1,.slice b2 b3 b4,.int .u64 b5,.int .i64 b6]=some b7∧
 (∃b8 b9 da db dc dd de df dg,ldN b7 x.next 0 5=some [.int .u64 b8,.slice b9 da db,.slice dc dd de,.int .u64 df,.int .i64 dg]∧
 (Q (.tuple #[.agg #[.int .u64 b8,.slice b9 da db,.slice dc dd de,.int .u64 df,.int .i64 dg],.int .i64 92]) b7))))∧
 (¬(128:Int) < ((bv:Nat):Int)→∃dh,ld1 bs v.next 4=some (.int .i64 dh)∧
 (∀di:Int,di=IntKind.wrap .i64 (dh+1)→∃dj,st1 bs v.next 4 (.int .i64 di)=some dj∧
 (∃dk dl dm,ld1 dj w.next 4=some (.slice dk dl dm)∧
 (Wf Tryz.prog K 71 [.slice dk dl dm] dj fun dn dp=>
 (∃l90:List Value,dn=(.agg l90.toArray)∧
 (∃dq,ld1 dp w.next 3=some (.int .i64 dq)∧
 (((0:Int)≤dq)∧((dq:Int) < 64)∧
 ((List.length l90=128)∧∃dr,stN dp bl.next (1+Int.toNat dq * 128) l90=some dr∧
 ((ld1 dj w.next 3=some (.int .i64 dq))∧
 ((ld1 dp w.next 3=some (.int .i64 dq))∧
 (∃ds,ld1 dr w.next 3=some (.int .i64 ds)∧
 (∃dt,ld1 dr v.next 4=some (.int .i64 dt)∧
 (((0:Int)≤ds)∧((ds:Int) < 64)∧
 (∃du,st1 dr bl.next (8193+Int.toNat ds * 1) (.int .i64 dt)=some du∧
 (∃dv dw dx,ld1 du v.next 2=some (.slice dv dw dx)∧
 (∃l99:List Value,ldN du bl.next 0 8257=some l99∧
 (Wf Tryz.prog K 37 [.slice dv dw dx,.agg l99.toArray] du fun dy dz=>
 (zc7 K Q dy dz v x))))))))))))))))))))∧
 (¬(bt:Int)=1→∃d0 d1 d2,ld1 bs v.next 2=some (.slice d0 d1 d2)∧
 (∃l128:List Value,ldN bs bl.next 0 8257=some l128∧
 (Wf Tryz.prog K 37 [.slice d0 d1 d2,.agg l128.toArray] bs fun d3 d4=>
 (zc7 K Q d3 d4 v x))))))))))))))))))∧
 (¬(a7:Int)=0→∃d5 d6 d7 d8 d9 ea eb ec ed,ldN a9 v.next 0 5=some [.int .u64 d5,.slice d6 d7 d8,.slice d9 ea eb,.int .u64 ec,.int .i64 ed]∧
 (zc8 K Q d5 d6 d7 d8 d9 ea eb ec ed a9 x a7)))))))))∧
 (¬ad=(ByteArray.mk #[])→∃ee ef eg eh ei ej ek el em,ldN ab v.next 0 5=some [.int .u64 ee,.slice ef eg eh,.slice ei ej ek,.int .u64 el,.int .i64 em]∧
 (zc8 K Q ee ef eg eh ei ej ek el em ab x 141)))))):
 Wf Tryz.prog K 30 [.agg #[.int .u64 a,.slice b d e,.slice f g i,.int .u64 j,.int .i64 k],.agg #[.int .i64 l,.string m,.string n,.int .i64 o,.slice p q r,.slice s t u]] v Q:=
  zai (hs:=[]) hk (Eq.mpr (by kernel_rfl) H)
abbrev zbQ (K:Xs) (Q:Value→AH→Prop) (en:AH) (w:AH) (eo:Int):Prop:=
 (∃a1 ep eq er es et a7 eu ev ba bb bc bd,ldN en w.next 0 11=some (sC a1 ep eq er es et a7 eu ev ba bb bc bd)∧
 (Q (.tuple #[.agg (sC a1 ep eq er es et a7 eu ev ba bb bc bd).toArray,.int .i64 eo]) en))
abbrev zcI (K:Xs) (Q:Value→AH→Prop) (ax:Int) (ew:AH) (w:AH) (ex:Int):Prop:=
 (¬(ax:Int)=0→(11=11)∧∃dj,stN ew w.next 0 (zC)=some dj∧
 (zbQ K Q dj w ex))
theorem zfG {K:Xs} (hk:K 31=none) (a:Int) (b:Option Addr) (d e:Nat) (f:Option Addr) (g i:Nat) (j:Int) (k:Int) (l:ByteArray) (m:Int) (n:AH) (Q:Value→AH→Prop) (H:
 ∀o,o=n.alloc (.cells [.int .u64 a,.slice b d e,.slice f g i,.int .u64 j,.int .i64 k] 32 false)→
 ∀p,p=o.alloc (.cells (zC) 81 false)→
 Wf Tryz.prog K 27 [.string l] p fun q r=>
 (∃s t u,q=(.tuple #[.string s,.string t,.int .i64 u])∧
 (((u:Int)=0→∃v w x,ld1 r n.next 1=some (.slice v w x)∧
 (Wf Tryz.prog K 45 [.slice v w x,.string l] r fun y z=>
 (∃aa ab ac ad ae af ag ah ai aj ak al am an,y=(.tuple #[.agg (sC aa ab ac ad ae af ag ah ai aj ak al am).toArray,.int .i64 an])∧
 (∀ao,ao=z.alloc (.cells (zC) 81 false)→
 (11=11)∧∃ap,stN ao z.next 0 (sC aa ab ac ad ae af ag ah ai aj ak al am)=some ap∧
 (((an:Int)=0→((m:Int) < 0→(11=11)∧∃aq,stN ap o.next 0 (zC)=some aq∧
 (zbQ K Q aq o 176))∧
 (¬(m:Int) < 0→∃ar,ld1 ap z.next 6=some (.int .i64 ar)∧
 (((ar:Int)≤m→(11=11)∧∃au,stN ap o.next 0 (zC)=some au∧
 (zbQ K Q au o 176))∧
 (¬(ar:Int)≤m→∃av aw ax ay az a0 a1 a2 a3 a4 a5 a6 a7,ldN ap z.next 0 11=some (sC av aw ax ay az a0 a1 a2 a3 a4 a5 a6 a7)∧
 ((11=11)∧∃a8,stN ap o.next 0 (sC av aw ax ay az a0 a1 a2 a3 a4 a5 a6 a7)=some a8∧
 (∃a9 ba bb bc bd be bf bg bh bi bj bk bl,ldN a8 o.next 0 11=some (sC a9 ba bb bc bd be bf bg bh bi bj bk bl)∧
 (Q (.tuple #[.agg (sC a9 ba bb bc bd be bf bg bh bi bj bk bl).toArray,.int .i64 0]) a8)))))))∧
 (zcI K Q an ap o 172))))))∧
 (zcI K Q u r o 141)))):
 Wf Tryz.prog K 31 [.agg #[.int .u64 a,.slice b d e,.slice f g i,.int .u64 j,.int .i64 k],.string l,.int .i64 m] n Q:=
  zai (hs:=[]) hk (Eq.mpr (by kernel_rfl) H)
theorem zgJ {K:Xs} (hk:K 32=none) (a:Int) (b:Option Addr) (d e:Nat) (f:Option Addr) (g i:Nat) (j:Int) (k:Int) (l:Int) (h:AH) (Q:Value→AH→Prop) (H:
 ∀m,m=h.alloc (.cells [.int .u64 a,.slice b d e,.slice f g i,.int .u64 j,.int .i64 k] 32 false)→
 ∃o:List Value,zas Tryz.prog 87=some o∧∀p,p=m.alloc (.cells o 87 false)→
 ∃q r s,ld1 p h.next 2=some (.slice q r s)∧
 (∃t:Int→Nat→AH→Prop,(∃n,t 0 n p)∧
 ∀(u:Nat) (v:AH),∀(w:Int),t w u v→
 ((w:Int) < ((r:Nat):Int)→zal q fun x y=>(((0:Int)≤w)∧((w:Int) < ((r:Nat):Int))∧
 (∃l13:List Value,ldN v x (y+Int.toNat w * 8257) 8257=some l13∧
 (∃z:List Value,zas Tryz.prog 87=some z∧∀aa,aa=v.alloc (.cells z 87 false)→
 (List.length l13=8257)∧∃ab,stN aa v.next 0 l13=some ab∧
 (∃ac,ld1 ab v.next 0=some (.int .u64 ac)∧
 (((ac:Int)=l→∃l18:List Value,ldN ab v.next 0 8257=some l18∧
 ((List.length l18=8257)∧∃ad,stN ab m.next 0 l18=some ad∧
 (∃l20:List Value,ldN ad m.next 0 8257=some l20∧
 (Q (.agg l20.toArray) ad))))∧
 (¬(ac:Int)=l→∀ae:Int,ae=IntKind.wrap .i64 (w+1)→∃af,af < u∧t ae af ab)))))))∧
 (¬(w:Int) < ((r:Nat):Int)→∃l22:List Value,zaE Tryz.prog 87 #[(0,(.int .u64 l))]=some (.agg l22.toArray)∧
 ((List.length l22=8257)∧∃ag,stN v m.next 0 l22=some ag∧
 (∃l24:List Value,ldN ag m.next 0 8257=some l24∧
 (Q (.agg l24.toArray) ag)))))):
 Wf Tryz.prog K 32 [.agg #[.int .u64 a,.slice b d e,.slice f g i,.int .u64 j,.int .i64 k],.int .u64 l] h Q:=
  zai (hs:=[(2,[(10,.int .i64 0)])]) hk (Eq.mpr (by kernel_rfl) H)
theorem zfH {K:Xs} (hk:K 37=none) (a:Option Addr) (b d:Nat) (la1:List Value) (h:AH) (Q:Value→AH→Prop) (H:
 ∀e,e=h.alloc (.cells la1 87 false)→
 ∃f g i j,zaQ Tryz.prog e 30 0 #[]=some (.slice f g i,j)∧
 (∃k:Option Addr→Nat→Nat→Int→Nat→AH→Prop,(∃n,k f g i 0 n j)∧
 ∀(l:Nat) (m:AH),∀(o:Option Addr) (p:Nat) (q:Nat),∀(r:Int),k o p q r l m→
 ((r:Int) < ((b:Nat):Int)→zal a fun s t=>(((0:Int)≤r)∧((r:Int) < ((b:Nat):Int))∧
 (∃l15:List Value,ldN m s (t+Int.toNat r * 8257) 8257=some l15∧
 (∃u:List Value,zas Tryz.prog 87=some u∧∀v,v=m.alloc (.cells u 87 false)→
 (List.length l15=8257)∧∃w,stN v m.next 0 l15=some w∧
 (∃x,ld1 w m.next 0=some (.int .u64 x)∧
 (∃y,ld1 w h.next 0=some (.int .u64 y)∧
 (((x:Int)=y→∀z:Int,z=IntKind.wrap .i64 (r+1)→∃aa,aa < l∧k o p q z aa w)∧
 (¬(x:Int)=y→∃l22:List Value,ldN w m.next 0 8257=some l22∧
 (∃ab ac ad ae,zaQ Tryz.prog w 30 1 #[(0,(.agg l22.toArray))]=some (.slice ab ac ad,ae)∧
 (∃af ag ah ai,zan Tryz.prog ae .append #[30,30] [.slice o p q,.slice ab ac ad]=some (.slice af ag ah,ai)∧
 (∀aj:Int,aj=IntKind.wrap .i64 (r+1)→∃aa,aa < l∧k af ag ah aj aa ai)))))))))))∧
 (¬(r:Int) < ((b:Nat):Int)→∃l32:List Value,ldN m h.next 0 8257=some l32∧
 (∃ak al am an,zaQ Tryz.prog m 30 1 #[(0,(.agg l32.toArray))]=some (.slice ak al am,an)∧
 (∃ao ap aq ar,zan Tryz.prog an .append #[30,30] [.slice o p q,.slice ak al am]=some (.slice ao ap aq,ar)∧
 (Q (.slice ao ap aq) ar)))))):
 Wf Tryz.prog K 37 [.slice a b d,.agg la1.toArray] h Q:=
  zai (hs:=[(3,[(5,.slice none 0 0),(11,.int .i64 0)])]) hk (Eq.mpr (by kernel_rfl) H)
theorem zfI {K:Xs} (hk:K 11=none) (a:Int) (b:Option Addr) (d e:Nat) (f:Option Addr) (g i:Nat) (j:Int) (k:Int) (h:AH) (Q:Value→AH→Prop) (H:
 ∀l,l=h.alloc (.cells [.int .u64 a,.slice b d e,.slice f g i,.int .u64 j,.int .i64 k] 32 false)→
 ∀m,m=l.alloc (.cells [] 98 false)→
 ∃o p q,ld1 m h.next 1=some (.slice o p q)∧
 (∃r:Option Addr→Nat→Nat→Int→Nat→AH→Prop,(∃n,r (some ⟨l.next,0,none⟩) 0 0 0 n m)∧
 ∀(s:Nat) (t:AH),∀(u:Option Addr) (v:Nat) (w:Nat),∀(x:Int),r u v w x s t→
 ((x:Int) < ((p:Nat):Int)→zal o fun y z=>(((0:Int)≤x)∧((x:Int) < ((p:Nat):Int))∧
 (∃aa ab ac ad ae af ag ah ai aj ak al am,ldN t y (z+Int.toNat x * 11) 11=some (sC aa ab ac ad ae af ag ah ai aj ak al am)∧
 (∀an,an=t.alloc (.cells (zC) 81 false)→
 (11=11)∧∃ao,stN an t.next 0 (sC aa ab ac ad ae af ag ah ai aj ak al am)=some ao∧
 (∃ap,ld1 ao t.next 0=some (.int .u64 ap)∧
 (Wf Tryz.prog K 42 [.slice o p q,.int .u64 ap] ao fun aq ar=>
 (∃au av aw ax,aq=(.tuple #[.slice au av aw,.int .u64 ax])∧
 (∃ay,ld1 ar t.next 0=some (.int .u64 ay)∧
 (Wf Tryz.prog K 43 [.slice o p q,.int .u64 ay] ar fun az a0=>
 (∃a1,az=(.string a1)∧
 (Wf Tryz.prog K 43 [.slice o p q,.int .u64 ax] a0 fun a2 a3=>
 (∃a4,a2=(.string a4)∧
 (∃a5,ld1 a3 t.next 6=some (.int .i64 a5)∧
 (∀a6,a6=a3.alloc (.cells [.string a1,.int .i64 a5,.int .i64 0,.string a4] 98 false)→
 ∃a7 a8 a9 ba,zan Tryz.prog a6 .append #[46,46] [.slice u v w,(.slice (some ⟨a3.next,0,none⟩) 1 1)]=some (.slice a7 a8 a9,ba)∧
 ((ld1 ar t.next 6=some (.int .i64 a5))∧
 ((ld1 a0 t.next 6=some (.int .i64 a5))∧
 ((ld1 a0 t.next 6=some (.int .i64 a5))∧
 ((ld1 a3 t.next 6=some (.int .i64 a5))∧
 (∀bb:Int,bb=IntKind.wrap .i64 (x+1)→∃bc,bc < s∧r a7 a8 a9 bb bc ba)))))))))))))))))))∧
 (¬(x:Int) < ((p:Nat):Int)→Q (.slice u v w) t))):
 Wf Tryz.prog K 11 [.agg #[.int .u64 a,.slice b d e,.slice f g i,.int .u64 j,.int .i64 k]] h Q:=
  zai (hs:=[(4,[(3,.slice none 0 0),(15,.int .i64 0)])]) hk (Eq.mpr (by kernel_rfl) H)
theorem zed {K:Xs} (hk:K 16=none) (a:Int) (b:Option Addr) (d e:Nat) (f:Option Addr) (g i:Nat) (j:Int) (k:Int) (l:ByteArray) (h:AH) (Q:Value→AH→Prop) (H:
 ∀m,m=h.alloc (.cells [.int .u64 a,.slice b d e,.slice f g i,.int .u64 j,.int .i64 k] 32 false)→
 ∀o,o=m.alloc (.cells [] 3 false)→
 ∃p q r,ld1 o h.next 1=some (.slice p q r)∧
 (Wf Tryz.prog K 45 [.slice p q r,.string l] o fun s t=>
 (∃u v w x y z aa ab ac ad ae af ag ah,s=(.tuple #[.agg (sC u v w x y z aa ab ac ad ae af ag).toArray,.int .i64 ah])∧
 (∀ai,ai=t.alloc (.cells (zC) 81 false)→
 (11=11)∧∃aj,stN ai t.next 0 (sC u v w x y z aa ab ac ad ae af ag)=some aj∧
 (((ah:Int)=0→∃ak al am an ao ap aq ar au,ldN aj h.next 0 5=some [.int .u64 ak,.slice al am an,.slice ao ap aq,.int .u64 ar,.int .i64 au]∧
 (∃av,ld1 aj t.next 0=some (.int .u64 av)∧
 (Wf Tryz.prog K 32 [.agg #[.int .u64 ak,.slice al am an,.slice ao ap aq,.int .u64 ar,.int .i64 au],.int .u64 av] aj fun aw ax=>
 (∃l35:List Value,aw=(.agg l35.toArray)∧
 (∃ay:List Value,zas Tryz.prog 87=some ay∧∀az,az=ax.alloc (.cells ay 87 false)→
 (List.length l35=8257)∧∃a0,stN az ax.next 0 l35=some a0∧
 (∃a1:Option Addr→Nat→Nat→Int→Nat→AH→Prop,(∃n,a1 (some ⟨m.next,0,none⟩) 0 0 0 n a0)∧
 ∀(a2:Nat) (a3:AH),∀(a4:Option Addr) (a5:Nat) (a6:Nat),∀(a7:Int),a1 a4 a5 a6 a7 a2 a3→
 ((a7:Int) < 64→((0:Int)≤a7)∧((a7:Int) < 64)∧
 (∃a8,ld1 a3 ax.next (8193+Int.toNat a7 * 1)=some (.int .i64 a8)∧
 (((0:Int) < a8→∀a9,a9=a3.alloc (.cells [.int .i64 a7] 3 false)→
 ∃ba bb bc bd,zan Tryz.prog a9 .append #[52,52] [.slice a4 a5 a6,(.slice (some ⟨a3.next,0,none⟩) 1 1)]=some (.slice ba bb bc,bd)∧
 (∀be:Int,be=IntKind.wrap .i64 (a7+1)→∃bf,bf < a2∧a1 ba bb bc be bf bd))∧
 (¬(0:Int) < a8→∀bg:Int,bg=IntKind.wrap .i64 (a7+1)→∃bf,bf < a2∧a1 a4 a5 a6 bg bf a3))))∧
 (¬(a7:Int) < 64→Q (.slice a4 a5 a6) a3)))))))∧
 (¬(ah:Int)=0→Q (.slice (some ⟨m.next,0,none⟩) 0 0) aj)))))):
 Wf Tryz.prog K 16 [.agg #[.int .u64 a,.slice b d e,.slice f g i,.int .u64 j,.int .i64 k],.string l] h Q:=
  zai (hs:=[(7,[(5,.slice none 0 0),(9,.int .i64 0)])]) hk (Eq.mpr (by kernel_rfl) H)
theorem zdN {K:Xs} (hk:K 13=none) (a:Int) (b:Option Addr) (d e:Nat) (f:Option Addr) (g i:Nat) (j:Int) (k:Int) (l:AH) (Q:Value→AH→Prop) (H:
 ∀m,m=l.alloc (.cells [.int .u64 a,.slice b d e,.slice f g i,.int .u64 j,.int .i64 k] 32 false)→
 ∃o,ld1 m l.next 4=some (.int .i64 o)∧
 (∀p:Int,p=IntKind.wrap .i64 (o+1)→((0:Int)≤p∧(p:Int)≤p∧(p:Int)≤9223372036854775807∧(1:Int) * p≤281474976710656)∧∀q,q=m.alloc (.cells ((List.replicate (Int.toNat p) [.bool false]).flatten) 4 false)→
 ∃r s t,ld1 q l.next 1=some (.slice r s t)∧
 (∃u:Int→Int→Nat→AH→Prop,(∃n,u 0 0 n q)∧
 ∀(v:Nat) (w:AH),∀(x:Int),∀(y:Int),u x y v w→
 ((y:Int) < ((s:Nat):Int)→zal r fun z aa=>(((0:Int)≤y)∧((y:Int) < ((s:Nat):Int))∧
 (∃ab ac ad ae af ag ah ai aj ak al am an,ldN w z (aa+Int.toNat y * 11) 11=some (sC ab ac ad ae af ag ah ai aj ak al am an)∧
 (∀ao,ao=w.alloc (.cells (zC) 81 false)→
 (11=11)∧∃ap,stN ao w.next 0 (sC ab ac ad ae af ag ah ai aj ak al am an)=some ap∧
 (∃aq ar au av aw ax ay az a0,ldN ap l.next 0 5=some [.int .u64 aq,.slice ar au av,.slice aw ax ay,.int .u64 az,.int .i64 a0]∧
 (∃a1,ld1 ap w.next 0=some (.int .u64 a1)∧
 (Wf Tryz.prog K 32 [.agg #[.int .u64 aq,.slice ar au av,.slice aw ax ay,.int .u64 az,.int .i64 a0],.int .u64 a1] ap fun a2 a3=>
 (∃l42:List Value,a2=(.agg l42.toArray)∧
 (∃a4:List Value,zas Tryz.prog 87=some a4∧∀a5,a5=a3.alloc (.cells a4 87 false)→
 (List.length l42=8257)∧∃a6,stN a5 a3.next 0 l42=some a6∧
 (∃a7:Int→Int→Nat→AH→Prop,(∃n,a7 x 0 n a6)∧
 ∀(a8:Nat) (a9:AH),∀(ba:Int),∀(bb:Int),a7 ba bb a8 a9→
 ((bb:Int) < 64→((0:Int)≤bb)∧((bb:Int) < 64)∧
 (∃bc,ld1 a9 a3.next (8193+Int.toNat bb * 1)=some (.int .i64 bc)∧
 (((0:Int) < bc→((0:Int)≤bb)∧((bb:Int) < 64)∧
 (∃bd,ld1 a9 a3.next (8193+Int.toNat bb * 1)=some (.int .i64 bd)∧
 (((0:Int)≤bd)∧((bd:Int) < (((Int.toNat p):Nat):Int))∧
 (((ld1 a9 m.next (0+Int.toNat bd * 1)=some (.bool true)∧
 (∀be:Int,be=IntKind.wrap .i64 (bb+1)→∃bf,bf < a8∧a7 ba be bf a9))∨(ld1 a9 m.next (0+Int.toNat bd * 1)=some (.bool false)∧
 (((0:Int)≤bb)∧((bb:Int) < 64)∧
 (∃bg,ld1 a9 a3.next (8193+Int.toNat bb * 1)=some (.int .i64 bg)∧
 (((0:Int)≤bg)∧((bg:Int) < (((Int.toNat p):Nat):Int))∧
 (∃bh,st1 a9 m.next (0+Int.toNat bg * 1) (.bool true)=some bh∧
 (∀bi:Int,bi=IntKind.wrap .i64 (ba+1)→∀bj:Int,bj=IntKind.wrap .i64 (bb+1)→∃bf,bf < a8∧a7 bi bj bf bh)))))))))))∧
 (¬(0:Int) < bc→∀bk:Int,bk=IntKind.wrap .i64 (bb+1)→∃bf,bf < a8∧a7 ba bk bf a9))))∧
 (¬(bb:Int) < 64→∀bl:Int,bl=IntKind.wrap .i64 (y+1)→∃bm,bm < v∧u ba bl bm a9)))))))))))∧
 (¬(y:Int) < ((s:Nat):Int)→Q (.int .i64 x) w)))):
 Wf Tryz.prog K 13 [.agg #[.int .u64 a,.slice b d e,.slice f g i,.int .u64 j,.int .i64 k]] l Q:=
  zai (hs:=[(4,[(4,.int .i64 0),(17,.int .i64 0)]),(8,[(4,.int .i64 0),(8,.int .i64 0)])]) hk (Eq.mpr (by kernel_rfl) H)
theorem zeW {K:Xs} (hk:K 71=none) (a:Option Addr) (b d:Nat) (h:AH) (Q:Value→AH→Prop) (H:
 ∀e,e=h.alloc (.cells (List.replicate 128 (.int .u8 0):List Value) 39 false)→
 ∃l1:List Value,zaE Tryz.prog 39 #[]=some (.agg l1.toArray)∧
 (∀f,f=e.alloc (.cells (List.replicate 128 (.int .u8 0):List Value) 39 false)→
 (List.length l1=128)∧∃g,stN f e.next 0 l1=some g∧
 (∃i:Int→Nat→AH→Prop,(∃n,i 0 n g)∧
 ∀(j:Nat) (k:AH),∀(l:Int),i l j k→
 ((l:Int) < ((b:Nat):Int)→((l:Int) < 128→zal a fun m o=>(((0:Int)≤l)∧((l:Int) < ((b:Nat):Int))∧
 (∃p,ld1 k m (o+Int.toNat l * 1)=some (.int .u8 p)∧
 (((0:Int)≤l)∧((l:Int) < 128)∧
 (∃q,st1 k e.next (0+Int.toNat l * 1) (.int .u8 p)=some q∧
 (∀r:Int,r=IntKind.wrap .i64 (l+1)→∃s,s < j∧i r s q))))))∧
 (¬(l:Int) < 128→∃l14:List Value,ldN k e.next 0 128=some l14∧
 ((List.length l14=128)∧∃t,stN k h.next 0 l14=some t∧
 (∃l16:List Value,ldN t h.next 0 128=some l16∧
 (Q (.agg l16.toArray) t)))))∧
 (¬(l:Int) < ((b:Nat):Int)→∃l17:List Value,ldN k e.next 0 128=some l17∧
 ((List.length l17=128)∧∃u,stN k h.next 0 l17=some u∧
 (∃l19:List Value,ldN u h.next 0 128=some l19∧
 (Q (.agg l19.toArray) u))))))):
 Wf Tryz.prog K 71 [.slice a b d] h Q:=
  zai (hs:=[(3,[(4,.int .i64 0)])]) hk (Eq.mpr (by kernel_rfl) H)
theorem zdr {K:Xs} (hk:K 3=none) (a:Option Addr) (b d:Nat) (e:ByteArray) (f:AH) (Q:Value→AH→Prop) (H:
 Wf Tryz.prog K 4 [] f fun g i=>
 (((g=(.bool true)∧
 (((80:Int) < ((b:Nat):Int)→Q (.bool true) i)∧
 (¬(80:Int) < ((b:Nat):Int)→Wf Tryz.prog K 5 [] i fun j k=>
 (∃l:Option Addr,j=(.pointer l)∧
 (Wf Tryz.prog K 6 [] k fun m o=>
 (∃p q r s t u v w x,m=(.agg #[.int .u64 p,.slice q r s,.slice t u v,.int .u64 w,.int .i64 x])∧
 (∀y,y=o.alloc (.cells [.int .u64 0,.slice none 0 0,.slice none 0 0,.int .u64 0,.int .i64 0] 32 false)→
 (5=5)∧∃z,stN y o.next 0 [.int .u64 p,.slice q r s,.slice t u v,.int .u64 w,.int .i64 x]=some z∧
 (∃aa:Int→Nat→AH→Prop,(∃n,aa 0 n z)∧
 ∀(ab:Nat) (ac:AH),∀(ad:Int),aa ad ab ac→
 ((ad:Int) < ((b:Nat):Int)→zal a fun ae af=>(((0:Int)≤ad)∧((ad:Int) < ((b:Nat):Int))∧
 (∃ag ah ai aj ak al am an ao ap,ldN ac ae (af+Int.toNat ad * 6) 6=some [.int .i64 ag,.string ah,.string ai,.int .i64 aj,.slice ak al am,.slice an ao ap]∧
 (∀aq,aq=ac.alloc (.cells [.int .i64 0,(.string (ByteArray.mk #[])),(.string (ByteArray.mk #[])),.int .i64 0,.slice none 0 0,.slice none 0 0] 37 false)→
 (6=6)∧∃ar,stN aq ac.next 0 [.int .i64 ag,.string ah,.string ai,.int .i64 aj,.slice ak al am,.slice an ao ap]=some ar∧
 (∃au av aw ax ay az a0 a1 a2 a3,ldN ar ac.next 0 6=some [.int .i64 au,.string av,.string aw,.int .i64 ax,.slice ay az a0,.slice a1 a2 a3]∧
 (Wf Tryz.prog K 7 [.pointer l,.agg #[.int .i64 au,.string av,.string aw,.int .i64 ax,.slice ay az a0,.slice a1 a2 a3]] ar fun a4 a5=>
 (∃l49:List Value,∃a6,a4=(.tuple #[.agg l49.toArray,.int .i64 a6])∧
 (∀a7,a7=a5.alloc (.cells (List.replicate 128 (.int .u8 0):List Value) 39 false)→
 (List.length l49=128)∧∃a8,stN a7 a5.next 0 l49=some a8∧
 (∃a9 ba bb bc bd be bf bg bh,ldN a8 o.next 0 5=some [.int .u64 a9,.slice ba bb bc,.slice bd be bf,.int .u64 bg,.int .i64 bh]∧
 (∃bi bj bk bl bm bn bo bp bq br,ldN a8 ac.next 0 6=some [.int .i64 bi,.string bj,.string bk,.int .i64 bl,.slice bm bn bo,.slice bp bq br]∧
 (Wf Tryz.prog K 8 [.agg #[.int .u64 a9,.slice ba bb bc,.slice bd be bf,.int .u64 bg,.int .i64 bh],.agg #[.int .i64 bi,.string bj,.string bk,.int .i64 bl,.slice bm bn bo,.slice bp bq br]] a8 fun bs bt=>
 (∃bu bv bw bx bz b0 b1 b2 b3,∃l83:List Value,∃b4,bs=(.tuple #[.agg #[.int .u64 bu,.slice bv bw bx,.slice bz b0 b1,.int .u64 b2,.int .i64 b3],.agg l83.toArray,.int .i64 b4])∧
 (∀b5,b5=bt.alloc (.cells [.int .u64 0,.slice none 0 0,.slice none 0 0,.int .u64 0,.int .i64 0] 32 false)→
 ∀b6,b6=b5.alloc (.cells (List.replicate 128 (.int .u8 0):List Value) 39 false)→
 (5=5)∧∃b7,stN b6 bt.next 0 [.int .u64 bu,.slice bv bw bx,.slice bz b0 b1,.int .u64 b2,.int .i64 b3]=some b7∧
 ((List.length l83=128)∧∃b8,stN b7 b5.next 0 l83=some b8∧
 (∃b9 da db dc dd de df dg dh,ldN b8 bt.next 0 5=some [.int .u64 b9,.slice da db dc,.slice dd de df,.int .u64 dg,.int .i64 dh]∧
 ((5=5)∧∃di,stN b8 o.next 0 [.int .u64 b9,.slice da db dc,.slice dd de df,.int .u64 dg,.int .i64 dh]=some di∧
 (∃l99:List Value,ldN di a5.next 0 128=some l99∧
 (∃l100:List Value,ldN di b5.next 0 128=some l100∧
 (∃la101 lb102,zdx Tryz.prog 39 (.agg l99.toArray)=some la101∧zdx Tryz.prog 39 (.agg l100.toArray)=some lb102∧
 (zaN la101 lb102=true→((a6:Int)=b4→Wf Tryz.prog K 10 [.pointer l] di fun dj dk=>
 (∃dl dm dn,dj=(.slice dl dm dn)∧
 (∃dp dq dr ds dt du dv dw dx,ldN dk o.next 0 5=some [.int .u64 dp,.slice dq dr ds,.slice dt du dv,.int .u64 dw,.int .i64 dx]∧
 (Wf Tryz.prog K 11 [.agg #[.int .u64 dp,.slice dq dr ds,.slice dt du dv,.int .u64 dw,.int .i64 dx]] dk fun dy dz=>
 (∃d0 d1 d2,dy=(.slice d0 d1 d2)∧
 (Wf Tryz.prog K 9 [.slice dl dm dn,.slice d0 d1 d2] dz fun d3 d4=>
 (((d3=(.bool true)∧
 (Wf Tryz.prog K 12 [.pointer l] d4 fun d5 d6=>
 (∃d7,d5=(.int .i64 d7)∧
 (∃d8 d9 ea eb ec ed ee ef eg,ldN d6 o.next 0 5=some [.int .u64 d8,.slice d9 ea eb,.slice ec ed ee,.int .u64 ef,.int .i64 eg]∧
 (Wf Tryz.prog K 13 [.agg #[.int .u64 d8,.slice d9 ea eb,.slice ec ed ee,.int .u64 ef,.int .i64 eg]] d6 fun eh ei=>
 (∃ej,eh=(.int .i64 ej)∧
 (((d7:Int)=ej→(ldN di o.next 0 5=some [.int .u64 dp,.slice dq dr ds,.slice dt du dv,.int .u64 dw,.int .i64 dx])∧
 ((ldN dk o.next 0 5=some [.int .u64 dp,.slice dq dr ds,.slice dt du dv,.int .u64 dw,.int .i64 dx])∧
 ((ldN d4 o.next 0 5=some [.int .u64 d8,.slice d9 ea eb,.slice ec ed ee,.int .u64 ef,.int .i64 eg])∧
 ((ldN d6 o.next 0 5=some [.int .u64 d8,.slice d9 ea eb,.slice ec ed ee,.int .u64 ef,.int .i64 eg])∧
 (∃ek,ld1 ei ac.next 1=some (.string ek)∧
 (Wf Tryz.prog K 15 [.pointer l,.string ek] ei fun el em=>
 (∃en eo ep,el=(.slice en eo ep)∧
 (∃eq er es et eu ev ew ex ey,ldN em o.next 0 5=some [.int .u64 eq,.slice er es et,.slice eu ev ew,.int .u64 ex,.int .i64 ey]∧
 (∃ez,ld1 em ac.next 1=some (.string ez)∧
 (Wf Tryz.prog K 16 [.agg #[.int .u64 eq,.slice er es et,.slice eu ev ew,.int .u64 ex,.int .i64 ey],.string ez] em fun e0 e1=>
 (∃e2 e3 e4,e0=(.slice e2 e3 e4)∧
 (Wf Tryz.prog K 14 [.slice en eo ep,.slice e2 e3 e4] e1 fun e5 e6=>
 (((e5=(.bool true)∧
 ((ldN ei o.next 0 5=some [.int .u64 eq,.slice er es et,.slice eu ev ew,.int .u64 ex,.int .i64 ey])∧
 ((ldN em o.next 0 5=some [.int .u64 eq,.slice er es et,.slice eu ev ew,.int .u64 ex,.int .i64 ey])∧
 ((ld1 ei ac.next 1=some (.string ez))∧
 ((ld1 em ac.next 1=some (.string ez))∧
 (∀e7:Int,e7=IntKind.wrap .i64 (ad+1)→∃e8,e8 < ab∧aa e7 e8 e6))))))∨(e5=(.bool false)∧
 ((ldN ei o.next 0 5=some [.int .u64 eq,.slice er es et,.slice eu ev ew,.int .u64 ex,.int .i64 ey])∧
 ((ldN em o.next 0 5=some [.int .u64 eq,.slice er es et,.slice eu ev ew,.int .u64 ex,.int .i64 ey])∧
 ((ld1 ei ac.next 1=some (.string ez))∧
 ((ld1 em ac.next 1=some (.string ez))∧
 (Q (.bool false) e6))))))))))))))))))))∧
 (¬(d7:Int)=ej→(ldN di o.next 0 5=some [.int .u64 dp,.slice dq dr ds,.slice dt du dv,.int .u64 dw,.int .i64 dx])∧
 ((ldN dk o.next 0 5=some [.int .u64 dp,.slice dq dr ds,.slice dt du dv,.int .u64 dw,.int .i64 dx])∧
 ((ldN d4 o.next 0 5=some [.int .u64 d8,.slice d9 ea eb,.slice ec ed ee,.int .u64 ef,.int .i64 eg])∧
 ((ldN d6 o.next 0 5=some [.int .u64 d8,.slice d9 ea eb,.slice ec ed ee,.int .u64 ef,.int .i64 eg])∧
 (Q (.bool false) ei))))))))))))∨(d3=(.bool false)∧
 ((ldN di o.next 0 5=some [.int .u64 dp,.slice dq dr ds,.slice dt du dv,.int .u64 dw,.int .i64 dx])∧
 ((ldN dk o.next 0 5=some [.int .u64 dp,.slice dq dr ds,.slice dt du dv,.int .u64 dw,.int .i64 dx])∧
 (Q (.bool false) d4))))))))))))∧
 (¬(a6:Int)=b4→Q (.bool false) di))∧
 (zaN la101 lb102=false→Q (.bool false) di))))))))))))))))))))∧
 (¬(ad:Int) < ((b:Nat):Int)→Wf Tryz.prog K 15 [.pointer l,.string e] ac fun e9 fa=>
 (∃fb fc fd,e9=(.slice fb fc fd)∧
 (∃fe ff fg fh fi fj fk fl fm,ldN fa o.next 0 5=some [.int .u64 fe,.slice ff fg fh,.slice fi fj fk,.int .u64 fl,.int .i64 fm]∧
 (Wf Tryz.prog K 16 [.agg #[.int .u64 fe,.slice ff fg fh,.slice fi fj fk,.int .u64 fl,.int .i64 fm],.string e] fa fun fn fo=>
 (∃fp fq fr,fn=(.slice fp fq fr)∧
 (Wf Tryz.prog K 14 [.slice fb fc fd,.slice fp fq fr] fo fun fs ft=>
 (((fs=(.bool true)∧
 ((ldN ac o.next 0 5=some [.int .u64 fe,.slice ff fg fh,.slice fi fj fk,.int .u64 fl,.int .i64 fm])∧
 ((ldN fa o.next 0 5=some [.int .u64 fe,.slice ff fg fh,.slice fi fj fk,.int .u64 fl,.int .i64 fm])∧
 (Q (.bool true) ft))))∨(fs=(.bool false)∧
 ((ldN ac o.next 0 5=some [.int .u64 fe,.slice ff fg fh,.slice fi fj fk,.int .u64 fl,.int .i64 fm])∧
 ((ldN fa o.next 0 5=some [.int .u64 fe,.slice ff fg fh,.slice fi fj fk,.int .u64 fl,.int .i64 fm])∧
 (Q (.bool false) ft))))))))))))))))))))∨(g=(.bool false)∧
 (Q (.bool false) i))))):
 Wf Tryz.prog K 3 [.slice a b d,.string e] f Q:=
  zai (hs:=[(8,[(23,.int .i64 0)])]) hk (Eq.mpr (by kernel_rfl) H)
end Go.Am
