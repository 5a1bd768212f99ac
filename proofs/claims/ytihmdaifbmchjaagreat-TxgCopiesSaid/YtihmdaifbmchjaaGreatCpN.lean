/-
  WHETHER A BOOK CAN BE: the reference's answer is some truth, and it changes nothing.
-/
import Derived.Test.YtihmdaifbmchjaaGreatCpL
import Derived.Test.YtihmdaifbmchjaaGreatVR16
set_option linter.unusedVariables false
set_option linter.unusedSimpArgs false
set_option maxRecDepth 100000
namespace Go.Am
open Go.Proofs
abbrev BL (h:AH):Value→AH→Prop:=fun v h'=>(∃b,v=.bool b)∧Old h h'
theorem bb {b:Bool} {A B:Prop} (x:A) (y:B):(Value.bool b=.bool true∧A)∨(Value.bool b=.bool false∧B):=by
 cases b
 ·exact .inr ⟨rfl,y⟩
 ·exact .inl ⟨rfl,x⟩
theorem lb {g:AH} {b o:Nat} {v:Bool} (hl:ld1 g b o=some (.bool v)) {A B:Prop} (x:A) (y:B):(ld1 g b o=some (.bool true)∧A)∨(ld1 g b o=some (.bool false)∧B):=by
 cases v
 ·exact .inr ⟨hl,y⟩
 ·exact .inl ⟨hl,x⟩
structure zrM (K:Xs):Prop where
 hole:K 112=none
 r5:K 50=none
 less:K 73=none
 one:K 72=none
 r13:K 51=none
 r14:K 49=none
 stamp:K 48=none
 r15:K 25=none
 find:K 26=none
 floor:K 28=none
 kids:K 27=none
 r16:K 5=none
section
variable {K:Xs} {h:AH} {x y z:Int}
theorem zCP (hk:K 112=none):Wf Tryz.prog K 112 [.agg #[.int .i64 x,.int .u64 y,.int .u32 z]] h (BL h):=
 zex hk _ _ _ h _ fun g0 e0=>by
  have c:=zac e0
  have o:=zaa e0
  repeat' first | exact⟨⟨_,rfl⟩,o⟩ | refine⟨_,zah c rfl,?_⟩ | refine⟨_,zah c rfl,?_⟩ | refine⟨fun _=>?_,fun _=>?_⟩
theorem zuH (hk:K 50=none):Wf Tryz.prog K 50 [.agg #[.int .i64 x,.int .u64 y,.int .u32 z]] h (BL h):=
 zdZ hk _ _ _ h _ fun g0 e0=>by
  have c:=zac e0
  have o:=zaa e0
  repeat' first | exact⟨⟨_,rfl⟩,o⟩ | refine⟨_,zah c rfl,?_⟩ | refine⟨_,zah c rfl,?_⟩ | refine⟨fun _=>?_,fun _=>?_⟩
theorem zCQ (hk:K 73=none) {x' y' z' : Int}:Wf Tryz.prog K 73 [.agg #[.int .i64 x,.int .u64 y,.int .u32 z],.agg #[.int .i64 x',.int .u64 y',.int .u32 z']] h (BL h):=
 zey hk _ _ _ _ _ _ h _ fun g0 e0 g1 e1=>by
  have n0:=zab e0
  have c:=((zaa e1).2 _ (by omega)).trans (zac e0)
  have d:=zac e1
  have o:=(zaa e0).trans (zaa e1)
  repeat' first | exact⟨⟨_,rfl⟩,o⟩ | refine⟨_,zah c rfl,?_⟩ | refine⟨_,zah d rfl,?_⟩ | refine⟨fun _=>?_,fun _=>?_⟩
theorem zuI (hk:K 48=none):Wf Tryz.prog K 48 [.int .u64 x] h (BL h):=
 zd2 hk _ h _ (by
  have o:=Old.refl h
  refine⟨fun _=>⟨fun _=>?_,fun _=>?_⟩,fun _=>?_⟩ <;> exact⟨⟨_,rfl⟩,o⟩)
theorem zEu (kk:zrM K):Wf Tryz.prog K 72 [.agg #[.int .i64 x,.int .u64 y,.int .u32 z]] h (BL h):=by
 refine ze2 kk.one _ _ _ h _ fun g0 e0=>⟨_,_,_,zao (zac e0) rfl,(zCP kk.hole).mono ?_⟩
 have o0:=zaa e0
 rintro _ g5 ⟨⟨b,rfl⟩,o5⟩
 refine bb ⟨⟨_,rfl⟩,o0.trans o5⟩ ⟨_,_,_,zao ((o5.2 _ (by rw[zab e0]; omega)).trans (zac e0)) rfl,(zuH kk.r5).mono ?_⟩
 rintro _ g10 ⟨⟨b,rfl⟩,o10⟩
 exact bb ⟨⟨_,rfl⟩,(o0.trans o5).trans o10⟩ ⟨⟨_,rfl⟩,(o0.trans o5).trans o10⟩
theorem zCR (kk:zrM K) {p:Option Addr} {n c:Nat} {ds:List PtI} (S:zaq h p n 3 (ptI ds)) (hn:n≤1000000000000):Wf Tryz.prog K 51 [.slice p n c] h (BL h):=by
 have hl:n=ds.length:=by have:=S.1; rw[zuD] at this; omega
 refine zd0 kk.r13 _ _ _ h _ ⟨fun i k g=>∃u:Nat,i=u∧u≤n∧n - u=k∧Old h g,⟨_,0,rfl,Nat.zero_le _,rfl,Old.refl h⟩,?_⟩
 rintro k g i ⟨u,rfl,hu,rfl,o⟩
 refine⟨fun z=>?_,fun z=>⟨⟨_,rfl⟩,o⟩⟩
 have hul:u < n:=by omega
 obtain⟨b,off,rfl,hld, -⟩:=(S.old o).getN hul
 rw[zi1 ds u (by omega)] at hld
 refine zae ⟨by omega,z,_,_,_,by rw[Int.toNat_natCast]; exact hld,(zEu kk).mono ?_⟩
 rintro _ g11 ⟨⟨b1,rfl⟩,o11⟩
 have o11h:=o.trans o11
 have step:∀{g:AH},Old h g→∀i:Int,i=IntKind.wrap .i64 ((u:Int)+1)→∃j,j < n - u∧∃u:Nat,i=u∧u≤n∧n - u=j∧Old h g:=fun o i e=>by
  have e:=zaJ e (by omega) (by omega)
  exact⟨n - (u+1),by omega,u+1,by omega,by omega,rfl,o⟩
 refine bb ⟨fun hu0 i12 e12=>?_,fun _=>step o11h⟩ ⟨⟨_,rfl⟩,o11h⟩
 have e12:i12=((u - 1:Nat):Int):=by rw[zaJ e12 (by omega) (by omega)]; omega
 subst e12
 obtain⟨b',off',e',hld1, -⟩:=(S.old o11h).getN (i:=u - 1) (by omega)
 simp only[Option.some.injEq,Addr.mk.injEq,and_true] at e'
 obtain⟨rfl,rfl⟩:=e'
 obtain⟨b',off',e',hld2, -⟩:=(S.old o11h).getN (i:=u) (by omega)
 simp only[Option.some.injEq,Addr.mk.injEq,and_true] at e'
 obtain⟨rfl,rfl⟩:=e'
 rw[zi1 ds _ (by omega)] at hld1 hld2
 refine zae ⟨by omega,by omega,_,_,_,by rw[Int.toNat_natCast]; exact hld1,zae ⟨by omega,by omega,_,_,_,by rw[Int.toNat_natCast]; exact hld2,(zCQ kk.less).mono ?_⟩⟩
 rintro _ g24 ⟨⟨b2,rfl⟩,o24⟩
 exact bb (step (o11h.trans o24)) ⟨⟨_,rfl⟩,o11h.trans o24⟩
theorem zCS (hk:K 49=none) {s:ByteArray}:Wf Tryz.prog K 49 [.string s] h (BL h):=by
 have o:=Old.refl h
 refine zd1 hk _ h _ ⟨fun _=>⟨⟨_,rfl⟩,o⟩,fun _=>⟨fun _=>⟨⟨_,rfl⟩,o⟩,fun hs=>⟨fun i k g=>∃u:Nat,i=u∧u≤s.size∧s.size - u=k∧h=g,⟨_,0,rfl,Nat.zero_le _,rfl,rfl⟩,?_⟩⟩⟩
 rintro k g i ⟨u,rfl,hu,rfl,rfl⟩
 refine⟨fun z=>⟨by omega,s[u]'(by omega),by rw[Int.toNat_natCast]; exact getElem?_pos s u (by omega),?_⟩,fun _=>⟨⟨_,rfl⟩,o⟩⟩
 have step:∀i:Int,i=IntKind.wrap .i64 ((u:Int)+1)→∃j,j < s.size - u∧∃u:Nat,i=u∧u≤s.size∧s.size - u=j∧h=h:=fun i e=>by
  have e:=zaJ e (by omega) (by omega)
  exact⟨s.size - (u+1),by omega,u+1,by omega,by omega,rfl,rfl⟩
 repeat' first | exact step | exact⟨⟨_,rfl⟩,o⟩ | refine⟨fun _=>?_,fun _=>?_⟩
theorem zEv (kk:zrM K) {r:zhz} (ok:ze7 h r):Wf Tryz.prog K 25 [.agg (zdI r).toArray] h (BL h):=by
 have hd:=ok.room
 simp only[reachBytes] at hd
 refine zd3 kk.r15 _ _ _ _ _ _ _ _ _ _ _ _ _ h _ fun g0 e0=>?_
 have o0:=zaa e0
 have n0:=zab e0
 have c:∀{g},Old g0 g→g.get h.next=some (.cells (zdI r) 62 false):=fun o=>(o.2 _ (by omega)).trans (zac e0)
 have f:∀{g},Old g0 g→BL h (.bool false) g:=fun o=>⟨⟨_,rfl⟩,o0.trans o⟩
 have t:∀{g},Old g0 g→BL h (.bool true) g:=fun o=>⟨⟨_,rfl⟩,o0.trans o⟩
 refine⟨_,zah (c (Old.refl _)) rfl,(zuI kk.stamp).mono ?_⟩
 rintro _ g3 ⟨⟨b,rfl⟩,o3⟩
 refine bb ⟨_,zah (c o3) rfl,(zuI kk.stamp).mono ?_⟩ (f o3)
 rintro _ g6 ⟨⟨b,rfl⟩,o6⟩
 have o6:=o3.trans o6
 refine bb ⟨_,zah (c o6) rfl,fun _=>f o6,fun _=>⟨_,zah (c o6) rfl,fun _=>f o6,fun _=>⟨_,zah (c o6) rfl,fun _=>f o6,fun _=>⟨_,_,_,zah (c o6) rfl,fun _=>f o6,fun _=>⟨_,zah (c o6) rfl,(zCS kk.r14).mono ?_⟩⟩⟩⟩⟩ (f o6)
 rintro _ g15 ⟨⟨b,rfl⟩,o15⟩
 have o15:=o6.trans o15
 refine bb ⟨_,_,_,zcl (c o15) (Nat.le_of_ble_eq_true rfl),(zuH kk.r5).mono ?_⟩ (f o15)
 rintro _ g20 ⟨⟨b,rfl⟩,o20⟩
 have o20:=o15.trans o20
 refine bb ⟨_,_,_,zah (c o20) rfl,(zCR kk (ok.shows.old (o0.trans o20)) (by omega)).mono ?_⟩ (f o20)
 rintro _ g25 ⟨⟨b,rfl⟩,o25⟩
 have o25:=o20.trans o25
 refine bb (lb (zah (c o25) rfl) ⟨_,zah (c o25) rfl,(zuI kk.stamp).mono ?_⟩ ⟨_,zah (c o25) rfl,fun _=>⟨_,zah (c o25) rfl,_,zah (c o25) rfl,fun _=>t o25,fun _=>f o25⟩,fun _=>f o25⟩) (f o25)
 rintro _ g28 ⟨⟨b,rfl⟩,o28⟩
 exact bb (t (o25.trans o28)) (f (o25.trans o28))
end
section
variable {K:Xs} {h:AH} {p:Option Addr} {n c:Nat} {rs:List zhz}
theorem zfN {g g1:AH} {z:List Value} {ty:TypeId} (e:g1=g.alloc (.cells z ty false)) (hz:z.length=11) (r:zhz):∃g2,stN g1 g.next 0 (zdI r)=some g2∧g2.next=g.next+1∧Old g g2∧g2.get g.next=some (.cells (zdI r) ty false):=by
 obtain⟨g2,k,n,o,m⟩:=zaF e (vs:=zdI r) hz.symm
 exact⟨g2,k,n,o,(m [] (fun c hc=>by cases hc)).1⟩
theorem zi4 (kk:zrM K) (T:zqq h p n rs) {id:Int}:Wf Tryz.prog K 26 [.slice p n c,.int .u64 id] h fun v h'=>(∃r b,v=.tuple #[.agg (zdI r).toArray,.bool b])∧Old h h':=by
 have hr:=T.2.1
 simp only[reachBytes] at hr
 refine zez kk.find _ _ _ _ h _ fun g0 e0=>?_
 have o0:=zaa e0
 have n0:=zab e0
 refine⟨fun i k g=>∃u:Nat,i=u∧u≤n∧n - u=k∧Old g0 g,⟨_,0,rfl,Nat.zero_le _,rfl,Old.refl _⟩,?_⟩
 rintro k g i ⟨u,rfl,hu,rfl,o⟩
 have w:g.get h.next=_:=(o.2 _ (by omega)).trans (zac e0)
 refine⟨fun z=>?_,fun z=>?_⟩
 ·obtain⟨b,off,rfl,hi,hld, -,ok⟩:=(T.old (o0.trans o)).at (i:=u) (by omega)
  refine zae ⟨by omega,z,_,_,_,_,_,_,_,_,_,_,_,_,_,by rw[Int.toNat_natCast]; exact hld,fun g21 e21=>⟨rfl,?_⟩⟩
  obtain⟨g22,k22,n22,o22,w22⟩:=zfN e21 rfl rs[u]
  have o22h:=o.trans o22
  refine⟨g22,k22,_,zah w22 rfl,fun _=>⟨_,_,_,_,_,_,_,_,_,_,_,_,_,zao w22 rfl,rfl,_,zaB ((o22.2 _ (by have:=o.1; omega)).trans w) rfl,_,_,_,_,_,_,_,_,_,_,_,_,_,zao (zag _ _ _) rfl,⟨rs[u],true,rfl⟩,(o0.trans o22h).near (zaj _ _ _) (Nat.le_refl _)⟩,fun _ i51 e51=>?_⟩
  have e51:=zaJ e51 (by omega) (by omega)
  exact⟨n - (u+1),by omega,u+1,by omega,by omega,rfl,o22h⟩
 ·exact⟨rfl,_,zaB w rfl,_,_,_,_,_,_,_,_,_,_,_,_,_,zao (zag _ _ _) rfl,⟨zAG,false,rfl⟩,(o0.trans o).near (zaj _ _ _) (Nat.le_refl _)⟩
theorem zAI (kk:zrM K) (T:zqq h p n rs) {id:Int}:Wf Tryz.prog K 28 [.slice p n c,.int .u64 id] h fun v h'=>(∃i,v=.int .u64 i)∧Old h h':=by
 refine zd4 kk.floor _ _ _ _ h _ ((zi4 kk T).mono ?_)
 rintro _ g1 ⟨⟨r,b,rfl⟩,o1⟩
 refine⟨r.id,r.name,r.snap,r.own,r.prev,r.stamp,r.blocks,r.root.1,r.root.2.1,r.root.2.2,r.dp,r.dn,r.dc,?_⟩
 cases b
 ·refine .inr ⟨rfl,fun g38 e38=>⟨rfl,?_⟩⟩
  obtain⟨g2,k2,n2,o2,w2⟩:=zfN e38 rfl r
  exact⟨g2,k2,⟨_,rfl⟩,o1.trans o2⟩
 ·refine .inl ⟨rfl,fun g15 e15=>⟨rfl,?_⟩⟩
  obtain⟨g16,k16,n16,o16,w16⟩:=zfN e15 rfl r
  refine⟨g16,k16,_,zah w16 rfl,(zi4 kk (T.old (o1.trans o16))).mono ?_⟩
  rintro _ g19 ⟨⟨r',b,rfl⟩,o19⟩
  refine⟨r'.id,r'.name,r'.snap,r'.own,r'.prev,r'.stamp,r'.blocks,r'.root.1,r'.root.2.1,r'.root.2.2,r'.dp,r'.dn,r'.dc,?_⟩
  cases b
  ·refine .inr ⟨rfl,fun g36 e36=>⟨rfl,?_⟩⟩
   obtain⟨g2,k2,n2,o2,w2⟩:=zfN e36 rfl r'
   exact⟨g2,k2,⟨_,rfl⟩,((o1.trans o16).trans o19).trans o2⟩
  ·refine .inl ⟨rfl,fun g33 e33=>⟨rfl,?_⟩⟩
   obtain⟨g2,k2,n2,o2,w2⟩:=zfN e33 rfl r'
   exact⟨g2,k2,_,zah w2 rfl,⟨_,rfl⟩,((o1.trans o16).trans o19).trans o2⟩
theorem zCT:zaZ Tryz.prog 66 22 1 8:=zaG (by kernel_rfl)
structure Two (lim:Nat) (g:AH) (p1:Option Addr) (n1 c1:Nat) (p2:Option Addr) (n2 c2:Nat):Prop where
 a:∃cs,zbe lim g 22 1 p1 n1 c1 cs
 b:∃cs,zbe lim g 22 1 p2 n2 c2 cs
 ne:∀x y,p1=some x→p2=some y→x.block≠y.block
theorem Two.swap {lim:Nat} {g:AH} {p1:Option Addr} {n1 c1:Nat} {p2:Option Addr} {n2 c2:Nat} (t:Two lim g p1 n1 c1 p2 n2 c2):Two lim g p2 n2 c2 p1 n1 c1:=⟨t.b,t.a,fun x y ex ey=>(t.ne y x ey ex).symm⟩
theorem Two.old {lim:Nat} {g g' : AH} {p1:Option Addr} {n1 c1:Nat} {p2:Option Addr} {n2 c2:Nat} (t:Two lim g p1 n1 c1 p2 n2 c2) (o:Old g g'):Two lim g' p1 n1 c1 p2 n2 c2:=⟨t.a.imp fun _ k=>k.old o,t.b.imp fun _ k=>k.old o,t.ne⟩
theorem Two.push {lim:Nat} {g g1:AH} {p1:Option Addr} {n1 c1:Nat} {p2:Option Addr} {n2 c2:Nat} (t:Two lim g p1 n1 c1 p2 n2 c2) (hl:lim≤g.next) (hn:n1≤1000000) {v:Value} (e:g1=g.alloc (.cells [v] 22 false)):
 ∃p c g2,zal Tryz.prog g1 .append #[66,66] [.slice p1 n1 c1,.slice (some ⟨g.next,0,none⟩) 1 1]=some (.slice p (n1+1) c,g2)∧Two lim g2 p (n1+1) c p2 n2 c2∧znx lim g g2∧∀x al ty ro,x < g.next→g.get x=some (.cells al ty ro)→ty≠22→g2.get x=g.get x:=by
 obtain⟨cs1,G1⟩:=t.a
 obtain⟨cs2,G2⟩:=t.b
 obtain⟨p',c',g2,k2,G',ob,f,fr⟩:=G1.push zCT hl (m:=1) (ns:=[v]) e rfl (by simp only[zaE]; omega) (by omega)
 have hap:∀y,p2=some y→g2.get y.block=g.get y.block:=fun y ey=>f y.block (G2.block ey).2 (by
  unfold apart
  split
  ·exact t.ne _ y rfl ey
  ·trivial)
 obtain⟨b',rfl,hb'⟩:=fr (by decide)
 refine⟨_,c',g2,k2,⟨⟨_,G'⟩,⟨cs2,G2.1,?_⟩,fun x y ex ey=>?_⟩,ob,fun x al ty ro hx hg hty=>f x hx ?_⟩
 ·rcases G2.2 with z | ⟨b,hp,h1,h2,h3,h4⟩
  ·exact .inl z
  ·exact .inr ⟨b,hp,h1,Nat.lt_of_lt_of_le h2 ob.1,(hap _ hp).trans h3,h4⟩
 ·cases ex
  have:=(G2.block ey).2
  show b'≠y.block
  omega
 ·unfold apart
  split
  ·rename_i a ea
   intro ez
   rcases G1.2 with ⟨z, -⟩ | ⟨b,hp,h1,h2,h3,h4⟩
   ·cases z
   ·cases hp
    rw[show b=x from ez,hg] at h3
    simp only[Option.some.injEq,zb7.cells.injEq] at h3
    exact hty h3.2.1
  ·trivial
theorem zCU (kk:zrM K) (T:zqq h p n rs) (hn:n≤32) {id:Int}:Wf Tryz.prog K 27 [.slice p n c,.int .u64 id] h fun v h'=>(∃p1 n1 c1 p2 n2 c2,v=.tuple #[.slice p1 n1 c1,.slice p2 n2 c2])∧Old h h':=by
 refine zeA kk.kids _ _ _ _ h _ fun g0 e0 g1 e1=>?_
 have o0:=zaa e0
 have n0:=zab e0
 have o1:=zaa e1
 have n1:=zab e1
 have o1h:=o0.trans o1
 refine (zi4 kk (T.old o1h)).mono ?_
 rintro _ g3 ⟨⟨r,b,rfl⟩,o3⟩
 have o3h:=o1h.trans o3
 refine⟨r.id,r.name,r.snap,r.own,r.prev,r.stamp,r.blocks,r.root.1,r.root.2.1,r.root.2.2,r.dp,r.dn,r.dc,?_⟩
 cases b
 ·refine .inr ⟨rfl,fun g38 e38=>⟨rfl,?_⟩⟩
  obtain⟨g2,k2,n2,o2,w2⟩:=zfN e38 rfl r
  exact⟨g2,k2,⟨_,_,_,_,_,_,rfl⟩,o3h.trans o2⟩
 refine .inl ⟨rfl,fun g17 e17=>⟨rfl,?_⟩⟩
 obtain⟨g18,k18,n18,o18,w18⟩:=zfN e17 rfl r
 have o18h:=o3h.trans o18
 refine⟨g18,k18,lb (zah w18 rfl) ⟨fun p1 n1 c1 p2 n2 c2 i k g=>∃u:Nat,i=u∧u≤n∧n - u=k∧n1≤u∧n2≤u∧Two h.next g p1 n1 c1 p2 n2 c2∧Old h g∧g18.next≤g.next∧g.get g3.next=some (.cells (zdI r) 62 false),⟨_,0,rfl,Nat.zero_le _,rfl,Nat.le_refl _,Nat.le_refl _,?_,o18h,Nat.le_refl _,w18⟩,?_⟩ ⟨⟨_,_,_,_,_,_,rfl⟩,o18h⟩⟩
 ·refine Two.old ⟨⟨_,(zbe.lit (n:=0) (sz:=1) e0 rfl (Nat.le_refl _)).old o1⟩,⟨_,zbe.lit (n:=0) (sz:=1) e1 rfl (by omega)⟩,fun x y ex ey=>?_⟩ (o3.trans o18)
  cases ex
  cases ey
  show h.next≠g0.next
  omega
 rintro k g p23 n24 c25 p26 n27 c28 i ⟨u,rfl,hu,rfl,hn1,hn2,t,o,hg,w⟩
 refine⟨fun z=>?_,fun z=>⟨⟨_,_,_,_,_,_,rfl⟩,o⟩⟩
 obtain⟨b,off,rfl,hi,hld, -,ok⟩:=(T.old o).at (i:=u) (by omega)
 refine zae ⟨by omega,z,_,_,_,_,_,_,_,_,_,_,_,_,_,by rw[Int.toNat_natCast]; exact hld,fun g45 e45=>⟨rfl,?_⟩⟩
 obtain⟨g46,k46,n46,o46,w46⟩:=zfN e45 rfl rs[u]
 have w46':=(o46.2 g3.next (by omega)).trans w
 have t46:=t.old o46
 have o46h:=o.trans o46
 have same:∀i:Int,i=IntKind.wrap .i64 ((u:Int)+1)→∃j,j < n - u∧∃u:Nat,i=u∧u≤n∧n - u=j∧n24≤u∧n27≤u∧Two h.next g46 p23 n24 c25 p26 n27 c28∧Old h g46∧g18.next≤g46.next∧g46.get g3.next=some (.cells (zdI r) 62 false):=fun i e=>by
  have e:=zaJ e (by omega) (by omega)
  exact⟨n - (u+1),by omega,u+1,by omega,by omega,rfl,by omega,by omega,t46,o46h,by omega,w46'⟩
 have hlim:h.next≤g46.next:=o46h.1
 have pu:∀{g51:AH} {v:Value} (e:g51=g46.alloc (.cells [v] 22 false)),∃p c g2,zal Tryz.prog g51 .append #[66,66] [.slice p23 n24 c25,.slice (some ⟨g46.next,0,none⟩) 1 1]=some (.slice p (n24+1) c,g2)∧∀i:Int,i=IntKind.wrap .i64 ((u:Int)+1)→∃j,j < n - u∧∃u:Nat,i=u∧u≤n∧n - u=j∧n24+1≤u∧n27≤u∧Two h.next g2 p (n24+1) c p26 n27 c28∧Old h g2∧g18.next≤g2.next∧g2.get g3.next=some (.cells (zdI r) 62 false):=fun e=>by
  obtain⟨p,c,g2,k2,t2,ob,f⟩:=t46.push hlim (by omega) e
  refine⟨p,c,g2,k2,fun i e=>?_⟩
  have e:=zaJ e (by omega) (by omega)
  exact⟨n - (u+1),by omega,u+1,by omega,by omega,rfl,by omega,by omega,t2,⟨Nat.le_trans hlim ob.1,fun c hc=>by rw[ob.2 c hc,o46h.2 c hc]⟩,by have:=ob.1; omega,(f _ _ _ _ (by omega) w46' (by decide)).trans w46'⟩
 have pv:∀{g51:AH} {v:Value} (e:g51=g46.alloc (.cells [v] 22 false)),∃p c g2,zal Tryz.prog g51 .append #[66,66] [.slice p26 n27 c28,.slice (some ⟨g46.next,0,none⟩) 1 1]=some (.slice p (n27+1) c,g2)∧∀i:Int,i=IntKind.wrap .i64 ((u:Int)+1)→∃j,j < n - u∧∃u:Nat,i=u∧u≤n∧n - u=j∧n24≤u∧n27+1≤u∧Two h.next g2 p23 n24 c25 p (n27+1) c∧Old h g2∧g18.next≤g2.next∧g2.get g3.next=some (.cells (zdI r) 62 false):=fun e=>by
  obtain⟨p,c,g2,k2,t2,ob,f⟩:=t46.swap.push hlim (by omega) e
  refine⟨p,c,g2,k2,fun i e=>?_⟩
  have e:=zaJ e (by omega) (by omega)
  exact⟨n - (u+1),by omega,u+1,by omega,by omega,rfl,by omega,by omega,t2.swap,⟨Nat.le_trans hlim ob.1,fun c hc=>by rw[ob.2 c hc,o46h.2 c hc]⟩,by have:=ob.1; omega,(f _ _ _ _ (by omega) w46' (by decide)).trans w46'⟩
 have l:=fun (j:Nat) (v:Value) (hj:(zdI rs[u])[j]?= some v)=>zah (off:=j) w46 hj
 refine⟨g46,k46,_,l 4 _ rfl,fun _=>⟨_,l 3 _ rfl,_,zah w46' rfl,fun _=>⟨_,l 0 _ rfl,fun g51 e51=>?_⟩,fun _=>⟨_,l 4 _ rfl,fun _=>⟨_,l 0 _ rfl,fun g51 e51=>?_⟩,fun _=>same⟩⟩,fun _=>⟨_,l 4 _ rfl,fun _=>⟨_,l 0 _ rfl,fun g51 e51=>?_⟩,fun _=>same⟩⟩
 ·obtain⟨p,c,g2,k2,r2⟩:=pu e51
  exact⟨_,_,_,g2,k2,r2⟩
 ·obtain⟨p,c,g2,k2,r2⟩:=pv e51
  exact⟨_,_,_,g2,k2,r2⟩
 ·obtain⟨p,c,g2,k2,r2⟩:=pv e51
  exact⟨_,_,_,g2,k2,r2⟩
end
section
variable {K:Xs} {h:AH} {p:Option Addr} {n c:Nat} {rs:List zhz} {Q:Value→AH→Prop} {i4:Int} {k1:Nat} {I0:Int→Nat→AH→Prop} {h2:AH} {r:zhz} {ty:TypeId} {ro:Bool}
theorem rT5 {g g1:AH} {t:zhz} {ty' : TypeId} {ro' : Bool} {i:Int} {k:Nat} {I:Int→Nat→AH→Prop} (w1:g.get g1.next=some (.cells (zdI t) ty' ro')) (w2:g.get h2.next=some (.cells (zdI r) ty ro)) (f:Q (.bool false) g) (st:∀x:Int,x=IntKind.wrap .i64 (i+1)→∃j,j < k∧I x j g):zbF K Q g g1 h2 i k I:=
 ⟨_,zah w1 rfl,_,zah w2 rfl,fun _=>lb (zah w2 rfl) ⟨_,zah w1 rfl,_,zah w2 rfl,fun _=>f,fun _=>st⟩ f,fun _=>st⟩
theorem rT3 (kk:zrM K) (T:zqq h p n rs) (hn:n≤32) (fq:∀{g},Old h g→Q (.bool false) g) (sq:∀{g},Old h g→∀x:Int,x=IntKind.wrap .i64 (i4+1)→∃j,j < k1∧I0 x j g) {g:AH} (o:Old h g) (w:g.get h2.next=some (.cells (zdI r) ty ro)) (hb:h2.next < g.next) (ok:ze7 h r):zbG K Q g r.dn r.dp h2 p n c i4 k1 I0:=by
 have hd:=ok.room
 simp only[reachBytes] at hd
 have hl:=ok.len
 refine⟨fun i k g'=>∃u:Nat,i=u∧u≤r.dn∧r.dn - u=k∧Old g g',⟨_,0,rfl,Nat.zero_le _,rfl,Old.refl _⟩,?_⟩
 rintro k g96 i ⟨u,rfl,hu,rfl,o96⟩
 have o96h:=o.trans o96
 refine⟨fun z=>?_,fun _=>⟨fun i k g'=>∃u:Nat,i=u∧u≤n∧n - u=k∧Old g96 g',⟨_,0,rfl,Nat.zero_le _,rfl,Old.refl _⟩,?_⟩⟩
 ·obtain⟨b,off,e,hld, -⟩:=(ok.shows.old o96h).getN (i:=u) (by omega)
  rw[zi1 r.dead u (by omega)] at hld
  rw[e]
  refine zae ⟨by omega,z,_,_,_,by rw[Int.toNat_natCast]; exact hld,fun g104 e104=>⟨rfl,?_⟩⟩
  obtain⟨g105,k105,n105,o105,m105⟩:=zaF e104 (vs:=[.int .i64 r.dead[u].1,.int .u64 r.dead[u].2.1,.int .u32 r.dead[u].2.2]) rfl
  have w105:=(m105 [] (fun c hc=>by cases hc)).1
  have w2:=(o105.2 _ (by have:=o96.1; omega)).trans ((o96.2 _ hb).trans w)
  refine⟨g105,k105,_,zah w2 rfl,(zAI kk (T.old (o96h.trans o105))).mono ?_⟩
  rintro _ g108 ⟨⟨i109,rfl⟩,o108⟩
  have w108:=(o108.2 _ (by omega)).trans w105
  have oo:=(o96.trans o105).trans o108
  refine⟨_,rfl,_,zah w108 rfl,fun _=>⟨zah w105 rfl,zah w108 rfl,fq (o.trans oo)⟩,fun _=>⟨zah w105 rfl,zah w108 rfl,fun x e=>?_⟩⟩
  have e:=zaJ e (by omega) (by omega)
  exact⟨r.dn - (u+1),by omega,u+1,by omega,by omega,rfl,oo⟩
 ·rintro k g114 i ⟨v,rfl,hv,rfl,o114⟩
  have o114h:=o96h.trans o114
  refine⟨fun z=>?_,fun _=>sq o114h⟩
  obtain⟨b,off,rfl,hi,hld, -,ok'⟩:=(T.old o114h).at (i:=v) (by omega)
  refine zae ⟨by omega,z,_,_,_,_,_,_,_,_,_,_,_,_,_,by rw[Int.toNat_natCast]; exact hld,fun g132 e132=>⟨rfl,?_⟩⟩
  obtain⟨g133,k133,n133,o133,w133⟩:=zfN e132 rfl rs[v]
  have ol:=o96.1
  have ol2:=o114.1
  have w2:=(o133.2 _ (by omega)).trans ((o114.2 _ (by omega)).trans ((o96.2 _ hb).trans w))
  have st:∀x:Int,x=IntKind.wrap .i64 ((v:Int)+1)→∃j,j < n - v∧∃u:Nat,x=u∧u≤n∧n - u=j∧Old g96 g133:=fun x e=>by
   have e:=zaJ e (by omega) (by omega)
   exact⟨n - (v+1),by omega,v+1,by omega,by omega,rfl,o114.trans o133⟩
  have f:=fq (o114h.trans o133)
  have t5:=rT5 (K:=K) (Q:=Q) (i:=(v:Int)) (k:=n - v) (I:=fun i k g'=>∃u:Nat,i=u∧u≤n∧n - u=k∧Old g96 g') w133 w2 f st
  exact⟨g133,k133,fun _=>st,fun _=>lb (zah w133 rfl) (lb (zah w2 rfl) t5 st) (lb (zah w2 rfl) st t5)⟩
theorem rT1 (kk:zrM K) (T:zqq h p n rs) (hn:n≤32) (fq:∀{g},Old h g→Q (.bool false) g) (sq:∀{g},Old h g→∀x:Int,x=IntKind.wrap .i64 (i4+1)→∃j,j < k1∧I0 x j g) {g:AH} {id:Int} (o:Old h g) (w:g.get h2.next=some (.cells (zdI r) ty ro)) (hb:h2.next < g.next) (ok:ze7 h r):zbc K Q p n c id g h2 i4 k1 I0:=by
 refine (zCU kk (T.old o) hn).mono ?_
 rintro _ g84 ⟨⟨p1,n1,c1,p2,n2,c2,rfl⟩,o84⟩
 have w2:=(o84.2 _ hb).trans w
 have t3:=rT3 (c:=c) kk T hn fq sq (o.trans o84) w2 (Nat.lt_of_lt_of_le hb o84.1) ok
 exact⟨_,_,_,_,_,_,rfl,lb (zah w2 rfl) ⟨fun _=>⟨_,_,_,zah w2 rfl,t3⟩,fun _=>fq (o.trans o84)⟩ ⟨_,_,_,zah w2 rfl,t3⟩⟩
theorem rT4 (kk:zrM K) (T:zqq h p n rs) (hn:n≤32) (fq:∀{g},Old h g→Q (.bool false) g) (sq:∀{g},Old h g→∀x:Int,x=IntKind.wrap .i64 (i4+1)→∃j,j < k1∧I0 x j g) {g h63:AH} {q:zhz} {ty' : TypeId} {ro' : Bool} (o:Old h g) (w:g.get h2.next=some (.cells (zdI r) ty ro)) (w' : g.get h63.next=some (.cells (zdI q) ty' ro')) (hb:h2.next < g.next) (ok:ze7 h r):zbH K Q g h2 h63 p n c i4 k1 I0:=by
 have t1:=fun id=>rT1 (c:=c) (id:=id) kk T hn fq sq o w hb ok
 exact lb (zah w rfl) ⟨_,zah w' rfl,_,zah w rfl,fun _=>fq o,fun _=>⟨_,zah w rfl,t1 _⟩⟩ ⟨_,zah w rfl,t1 _⟩
theorem rT2 (kk:zrM K) (T:zqq h p n rs) (hn:n≤32) (fq:∀{g},Old h g→Q (.bool false) g) (sq:∀{g},Old h g→∀x:Int,x=IntKind.wrap .i64 (i4+1)→∃j,j < k1∧I0 x j g) {g:AH} {id:Int} (o:Old h g) (w:g.get h2.next=some (.cells (zdI r) ty ro)) (hb:h2.next < g.next) (ok:ze7 h r):zbI K Q p n c id g h2 i4 k1 I0:=by
 refine (zi4 kk (T.old o)).mono ?_
 rintro _ g45 ⟨⟨q,b,rfl⟩,o45⟩
 have o45h:=o.trans o45
 refine⟨q.id,q.name,q.snap,q.own,q.prev,q.stamp,q.blocks,q.root.1,q.root.2.1,q.root.2.2,q.dp,q.dn,q.dc,?_⟩
 have l45:=o45.1
 cases b
 ·refine .inr ⟨rfl,fun g59 e59=>⟨rfl,?_⟩⟩
  obtain⟨g60,k60,n60,o60,w60⟩:=zfN e59 rfl q
  exact⟨g60,k60,fq (o45h.trans o60)⟩
 refine .inl ⟨rfl,fun g59 e59=>⟨rfl,?_⟩⟩
 obtain⟨g60,k60,n60,o60,w60⟩:=zfN e59 rfl q
 have o60h:=o45h.trans o60
 have w2:=(o60.2 _ (by omega)).trans ((o45.2 _ hb).trans w)
 refine⟨g60,k60,lb (zah w60 rfl) (fq o60h) ⟨_,zah w2 rfl,(zi4 kk (T.old o60h)).mono ?_⟩⟩
 rintro _ g63 ⟨⟨q',b,rfl⟩,o63⟩
 have l63:=o63.1
 refine⟨q'.id,q'.name,q'.snap,q'.own,q'.prev,q'.stamp,q'.blocks,q'.root.1,q'.root.2.1,q'.root.2.2,q'.dp,q'.dn,q'.dc,?_⟩
 cases b
 ·refine .inr ⟨rfl,fun g77 e77=>⟨rfl,?_⟩⟩
  obtain⟨g78,k78,n78,o78,w78⟩:=zfN e77 rfl q'
  have w3:=(o78.2 _ (by omega)).trans ((o63.2 _ (by omega)).trans w2)
  have o78h:=(o60h.trans o63).trans o78
  exact⟨g78,k78,_,zah w3 rfl,fun _=>⟨_,zah w3 rfl,rT1 kk T hn fq sq o78h w3 (by omega) ok⟩,fun _=>fq o78h⟩
 ·refine .inl ⟨rfl,fun g77 e77=>⟨rfl,?_⟩⟩
  obtain⟨g78,k78,n78,o78,w78⟩:=zfN e77 rfl q'
  have w3:=(o78.2 _ (by omega)).trans ((o63.2 _ (by omega)).trans w2)
  have o78h:=(o60h.trans o63).trans o78
  have t4:=rT4 (c:=c) kk T hn fq sq o78h w3 w78 (by omega) ok
  exact⟨g78,k78,_,zah w3 rfl,fun _=>t4,fun _=>lb (zah w78 rfl) t4 (fq o78h)⟩
theorem zwE (kk:zrM K) (T:zqq h p n rs) {nx:Int}:Wf Tryz.prog K 5 [.int .u64 nx,.slice p n c] h (BL h):=by
 have fq:∀{g},Old h g→BL h (.bool false) g:=fun o=>⟨⟨_,rfl⟩,o⟩
 refine zd5 kk.r16 _ _ _ _ h _ ⟨fun _=>fq (Old.refl h),fun _=>⟨fun _=>fq (Old.refl h),fun hn=>⟨fun i k g=>∃u:Nat,i=u∧u≤n∧n - u=k∧Old h g,⟨_,0,rfl,Nat.zero_le _,rfl,Old.refl h⟩,?_⟩⟩⟩
 rintro k g i ⟨u,rfl,hu,rfl,o⟩
 refine⟨fun z=>?_,fun _=>⟨⟨_,rfl⟩,o⟩⟩
 obtain⟨b,off,rfl,hi,hld, -,ok⟩:=(T.old o).at (i:=u) (by omega)
 refine zae ⟨by omega,z,_,_,_,_,_,_,_,_,_,_,_,_,_,by rw[Int.toNat_natCast]; exact hld,fun g20 e20=>⟨rfl,?_⟩⟩
 obtain⟨g21,k21,n21,o21,w21⟩:=zfN e20 rfl rs[u]
 refine⟨g21,k21,_,_,_,_,_,_,_,_,_,_,_,_,_,zao w21 rfl,(zEv kk (ok.old o21)).mono ?_⟩
 rintro _ g36 ⟨⟨b1,rfl⟩,o36⟩
 have o36h:=(o.trans o21).trans o36
 have l36:=o36.1
 have w36:=(o36.2 _ (by omega)).trans w21
 have ok0:ze7 h rs[u]:=by
  obtain⟨-, -,cells, -,q⟩:=T
  exact (q u hi).2
 have t2:=fun id=>rT2 (c:=c) (id:=id) (i4:=(u:Int)) (k1:=n - u) (I0:=fun i k g=>∃u:Nat,i=u∧u≤n∧n - u=k∧Old h g) (Q:=BL h) kk T (by omega) fq (fun o x e=>by
  have e:=zaJ e (by omega) (by omega)
  exact⟨n - (u+1),by omega,u+1,by omega,by omega,rfl,o⟩) o36h w36 (by omega) ok0
 refine bb ⟨_,zah w36 rfl,fun _=>fq o36h,fun _=>⟨fun hu0 i38 e38=>?_,fun _=>⟨_,zah w36 rfl,t2 _⟩⟩⟩ (fq o36h)
 have e38:i38=((u - 1:Nat):Int):=by rw[zaJ e38 (by omega) (by omega)]; omega
 subst e38
 obtain⟨b',off',e',hi', -,hl1, -⟩:=(T.old o36h).at (i:=u - 1) (by omega)
 simp only[Option.some.injEq,Addr.mk.injEq,and_true] at e'
 obtain⟨rfl,rfl⟩:=e'
 exact zae ⟨by omega,by omega,_,by rw[Int.toNat_natCast]; exact hl1 0 _ rfl,_,zah w36 rfl,fun _=>fq o36h,fun _=>⟨_,zah w36 rfl,t2 _⟩⟩
end
end Go.Am
