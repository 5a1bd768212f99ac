/-
  SETS AS SPANS, gone through: is a number in it?
-/
import Derived.Test.YtihmdaifbmchjaaGreatVSpan
import Derived.Test.YtihmdaifbmchjaaGreatAmH
import Derived.Test.YtihmdaifbmchjaaGreatPFacts
import Derived.Test.YtihmdaifbmchjaaGreatAmF
import Derived.Test.YtihmdaifbmchjaaGreatCpA
set_option linter.unusedVariables false
set_option linter.unusedSimpArgs false
namespace Go.Am
open Go.Proofs
def spC (sp:List (Nat×Nat)):List Value:=(sp.map fun q=>[Value.int .i64 q.1,Value.int .i64 q.2]).flatten
def exN (sp:List (Nat×Nat)):List Nat:=(sp.map fun q=>List.range' q.1 q.2).flatten
def Gap:Int→List (Nat×Nat)→Prop
 | _,[]=>True
 | e,(s,l) :: r=>e < s∧1≤l∧s+l≤4096∧Gap (s+l:Nat) r
theorem Gap.at:∀{e:Int} {sp:List (Nat×Nat)},Gap e sp→∀(i:Nat) (hi:i < sp.length),1≤sp[i].2∧sp[i].1+sp[i].2≤4096
 | _,(s,l) :: r,g,0,_=>⟨g.2.1,g.2.2.1⟩
 | _,(s,l) :: r,g,i+1,hi=>g.2.2.2.at i (by simpa using hi)
theorem zb1 (sp:List (Nat×Nat)):(spC sp).length=sp.length * 2:=by
 induction sp with
 | nil=>rfl
 | cons q r ih=>simp only[spC,List.map_cons,List.flatten_cons,List.length_append,List.length_cons,List.length_nil] at *; omega
theorem zd8:∀(sp:List (Nat×Nat)) (i:Nat) (hi:i < sp.length),((spC sp).drop (i * 2)).take 2=[.int .i64 (sp[i].1:Nat),.int .i64 (sp[i].2:Nat)]
 | [],i,hi=>absurd hi (Nat.not_lt_zero _)
 | q :: r,0,hi=>rfl
 | q :: r,i+1,hi=>by
   have e:spC (q :: r)=[.int .i64 (q.1:Nat),.int .i64 (q.2:Nat)] ++ spC r:=rfl
   rw[e,show (i+1) * 2=2+i * 2 by omega,List.drop_append]
   simp only[List.length_cons,List.length_nil]
   rw[List.drop_eq_nil_of_le (by simp),List.nil_append,show 2+i * 2 - (0+1+1)=i * 2 by omega]
   exact zd8 r i (by simpa using hi)
def pre (sp:List (Nat×Nat)) (j:Nat):Nat:=(exN (sp.take j)).length
theorem zp7 (sp:List (Nat×Nat)):pre sp 0=0:=rfl
theorem zp8 (sp:List (Nat×Nat)) {j:Nat} (hj:j < sp.length):pre sp (j+1)=pre sp j+sp[j].2:=by
 unfold pre exN
 rw[List.take_succ_eq_append_getElem hj,List.map_append,List.flatten_append,List.length_append]
 simp
theorem zoU (sp:List (Nat×Nat)):pre sp sp.length=(exN sp).length:=by unfold pre; rw[List.take_length]
theorem zCC (sp:List (Nat×Nat)) {j t:Nat} (hj:j < sp.length) (ht:t < sp[j].2):(exN sp)[pre sp j+t]?= some (sp[j].1+t):=by
 have e0:sp=sp.take j ++ sp[j] :: sp.drop (j+1):=by rw[←List.drop_eq_getElem_cons hj,List.take_append_drop]
 have e1:∀(x:List (Nat×Nat)) (q:Nat×Nat) (y:List (Nat×Nat)),exN (x ++ q :: y)=exN x ++ (List.range' q.1 q.2 ++ exN y):=fun x q y=>by simp[exN]
 have e:exN sp=exN (sp.take j) ++ (List.range' sp[j].1 sp[j].2 ++ exN (sp.drop (j+1))):=(congrArg exN e0).trans (e1 _ _ _)
 rw[e,List.getElem?_append_right (by unfold pre; omega),show pre sp j+t - (exN (sp.take j)).length=t by unfold pre; omega,List.getElem?_append_left (by simpa using ht)]
 simp[ht]
theorem znh:∀{e:Int} {sp:List (Nat×Nat)},Gap e sp→∀x∈exN sp,e < x
 | e,(s,l) :: r,g,x,hx=>by
   obtain⟨g1,g2,g3,g4⟩:=g
   unfold exN at hx
   simp only[List.map_cons,List.flatten_cons,List.mem_append,List.mem_range'_1] at hx
   rcases hx with hx | hx
   ·omega
   ·have:=znh g4 x hx
    omega
theorem zln:∀{e:Int} {sp:List (Nat×Nat)},Gap e sp→(exN sp).Pairwise (· < ·)
 | _,[],_=>by simp[exN]
 | e,(s,l) :: r,g=>by
   obtain⟨g1,g2,g3,g4⟩:=g
   have e1:exN ((s,l) :: r)=List.range' s l ++ exN r:=rfl
   rw[e1,List.pairwise_append]
   refine⟨List.pairwise_lt_range',zln g4,fun x hx y hy=>?_⟩
   rw[List.mem_range'_1] at hx
   have:=znh g4 y hy
   omega
section
variable {K:Xs} {h:AH}
theorem zrm (hk:K 161=none) {s l:Nat} (h1:1≤l) (h2:s+l≤4096):Wf Tryz.prog K 161 [.agg #[.int .i64 s,.int .i64 l]] h fun v h'=>v=.bool true∧Old h h':=by
 refine zjn hk _ _ h _ fun g0 e0=>⟨_,zah (zac e0) rfl,fun _=>⟨_,zah (zac e0) rfl,fun _=>⟨_,zah (zac e0) rfl,fun _=>⟨_,zah (zac e0) rfl,_,zah (zac e0) rfl,fun i e=>?_⟩,fun q=>absurd (show (1:Int)≤l by omega) q⟩,fun q=>absurd (show (s:Int) < 4096 by omega) q⟩,fun q=>absurd (show (0:Int)≤s by omega) q⟩
 have e:=zaJ e (by omega) (by omega)
 exact⟨fun _=>⟨rfl,zaa e0⟩,fun q=>absurd (by omega) q⟩
theorem zcJ (hk:K 140=none) (h1:K 161=none) {p:Option Addr} {n c:Nat} {sp:List (Nat×Nat)} (hs:zaq h p n 2 (spC sp)) (hg:Gap (-1) sp) (hn:n≤1000000):
 Wf Tryz.prog K 140 [.slice p n c] h fun v h'=>v=.bool true∧Old h h':=by
 have hl:n=sp.length:=by have:=hs.1; rw[zb1] at this; omega
 refine zk0 hk _ _ _ h _ ⟨fun e i k g=>∃j:Nat,i=j∧j≤n∧n - j=k∧Old h g∧Gap e (sp.drop j)∧(e= -1∨0≤e∧e≤4096),⟨n,0,rfl,Nat.zero_le _,rfl,Old.refl _,hg,.inl rfl⟩,?_⟩
 rintro k g e i ⟨j,rfl,hj,rfl,o,hgj,he⟩
 refine⟨fun q=>?_,fun _=>⟨rfl,o⟩⟩
 have hjn:j < n:=by omega
 have hjl:j < sp.length:=by omega
 obtain⟨b,off,rfl,hld, -⟩:=(hs.old o).getN hjn
 rw[zd8 sp j hjl] at hld
 rw[List.drop_eq_getElem_cons hjl] at hgj
 generalize sp[j]=q at hld hgj
 obtain⟨s,l⟩:=q
 obtain⟨g1,g2,g3,g4⟩:=hgj
 simp only at hld
 refine zae ⟨by omega,q,_,_,hld,fun g10 e10=>⟨rfl,_,zaB (zac e10) rfl,_,_,zao (zag _ _ _) rfl,(zrm h1 g2 g3).mono ?_⟩⟩
 rintro _ g15 ⟨rfl,o15⟩
 have o10:=zaa e10
 have n10:=zab e10
 have k11:=zaj g.next g10 (.cells [.int .i64 s,.int .i64 l] 90 false)
 have o11:Old g (g10.set g.next (.cells [.int .i64 s,.int .i64 l] 90 false)):=⟨by rw[k11.1,n10]; omega,fun c hc=>by rw[k11.2 c (by omega),o10.2 c hc]⟩
 have c15:g15.get g.next=some (.cells [.int .i64 s,.int .i64 l] 90 false):=(o15.2 _ (by rw[k11.1,n10]; omega)).trans (zag _ _ _)
 refine .inl ⟨rfl,_,zah c15 rfl,fun z=>absurd z (by omega),fun _=>⟨_,zah c15 rfl,_,zah c15 rfl,fun i19 e19 i20 e20=>?_⟩⟩
 have e19:=zaJ e19 (by omega) (by omega)
 have e20:=zaJ e20 (by omega) (by omega)
 exact⟨n - (j+1),by omega,j+1,by rw[e20]; rfl,hjn,rfl,(o.trans o11).trans o15,by rw[e19]; exact g4,.inr (by omega)⟩
theorem Wy.mono' {P:Program} {l:Nat} {args:List Value} {Q Q' : Value→AH→Prop} (w:Wy P K l args h Q) (f:∀v h',Q v h'→Q' v h'):Wy P K l args h Q':=by
 obtain⟨n,v,h',e,q⟩:=w
 exact⟨n,v,h',e,f v h' q⟩
theorem zhx (hk:K 143=none) (kR:K 140=none) (kS:K 161=none) {p:Option Addr} {n c:Nat} {sp:List (Nat×Nat)} (hg:Gap (-1) sp) (hn:n≤1000000) {ya pb lim:Nat} {JJ:Nat→AH→Prop} {DD:AH→Prop} {B:AH→AH→Prop}
 (hJ:∀i h1 h2,JJ i h1→Old h1 h2→JJ i h2) (hs:∀i h1,JJ i h1→(∃t ro,h1.get pb=some (.cells [.slice p n c] t ro))∧zaq h1 p n 2 (spC sp)∧lim≤h1.next)
 (hB:∀h1 h2,B h1 h2→h1.next≤h2.next∧∀c,lim≤c→c < h1.next→h2.get c=h1.get c)
 (hr:∀(k:Nat) (h1:AH),k < (exN sp).length→JJ k h1→∀x,(exN sp)[k]?= some x→Wy Tryz.prog K ya [.int .i64 (x:Nat)] h1 fun v h2=>((v=.bool true∧JJ (k+1) h2)∨(v=.bool false∧DD h2))∧B h1 h2)
 (h0:JJ 0 h):Wf Tryz.prog K 143 [Value.func (Fn.yield ya) #[] #[],.pointer (some ⟨pb,0,none⟩)] h fun _ h'=>JJ (exN sp).length h'∨DD h':=by
 obtain⟨⟨t0,ro0,c0⟩,s0, -⟩:=hs 0 h h0
 have hl:n=sp.length:=by have:=s0.1; rw[zb1] at this; omega
 refine zjm hk _ _ h _ (zae ⟨p,n,c,zah c0 rfl,(zcJ kR kS s0 hg hn).mono ?_⟩)
 rintro _ g6 ⟨rfl,o6⟩
 have J6:=hJ _ _ _ h0 o6
 obtain⟨⟨t6,ro6,c6⟩,s6, -⟩:=hs 0 g6 J6
 refine .inl ⟨rfl,zae ⟨p,n,c,zah c6 rfl,fun i k g=>∃j:Nat,i=j∧j≤n∧n - j=k∧JJ (pre sp j) g,⟨n,0,rfl,Nat.zero_le _,rfl,by rw[zp7]; exact J6⟩,?_⟩⟩
 rintro k13 g14 i16 ⟨j,rfl,hj,rfl,J14⟩
 refine⟨fun q=>?_,fun q=>?_⟩
 ·have hjn:j < n:=by omega
  have hjl:j < sp.length:=by omega
  obtain⟨-,s14,l14⟩:=hs _ g14 J14
  obtain⟨b,off,rfl,hld, -⟩:=s14.getN hjn
  rw[zd8 sp j hjl] at hld
  have hat:=fun t (ht:t < sp[j].2)=>zCC sp hjl ht
  have hsucc:=zp8 sp hjl
  have hgj:=hg.at j hjl
  generalize sp[j]=qq at hld hat hsucc hgj
  obtain⟨s,l⟩:=qq
  simp only at hld hat hsucc hgj
  refine zae ⟨by omega,q,_,_,hld,fun g21 e21=>⟨rfl,_,zaB (zac e21) rfl,l,zah (zag _ _ _) rfl,?_⟩⟩
  have o21:=zaa e21
  have n21:=zab e21
  have k22:=zaj g14.next g21 (.cells [.int .i64 s,.int .i64 l] 90 false)
  have o22:Old g14 (g21.set g14.next (.cells [.int .i64 s,.int .i64 l] 90 false)):=⟨by rw[k22.1,n21]; omega,fun c hc=>by rw[k22.2 c (by omega),o21.2 c hc]⟩
  refine⟨fun i k g=>∃t:Nat,i=t∧t≤l∧l - t=k∧JJ (pre sp j+t) g∧g14.next < g.next∧g.get g14.next=some (.cells [.int .i64 s,.int .i64 l] 90 false),
   ⟨l,0,rfl,Nat.zero_le _,rfl,hJ _ _ _ J14 o22,by rw[k22.1,n21]; omega,zag _ _ _⟩,?_⟩
  rintro k25 g26 i28 ⟨t,rfl,ht,rfl,J26,l26,c26⟩
  refine⟨fun q2=>⟨_,zah c26 rfl,fun i30 e30=>?_⟩,fun q2 i35 e35=>?_⟩
  ·have e30:=zaJ e30 (by omega) (by omega)
   have htl:t < l:=by omega
   have hx:=hat t htl
   have hlt:=(List.getElem?_eq_some_iff.1 hx).1
   subst e30
   have hw:=hr _ g26 hlt J26 _ hx
   rw[show ((s+t:Nat):Int)=(s:Int)+(t:Int) from rfl] at hw
   refine hw.mono' ?_
   rintro v g32 ⟨⟨rfl,J32⟩ | ⟨rfl,D32⟩,hb⟩
   ·refine⟨true,rfl,fun i34 e34=>?_⟩
    have e34:=zaJ e34 (by omega) (by omega)
    obtain⟨b1,b2⟩:=hB _ _ hb
    exact⟨l - (t+1),by omega,t+1,by rw[e34]; rfl,htl,rfl,J32,by omega,(b2 _ l14 l26).trans c26⟩
   ·exact⟨false,rfl,.inr D32⟩
  ·have e35:=zaJ e35 (by omega) (by omega)
   have htl:t=l:=by omega
   subst htl
   exact⟨n - (j+1),by omega,j+1,by rw[e35]; rfl,hjn,rfl,by rw[hsucc]; exact J26⟩
 ·have hjn:j=n:=by omega
  subst hjn
  rw[hl,zoU] at J14
  exact .inl J14
theorem zbY {l:Nat} {h:AH}:∀c,c≠l→(h.del l).get c=h.get c:=fun c hc=>by rw[AH.get_del,if_neg hc]
theorem zyF (hk:K 146=none) (kE:K 111=none) (kE1:K 143=none) (kR:K 140=none) (kS:K 161=none) {p:Option Addr} {n c:Nat} {sp:List (Nat×Nat)} (hs:zaq h p n 2 (spC sp)) (hg:Gap (-1) sp) (hn:n≤1000000) (x:Nat):
 Wf Tryz.prog K 146 [.slice p n c,.int .i64 x] h fun v h'=>v=.bool (decide (x∈exN sp))∧Old h h':=by
 refine zoM hk _ _ _ _ h _ fun g0 e0 g1 e1=>zcY kE _ _ _ g1 _ fun g3 e3=>⟨143,[.pointer (some ⟨g1.next,0,none⟩)],rfl,?_⟩
 have o0:=zaa e0
 have o1:=zaa e1
 have o3:=zaa e3
 have n0:=zab e0
 have n1:=zab e1
 have n3:=zab e3
 have c0:g3.get h.next=some (.cells [.int .i64 x] 3 false):=by rw[o3.2 _ (by omega),o1.2 _ (by omega)]; exact zac e0
 have c1:g3.get g0.next=some (.cells [.bool false] 4 false):=by rw[o3.2 _ (by omega)]; exact zac e1
 have c3:=zac e3
 have s3:=((hs.old o0).old o1).old o3
 have o03:Old h g3:=(o0.trans o1).trans o3
 refine⟨fun i g=>g3.next < g.next∧Old g3 g∧∀(t y:Nat),t < i→(exN sp)[t]?= some y→y < x,
  fun a g=>a=.ret∧g3.next < g.next∧(∀c,c < g3.next→c≠g0.next→g.get c=g3.get c)∧g.get g0.next=some (.cells [.bool (decide (x∈exN sp))] 4 false),
  (exN sp).length,fun i=>[.int .i64 ((exN sp)[i]?.getD 0:Nat)],fun h1 h2=>g3.next < h1.next∧Old h1 h2,fun h1 h2=>h1.next≤h2.next∧∀c,g3.next < c→c < h1.next→h2.get c=h1.get c,
  ⟨kE1,rfl⟩,fun i hi=>⟨_,rfl⟩,fun h1 q1 q2=>⟨by omega,⟨by omega,fun c hc=>q2 c (by omega)⟩,fun t y ht=>absurd ht (Nat.not_lt_zero _)⟩,
  fun i h1 h2 q nr=>⟨by rw[nr.1]; exact q.1,⟨by rw[nr.1]; exact q.2.1.1,fun c hc=>by rw[nr.2 c (by omega),q.2.1.2 c hc]⟩,q.2.2⟩,
  fun a h1 h2 q nr=>⟨q.1,by rw[nr.1]; exact q.2.1,fun c hc hne=>by rw[nr.2 c (by omega),q.2.2.1 c hc hne],by rw[nr.2 _ (by omega)]; exact q.2.2.2⟩,
  fun i h1 h2 q r=>⟨Nat.lt_of_lt_of_le q.1 r.2.1,q.2.1.trans r.2,q.2.2⟩,
  fun a h1 h2 q r=>⟨q.1,Nat.lt_of_lt_of_le q.2.1 r.2.1,fun c hc hne=>by rw[r.2.2 c (by omega),q.2.2.1 c hc hne],by rw[r.2.2 _ (by omega)]; exact q.2.2.2⟩,
  fun h1 h2 r=>r.2.2 _ r.1,?_,?_,?_,?_,?_⟩
 ·
  rintro k g11 hkN ⟨q1,q2,q3⟩ - i14 ei
  refine⟨rfl,rfl,fun g16 nr hL=>?_⟩
  have c16:g16.get h.next=some (.cells [.int .i64 x] 3 false):=by rw[nr.2 _ (by omega),q2.2 _ (by omega)]; exact c0
  have d16:g16.get g0.next=some (.cells [.bool false] 4 false):=by rw[nr.2 _ (by omega),q2.2 _ (by omega)]; exact c1
  dsimp only at ei
  rw[List.getElem?_eq_getElem hkN] at ei
  simp only[Option.getD_some,List.cons.injEq,Value.int.injEq,true_and,and_true] at ei
  have rise:=zln hg
  have low:∀(t y:Nat),(exN sp)[t]?= some y→k < t→(exN sp)[k] < y:=fun t y ht hkt=>by
   obtain⟨ht1,ht2⟩:=List.getElem?_eq_some_iff.1 ht
   rw[←ht2]
   exact List.pairwise_iff_getElem.1 rise k t hkN ht1 hkt
  generalize hy:(exN sp)[k]=y at ei low
  have hyk:(exN sp)[k]?= some y:=by rw[List.getElem?_eq_getElem hkN,hy]
  subst ei
  have fr:∀b:Bool,b=decide (x∈exN sp)→((g16.set g0.next (.cells [.bool b] 4 false)).get g3.next=g16.get g3.next∧(AX.ret=AX.ret∧g3.next < (g16.set g0.next (.cells [.bool b] 4 false)).next∧(∀c,c < g3.next→c≠g0.next→(g16.set g0.next (.cells [.bool b] 4 false)).get c=g3.get c)∧(g16.set g0.next (.cells [.bool b] 4 false)).get g0.next=some (.cells [.bool (decide (x∈exN sp))] 4 false))∧
   ∀h5,za9 g3.next (g16.set g0.next (.cells [.bool b] 4 false)) h5→g11.next≤h5.next∧∀c,g3.next < c→c < g11.next→h5.get c=g11.get c):=by
   intro b hb
   have ns:=zaj g0.next g16 (.cells [.bool b] 4 false)
   refine⟨ns.2 _ (by omega),⟨rfl,by rw[ns.1,nr.1]; exact q1,fun c hc hne=>by rw[ns.2 c hne,nr.2 c (by omega),q2.2 c hc],by rw[zag,hb]⟩,fun h5 n5=>⟨by rw[n5.1,ns.1,nr.1]; exact Nat.le_refl _,fun c hc1 hc2=>by rw[n5.2 c (by omega),ns.2 c (by omega),nr.2 c (by omega)]⟩⟩
  refine⟨_,zah c16 rfl,fun hle=>⟨_,zah c16 rfl,fun he=>⟨_,zbm d16 (by simp),fr true (by
   have:x∈exN sp:=List.mem_of_getElem? (i:=k) (by rw[hyk]; congr 1; omega)
   simp[this])⟩,fun hne=>⟨_,zbm d16 (by simp),fr false ?_⟩⟩,fun hle=>⟨rfl,⟨by rw[nr.1]; exact q1,⟨by rw[nr.1]; exact q2.1,fun c hc=>by rw[nr.2 c (by omega),q2.2 c hc]⟩,fun t z ht hz=>?_⟩,fun h5 n5=>⟨by rw[n5.1,nr.1]; exact Nat.le_refl _,fun c hc1 hc2=>by rw[n5.2 c (by omega),nr.2 c (by omega)]⟩⟩⟩
  ·have:x∉exN sp:=fun hm=>by
    obtain⟨t,ht,htx⟩:=List.mem_iff_getElem.1 hm
    have hgt:(exN sp)[t]?= some x:=by rw[List.getElem?_eq_getElem ht,htx]
    rcases Nat.lt_trichotomy t k with z | z | z
    ·exact absurd (q3 t x z hgt) (Nat.lt_irrefl _)
    ·rw[z,hyk] at hgt
     cases hgt
     exact hne rfl
    ·have:=low t x hgt z
     omega
   simp[this]
  ·rcases Nat.lt_or_ge t k with z1 | z1
   ·exact q3 t z z1 hz
   ·have:t=k:=by omega
    rw[this,hyk] at hz
    cases hz
    omega
 ·
  intro JJ DD hJJ hG hDG hround h25 hj0
  have:=zhx (h:=h25) kE1 kR kS hg hn (ya:=g3.next) (pb:=g1.next) (lim:=g3.next+1) (JJ:=JJ) (DD:=DD) (B:=fun h1 h2=>h1.next≤h2.next∧∀c,g3.next < c→c < h1.next→h2.get c=h1.get c) (p:=p) (n:=n) (c:=c) (sp:=sp)
   (fun i h1 h2 q o=>hG i h1 h2 q ⟨(hJJ _ _ q).1,o⟩) (fun i h1 q=>⟨⟨_,_,((hJJ _ _ q).2.1.2 _ (by omega)).trans c3⟩,s3.old (hJJ _ _ q).2.1,(hJJ _ _ q).1⟩)
   (fun h1 h2 b=>⟨b.1,fun c hc1 hc2=>b.2 c hc1 hc2⟩) (fun k h1 hk1 q y hy=>by have:=hround k h1 hk1 q; dsimp only at this; rw[hy] at this; exact this) hj0
  exact this
 ·rintro g29 ⟨q1,q2,q3⟩
  have d29:(g29.del g3.next).get g0.next=some (.cells [.bool false] 4 false):=by rw[zbY _ (by omega),q2.2 _ (by omega)]; exact c1
  have hno:x∉exN sp:=fun hm=>by
   obtain⟨t,ht,htx⟩:=List.mem_iff_getElem.1 hm
   exact absurd (q3 t x ht (by rw[List.getElem?_eq_getElem ht,htx])) (Nat.lt_irrefl _)
  have ns:=zaj g0.next (g29.del g3.next) (.cells ([Value.bool false].set 0 (.bool false)) 4 false)
  refine⟨_,zbm d29 (by simp),.inr ⟨zah (zag _ _ _) rfl,by simp[hno],by rw[ns.1]; show h.next≤g29.next; omega,fun c hc=>by rw[ns.2 c (by omega),zbY _ (by omega),q2.2 c (by omega),o03.2 c hc]⟩⟩
 ·rintro g31 ⟨-,q1,q2,q3⟩
  have d31:(g31.del g3.next).get g0.next=_:=(zbY _ (by omega)).trans q3
  have ho:Old h (g31.del g3.next):=⟨by show h.next≤g31.next; omega,fun c hc=>by rw[zbY _ (by omega),q2 c (by omega) (by omega),o03.2 c hc]⟩
  by_cases hx:x∈exN sp
  ·simp only[hx,decide_true] at d31
   exact .inl ⟨zah d31 rfl,by simp[hx],ho⟩
  ·simp only[hx,decide_false] at d31
   exact .inr ⟨zah d31 rfl,by simp[hx],ho⟩
 ·rintro a h1 - ⟨rfl, -⟩
  rfl
end
def zAr:List (Nat×Nat)→Prop
 | []=>True
 | (s,l) :: r=>1≤l∧s+l≤4096∧(∀q r',r=q :: r'→q.1+q.2 < s)∧zAr r
theorem ztO:∀{e:Int} {sp:List (Nat×Nat)} {s l:Nat},Gap e sp→e < s→(∀q,sp.getLast?= some q→q.1+q.2 < s)→1≤l→s+l≤4096→Gap e (sp ++ [(s,l)])
 | e,[],s,l,_,he,_,h1,h2=>⟨he,h1,h2,trivial⟩
 | e,[q0],s,l,⟨g1,g2,g3,g4⟩,he,hq,h1,h2=>⟨g1,g2,g3,by have:=hq q0 rfl; show ((q0.1+q0.2:Nat):Int) < s; omega,h1,h2,trivial⟩
 | e,q0 :: q1 :: r,s,l,⟨g1,g2,g3,g4⟩,he,hq,h1,h2=>⟨g1,g2,g3,ztO (sp:=q1 :: r) g4 (by
    have h5:=hq ((q1 :: r).getLast (by simp)) (by simp[List.getLast?_eq_some_getLast])
    have h6:=znh g4
    have h7:(q1 :: r).getLast (by simp)∈q1 :: r:=List.getLast_mem _
    obtain⟨i,hi,e1⟩:=List.mem_iff_getElem.1 h7
    have h8:=g4.at i hi
    have h9:=h6 ((q1 :: r)[i].1) (by
     unfold exN
     rw[List.mem_flatten]
     exact⟨_,List.mem_map_of_mem (List.getElem_mem hi),by rw[List.mem_range'_1]; omega⟩)
    rw[e1] at h9 h8
    omega) (fun q hq'=>hq q (by rw[←hq']; simp[List.getLast?_cons_cons])) h1 h2⟩
theorem zoV:∀{acc:List (Nat×Nat)},zAr acc→Gap (-1) acc.reverse
 | [],_=>trivial
 | (s,l) :: r,⟨g1,g2,g3,g4⟩=>by
   rw[List.reverse_cons]
   refine ztO (zoV g4) (by omega) (fun q hq=>?_) g1 g2
   rw[List.getLast?_reverse] at hq
   cases r with
   | nil=>simp at hq
   | cons q' r'=>
     simp only[List.head?_cons,Option.some.injEq] at hq
     subst hq
     exact g3 _ _ rfl
theorem zlo:∀acc:List (Nat×Nat),zeV acc=spC acc.reverse
 | []=>rfl
 | (s,l) :: r=>by
   rw[List.reverse_cons]
   show zeV r ++ _=_
   rw[zlo r]
   simp[spC]
theorem zes (f:Nat→Bool):∀(m n:Nat) (acc:List (Nat×Nat)),n+m≤4096→zAr acc→(∀q r,acc=q :: r→q.1+q.2≤n)→
 ∃acc',zbU ((List.range' n m).map fun j=>.bool (f j)) n acc=some acc'∧zAr acc'∧exN acc'.reverse=exN acc.reverse ++ (List.range' n m).filter f
 | 0,n,acc,_,g,_=>⟨acc,rfl,g,by simp⟩
 | m+1,n,acc,hn,g,hl=>by
   rw[List.range'_succ,List.map_cons,List.filter_cons]
   cases hf:f n with
   | false=>
     obtain⟨acc',h1,h2,h3⟩:=zes f m (n+1) acc (by omega) g (fun q r e=>by have:=hl q r e; omega)
     exact⟨acc',h1,h2,by rw[h3]; simp⟩
   | true=>
     have key:zAr (zaY acc n)∧(∀q r,zaY acc n=q :: r→q.1+q.2≤n+1)∧exN (zaY acc n).reverse=exN acc.reverse ++ [n]:=by
      cases acc with
      | nil=>exact⟨⟨by omega,by omega,fun q r' z=>(by cases z),trivial⟩,fun q r e=>by cases e; exact Nat.le_refl _,rfl⟩
      | cons q r=>
        obtain⟨s,l⟩:=q
        obtain⟨g1,g2,g3,g4⟩:=g
        have hq:=hl (s,l) r rfl
        simp only at hq
        unfold zaY
        simp only
        cases hb:Nat.beq (s+l) n with
        | true=>
          have hb:=Nat.eq_of_beq_eq_true hb
          refine⟨⟨by omega,by omega,g3,g4⟩,fun q' r' e=>by cases e; show s+(l+1)≤_; omega,?_⟩
          simp only[cond_true,List.reverse_cons]
          unfold exN
          simp[List.range'_concat,hb]
        | false=>
          have hb:=Nat.ne_of_beq_eq_false hb
          refine⟨⟨by omega,by omega,fun q' r' e=>by cases e; show s+l < n; omega,g1,g2,g3,g4⟩,fun q' r' e=>by cases e; exact Nat.le_refl _,?_⟩
          simp only[cond_false,List.reverse_cons]
          unfold exN
          simp
     obtain⟨acc',h1,h2,h3⟩:=zes f m (n+1) (zaY acc n) (by omega) key.1 key.2.1
     exact⟨acc',h1,h2,by rw[h3,key.2.2]; simp⟩
theorem zp9 (s:Nat):∀(M:List Nat) (i:Nat) (N:List Nat),∃N',zsU (zav .u8 M) s i N=some N'∧∀x,x∈N'↔x∈N∨∃j,x=i+j∧M[j]?= some s
 | [],i,N=>⟨N,rfl,fun x=>⟨.inl,fun z=>z.elim id (fun ⟨j,_,hj⟩=>by simp at hj)⟩⟩
 | a :: M,i,N=>by
   obtain⟨N',h1,h2⟩:=zp9 s M (i+1) (cond (Nat.beq a s) (N ++ [i]) N)
   refine⟨N',h1,fun x=>?_⟩
   rw[h2 x]
   have hd:x∈(cond (Nat.beq a s) (N ++ [i]) N)↔x∈N∨(x=i∧a=s):=by
    cases hb:Nat.beq a s with
    | true=>have:=Nat.eq_of_beq_eq_true hb; simp[this]
    | false=>have:=Nat.ne_of_beq_eq_false hb; simp[this]
   rw[hd]
   constructor
   ·rintro ((z | ⟨z1,z2⟩) | ⟨j,z1,z2⟩)
    ·exact .inl z
    ·exact .inr ⟨0,by omega,by simp[z2]⟩
    ·exact .inr ⟨j+1,by omega,by simpa using z2⟩
   ·rintro (z | ⟨j,z1,z2⟩)
    ·exact .inl (.inl z)
    ·cases j with
     | zero=>exact .inl (.inr ⟨by omega,by simpa using z2⟩)
     | succ j=>exact .inr ⟨j,by omega,by simpa using z2⟩
theorem ziG:∀{e:Int} {sp:List (Nat×Nat)},Gap e sp→sp.length≤(exN sp).length
 | _,[],_=>Nat.zero_le _
 | e,(s,l) :: r,⟨g1,g2,g3,g4⟩=>by
   have ih:=ziG g4
   have e1:(exN ((s,l) :: r)).length=l+(exN r).length:=by unfold exN; simp
   rw[e1]
   simp only[List.length_cons]
   have g2' : 1≤l:=g2
   omega
theorem zyG {el:TypeId} {h:AH} {b s:Nat} {cs:List Value} {e:TypeId} {ro:Bool} {N:List Nat} {acc:List (Nat×Nat)} (h1:h.get b=some (.cells cs e ro)) (h2:zsU (cs.take 1024) s 0 []=some N) (h3:1024≤cs.length) (h4:b < h.next) (h5:zbU (zcO N) 0 []=some acc):
 znv el [.pointer (some ⟨b,0,none⟩),.int .u8 (.ofNat s)] h=some (zaD el acc h.tr (h.next+2 * N.length+1)):=by
 unfold znv
 simp only[h1,List.drop_zero,h2,h5]
 have q1:Nat.ble (0+1024) cs.length=true:=Nat.ble_eq_true_of_le (by omega)
 have q2:Nat.blt b h.next=true:=by rw[Nat.blt_eq]; exact h4
 rw[q1,q2]
 rfl
def zhe (h:AH) (v:Value) (f:Nat→Prop):Prop:=∃p n c sp,v=.slice p n c∧(p=none∨∃b off,p=some ⟨b,off,none⟩)∧zaq h p n 2 (spC sp)∧Gap (-1) sp∧n≤1000000∧∀x,x∈exN sp↔f x
theorem zni (el:TypeId) {h:AH} {N:List Nat} {n:Nat} (hn:h.next≤n) (hlt:∀x∈N,x < 4096):∃acc,zbU (zcO N) 0 []=some acc∧zhe (zaD el acc h.tr n).2 (zaD el acc h.tr n).1 (fun x=>x∈N)∧(h.tr=h.tr→h.next≤(zaD el acc h.tr n).2.next∧∀c,c < h.next→(zaD el acc h.tr n).2.get c=h.get c):=by
 obtain⟨acc,h1,h2,h3⟩:=zes N.contains 4096 0 [] (Nat.le_refl _) trivial (fun q r e=>by cases e)
 have hg:=zoV h2
 have hl:=ziG hg
 rw[h3] at hl
 have hl2:acc.length≤4096:=by
  have q:=List.length_filter_le N.contains (List.range' 0 4096)
  simp only[List.length_reverse,List.length_range'] at hl q
  have e0:exN ([]:List (Nat×Nat)).reverse=[]:=rfl
  rw[e0,List.nil_append] at hl
  omega
 have hm:∀x,x∈exN acc.reverse↔x∈N:=fun x=>by
  rw[h3]
  have e0:exN ([]:List (Nat×Nat)).reverse=[]:=rfl
  rw[e0,List.nil_append,List.mem_filter,List.mem_range'_1]
  simp only[List.contains_eq_mem,decide_eq_true_eq]
  exact⟨fun z=>z.2,fun z=>⟨by have:=hlt x z; omega,z⟩⟩
 refine⟨acc,by unfold zcO; rw[List.range_eq_range']; exact h1,?_,?_⟩
 ·cases acc with
  | nil=>exact⟨none,0,0,[],rfl,.inl rfl,⟨rfl,.inl rfl⟩,trivial,by decide,hm⟩
  | cons q r=>
    refine⟨_,_,_,(q :: r).reverse,rfl,.inr ⟨_,0,rfl⟩,⟨by rw[zb1,List.length_reverse]; rfl,.inr ⟨_,0,zeV (q :: r),el,false,rfl,?_,?_,?_,?_⟩⟩,hg,by simp only[List.length_cons] at hl2; omega,hm⟩
    ·show n+2 * r.length+1 < n+2 * r.length+2; omega
    ·show Tr.get (Tr.set _ _ _) _=_
     rw[Tr.get_set,if_pos rfl]
    ·rw[zcT]; simp only[List.length_cons]; omega
    ·rw[List.drop_zero,zlo,List.take_of_length_le]
     rw[zb1,List.length_reverse]; simp only[List.length_cons]; omega
 ·intro _
  cases acc with
  | nil=>exact⟨hn,fun c hc=>rfl⟩
  | cons q r=>
    refine⟨by show h.next≤n+2 * r.length+2; omega,fun c hc=>?_⟩
    show Tr.get (Tr.set _ _ _) _=Tr.get _ _
    rw[Tr.get_set,if_neg (by omega)]
def zCD (h:AH) (v:Value):Prop:=∀p n c,v=.slice p n c→∀a,p=some a→h.next≤a.block
theorem zrn (el:TypeId) {h:AH} {acc:List (Nat×Nat)} {n:Nat} (hn:h.next≤n):zCD h (zaD el acc h.tr n).1:=by
 intro p k c e a ea
 subst ea
 cases acc with
 | nil=>cases e
 | cons q r=>
   cases e
   show h.next≤n+2 * r.length+1
   omega
section
variable {K:Xs} {h:AH} {b:Nat} {M:List Nat}
theorem ztP (ha:K 33=some (.sum (znv 90))) (m:ze3 h b M) (s:Nat):
 Wf Tryz.prog K 33 [.pointer (some ⟨b,0,none⟩),.int .u8 s] h fun v h'=>zhe h' v (fun x=>M[x]?= some s)∧Old h h'∧zCD h v:=by
 obtain⟨N,h1,h2⟩:=zp9 s M 0 []
 have hl:=m.1
 have h3:∀x,x∈N↔M[x]?= some s:=fun x=>by
  rw[h2 x]
  exact⟨fun z=>z.elim (fun y=>by simp at y) (fun ⟨j,e,q⟩=>by rw[show x=j by omega]; exact q),fun z=>.inr ⟨x,by omega,z⟩⟩
 have hlt:∀x∈N,x < 4096:=fun x hx=>by
  have:=(List.getElem?_eq_some_iff.1 ((h3 x).1 hx)).1
  omega
 obtain⟨acc,k1,k2,k3⟩:=zni 90 (h:=h) (N:=N) (n:=h.next+2 * N.length+1) (by omega) hlt
 have hx:znv 90 [.pointer (some ⟨b,0,none⟩),.int .u8 (.ofNat s)] h=some (zaD 90 acc h.tr (h.next+2 * N.length+1)):=
  zyG m.2.2 (by unfold zfP; rw[List.take_append_of_le_length (by rw[zam]; omega),List.take_of_length_le (by rw[zam]; omega)]; exact h1) (by rw[zdw]; omega) m.2.1 k1
 refine zdS ha (v:=(zaD 90 acc h.tr (h.next+2 * N.length+1)).1) (h':=(zaD 90 acc h.tr (h.next+2 * N.length+1)).2) hx (k3 rfl).1 ⟨?_,k3 rfl,zrn _ (by omega)⟩
 obtain⟨p,n,c,sp,q1,q2,q3,q4,q5,q6⟩:=k2
 exact⟨p,n,c,sp,q1,q2,q3,q4,q5,fun x=>(q6 x).trans (h3 x)⟩
theorem zAs (ha:K 33=some (.sum (znv 90))) (m:ze3 h b M) (s:Nat):
 Wf Tryz.prog K 33 [.pointer (some ⟨b,0,none⟩),.int .u8 s] h fun v h'=>zhe h' v (fun x=>M[x]?= some s)∧Old h h':=(ztP ha m s).mono fun _ _ q=>⟨q.1,q.2.1⟩
end
section
variable {K:Xs} {h:AH} {p:Nat} {F:List Nat} {d m:Nat} {Fd:List Nat} {W:Nat} {nw:List (List Nat)} {M:List Nat} {st ba:Int}
theorem zhy (hk:K 10=none) (ha:K 33=some (.sum (znv 90))) (B:ze3 h m M):
 Wf Tryz.prog K 10 [.pointer (some ⟨m,0,none⟩)] h fun v h'=>zhe h' v (fun x=>M[x]?= some 2)∧Old h h':=by
 refine zdi hk _ h _ ((zAs ha B 2).mono ?_)
 rintro v g ⟨⟨p,n,c,sp,rfl,q⟩,o⟩
 exact⟨p,n,c,rfl,⟨p,n,c,sp,rfl,q⟩,o⟩
theorem ztQ (hk:K 10=none) (ha:K 33=some (.sum (znv 90))) (B:ze3 h m M):
 Wf Tryz.prog K 10 [.pointer (some ⟨m,0,none⟩)] h fun v h'=>zhe h' v (fun x=>M[x]?= some 2)∧Old h h'∧zCD h v:=by
 refine zdi hk _ h _ ((ztP ha B 2).mono ?_)
 rintro v g ⟨⟨p,n,c,sp,rfl,q⟩,o,w⟩
 exact⟨p,n,c,rfl,⟨p,n,c,sp,rfl,q⟩,o,w⟩
theorem ztR (hk:K 117=none) (kT:K 10=none) (kA:K 33=some (.sum (znv 90))) (kH:K 146=none) (kE:K 111=none) (kE1:K 143=none) (kR:K 140=none) (kS:K 161=none)
 (hw0:K 40=none) (hW:K 59=none) (h1:K 83=none) (h2:K 84=none) (h3:K 85=none) (hS:K 60=none) (hM:K 86=some (.sum zdF))
 (B:za2 h p F d m Fd W nw M st ba) (hw:W < 100000) (i:Nat) {pp:Option Addr} {n c:Nat} {data:List Nat} (hd:zaq h pp n 1 (zav .u8 data)) (hpp:pp=none∨∃b off,pp=some ⟨b,off,none⟩) (hb:∀x∈data,x < 256):
 Wf Tryz.prog K 117 [.pointer (some ⟨p,0,none⟩),.int .i64 i,.slice pp n c] h fun v h'=>
  (128 < data.length∧v=.tuple #[.agg #[.int .i64 0,.int .u64 0,.int .u32 0],.int .i64 92]∧za2 h' p F d m Fd W nw M st ba∧Fr F h h' F)∨
  (data.length≤128∧M[i]?= some 2∧v=.tuple #[.agg #[.int .i64 i,.int .u64 st,.int .u32 (zbk (zaM data):Nat)],.int .i64 0]∧
    ∃Fd',za2 h' p (p :: m :: Fd') d m Fd' (W+1) (nw.set i (zaM data)) M st ba∧Fr F h h' (p :: m :: Fd'))∨
  (data.length≤128∧M[i]?≠some 2∧v=.tuple #[.agg #[.int .i64 0,.int .u64 0,.int .u32 0],.int .i64 72]∧za2 h' p F d m Fd W nw M st ba∧Fr F h h' F):=by
 have hnd:n=data.length:=by have:=hd.1; rw[zam] at this; omega
 refine zfB hk _ _ _ _ _ h _ fun g0 e0=>?_
 have o0:Old h g0:=zaa e0
 have n0:g0.next=h.next+1:=zab e0
 have B0:=B.old o0
 have hF:=B.mem_lt
 have nFh:h.next∉F:=fun q=>absurd (hF _ q) (by omega)
 have ch:g0.get h.next=some (.cells [.int .i64 0,.int .u64 0,.int .u32 0] 42 false):=zac e0
 have f0:Fr F h g0 F:=o0.fr F
 refine⟨fun q=>⟨rfl,_,zaB ch rfl,_,_,_,zao (zag _ _ _) rfl,.inl ⟨by omega,rfl,B0.nearN (zaj _ _ _) nFh,f0.near_new (zaj _ _ _) (Nat.le_refl _)⟩⟩,fun q=>?_⟩
 have hl:data.length≤128:=by omega
 refine zae ⟨_,zah B0.cell rfl,(zhy kT kA B0.map).mono ?_⟩
 rintro v g9 ⟨⟨p9,n9,c9,sp,rfl, -,z2,z3,z4,z5⟩,o9⟩
 refine⟨_,_,_,rfl,(zyF kH kE kE1 kR kS z2 z3 z4 i).mono ?_⟩
 rintro _ g14 ⟨rfl,o14⟩
 have o:=(o0.trans o9).trans o14
 have l9:=o9.1
 have l14:=o14.1
 have c14:g14.get h.next=_:=(o14.2 _ (by omega)).trans ((o9.2 _ (by omega)).trans ch)
 have B14:=B.old o
 by_cases hx:i∈exN sp
 ·have hM2:=(z5 i).1 hx
  have hiN:=(B.within i 2 hM2 (by decide)).2
  refine .inl ⟨by simp[hx],(zna hw0 hW h1 h2 h3 hS hM B14 hw hiN (hd.old o) hpp hl hb).mono ?_⟩
  rintro v g16 ⟨rfl,Fd',B16,f16⟩
  have c16:g16.get h.next=_:=(f16.2.1 _ (by omega) nFh).trans c14
  have nF16:h.next∉(p :: m :: Fd'):=fun q2=>(f16.2.2 _ q2).elim nFh (fun z=>by omega)
  exact⟨_,_,_,_,rfl,rfl,_,zaB c16 rfl,_,_,_,zao (zag _ _ _) rfl,.inr (.inl ⟨hl,hM2,rfl,Fd',B16.nearN (zaj _ _ _) nF16,((o.fr F).trans f16).near_new (zaj _ _ _) (Nat.le_refl _)⟩)⟩
 ·exact .inr ⟨by simp[hx],rfl,_,zaB c14 rfl,_,_,_,zao (zag _ _ _) rfl,.inr (.inr ⟨hl,fun z=>hx ((z5 i).2 z),rfl,B14.nearN (zaj _ _ _) nFh,(o.fr F).near_new (zaj _ _ _) (Nat.le_refl _)⟩)⟩
end
end Go.Am
