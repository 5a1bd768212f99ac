/-
  Texts of this proof, part 35. No condition.
-/
import Derived.Test.YtmnbboleclchcaaGreatFTcG
set_option linter.unusedVariables false
set_option linter.unusedSimpArgs false
namespace Go.Am
open Go.Proofs
def spC (sp:List (Nat×Nat)):List Value:=(sp.map λq=>[Value.int .i64 q.1,Value.int .i64 q.2]).flatten
def exN (sp:List (Nat×Nat)):List Nat:=(sp.map λq=>List.range' q.1 q.2).flatten
def Gap:Int->List (Nat×Nat)->Prop
 | _,[]=>True
 | e,(s,l) :: r=>e < s/\1<=l/\s+l<=4096/\Gap (s+l:Nat) r
theorem Gap.at:∀{e:Int} {sp:List (Nat×Nat)},Gap e sp->∀(i:Nat) (hi:i < sp.length),1<=sp[i].2/\sp[i].1+sp[i].2<=4096
 | _,(s,l) :: r,g,0,_=>⟨g.2.1,g.2.2.1⟩
 | _,(s,l) :: r,g,i+1,hi=>g.2.2.2.at i (by grind)
theorem zsx (sp:List (Nat×Nat)):(spC sp).length=sp.length * 2:=by induction sp<;>grind[spC]
theorem zkR:∀(sp:List (Nat×Nat)) (i:Nat) (hi:i < sp.length),((spC sp).drop (i * 2)).take 2=[.int .i64 (sp[i].1:Nat),.int .i64 (sp[i].2:Nat)]
 | [],i,hi=>by grind
 | q :: r,0,hi=>rfl
 | q :: r,i+1,hi=>by
   have e:spC (q :: r)=[.int .i64 (q.1:Nat),.int .i64 (q.2:Nat)] ++ spC r:=rfl
   rw[e,show (i+1) * 2=2+i * 2 by omega,QO]
   simp only[QF,List.length_nil]
   rw[QI (by simp),QU,show 2+i * 2 - (0+1+1)=i * 2 by omega]
   exact zkR r i (by grind)
def pre (sp:List (Nat×Nat)) (j:Nat):Nat:=(exN (sp.take j)).length
theorem zuw (sp:List (Nat×Nat)):pre sp 0=0:=rfl
theorem zo0 (sp:List (Nat×Nat)) {j:Nat} (hj:j < sp.length):pre sp (j+1)=pre sp j+sp[j].2:=by grind[pre,exN,Qv]
theorem zsy (sp:List (Nat×Nat)):pre sp sp.length=(exN sp).length:=by grind[pre]
theorem zzN (sp:List (Nat×Nat)) {j t:Nat} (hj:j < sp.length) (ht:t < sp[j].2):(exN sp)[pre sp j+t]?= some (sp[j].1+t):=by
 have e0:sp=sp.take j ++ sp[j] :: sp.drop (j+1):=by simp
 grind[exN,pre]
theorem zve:∀{e:Int} {sp:List (Nat×Nat)},Gap e sp->∀x∈exN sp,e < x
 | e,(s,l) :: r,g,x,hx=>by
   obtain⟨g1,g2,g3,g4⟩:=g
   unfold exN at hx
   simp only[QD,List.flatten_cons,QE,List.mem_range'_1] at hx
   rcases hx with hx | hx
   ·omega
   ·have:=zve g4 x hx
    omega
theorem zsz:∀{e:Int} {sp:List (Nat×Nat)},Gap e sp->(exN sp).Pairwise (· < ·)
 | _,[],_=>by simp[exN]
 | e,(s,l) :: r,g=>by
   obtain⟨g1,g2,g3,g4⟩:=g
   have e1:exN ((s,l) :: r)=List.range' s l ++ exN r:=rfl
   rw[e1,List.pairwise_append]
   refine⟨List.pairwise_lt_range',zsz g4,λx hx y hy=>?_⟩
   rw[List.mem_range'_1] at hx
   have:=zve g4 y hy
   omega
section
variable {K:Xs} {h:AH}
theorem zqg (hk:K 241=none) {s l:Nat} (h1:1<=l) (h2:s+l<=4096):Wf Tryz.prog K 241 [.agg #[.int .i64 s,.int .i64 l]] h λv h'=>v=.bool true/\Old h h':=by
 refine zeP hk _ _ h _ λg0 e0=>⟨_,zah (zae e0) rfl,λ_=>⟨_,zah (zae e0) rfl,λ_=>⟨_,zah (zae e0) rfl,λ_=>⟨_,zah (zae e0) rfl,_,zah (zae e0) rfl,λi e=>?_⟩,by omega⟩,by omega⟩,by omega⟩
 have e:=zaR e (by omega) (by omega)
 grind[zab]
theorem zsA (hk:K 214=none) (h1:K 241=none) {p:Option Addr} {n c:Nat} {sp:List (Nat×Nat)} (hs:zaF h p n 2 (spC sp)) (hg:Gap (-1) sp) (hn:n<=1000000):
 Wf Tryz.prog K 214 [.slice p n c] h λv h'=>v=.bool true/\Old h h':=by
 have hl:n=sp.length:=by have:=hs.1; grind[zsx]
 refine zfM hk _ _ _ h _ ⟨λe i k g=>∃j:Nat,i=j/\j<=n/\n - j=k/\Old h g/\Gap e (sp.drop j)/\(e= -1\/0<=e/\e<=4096),⟨n,0,rfl,Qf _,rfl,Old.refl _,hg,.inl rfl⟩,?_⟩
 rintro k g e i ⟨j,rfl,hj,rfl,o,hgj,he⟩
 refine⟨λq=>?_,by grind⟩
 have hjn:j < n:=by omega
 have hjl:j < sp.length:=by omega
 obtain⟨b,off,rfl,hld, -⟩:=(hs.old o).getN hjn
 rw[zkR sp j hjl] at hld
 rw[Q0 hjl] at hgj
 generalize sp[j]=q at hld hgj
 obtain⟨s,l⟩:=q
 obtain⟨g1,g2,g3,g4⟩:=hgj
 refine zaa ⟨by omega,q,_,_,hld,λg10 e10=>⟨rfl,_,zaX (zae e10) rfl,_,_,by grind[zaz,zaf],(zqg h1 g2 g3).mono ?_⟩⟩
 rintro _ g15 ⟨rfl,o15⟩
 have o10:=zab e10
 have k11:=zam g.next g10 (.cells [.int .i64 s,.int .i64 l] 294 false)
 have o11:Old g (g10.set g.next (.cells [.int .i64 s,.int .i64 l] 294 false)):=⟨by simp_all,λc hc=>by rw[k11.2 c (by omega),o10.2 c hc]⟩
 have c15:g15.get g.next=some (.cells [.int .i64 s,.int .i64 l] 294 false):=(o15.2 _ (by simp_all)).trans (by simp)
 refine .inl ⟨rfl,_,zah c15 rfl,by omega,λ_=>⟨_,zah c15 rfl,_,zah c15 rfl,λi19 e19 i20 e20=>?_⟩⟩
 have e19:=zaR e19 (by omega) (by omega)
 have e20:=zaR e20 (by omega) (by omega)
 exact⟨n - (j+1),by omega,j+1,by omega,hjn,rfl,(by grind[Old.trans]),by grind,.inr (by omega)⟩
theorem Wy.mono' {P:Program} {l:Nat} {args:List Value} {Q Q' : Value->AH->Prop} (w:Wy P K l args h Q) (f:∀v h',Q v h'->Q' v h'):Wy P K l args h Q':=by
 obtain⟨n,v,h',e,q⟩:=w
 exact⟨n,v,h',e,f v h' q⟩
theorem zux (hk:K 232=none) (kR:K 214=none) (kS:K 241=none) {p:Option Addr} {n c:Nat} {sp:List (Nat×Nat)} (hg:Gap (-1) sp) (hn:n<=1000000) {ya pb lim:Nat} {JJ:Nat->AH->Prop} {DD:AH->Prop} {B:AH->AH->Prop}
 (hJ:∀i h1 h2,JJ i h1->Old h1 h2->JJ i h2) (hs:∀i h1,JJ i h1->(∃t ro,h1.get pb=some (.cells [.slice p n c] t ro))/\zaF h1 p n 2 (spC sp)/\lim<=h1.next)
 (hB:∀h1 h2,B h1 h2->h1.next<=h2.next/\∀c,lim<=c->c < h1.next->h2.get c=h1.get c)
 (hr:∀(k:Nat) (h1:AH),k < (exN sp).length->JJ k h1->∀x,(exN sp)[k]?= some x->Wy Tryz.prog K ya [.int .i64 (x:Nat)] h1 λv h2=>((v=.bool true/\JJ (k+1) h2)\/(v=.bool false/\DD h2))/\B h1 h2)
 (h0:JJ 0 h):Wf Tryz.prog K 232 [Value.func (Fn.yield ya) #[] #[],.pointer (some ⟨pb,0,none⟩)] h λ_ h'=>JJ (exN sp).length h'\/DD h':=by
 obtain⟨⟨t0,ro0,c0⟩,s0, -⟩:=hs 0 h h0
 have hl:n=sp.length:=by have:=s0.1; grind[zsx]
 refine zeM hk _ _ h _ (zaa ⟨p,n,c,zah c0 rfl,(zsA kR kS s0 hg hn).mono ?_⟩)
 rintro _ g6 ⟨rfl,o6⟩
 have J6:=hJ _ _ _ h0 o6
 obtain⟨⟨t6,ro6,c6⟩,s6, -⟩:=hs 0 g6 J6
 refine .inl ⟨rfl,zaa ⟨p,n,c,zah c6 rfl,λi k g=>∃j:Nat,i=j/\j<=n/\n - j=k/\JJ (pre sp j) g,⟨n,0,rfl,Qf _,rfl,by grind[zuw]⟩,?_⟩⟩
 rintro k13 g14 i16 ⟨j,rfl,hj,rfl,J14⟩
 refine⟨λq=>?_,λq=>?_⟩
 ·have hjn:j < n:=by omega
  have hjl:j < sp.length:=by omega
  obtain⟨-,s14,l14⟩:=hs _ g14 J14
  obtain⟨b,off,rfl,hld, -⟩:=s14.getN hjn
  rw[zkR sp j hjl] at hld
  have hat:=λt (ht:t < sp[j].2)=>zzN sp hjl ht
  have hsucc:=zo0 sp hjl
  have hgj:=hg.at j hjl
  generalize sp[j]=qq at hld hat hsucc hgj
  obtain⟨s,l⟩:=qq
  refine zaa ⟨by omega,q,_,_,hld,λg21 e21=>⟨rfl,_,zaX (zae e21) rfl,l,by grind[zah,zaf],?_⟩⟩
  have o21:=zab e21
  have k22:=zam g14.next g21 (.cells [.int .i64 s,.int .i64 l] 294 false)
  have o22:Old g14 (g21.set g14.next (.cells [.int .i64 s,.int .i64 l] 294 false)):=⟨by simp_all,λc hc=>by rw[k22.2 c (by omega),o21.2 c hc]⟩
  refine⟨λi k g=>∃t:Nat,i=t/\t<=l/\l - t=k/\JJ (pre sp j+t) g/\g14.next < g.next/\g.get g14.next=some (.cells [.int .i64 s,.int .i64 l] 294 false),
   ⟨l,0,rfl,Qf _,rfl,hJ _ _ _ J14 o22,by simp_all,zaf _ _ _⟩,?_⟩
  rintro k25 g26 i28 ⟨t,rfl,ht,rfl,J26,l26,c26⟩
  refine⟨λq2=>⟨_,zah c26 rfl,λi30 e30=>?_⟩,λq2 i35 e35=>?_⟩
  ·have e30:=zaR e30 (by omega) (by omega)
   have htl:t < l:=by omega
   have hx:=hat t htl
   have hlt:=(Qo.1 hx).1
   subst e30
   have hw:=hr _ g26 hlt J26 _ hx
   refine hw.mono' ?_
   rintro v g32 ⟨⟨rfl,J32⟩ | ⟨rfl,D32⟩,hb⟩
   ·refine⟨true,rfl,λi34 e34=>?_⟩
    have e34:=zaR e34 (by omega) (by omega)
    obtain⟨b1,b2⟩:=hB _ _ hb
    exact⟨l - (t+1),by omega,t+1,by omega,htl,rfl,J32,by omega,(by grind)⟩
   grind
  ·have e35:=zaR e35 (by omega) (by omega)
   have htl:t=l:=by omega
   exact⟨n - (j+1),by omega,j+1,by omega,hjn,rfl,by grind⟩
 grind[zsy]
theorem zaS {l:Nat} {h:AH}:∀c,c≠l->(h.del l).get c=h.get c:=by grind[AH.get_del]
end
set_option maxRecDepth 100000
def spI (l:List (Int×Int)):List Value:=(l.map λq=>[Value.int .i64 q.1,Value.int .i64 q.2]).flatten
def inP (q:Int×Int):Prop:=InR .i64 q.1/\InR .i64 q.2
def ztj (q:Int×Int):Prop:=0<=q.1/\q.1 < 4096/\1<=q.2/\q.1+q.2<=4096
def GapI:Int->List (Int×Int)->Prop
 | _,[]=>True
 | e,q :: r=>e < q.1/\ztj q/\GapI (q.1+q.2) r
theorem zwI {h:AH} {q:Int×Int} (hq:inP q):Wf Tryz.prog KB 241 [.agg #[.int .i64 q.1,.int .i64 q.2]] h λv h'=>Old h h'/\(v=.bool true/\ztj q\/v=.bool false/\¬ztj q):=by
 obtain⟨⟨a1,a2⟩,b1,b2⟩:=hq
 refine zeP (xb rfl) _ _ h _ λg0 e0=>?_
 have o:=zab e0
 have w:=zae e0
 have no:¬ztj q->(Old h g0/\(Value.bool false=.bool true/\ztj q\/Value.bool false=.bool false/\¬ztj q)):=by grind
 refine⟨_,zah w rfl,λz1=>⟨_,zah w rfl,λz2=>⟨_,zah w rfl,λz3=>⟨_,zah w rfl,_,zah w rfl,λi e=>?_⟩,λz=>no ?_⟩,λz=>no ?_⟩,λz=>no ?_⟩
 ·have e:=zaR e (by omega) (by omega)
  grind[ztj]
 all_goals grind[ztj]
theorem zsB {h:AH} {p:Option Addr} {n c:Nat} {l:List (Int×Int)} (hs:zaF h p n 2 (spI l)) (hl:l.length=n) (hi:∀q∈l,inP q) (hn:n<=281474976710656):
 Wf Tryz.prog KB 214 [.slice p n c] h λv h'=>Old h h'/\(v=.bool true/\GapI (-1) l\/v=.bool false/\¬GapI (-1) l):=by
 have get:∀{j:Nat} {g:AH} (hj:j < l.length),Old h g->∃b off,p=some ⟨b,off,none⟩/\ldN g b (off+j * 2) 2=some [.int .i64 l[j].1,.int .i64 l[j].2]:=λ{j g} hj o=>by
  obtain⟨b,off,e1,e2, -⟩:=(hs.old o).getN (i:=j) (by omega)
  have:∀(l:List (Int×Int)) (j:Nat) (hj:j < l.length),((spI l).drop (j * 2)).take 2=[.int .i64 l[j].1,.int .i64 l[j].2]:=by
   intro l
   induction l with
   | nil=>simp
   | cons q l ih=>
     intro j hj
     cases j<;>grind[spI]
  grind
 refine zfM (xb rfl) _ _ _ h _ ⟨λe i k g=>∃j:Nat,i=j/\j<=n/\n - j=k/\Old h g/\(GapI (-1) l↔GapI e (l.drop j))/\-1<=e/\e<=4096,⟨n,0,rfl,Qf _,rfl,Old.refl _,Iff.rfl,by omega,by omega⟩,?_⟩
 rintro k g e i ⟨j,rfl,hj,rfl,o,hgj,he,he2⟩
 refine⟨λq=>?_,λq=>⟨o,.inl ⟨rfl,hgj.2 (by rw[QI (by omega)]; trivial)⟩⟩⟩
 have hjl:j < l.length:=by omega
 obtain⟨b,off,rfl,hld⟩:=get hjl o
 rw[Q0 hjl] at hgj
 have hq:=hi _ (Qj hjl)
 generalize l[j]=q0 at hld hgj hq
 obtain⟨s,m⟩:=q0
 refine zaa ⟨by omega,q,_,_,hld,λg10 e10=>⟨rfl,_,zaX (zae e10) rfl,_,_,by grind[zaz,zaf],(zwI hq).mono ?_⟩⟩
 rintro v g15 ⟨o15,hv⟩
 have o10:=zab e10
 have k11:=zam g.next g10 (.cells [.int .i64 s,.int .i64 m] 294 false)
 have o11:Old g (g10.set g.next (.cells [.int .i64 s,.int .i64 m] 294 false)):=⟨by simp_all,λc hc=>by rw[k11.2 c (by omega),o10.2 c hc]⟩
 have c15:g15.get g.next=some (.cells [.int .i64 s,.int .i64 m] 294 false):=(o15.2 _ (by simp_all)).trans (by simp)
 have oo:=(o.trans o11).trans o15
 rcases hv with ⟨rfl,h1⟩ | ⟨rfl,h1⟩
 ·unfold ztj at h1
  refine .inl ⟨rfl,_,zah c15 rfl,λz=>⟨oo,.inr ⟨rfl,λk=>?_⟩⟩,λz=>⟨_,zah c15 rfl,_,zah c15 rfl,λi19 e19 i20 e20=>?_⟩⟩
  ·have:=(hgj.1 k).1
   omega
  ·have e19:=zaR e19 (by omega) (by omega)
   have e20:=zaR e20 (by omega) (by omega)
   refine⟨n - (j+1),by omega,j+1,by omega,by omega,rfl,oo,?_,by omega,by omega⟩
   rw[hgj,e19]
   exact⟨λk=>k.2.2,λk=>⟨by omega,h1,k⟩⟩
 ·exact .inr ⟨rfl,oo,.inr ⟨rfl,λk=>h1 (hgj.1 k).2.1⟩⟩
theorem zDh:Vl 230 zAL:=za0 λρ g Q H S hp vs hw hg=>by
 obtain⟨⟨(bb:Bool),(a:Int),(b:Int),_⟩,_⟩:=ρ
 obtain⟨x,rfl,gx⟩:=zhe (a:=.agg [.bool bb,.int .i64 a,.int .i64 b]) hg
 obtain⟨vs,rfl,gv, -⟩:=gx
 match vs,gv with
 | [v1,v2,v3],gv=>
   obtain⟨rfl,⟨rfl,ia⟩,⟨rfl,ib⟩, -⟩:=gv
   refine zkJ (xb rfl) _ _ _ _ _ λh0 e0=>⟨a,b,by rw[zjB (zae e0) (by simp)]; rfl,λh3 e3=>?_⟩
   have o3:=(zab e0).trans (zab e3)
   have S3:zaF h3 (some ⟨h0.next,0,none⟩) 1 2 (spI [(a,b)]):=⟨rfl,.inr ⟨h0.next,0,_,294,false,rfl,by grind[zad],zae e3,by simp,rfl⟩⟩
   refine (zsB S3 rfl (λq hq=>by rw[QC.1 hq]; exact⟨ia,ib⟩) (by omega)).mono ?_
   rintro v h5 ⟨o5,⟨rfl,k⟩ | ⟨rfl, -⟩⟩
   ·exact .inl ⟨rfl,za7 hw (o3.trans o5) (zim _) rfl (H.1 k.2.1.1 k.2.1.2.2.1 k.2.1.2.2.2)⟩
   ·exact .inr ⟨rfl,za7 hw (o3.trans o5) (zim _) rfl H.2⟩
 | [],gv=>grind[gams]
 | [_],gv=>grind[gams]
 | [_,_],gv=>grind[gams]
 | _ :: _ :: _ :: _ :: _,gv=>grind[gams]
def natP (l:List (Int×Int)):List (Nat×Nat):=l.map λq=>(q.1.toNat,q.2.toNat)
theorem ziM:∀{e:Int} {l:List (Int×Int)},GapI e l->spI l=spC (natP l)/\Gap e (natP l)
 | _,[],_=>⟨rfl,trivial⟩
 | e,(a,b) :: r,⟨h1,h2,h3⟩=>by
   obtain⟨e1,e2⟩:=ziM h3
   unfold ztj at h2
   obtain⟨x,rfl⟩:=Jj h2.1
   obtain⟨y,rfl⟩:=Jj (a:=b) (by omega)
   exact⟨by show _ :: _ :: spI r=_; rw[e1]; rfl,h1,by omega,by omega,e2⟩
open Classical in
noncomputable def exI (l:List (Int×Int)):List Nat:=if GapI (-1) l then exN (natP l) else []
theorem zzO {e:Int} {sp:List (Nat×Nat)} (g:Gap e sp):∀x∈exN sp,x < 4096:=by grind[exN,Q9,Gap.at]
theorem zo1 (l:List (Int×Int)):∀x∈exI l,x < 4096:=λx hx=>by
 unfold exI at hx
 split at hx
 ·rename_i h
  exact zzO (ziM h).2 x hx
 grind
theorem zuy (l:List (Int×Int)):(exI l).Pairwise (· < ·):=by
 unfold exI
 split
 ·rename_i h
  exact zsz (ziM h).2
 simp
theorem znZ (l:List (Int×Int)):(exI l).length<=4096:=by
 have h1:=zuy l
 have h2:=zo1 l
 have:(exI l).Nodup:=by grind[List.Pairwise.imp]
 have:=List.Nodup.length_le_of_subset (l₂:=List.range 4096) this λx hx=>List.mem_range.2 (h2 x hx)
 grind
theorem zzP {h:AH} {p:Option Addr} {n c:Nat} {l:List (Int×Int)} (hl:l.length=n) (hi:∀q∈l,inP q) (hn:n<=281474976710656) {ya pb lim:Nat} {JJ:Nat->AH->Prop} {DD:AH->Prop} {B:AH->AH->Prop}
 (hJ:∀i h1 h2,JJ i h1->Old h1 h2->JJ i h2) (hs:∀i h1,JJ i h1->(∃t ro,h1.get pb=some (.cells [.slice p n c] t ro))/\zaF h1 p n 2 (spI l)/\lim<=h1.next)
 (hB:∀h1 h2,B h1 h2->h1.next<=h2.next/\∀c,lim<=c->c < h1.next->h2.get c=h1.get c)
 (hr:∀(k:Nat) (h1:AH),k < (exI l).length->JJ k h1->Wy Tryz.prog KB ya [.int .i64 ((exI l)[k]?.getD 0:Nat)] h1 λv h2=>((v=.bool true/\JJ (k+1) h2)\/(v=.bool false/\DD h2))/\B h1 h2)
 (h0:JJ 0 h):Wf Tryz.prog KB 232 [Value.func (Fn.yield ya) #[] #[],.pointer (some ⟨pb,0,none⟩)] h λ_ h'=>JJ (exI l).length h'\/DD h':=by
 rcases Classical.em (GapI (-1) l) with hg | hg
 ·have e:exI l=exN (natP l):=if_pos hg
  obtain⟨e1,e2⟩:=ziM hg
  rw[e] at hr ⊢
  have nl:n<=1000000:=by
   have h1:=znZ l
   have h2:∀{e:Int} {sp:List (Nat×Nat)},Gap e sp->sp.length<=(exN sp).length:=by
    intro e sp
    induction sp generalizing e with
    | nil=>simp
    | cons q r ih=>
      intro g
      have:=ih g.2.2.2
      have e3:exN (q :: r)=List.range' q.1 q.2 ++ exN r:=rfl
      have:=g.2.1
      grind
   grind[natP]
  exact zux (xb rfl) (xb rfl) (xb rfl) e2 nl hJ (λi h1 q=>by have:=hs i h1 q; rw[e1] at this; omega) hB (by grind) h0
 ·have e:exI l=[]:=if_neg hg
  obtain⟨⟨t0,ro0,c0⟩,s0, -⟩:=hs 0 h h0
  refine zeM (xb rfl) _ _ h _ (zaa ⟨p,n,c,zah c0 rfl,(zsB s0 hl hi hn).mono ?_⟩)
  grind
section
variable (h:AH) (own:Nat->Prop) (I:Nat->AH->Prop) (E:AX->AH->Prop)
def Fm (g:AH):Prop:=h.next < g.next/\∀c,c < h.next->¬own c->g.get c=h.get c
def Jr (i:Nat) (g:AH):Prop:=Fm h own g/\I i g
def Dr (x:AX) (g:AH):Prop:=Fm h own g/\E x g
def Gr (h1 h2:AH):Prop:=h.next < h1.next/\Old h1 h2
def Br (h1 h2:AH):Prop:=h1.next<=h2.next/\∀c,h.next < c->c < h1.next->h2.get c=h1.get c
def zqh (P:AH->Prop):Prop:=∀h1 h2,P h1->h1.next<=h2.next->(∀c,c≠h.next->c < h1.next->h2.get c=h1.get c)->P h2
variable {h own I E}
theorem Fm.keep {h1 h2:AH} (q:Fm h own h1) (hn:h1.next<=h2.next) (k:∀c,c≠h.next->c < h1.next->h2.get c=h1.get c):Fm h own h2:=⟨Qh q.1 hn,λc hc ho=>by rw[k c (by omega) (Nat.lt_trans hc q.1),q.2 c hc ho]⟩
theorem jr0 (hI:∀g,Fm h own g->(∀c,c≠h.next->g.get c=h.get c)->I 0 g):∀h1:AH,h1.next=h.next+1->(∀c,c≠h.next->h1.get c=h.get c)->Jr h own I 0 h1:=λh1 q1 q2=>by
 have f:Fm h own h1:=⟨by omega,by grind⟩
 exact⟨f,hI h1 f q2⟩
theorem jrN (hI:∀i,zqh h (I i)):∀i h1 h2,Jr h own I i h1->zaY h.next h1 h2->Jr h own I i h2:=λi h1 h2 q n=>⟨q.1.keep (Q1 n.1.symm) λc hc _=>n.2 c hc,hI i _ _ q.2 (Q1 n.1.symm) λc hc _=>n.2 c hc⟩
theorem drN (hE:∀x,zqh h (E x)):∀x h1 h2,Dr h own E x h1->zaY h.next h1 h2->Dr h own E x h2:=λi h1 h2 q n=>⟨q.1.keep (Q1 n.1.symm) λc hc _=>n.2 c hc,hE i _ _ q.2 (Q1 n.1.symm) λc hc _=>n.2 c hc⟩
theorem jrG (hI:∀i,zqh h (I i)):∀i h1 h2,Jr h own I i h1->Gr h h1 h2->Jr h own I i h2:=λi h1 h2 q n=>⟨q.1.keep n.2.1 λc _ hc=>n.2.2 c hc,hI i _ _ q.2 n.2.1 λc _ hc=>n.2.2 c hc⟩
theorem drG (hE:∀x,zqh h (E x)):∀x h1 h2,Dr h own E x h1->Gr h h1 h2->Dr h own E x h2:=λi h1 h2 q n=>⟨q.1.keep n.2.1 λc _ hc=>n.2.2 c hc,hE i _ _ q.2 n.2.1 λc _ hc=>n.2.2 c hc⟩
theorem gr1:∀h1 h2,Gr h h1 h2->h2.get h.next=h1.get h.next:=λh1 h2 q=>q.2.2 _ q.1
theorem zd9 {g11 g16:AH} (q:Fm h own g11) (nr:zaY h.next g11 g16) {b:Nat} (hb:b < h.next) (ho:own b) (o:zb3):
 (g16.set b o).get h.next=g16.get h.next/\Fm h own (g16.set b o)/\∀h5,zaY h.next (g16.set b o) h5->Br h g11 h5:=by
 have ns:=zam b g16 o
 refine⟨ns.2 _ (by omega),⟨by rw[ns.1,nr.1]; exact q.1,λc hc hno=>by rw[ns.2 c (by grind),nr.2 c (by omega),q.2 c hc hno]⟩,λh5 n5=>⟨by rw[n5.1,ns.1,nr.1]; omega,λc hc1 hc2=>by rw[n5.2 c (by omega),ns.2 c (by omega),nr.2 c (by omega)]⟩⟩
theorem zes {g11 g16:AH} (q:Fm h own g11) (nr:zaY h.next g11 g16):Fm h own g16/\∀h5,zaY h.next g16 h5->Br h g11 h5:=
 ⟨q.keep (Q1 nr.1.symm) λc hc _=>nr.2 c hc,λh5 n5=>⟨by rw[n5.1,nr.1]; omega,λc hc1 hc2=>by rw[n5.2 c (by omega),nr.2 c (by omega)]⟩⟩
theorem zkS {p:Option Addr} {n c:Nat} {l:List (Int×Int)} (hl:l.length=n) (hi:∀q∈l,inP q) (hn:n<=281474976710656) {pb:Nat} (hpb:pb < h.next) (hop:¬own pb) {t:TypeId} {ro:Bool} (hg:h.get pb=some (.cells [.slice p n c] t ro))
 (hs:∀g,Fm h own g->zaF g p n 2 (spI l)):
 ∀(JJ:Nat->AH->Prop) (DD:AH->Prop),(∀i h1,JJ i h1->Jr h own I i h1)->(∀i h1 h2,JJ i h1->Gr h h1 h2->JJ i h2)->(∀h1 h2,DD h1->Gr h h1 h2->DD h2)->
 (∀(k:Nat) (h1:AH),k < (exI l).length->JJ k h1->Wy Tryz.prog KB h.next [.int .i64 ((exI l)[k]?.getD 0:Nat)] h1 λv h2=>((v=.bool true/\JJ (k+1) h2)\/(v=.bool false/\DD h2))/\Br h h1 h2)->
 ∀h1:AH,JJ 0 h1->Wf Tryz.prog KB 232 ([(Value.func (Fn.yield h.next) #[] #[])] ++ [.pointer (some ⟨pb,0,none⟩)]) h1 λ_ h2=>JJ (exI l).length h2\/DD h2:=
 λJJ DD h1 h2 h3 hr h25 h0=>zzP (lim:=h.next+1) (B:=Br h) hl hi hn (λi a b q o=>h2 i a b q ⟨(h1 _ _ q).1.1,o⟩) (λi a q=>⟨⟨t,ro,((h1 _ _ q).1.2 pb hpb hop).trans hg⟩,hs _ (h1 _ _ q).1,(h1 _ _ q).1.1⟩) (λa b q=>⟨q.1,λc hc=>q.2 c hc⟩) hr h0
end
theorem zzQ:cx0.fl 294=[3,3]:=by kernel_rfl
theorem zx1:sz cx0 294=2:=by grind[sz,zzQ]
theorem ck3:ck cx0 3=.int .i64 (kLo .i64) (kHi .i64):=by rfl
theorem zhu {S:TY} {g:Int} {hp:AH} (w:WT cx0 S g hp) {base n:Nat} {wr fr kc:Bool} {v:Value} (s:SlV cx0 S base wr fr kc 294 n v):
 ∃p c l,v=.slice p n c/\(p=none\/∃b off ro e cc,p=some ⟨b,off,none⟩/\S.ty b=some (ro,e,cc)/\b < hp.next/\¬S.dv b/\(wr=true->ro=false))/\zaF hp p n 2 (spI l)/\l.length=n/\∀q∈l,inP q:=by
 obtain⟨p,c,cs,h1,h2,h3,h4⟩:=zkK w s (by grind[zx1])
 rw[zx1] at h3
 have h5:∀j,j < n->∃q:Int×Int,inP q/\cs[j * 2]?= some (.int .i64 q.1)/\cs[j * 2+1]?= some (.int .i64 q.2):=λj hj=>by
  obtain⟨x,e1,e2⟩:=h4 j hj 0 3 rfl
  obtain⟨y,e3,e4⟩:=h4 j hj 1 3 rfl
  unfold okC at e2 e4
  obtain⟨a,rfl,a1⟩:=e2
  obtain⟨b,rfl,b1⟩:=e4
  exact⟨(a,b),⟨a1,b1⟩,e1,e3⟩
 have:∃l:List (Int×Int),cs=spI l/\∀q∈l,inP q:=by
  have hl:=h3.1
  clear h1 h2 h3 h4 s
  induction n generalizing cs with
  | zero=>exact⟨[],List.length_eq_zero_iff.1 (by omega),by simp⟩
  | succ n ih=>
    obtain⟨q,q1,q2,q3⟩:=h5 0 (Nat.succ_pos _)
    match cs,hl,q2,q3 with
    | a :: b :: cs,hl,q2,q3=>
      obtain⟨l,e1,e2⟩:=ih cs (by grind) (by grind)
      simp only[Nat.zero_mul,List.getElem?_cons_zero,Qa,Qq,List.getElem?_cons_succ] at q2 q3
      exact⟨q :: l,by rw[e1,q2,q3]; rfl,by grind⟩
 obtain⟨l,rfl,q⟩:=this
 have:=h3.1
 have e:∀l:List (Int×Int),(spI l).length=l.length * 2:=by
  intro l
  induction l<;>grind[spI]
 grind
theorem zDi:Vl 218 zAH:=za0 λρ g Q H S hp vs hw hg=>by
 obtain⟨(n:Nat),(i:Int),_⟩:=ρ
 obtain⟨x,y,rfl,gx,gy⟩:=zd5 (a:=.sl false false false 294 n) (b:=.int .i64 i) hg
 obtain⟨rfl,gy⟩:=gy
 have hn:=gx.1
 obtain⟨p,c,l,rfl,hpp,hs,hl,hi⟩:=zhu hw gx
 obtain⟨hbig,H⟩:=H
 have nb:n<=281474976710656:=hn
 refine znT (xb rfl) _ _ _ _ hp _ λg0 e0 g1 e1=>zcW (xb rfl) _ _ _ g1 _ λg3 e3=>⟨232,[.pointer (some ⟨g1.next,0,none⟩)],rfl,?_⟩
 have o0:=zab e0
 have o1:=zab e1
 have o3:=zab e3
 have n0:=zad e0
 have n1:=zad e1
 have n3:=zad e3
 have c0:g3.get hp.next=some (.cells [.int .i64 i] 3 false):=by rw[o3.2 _ (by omega),o1.2 _ (by omega)]; grind[zae]
 have c1:g3.get g0.next=some (.cells [.bool false] 4 false):=by simp_all
 have c3:=zae e3
 have o03:Old hp g3:=(by grind[Old.trans])
 have fo:∀{g:AH},Fm g3 (·= g0.next) g->Old hp g:=λq=>⟨by have:=q.1; omega,λc hc=>by rw[q.2 c (by omega) (by omega),o03.2 c hc]⟩
 have fd:∀{g:AH},Fm g3 (·= g0.next) g->Old hp (g.del g3.next):=λq=>⟨(fo q).1,λc hc=>by rw[zaS _ (by omega),(fo q).2 c hc]⟩
 have bl:∀(b:Bool) (h' : AH),Old hp h'->Fin S g hp true Q (.bool b) h':=λb h' o=>za7 hw o (zim _) rfl (zcV (q:=λv=>Q v g) H b)
 have sI:∀i:Nat,zqh g3 ((λ_ g=>g.get g0.next=some (.cells [.bool false] 4 false)/\g0.next < g.next:Nat->AH->Prop) i):=λi h1 h2 q hn k=>by grind
 have sE:∀x:AX,zqh g3 ((λx g=>x=.ret/\(∃b:Bool,g.get g0.next=some (.cells [.bool b] 4 false))/\g0.next < g.next:AX->AH->Prop) x):=λx h1 h2 q hn k=>by grind
 refine⟨Jr g3 (·= g0.next) _,Dr g3 (·= g0.next) _,(exI l).length,λi=>[.int .i64 ((exI l)[i]?.getD 0:Nat)],Gr g3,Br g3,⟨rfl,rfl⟩,by simp,jr0 λg f k=>⟨(by grind),by have:=f.1; omega⟩,jrN sI,drN sE,jrG sI,drG sE,gr1,?_,?_,?_,?_,?_⟩
 ·rintro k g11 hk q - i14 ei
  refine⟨rfl,rfl,λg16 nr hL=>?_⟩
  have c16:g16.get hp.next=some (.cells [.int .i64 i] 3 false):=by rw[nr.2 _ (by omega),q.1.2 _ (by omega) (by omega)]; omega
  have d16:g16.get g0.next=some (.cells [.bool false] 4 false):=by rw[nr.2 _ (by omega)]; exact q.2.1
  have st:∀b:Bool,∃h19,st1 g16 g0.next 0 (.bool b)=some h19/\h19.get g3.next=g16.get g3.next/\Dr g3 (·= g0.next) (λx g=>x=.ret/\(∃b:Bool,g.get g0.next=some (.cells [.bool b] 4 false))/\g0.next < g.next) .ret h19/\∀h5,zaY g3.next h19 h5->Br g3 g11 h5:=λb=>by
   obtain⟨r1,r2,r3⟩:=zd9 q.1 nr (b:=g0.next) (by omega) rfl (.cells [.bool b] 4 false)
   exact⟨_,zaM d16 (by simp),r1,⟨r2,rfl,by simp,Nat.lt_trans (by omega) r2.1⟩,r3⟩
  obtain⟨r2,r3⟩:=zes q.1 nr
  exact⟨_,zah c16 rfl,λ_=>⟨_,zah c16 rfl,λ_=>st true,λ_=>st false⟩,λ_=>⟨rfl,⟨r2,d16,by have:=r2.1; omega⟩,r3⟩⟩
 ·exact zkS hl hi nb (by omega) (by omega) c3 λg f=>hs.old (fo f)
 ·intro h q
  have d:(h.del g3.next).get g0.next=some (.cells [.bool false] 4 false):=by rw[zaS _ (by omega)]; exact q.2.1
  refine⟨_,zaM d (by simp),.inr ⟨by grind[zah,zaf],bl _ _ ?_⟩⟩
  have ns:=zam g0.next (h.del g3.next) (.cells ([Value.bool false].set 0 (.bool false)) 4 false)
  exact⟨by exact (fd q.1).1,λc hc=>by rw[ns.2 c (by omega),(fd q.1).2 c hc]⟩
 ·rintro h ⟨f, -,⟨b,w⟩, -⟩
  have d:(h.del g3.next).get g0.next=some (.cells [.bool b] 4 false):=by grind[zaS]
  cases b
  ·exact .inr ⟨zah d rfl,bl _ _ (fd f)⟩
  ·exact .inl ⟨zah d rfl,bl _ _ (fd f)⟩
 ·rintro x h - ⟨-,rfl, -⟩
  rfl
theorem zzR:cx0.fl 336=List.replicate 4096 4:=by kernel_rfl
def zqi (cs:List Value):Prop:=cs.length=4096/\∀v∈cs,∃b,v=.bool b
theorem zn0 {S:TY} {cs:List Value} (h:zqi cs):zaw cx0 S (zcR cx0 336) cs:=λi t hi=>by
 unfold zcR at hi
 rw[zzR,List.getElem?_replicate] at hi
 split at hi
 ·cases hi
  refine⟨cs[i]'(by rw[h.1]; omega),by simp,?_⟩
  unfold okC
  exact h.2 _ (by simp)
 grind
theorem zmx {cs:List Value} (h:zqi cs) (i:Nat) (b:Bool):zqi (cs.set i (.bool b)):=⟨by rw[List.length_set]; exact h.1,λv hv=>(List.mem_or_eq_of_mem_set hv).elim (h.2 v) λe=>⟨b,e⟩⟩
theorem zx2 {S:TY} {h:AH} {base b:Nat} (hb:S.ty b=some (false,336,zcR cx0 336)):gam cx0 S h L0 base (.hp 336) (ptr b 0):=by
 exact⟨b,_,rfl,hb,λi ct hi=>by rw[Qq]; exact hi⟩
theorem zzS {hp:AH} {p:Option Addr} {n c:Nat} {l:List (Int×Int)} (hs:zaF hp p n 2 (spI l)) (hl:l.length=n) (hi:∀q∈l,inP q) (nb:n<=281474976710656):
 Wf Tryz.prog KB 268 [.slice p n c] hp λv h'=>v=ptr hp.next 0/\Old hp h'/\hp.next < h'.next/\∃cs,h'.get hp.next=some (.cells cs 336 false)/\zqi cs:=by
 refine zmr (xb rfl) _ _ _ hp _ ⟨List.replicate 4096 (.bool false),by kernel_rfl,λg1 e1=>zcW (xb rfl) _ _ _ g1 _ λg3 e3=>⟨232,[.pointer (some ⟨g1.next,0,none⟩)],rfl,?_⟩⟩
 have o1:=zab e1
 have o3:=zab e3
 have n1:=zad e1
 have n3:=zad e3
 have c1:g3.get hp.next=some (.cells (List.replicate 4096 (.bool false)) 336 false):=by rw[o3.2 _ (by omega)]; grind[zae]
 have c3:=zae e3
 have o03:Old hp g3:=o1.trans o3
 have fo:∀{g:AH},Fm g3 (·= hp.next) g->Old hp g:=λq=>⟨by have:=q.1; omega,λc hc=>by rw[q.2 c (by omega) (by omega),o03.2 c hc]⟩
 have fd:∀{g:AH},Fm g3 (·= hp.next) g->Old hp (g.del g3.next):=λq=>⟨(fo q).1,λc hc=>by rw[zaS _ (by omega),(fo q).2 c hc]⟩
 have sI:∀i:Nat,zqh g3 ((λ_ g=>(∃cs,g.get hp.next=some (.cells cs 336 false)/\zqi cs)/\hp.next < g.next:Nat->AH->Prop) i):=λi h1 h2 q hn k=>by grind
 refine⟨Jr g3 (·= hp.next) _,Dr g3 (·= hp.next) λ_ _=>False,(exI l).length,λi=>[.int .i64 ((exI l)[i]?.getD 0:Nat)],Gr g3,Br g3,⟨rfl,rfl⟩,by simp,jr0 λg f k=>⟨⟨_,(k _ (by omega)).trans c1,by simp,by grind⟩,by have:=f.1; omega⟩,jrN sI,drN λ_ _ _ q=>q.elim,jrG sI,drG λ_ _ _ q=>q.elim,gr1,?_,?_,?_,?_⟩
 ·rintro k g11 hk q - i14 ei
  refine⟨rfl,rfl,λg16 nr hL=>?_⟩
  obtain⟨⟨cs,w,bs⟩,hlt⟩:=q.2
  have d16:g16.get hp.next=some (.cells cs 336 false):=by rw[nr.2 _ (by omega)]; omega
  dsimp only at ei
  rw[Qe hk] at ei
  simp only[QT,Q4,Value.int.injEq,true_and,and_true] at ei
  have hx:=zo1 l _ (Qj hk)
  obtain⟨r1,r2,r3⟩:=zd9 q.1 nr (b:=hp.next) (by omega) rfl (.cells (cs.set (0+Int.toNat i14 * 1) (.bool true)) 336 false)
  exact⟨by omega,by omega,_,zaM d16 (by rw[bs.1]; omega),r1,⟨r2,by grind[zaf,zmx],Nat.lt_trans (by omega) r2.1⟩,r3⟩
 ·exact zkS hl hi nb (by omega) (by omega) c3 λg f=>hs.old (fo f)
 ·rintro h ⟨f,⟨cs,w,bs⟩,hlt⟩
  exact⟨rfl,fd f,hlt,cs,by grind[zaS],bs⟩
 ·rintro x h - ⟨-,q⟩
  grind
end Go.Am
