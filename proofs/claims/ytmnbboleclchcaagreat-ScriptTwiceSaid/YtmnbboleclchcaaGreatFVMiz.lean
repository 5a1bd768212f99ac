/-
  Texts of this proof, part 34. No condition.
-/
import Derived.Test.YtmnbboleclchcaaGreatFTcF
import Derived.Test.YtmnbboleclchcaaGreatRows
set_option linter.unusedSimpArgs false
set_option linter.unusedVariables false
set_option maxRecDepth 100000
namespace Go.Am
open Go.Proofs
abbrev zg2 (K:Xs) (Q:Value->AH->Prop) (i27:Int) (p24:Option Addr) (n25:Nat) (h19:AH) (h9999:AH):Prop:=
 (i27=0->zag p24 λb37 o38=>(((0:Int)<=0)/\((0:Int) < (n25:Int))/\
 (∃i39 i40 i41,ldN h19 b37 o38 3=some (qL i39 i40 i41)/\
 ((3=3)/\∃h42,stN h19 h9999.next 0 (qL i39 i40 i41)=some h42/\
 (∃i43 i44 i45,ldN h42 h9999.next 0 3=some (qL i43 i44 i45)/\
 (Q (.tuple #[.agg (qL i43 i44 i45).toArray,.int .i64 0]) h42))))))
theorem zmE {K:Xs} (hk:K 168=none) (a:Option Addr) (b:Option Addr) (d e:Nat) (f:Option Addr) (g i:Nat) (j:AH) (Q:Value->AH->Prop) (H:
 aL j [.int .i64 0,.int .u64 0,.int .u32 0] 96 λk=>Wt K 165 [(.int .i64 (d:Int))] k λl m=>
 (∃o,l=(.int .i64 o)/\
 ((o=0->(3=3)/\∃p,stN m j.next 0 [.int .i64 0,.int .u64 0,.int .u32 0]=some p/\
 (∃q r s,ldN p j.next 0 3=some (qL q r s)/\
 (Q (.tuple #[.agg (qL q r s).toArray,.int .i64 121]) p)))/\
 (¬o=0->((g:Int)=o->Wt K 212 [.pointer a,.slice b d e,.slice f g i] m λt u=>
 (∃v w x y,t=(.tuple #[.slice v w x,.int .i64 y])/\
 (∃z aa ab,zay Tryz.prog u 61 (.slice f g i) (some (.int .i64 (w:Int))) none none=some (.slice z aa ab)/\
 (∃ac:Option Addr->Nat->Nat->Option Addr->Nat->Nat->Int->Nat->AH->Prop,(∃n,ac z aa ab v w x y n u)/\
 ∀(ad:Nat) (ae:AH),∀(af:Option Addr) (ag:Nat) (ah:Nat),∀(ai:Option Addr) (aj:Nat) (ak:Nat),∀(al:Int),ac af ag ah ai aj ak al ad ae->
 (al=0->((1:Int) < (aj:Int)->Wt K 213 [.pointer a,.slice ai aj ak,.slice af ag ah] ae λam an=>
 (∃ao ap aq ar,am=(.tuple #[.slice ao ap aq,.int .i64 ar])/\
 (∃au av aw,zay Tryz.prog an 61 (.slice af ag ah) (some (.int .i64 (ap:Int))) none none=some (.slice au av aw)/\
 (∃ax,ax < ad/\ac au av aw ao ap aq ar ax an))))/\
 (¬(1:Int) < (aj:Int)->(zg2 K Q al ai aj ae j)/\
 (¬al=0->(3=3)/\∃ay,stN ae j.next 0 [.int .i64 0,.int .u64 0,.int .u32 0]=some ay/\
 (∃az a0 a1,ldN ay j.next 0 3=some (qL az a0 a1)/\
 (Q (.tuple #[.agg (qL az a0 a1).toArray,.int .i64 al]) ay)))))/\
 (¬al=0->(zg2 K Q al ai aj ae j)/\
 (¬al=0->(3=3)/\∃a2,stN ae j.next 0 [.int .i64 0,.int .u64 0,.int .u32 0]=some a2/\
 (∃a3 a4 a5,ldN a2 j.next 0 3=some (qL a3 a4 a5)/\
 (Q (.tuple #[.agg (qL a3 a4 a5).toArray,.int .i64 al]) a2))))))))/\
 (¬(g:Int)=o->(3=3)/\∃a6,stN m j.next 0 [.int .i64 0,.int .u64 0,.int .u32 0]=some a6/\
 (∃a7 a8 a9,ldN a6 j.next 0 3=some (qL a7 a8 a9)/\
 (Q (.tuple #[.agg (qL a7 a8 a9).toArray,.int .i64 121]) a6))))))):
 Wt K 168 [.pointer a,.slice b d e,.slice f g i] j Q:=
  zaj (hs:=[(6,[(2,.slice none 0 0),(9,.slice none 0 0),(10,.int .i64 0)])]) hk (Eq.mpr (by kernel_rfl) H)
theorem zfL {K:Xs} (hk:K 214=none) (a:Option Addr) (b d:Nat) (h:AH) (Q:Value->AH->Prop) (H:
 ∃e:Int->Int->Nat->AH->Prop,(∃n,e (-1) 0 n h)/\
 ∀(f:Nat) (g:AH),∀(i:Int),∀(j:Int),e i j f g->
 (j < (b:Int)->zag a λk l=>(0<=j/\j < (b:Int)/\
 (∃m o,ldN g k (l+j.toNat * 2) 2=some [.int .i64 m,.int .i64 o]/\
 (aL g [.int .i64 0,.int .i64 0] 294 λp=>(2=2)/\∃q,stN p g.next 0 [.int .i64 m,.int .i64 o]=some q/\
 (∃r s,ldN q g.next 0 2=some [.int .i64 r,.int .i64 s]/\
 (Wt K 241 [.agg #[.int .i64 r,.int .i64 s]] q λt u=>
 (((t=(.bool true)/\
 (lI u g.next 0 λv=>((v<=i->Q (.bool false) u)/\
 (¬v<=i->lI u g.next 0 λw=>(lI u g.next 1 λx=>(wI (w+x) λy=>wI (j+1) λz=>∃aa,aa < f/\e y z aa u))))))\/(t=(.bool false)/\
 (Q (.bool false) u))))))))))/\
 (¬j < (b:Int)->Q (.bool true) g)):
 Wt K 214 [.slice a b d] h Q:=
  zaj (hs:=[(3,[(3,.int .i64 0),(8,.int .i64 0)])]) hk (Eq.mpr (by kernel_rfl) H)
theorem zeQ {K:Xs} (hk:K 241=none) (a:Int) (b:Int) (h:AH) (Q:Value->AH->Prop) (H:
 aL h [.int .i64 a,.int .i64 b] 294 λd=>lI d h.next 0 λe=>((0<=e->lI d h.next 0 λf=>((f < 4096->lI d h.next 1 λg=>((1<=g->lI d h.next 1 λi=>(lI d h.next 0 λj=>(wI (4096 - j) λk=>(i<=k->Q (.bool true) d)/\
 (¬i<=k->Q (.bool false) d))))/\
 (¬1<=g->Q (.bool false) d)))/\
 (¬f < 4096->Q (.bool false) d)))/\
 (¬0<=e->Q (.bool false) d))):
 Wt K 241 [.agg #[.int .i64 a,.int .i64 b]] h Q:=
  zaj (hs:=[]) hk (Eq.mpr (by kernel_rfl) H)
theorem zkV {K:Xs} (hk:K 196=none) (a:Option Addr) (b d:Nat) (h:AH) (Q:Value->AH->Prop) (H:
 Wt K 214 [.slice a b d] h λe f=>
 (((e=(.bool true)/\
 (∃g:Int->Int->Nat->AH->Prop,(∃n,g 0 0 n f)/\
 ∀(i:Nat) (j:AH),∀(k:Int),∀(l:Int),g k l i j->
 (l < (b:Int)->zag a λm o=>(0<=l/\l < (b:Int)/\
 (∃p q,ldN j m (o+l.toNat * 2) 2=some [.int .i64 p,.int .i64 q]/\
 (aL j [.int .i64 0,.int .i64 0] 294 λr=>(2=2)/\∃s,stN r j.next 0 [.int .i64 p,.int .i64 q]=some s/\
 (lI s j.next 1 λt=>(wI (k+t) λu=>wI (l+1) λv=>∃w,w < i/\g u v w s))))))/\
 (¬l < (b:Int)->Q (.int .i64 k) j)))\/(e=(.bool false)/\
 (Q (.int .i64 0) f))))):
 Wt K 196 [.slice a b d] h Q:=
  zaj (hs:=[(5,[(3,.int .i64 0),(11,.int .i64 0)])]) hk (Eq.mpr (by kernel_rfl) H)
theorem ziQ {K:Xs} (hk:K 59=none) (a:Option Addr) (b d:Nat) (e:Int) (h:AH) (Q:Value->AH->Prop) (H:
 ∃f:Int->Nat->AH->Prop,(∃n,f 0 n h)/\
 ∀(g:Nat) (i:AH),∀(j:Int),f j g i->
 (j < (b:Int)->zag a λk l=>(0<=j/\j < (b:Int)/\
 (lU i k (l+j.toNat * 11) λm=>((m=e->Q (.int .i64 j) i)/\
 (¬m=e->wI (j+1) λo=>∃p,p < g/\f o p i)))))/\
 (¬j < (b:Int)->Q (.int .i64 (-1)) i)):
 Wt K 59 [.slice a b d,.int .u64 e] h Q:=
  zaj (hs:=[(2,[(8,.int .i64 0)])]) hk (Eq.mpr (by kernel_rfl) H)
theorem zkW {K:Xs} (hk:K 61=none) (a:Option Addr) (b d:Nat) (e:Int) (h:AH) (Q:Value->AH->Prop) (H:
 Wt K 59 [.slice a b d,.int .u64 e] h λf g=>
 (∃i,f=(.int .i64 i)/\
 ((i < 0->Q (.tuple #[.slice none 0 0,.int .u64 0]) g)/\
 (¬i < 0->zag a λj k=>(0<=i/\i < (b:Int)/\
 (((ld1 g j ((k+i.toNat * 11)+2)=some (.bool true)/\
 (Q (.tuple #[.slice none 0 0,.int .u64 0]) g))\/(ld1 g j ((k+i.toNat * 11)+2)=some (.bool false)/\
 (zag a λl m=>(0<=i/\i < (b:Int)/\
 (lU g l ((m+i.toNat * 11)+4) λo=>(∃p:Option Addr->Nat->Nat->Int->Nat->AH->Prop,(∃n,p none 0 0 o n g)/\
 ∀(q:Nat) (r:AH),∀(s:Option Addr) (t:Nat) (u:Nat),∀(v:Int),p s t u v q r->
 (v=0->Q (.tuple #[.slice s t u,.int .u64 v]) r)/\
 (¬v=0->((t:Int) < 32->Wt K 59 [.slice a b d,.int .u64 v] r λw x=>
 (∃y,w=(.int .i64 y)/\
 ((y < 0->Q (.tuple #[.slice s t u,.int .u64 v]) x)/\
 (¬y < 0->zag a λz aa=>(0<=y/\y < (b:Int)/\
 (lU x z ((aa+y.toNat * 11)+3) λab=>((ab=e->aL x [.int .u64 v] 62 λac=>∃ad ae af ag,zak Tryz.prog ac .append #[70,70] [.slice s t u,(.slice (some ⟨x.next,0,none⟩) 1 1)]=some (.slice ad ae af,ag)/\
 (zag a λah ai=>(0<=y/\y < (b:Int)/\
 (lU ag ah ((ai+y.toNat * 11)+4) λaj=>(∃ak,ak < q/\p ad ae af aj ak ag)))))/\
 (¬ab=e->Q (.tuple #[.slice s t u,.int .u64 v]) x))))))))/\
 (¬(t:Int) < 32->Q (.tuple #[.slice s t u,.int .u64 v]) r)))))))))))))):
 Wt K 61 [.slice a b d,.int .u64 e] h Q:=
  zaj (hs:=[(6,[(7,.slice none 0 0),(8,.int .u64 0)])]) hk (Eq.mpr (by kernel_rfl) H)
theorem ziR {K:Xs} (hk:K 146=none) (a:Option Addr) (b d:Nat) (e:Int) (h:AH) (Q:Value->AH->Prop) (H:
 Wt K 61 [.slice a b d,.int .u64 e] h λf g=>
 (∃i j k l,f=(.tuple #[.slice i j k,.int .u64 l])/\
 (Q (.slice i j k) g))):
 Wt K 146 [.slice a b d,.int .u64 e] h Q:=
  zaj (hs:=[]) hk (Eq.mpr (by kernel_rfl) H)
theorem zkX {K:Xs} (hk:K 148=none) (a:Option Addr) (b d:Nat) (e:Int) (h:AH) (Q:Value->AH->Prop) (H:
 aL h [.int .u64 e] 62 λf=>Wt K 204 [.slice a b d,(.func (.func 205) #[] #[(.pointer (some ⟨h.next,0,none⟩))])] f λg i=>
 (∃j,g=(.int .i64 j)/\
 (Q (.int .i64 j) i))):
 Wt K 148 [.slice a b d,.int .u64 e] h Q:=
  zaj (hs:=[]) hk (Eq.mpr (by kernel_rfl) H)
theorem ziS {K:Xs} (hk:K 205=none) (a:Int) (b:ByteArray) (d:Bool) (e:Int) (f:Int) (g:Int) (i:Int) (j:Int) (k:Int) (l:Int) (m:Option Addr) (n o:Nat) (p:Option Addr) (h:AH) (Q:Value->AH->Prop) (H:
 aL h (sC a b d e f g i j k l m n o) 99 λq=>lU q h.next 0 λr=>(zag p λs t=>(lU q s t λu=>((r=u->Q (.bool true) q)/\
 (¬r=u->Q (.bool false) q))))):
 Wt K 205 [.agg (sC a b d e f g i j k l m n o).toArray,.pointer p] h Q:=
  zaj (hs:=[]) hk (Eq.mpr (by kernel_rfl) H)
theorem zbU {K:Xs} (hk:K 204=none) (a:Option Addr) (b d:Nat) (e:Option Addr) (h:AH) (Q:Value->AH->Prop) (H:
 ∃f:Int->Nat->AH->Prop,(∃n,f 0 n h)/\
 ∀(g:Nat) (i:AH),∀(j:Int),f j g i->
 (j < (b:Int)->zag a λk l=>(0<=j/\j < (b:Int)/\
 (∃m o p q r s t u v w x y z,ldN i k (l+j.toNat * 11) 11=some (sC m o p q r s t u v w x y z)/\
 (Wt K 205 [.agg (sC m o p q r s t u v w x y z).toArray,.pointer e] i λaa ab=>
 (((aa=(.bool true)/\
 (Q (.int .i64 j) ab))\/(aa=(.bool false)/\
 (wI (j+1) λac=>∃ad,ad < g/\f ac ad ab))))))))/\
 (¬j < (b:Int)->Q (.int .i64 (-1)) i)):
 Wt K 204 [.slice a b d,(.func (.func 205) #[] #[.pointer e])] h Q:=
  zaj (hs:=[(2,[(8,.int .i64 0)])]) hk (Eq.mpr (by kernel_rfl) H)
def spC (sp:List (Nat×Nat)):List Value:=(sp.map λq=>[Value.int .i64 q.1,Value.int .i64 q.2]).flatten
def exN (sp:List (Nat×Nat)):List Nat:=(sp.map λq=>List.range' q.1 q.2).flatten
def Gap:Int->List (Nat×Nat)->Prop
 | _,[]=>True
 | e,(s,l) :: r=>e < s/\1<=l/\s+l<=4096/\Gap (s+l:Nat) r
theorem Gap.at:∀{e:Int} {sp:List (Nat×Nat)},Gap e sp->∀(i:Nat) (hi:i < sp.length),1<=sp[i].2/\sp[i].1+sp[i].2<=4096
 | _,(s,l) :: r,g,0,_=>⟨g.2.1,g.2.2.1⟩
 | _,(s,l) :: r,g,i+1,hi=>g.2.2.2.at i (by grind)
theorem zsz (sp:List (Nat×Nat)):(spC sp).length=sp.length * 2:=by induction sp<;>grind[spC]
theorem zkY:∀(sp:List (Nat×Nat)) (i:Nat) (hi:i < sp.length),((spC sp).drop (i * 2)).take 2=[.int .i64 (sp[i].1:Nat),.int .i64 (sp[i].2:Nat)]
 | [],i,hi=>by grind
 | q :: r,0,hi=>rfl
 | q :: r,i+1,hi=>by
   have e:spC (q :: r)=[.int .i64 (q.1:Nat),.int .i64 (q.2:Nat)] ++ spC r:=rfl
   rw[e,show (i+1) * 2=2+i * 2 by omega,QL]
   simp only[QF,List.length_nil]
   rw[QH (by simp),QR,show 2+i * 2 - (0+1+1)=i * 2 by omega]
   exact zkY r i (by grind)
def pre (sp:List (Nat×Nat)) (j:Nat):Nat:=(exN (sp.take j)).length
theorem zux (sp:List (Nat×Nat)):pre sp 0=0:=rfl
theorem zoZ (sp:List (Nat×Nat)) {j:Nat} (hj:j < sp.length):pre sp (j+1)=pre sp j+sp[j].2:=by grind[pre,exN,Qv]
theorem zsA (sp:List (Nat×Nat)):pre sp sp.length=(exN sp).length:=by grind[pre]
theorem zz3 (sp:List (Nat×Nat)) {j t:Nat} (hj:j < sp.length) (ht:t < sp[j].2):(exN sp)[pre sp j+t]?= some (sp[j].1+t):=by
 have e0:sp=sp.take j ++ sp[j] :: sp.drop (j+1):=by simp
 grind[exN,pre]
theorem zvl:∀{e:Int} {sp:List (Nat×Nat)},Gap e sp->∀x∈exN sp,e < x
 | e,(s,l) :: r,g,x,hx=>by
   obtain⟨g1,g2,g3,g4⟩:=g
   unfold exN at hx
   simp only[QE,List.flatten_cons,QI,List.mem_range'_1] at hx
   rcases hx with hx | hx
   ·omega
   ·have:=zvl g4 x hx
    omega
theorem zsB:∀{e:Int} {sp:List (Nat×Nat)},Gap e sp->(exN sp).Pairwise (· < ·)
 | _,[],_=>by simp[exN]
 | e,(s,l) :: r,g=>by
   obtain⟨g1,g2,g3,g4⟩:=g
   have e1:exN ((s,l) :: r)=List.range' s l ++ exN r:=rfl
   rw[e1,List.pairwise_append]
   refine⟨List.pairwise_lt_range',zsB g4,λx hx y hy=>?_⟩
   rw[List.mem_range'_1] at hx
   have:=zvl g4 y hy
   omega
section
variable {K:Xs} {h:AH}
theorem zqf (hk:K 241=none) {s l:Nat} (h1:1<=l) (h2:s+l<=4096):Wf Tryz.prog K 241 [.agg #[.int .i64 s,.int .i64 l]] h λv h'=>v=.bool true/\Old h h':=by
 refine zeQ hk _ _ h _ λg0 e0=>⟨_,zah (zae e0) rfl,λ_=>⟨_,zah (zae e0) rfl,λ_=>⟨_,zah (zae e0) rfl,λ_=>⟨_,zah (zae e0) rfl,_,zah (zae e0) rfl,λi e=>?_⟩,by omega⟩,by omega⟩,by omega⟩
 have e:=zaT e (by omega) (by omega)
 grind[zab]
theorem zsC (hk:K 214=none) (h1:K 241=none) {p:Option Addr} {n c:Nat} {sp:List (Nat×Nat)} (hs:zaz h p n 2 (spC sp)) (hg:Gap (-1) sp) (hn:n<=1000000):
 Wf Tryz.prog K 214 [.slice p n c] h λv h'=>v=.bool true/\Old h h':=by
 have hl:n=sp.length:=by have:=hs.1; grind[zsz]
 refine zfL hk _ _ _ h _ ⟨λe i k g=>∃j:Nat,i=j/\j<=n/\n - j=k/\Old h g/\Gap e (sp.drop j)/\(e= -1\/0<=e/\e<=4096),⟨n,0,rfl,Qg _,rfl,Old.refl _,hg,.inl rfl⟩,?_⟩
 rintro k g e i ⟨j,rfl,hj,rfl,o,hgj,he⟩
 refine⟨λq=>?_,by grind⟩
 have hjn:j < n:=by omega
 have hjl:j < sp.length:=by omega
 obtain⟨b,off,rfl,hld, -⟩:=(hs.old o).getN hjn
 rw[zkY sp j hjl] at hld
 rw[QU hjl] at hgj
 generalize sp[j]=q at hld hgj
 obtain⟨s,l⟩:=q
 obtain⟨g1,g2,g3,g4⟩:=hgj
 refine zaa ⟨by omega,q,_,_,hld,λg10 e10=>⟨rfl,_,zaR (zae e10) rfl,_,_,by grind[zaw,zaf],(zqf h1 g2 g3).mono ?_⟩⟩
 rintro _ g15 ⟨rfl,o15⟩
 have o10:=zab e10
 have k11:=zam g.next g10 (.cells [.int .i64 s,.int .i64 l] 294 false)
 have o11:Old g (g10.set g.next (.cells [.int .i64 s,.int .i64 l] 294 false)):=⟨by simp_all,λc hc=>by rw[k11.2 c (by omega),o10.2 c hc]⟩
 have c15:g15.get g.next=some (.cells [.int .i64 s,.int .i64 l] 294 false):=(o15.2 _ (by simp_all)).trans (by simp)
 refine .inl ⟨rfl,_,zah c15 rfl,by omega,λ_=>⟨_,zah c15 rfl,_,zah c15 rfl,λi19 e19 i20 e20=>?_⟩⟩
 have e19:=zaT e19 (by omega) (by omega)
 have e20:=zaT e20 (by omega) (by omega)
 exact⟨n - (j+1),by omega,j+1,by omega,hjn,rfl,(by grind[Old.trans]),by grind,.inr (by omega)⟩
theorem Wy.mono' {P:Program} {l:Nat} {args:List Value} {Q Q' : Value->AH->Prop} (w:Wy P K l args h Q) (f:∀v h',Q v h'->Q' v h'):Wy P K l args h Q':=by
 obtain⟨n,v,h',e,q⟩:=w
 exact⟨n,v,h',e,f v h' q⟩
theorem zuy (hk:K 232=none) (kR:K 214=none) (kS:K 241=none) {p:Option Addr} {n c:Nat} {sp:List (Nat×Nat)} (hg:Gap (-1) sp) (hn:n<=1000000) {ya pb lim:Nat} {JJ:Nat->AH->Prop} {DD:AH->Prop} {B:AH->AH->Prop}
 (hJ:∀i h1 h2,JJ i h1->Old h1 h2->JJ i h2) (hs:∀i h1,JJ i h1->(∃t ro,h1.get pb=some (.cells [.slice p n c] t ro))/\zaz h1 p n 2 (spC sp)/\lim<=h1.next)
 (hB:∀h1 h2,B h1 h2->h1.next<=h2.next/\∀c,lim<=c->c < h1.next->h2.get c=h1.get c)
 (hr:∀(k:Nat) (h1:AH),k < (exN sp).length->JJ k h1->∀x,(exN sp)[k]?= some x->Wy Tryz.prog K ya [.int .i64 (x:Nat)] h1 λv h2=>((v=.bool true/\JJ (k+1) h2)\/(v=.bool false/\DD h2))/\B h1 h2)
 (h0:JJ 0 h):Wf Tryz.prog K 232 [Value.func (Fn.yield ya) #[] #[],.pointer (some ⟨pb,0,none⟩)] h λ_ h'=>JJ (exN sp).length h'\/DD h':=by
 obtain⟨⟨t0,ro0,c0⟩,s0, -⟩:=hs 0 h h0
 have hl:n=sp.length:=by have:=s0.1; grind[zsz]
 refine zeN hk _ _ h _ (zaa ⟨p,n,c,zah c0 rfl,(zsC kR kS s0 hg hn).mono ?_⟩)
 rintro _ g6 ⟨rfl,o6⟩
 have J6:=hJ _ _ _ h0 o6
 obtain⟨⟨t6,ro6,c6⟩,s6, -⟩:=hs 0 g6 J6
 refine .inl ⟨rfl,zaa ⟨p,n,c,zah c6 rfl,λi k g=>∃j:Nat,i=j/\j<=n/\n - j=k/\JJ (pre sp j) g,⟨n,0,rfl,Qg _,rfl,by grind[zux]⟩,?_⟩⟩
 rintro k13 g14 i16 ⟨j,rfl,hj,rfl,J14⟩
 refine⟨λq=>?_,λq=>?_⟩
 ·have hjn:j < n:=by omega
  have hjl:j < sp.length:=by omega
  obtain⟨-,s14,l14⟩:=hs _ g14 J14
  obtain⟨b,off,rfl,hld, -⟩:=s14.getN hjn
  rw[zkY sp j hjl] at hld
  have hat:=λt (ht:t < sp[j].2)=>zz3 sp hjl ht
  have hsucc:=zoZ sp hjl
  have hgj:=hg.at j hjl
  generalize sp[j]=qq at hld hat hsucc hgj
  obtain⟨s,l⟩:=qq
  refine zaa ⟨by omega,q,_,_,hld,λg21 e21=>⟨rfl,_,zaR (zae e21) rfl,l,by grind[zah,zaf],?_⟩⟩
  have o21:=zab e21
  have k22:=zam g14.next g21 (.cells [.int .i64 s,.int .i64 l] 294 false)
  have o22:Old g14 (g21.set g14.next (.cells [.int .i64 s,.int .i64 l] 294 false)):=⟨by simp_all,λc hc=>by rw[k22.2 c (by omega),o21.2 c hc]⟩
  refine⟨λi k g=>∃t:Nat,i=t/\t<=l/\l - t=k/\JJ (pre sp j+t) g/\g14.next < g.next/\g.get g14.next=some (.cells [.int .i64 s,.int .i64 l] 294 false),
   ⟨l,0,rfl,Qg _,rfl,hJ _ _ _ J14 o22,by simp_all,zaf _ _ _⟩,?_⟩
  rintro k25 g26 i28 ⟨t,rfl,ht,rfl,J26,l26,c26⟩
  refine⟨λq2=>⟨_,zah c26 rfl,λi30 e30=>?_⟩,λq2 i35 e35=>?_⟩
  ·have e30:=zaT e30 (by omega) (by omega)
   have htl:t < l:=by omega
   have hx:=hat t htl
   have hlt:=(Qo.1 hx).1
   subst e30
   have hw:=hr _ g26 hlt J26 _ hx
   refine hw.mono' ?_
   rintro v g32 ⟨⟨rfl,J32⟩ | ⟨rfl,D32⟩,hb⟩
   ·refine⟨true,rfl,λi34 e34=>?_⟩
    have e34:=zaT e34 (by omega) (by omega)
    obtain⟨b1,b2⟩:=hB _ _ hb
    exact⟨l - (t+1),by omega,t+1,by omega,htl,rfl,J32,by omega,(by grind)⟩
   grind
  ·have e35:=zaT e35 (by omega) (by omega)
   have htl:t=l:=by omega
   exact⟨n - (j+1),by omega,j+1,by omega,hjn,rfl,by grind⟩
 grind[zsA]
theorem zaU {l:Nat} {h:AH}:∀c,c≠l->(h.del l).get c=h.get c:=by grind[AH.get_del]
end
def spI (l:List (Int×Int)):List Value:=(l.map λq=>[Value.int .i64 q.1,Value.int .i64 q.2]).flatten
def inP (q:Int×Int):Prop:=InR .i64 q.1/\InR .i64 q.2
def ztl (q:Int×Int):Prop:=0<=q.1/\q.1 < 4096/\1<=q.2/\q.1+q.2<=4096
def GapI:Int->List (Int×Int)->Prop
 | _,[]=>True
 | e,q :: r=>e < q.1/\ztl q/\GapI (q.1+q.2) r
theorem zwP {h:AH} {q:Int×Int} (hq:inP q):Wf Tryz.prog KB 241 [.agg #[.int .i64 q.1,.int .i64 q.2]] h λv h'=>Old h h'/\(v=.bool true/\ztl q\/v=.bool false/\¬ztl q):=by
 obtain⟨⟨a1,a2⟩,b1,b2⟩:=hq
 refine zeQ (xb rfl) _ _ h _ λg0 e0=>?_
 have o:=zab e0
 have w:=zae e0
 have no:¬ztl q->(Old h g0/\(Value.bool false=.bool true/\ztl q\/Value.bool false=.bool false/\¬ztl q)):=by grind
 refine⟨_,zah w rfl,λz1=>⟨_,zah w rfl,λz2=>⟨_,zah w rfl,λz3=>⟨_,zah w rfl,_,zah w rfl,λi e=>?_⟩,λz=>no ?_⟩,λz=>no ?_⟩,λz=>no ?_⟩
 ·have e:=zaT e (by omega) (by omega)
  grind[ztl]
 all_goals grind[ztl]
theorem zsD {h:AH} {p:Option Addr} {n c:Nat} {l:List (Int×Int)} (hs:zaz h p n 2 (spI l)) (hl:l.length=n) (hi:∀q∈l,inP q) (hn:n<=281474976710656):
 Wf Tryz.prog KB 214 [.slice p n c] h λv h'=>Old h h'/\(v=.bool true/\GapI (-1) l\/v=.bool false/\¬GapI (-1) l):=by
 have get:∀{j:Nat} {g:AH} (hj:j < l.length),Old h g->∃b off,p=some ⟨b,off,none⟩/\ldN g b (off+j * 2) 2=some [.int .i64 l[j].1,.int .i64 l[j].2]:=λ{j g} hj o=>by
  obtain⟨b,off,e1,e2, -⟩:=(hs.old o).getN (i:=j) (by omega)
  have:∀(l:List (Int×Int)) (j:Nat) (hj:j < l.length),((spI l).drop (j * 2)).take 2=[.int .i64 l[j].1,.int .i64 l[j].2]:=by
   intro l
   induction l with
   | nil=>simp
   | cons q l ih=>
     intro j hj
     cases j<;>grind[spI]
  grind
 refine zfL (xb rfl) _ _ _ h _ ⟨λe i k g=>∃j:Nat,i=j/\j<=n/\n - j=k/\Old h g/\(GapI (-1) l↔GapI e (l.drop j))/\-1<=e/\e<=4096,⟨n,0,rfl,Qg _,rfl,Old.refl _,Iff.rfl,by omega,by omega⟩,?_⟩
 rintro k g e i ⟨j,rfl,hj,rfl,o,hgj,he,he2⟩
 refine⟨λq=>?_,λq=>⟨o,.inl ⟨rfl,hgj.2 (by rw[QH (by omega)]; trivial)⟩⟩⟩
 have hjl:j < l.length:=by omega
 obtain⟨b,off,rfl,hld⟩:=get hjl o
 rw[QU hjl] at hgj
 have hq:=hi _ (Qj hjl)
 generalize l[j]=q0 at hld hgj hq
 obtain⟨s,m⟩:=q0
 refine zaa ⟨by omega,q,_,_,hld,λg10 e10=>⟨rfl,_,zaR (zae e10) rfl,_,_,by grind[zaw,zaf],(zwP hq).mono ?_⟩⟩
 rintro v g15 ⟨o15,hv⟩
 have o10:=zab e10
 have k11:=zam g.next g10 (.cells [.int .i64 s,.int .i64 m] 294 false)
 have o11:Old g (g10.set g.next (.cells [.int .i64 s,.int .i64 m] 294 false)):=⟨by simp_all,λc hc=>by rw[k11.2 c (by omega),o10.2 c hc]⟩
 have c15:g15.get g.next=some (.cells [.int .i64 s,.int .i64 m] 294 false):=(o15.2 _ (by simp_all)).trans (by simp)
 have oo:=(o.trans o11).trans o15
 rcases hv with ⟨rfl,h1⟩ | ⟨rfl,h1⟩
 ·unfold ztl at h1
  refine .inl ⟨rfl,_,zah c15 rfl,λz=>⟨oo,.inr ⟨rfl,λk=>?_⟩⟩,λz=>⟨_,zah c15 rfl,_,zah c15 rfl,λi19 e19 i20 e20=>?_⟩⟩
  ·have:=(hgj.1 k).1
   omega
  ·have e19:=zaT e19 (by omega) (by omega)
   have e20:=zaT e20 (by omega) (by omega)
   refine⟨n - (j+1),by omega,j+1,by omega,by omega,rfl,oo,?_,by omega,by omega⟩
   rw[hgj,e19]
   exact⟨λk=>k.2.2,λk=>⟨by omega,h1,k⟩⟩
 ·exact .inr ⟨rfl,oo,.inr ⟨rfl,λk=>h1 (hgj.1 k).2.1⟩⟩
theorem zDz:Vl 230 zA3:=zaY λρ g Q H S hp vs hw hg=>by
 obtain⟨⟨(bb:Bool),(a:Int),(b:Int),_⟩,_⟩:=ρ
 obtain⟨x,rfl,gx⟩:=zgy (a:=.agg [.bool bb,.int .i64 a,.int .i64 b]) hg
 obtain⟨vs,rfl,gv, -⟩:=gx
 match vs,gv with
 | [v1,v2,v3],gv=>
   obtain⟨rfl,⟨rfl,ia⟩,⟨rfl,ib⟩, -⟩:=gv
   refine zkT (xb rfl) _ _ _ _ _ λh0 e0=>⟨a,b,by rw[zh8 (zae e0) (by simp)]; rfl,λh3 e3=>?_⟩
   have o3:=(zab e0).trans (zab e3)
   have S3:zaz h3 (some ⟨h0.next,0,none⟩) 1 2 (spI [(a,b)]):=⟨rfl,.inr ⟨h0.next,0,_,294,false,rfl,by grind[zad],zae e3,by simp,rfl⟩⟩
   refine (zsD S3 rfl (λq hq=>by rw[QD.1 hq]; exact⟨ia,ib⟩) (by omega)).mono ?_
   rintro v h5 ⟨o5,⟨rfl,k⟩ | ⟨rfl, -⟩⟩
   ·exact .inl ⟨rfl,za5 hw (o3.trans o5) (zit _) rfl (H.1 k.2.1.1 k.2.1.2.2.1 k.2.1.2.2.2)⟩
   ·exact .inr ⟨rfl,za5 hw (o3.trans o5) (zit _) rfl H.2⟩
 | [],gv=>grind[gams]
 | [_],gv=>grind[gams]
 | [_,_],gv=>grind[gams]
 | _ :: _ :: _ :: _ :: _,gv=>grind[gams]
end Go.Am
