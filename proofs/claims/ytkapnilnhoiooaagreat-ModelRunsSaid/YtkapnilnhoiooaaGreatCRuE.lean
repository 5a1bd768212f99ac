/-
  FAMILIES: where a clone's ways part.
-/
import Derived.Test.YtkapnilnhoiooaaGreatCRuD
set_option linter.unusedVariables false
set_option linter.unusedSimpArgs false
set_option maxRecDepth 100000
namespace Go.Am
open Go.Proofs
theorem zlk:∀{l r:List Int},l.Nodup→(∀x∈l,x∈r)→l.length≤r.length
 | [],_,_,_=>Nat.zero_le _
 | a :: l,r,hn,hs=>by
   rw[List.nodup_cons] at hn
   have ha:=hs a (List.mem_cons_self ..)
   have:=zlk (l:=l) (r:=r.erase a) hn.2 fun x hx=>(List.mem_erase_of_ne (fun e=>hn.1 (by rw[←e]; exact hx))).2 (hs x (List.mem_cons_of_mem _ hx))
   rw[List.length_erase_of_mem ha] at this
   have h0:0 < r.length:=List.length_pos_of_mem ha
   simp only[List.length_cons]
   omega
section
variable {n:Int} {rs:List zaj}
theorem Chn.nodup (F:Fam n rs) {o e:Int}:∀{l:List zaj} {pr:Int},Chn rs o pr l e→(l.map (·.id)).Nodup
 | [],_,_=>List.nodup_nil
 | c :: l,pr,h=>by
   obtain⟨h1,h2,h3,h4,h5⟩:=h
   rw[List.map_cons,List.nodup_cons]
   refine⟨fun q=>?_,Chn.nodup F h5⟩
   obtain⟨y,hy,e⟩:=List.mem_map.1 q
   have hm:=h5.mem y hy
   have:=Chn.low F h5 c.stamp (fun p hp he=>F.older h2 h4 hp he) y hm.1 (.inl hy)
   have:=F.uniq hm.1 h2 e
   subst this
   omega
theorem Chn.short (F:Fam n rs) {o e:Int} {l:List zaj} {pr:Int} (h:Chn rs o pr l e):l.length≤32:=by
 have:=zlk (Chn.nodup F h) (r:=rs.map (·.id)) fun x hx=>by
  obtain⟨y,hy,e⟩:=List.mem_map.1 hx
  exact List.mem_map.2 ⟨y,(h.mem y hy).1,e⟩
 rw[List.length_map,List.length_map] at this
 exact Nat.le_trans this F.len
theorem Chn.way (F:Fam n rs) {o e:Int} (he:zhM rs o e):∀{l:List zaj} {pr:Int} {k:Nat} {ch:List Int},Chn rs o pr l e→l.length≤k→zcz rs o k pr ch=(ch ++ l.map (·.id),e)
 | [],pr,k,ch,h,_=>by
   have:pr=e:=h
   subst this
   rw[List.map_nil,List.append_nil]
   rcases he with rfl | ⟨x,hx,rfl,hs,ho⟩
   ·exact ze0 _ _ _ _
   ·cases k with
    | zero=>rfl
    | succ k=>
      obtain⟨j,hj,hjx⟩:=F.place hx
      have:=F.id1 hx
      unfold zcz
      rw[if_neg (by omega),hj]
      simp only
      rw[hjx]
      exact if_neg ho
 | c :: l,pr,k,ch,h,hk=>by
   obtain⟨rfl,h2,h3,h4,h5⟩:=h
   cases k with
   | zero=>simp at hk
   | succ k=>
     obtain⟨j,hj,hjx⟩:=F.place h2
     have:=F.id1 h2
     unfold zcz
     rw[if_neg (by omega),hj]
     simp only
     rw[hjx]
     simp only
     rw[if_pos h3,Chn.way F he h5 (by simpa using hk)]
     simp
theorem Fam.wayR (F:Fam n rs) {v:zaj} (hv:v∈rs) (hs:v.snap=false) {l:List zaj} {e:Int} (h:Chn rs v.id v.prev l e) (he:zhM rs v.id e):Am.wayR rs v.id=(l.map (·.id),e):=by
 obtain⟨j,hj,hjx⟩:=F.place hv
 unfold Am.wayR
 rw[hj]
 simp only
 rw[hjx]
 simp only
 rw[hs,if_neg (by decide),Chn.way F he h (h.short F)]
 rfl
structure zw2 (rs:List zaj) (v og w:zaj) (pre post:List zaj) (e:Int):Prop where
 hw:w∈rs
 ws:w.snap=false
 wo:og.own=w.id
 ho:og∈rs
 os:og.snap=true
 ne:og.own≠v.id
 cw:Chn rs w.id w.prev (pre ++ og :: post) e
 ew:zhM rs w.id e
 aw:∀r∈rs,r.own=w.id→r=w∨r∈pre ++ og :: post
 way:(Am.wayR rs og.own).1=(pre ++ og :: post).map (·.id)
 mv:(zcz rs og.own 32 og.id []).1=(og :: post).map (·.id)
 cv:∃lv,Chn rs v.id v.prev lv og.id∧zhM rs v.id og.id∧∀r∈rs,r.own=v.id→r=v∨r∈lv
theorem Fam.promQ (F:Fam n rs) {v:zaj} (hv:v∈rs) (hs:v.snap=false) {jo:Nat} {og:zaj} (hj:plcN rs (Am.wayR rs v.id).2=some jo) (ho:rs[jo]?= some og):∃w pre post e,zw2 rs v og w pre post e:=by
 obtain⟨lv,ev,cv,Ev,av⟩:=F.chain hv hs
 rw[F.wayR hv hs cv Ev] at hj
 obtain⟨hjl,hje⟩:=zbv hj
 have hog:rs[jo]=og:=by rw[List.getElem?_eq_getElem hjl] at ho; exact Option.some.inj ho
 have hoe:og.id=ev:=by rw[←hog]; exact hje
 have hom:og∈rs:=List.mem_of_getElem? ho
 obtain⟨hos,hoo⟩:og.snap=true∧og.own≠v.id:=by
  rcases Ev with rfl | ⟨x,hx,hxe,hxs,hxo⟩
  ·have:=F.id1 hom
   omega
  ·have:=F.uniq hx hom (hxe.trans hoe.symm)
   subst this
   exact⟨hxs,hxo⟩
 obtain⟨⟨w,hw,hwi,hws⟩, -⟩:=F.owner og hom hos
 obtain⟨l,e,cw,Ew,aw⟩:=F.chain hw hws
 have hol:og∈l:=by
  rcases aw og hom hwi.symm with rfl | h
  ·rw[hws] at hos
   cases hos
  ·exact h
 obtain⟨pre,post,rfl⟩:=List.append_of_mem hol
 refine⟨w,pre,post,e,hw,hws,hwi.symm,hom,hos,hoo,cw,Ew,aw,?_,?_,lv,by rw[hoe]; exact cv,by rw[hoe]; exact Ev,av⟩
 ·rw[←hwi,F.wayR hw hws cw Ew]
 ·have hc:=cw.cut
  rw[←hwi,Chn.way F Ew hc (hc.short F),List.nil_append]
end
def zjM (rs:List zaj) (vid:Int) (m:Int):Prop:=∃s∈rs,s.snap=true∧s.own=vid∧∃j x,plcN rs m=some j∧rs[j]?= some x∧s.name=x.name
open Classical in
noncomputable def zba (nx:Int) (rs:List zaj) (o:Option (ByteArray×ByteArray)):Int×List zaj×Int:=match volOf o with
 | none=>(nx,rs,141)
 | some _=>match lookOf rs o with
   | none=>(nx,rs,172)
   | some i=>match rs[i]? with
     | none=>(nx,rs,0)
     | some v=>match plcN rs (wayR rs v.id).2 with
       | none=>(nx,rs,174)
       | some jo=>match rs[jo]? with
         | none=>(nx,rs,0)
         | some og=>if ∃m∈(zcz rs og.own 32 og.id []).1,zjM rs v.id m then (nx,rs,171) else (nx,rs.map (zce v.id (zcz rs og.own 32 og.id []).1),0)
structure zo3 (K:Xs):Prop where
 a5:zv0 K
 promote:K 24=none
 promote1:K 62=none
 contains:K 61=none
 index:K 59=none
 origin:K 41=none
section
variable {K:Xs} {h:AH} {p:Option Addr} {n c:Nat} {rs:List zaj} {nx:Int}
theorem zrp (kk:zo3 K) (T:zbL h p n rs) {r:zaj} {vid bn:Int} {pb0 pb1 pb2 j:Nat} (w0:∃t ro,h.get pb0=some (.cells [.int .u64 vid] t ro)) (w1:∃t ro,h.get pb1=some (.cells [.int .u64 bn,.slice p n c] t ro)) (w2:∃t ro,h.get pb2=some (.cells [.int .i64 (j:Int)] t ro)) (l0:pb0 < h.next) (l1:pb1 < h.next) (l2:pb2 < h.next) (hj:j < rs.length):
 Wf Tryz.prog K 62 [.agg (setC r).toArray,.pointer (some ⟨pb0,0,none⟩),.pointer (some ⟨pb1,0,none⟩),.pointer (some ⟨pb2,0,none⟩)] h fun v h'=>zbI v (r.snap=true∧r.own=vid∧r.name=rs[j].name)∧Old h h':=by
 obtain⟨t0,r0,w0⟩:=w0
 obtain⟨t1,r1,w1⟩:=w1
 obtain⟨t2,r2,w2⟩:=w2
 refine zhd kk.promote1 _ _ _ _ _ _ _ _ _ _ _ _ _ _ _ _ h _ fun g0 e0=>?_
 have o0:=zab e0
 have wr:=zaf e0
 have hjn:j < n:=by have:=T.1; omega
 cases hs:r.snap with
 | false=>exact .inr ⟨zae wr (by rw[hs]; rfl),.inr ⟨rfl,fun q=>by cases q.1⟩,o0⟩
 | true=>
   obtain⟨pb,off,rfl,hj',hld,hld1,ok⟩:=(T.old o0).at hjn
   refine .inl ⟨zae wr (by rw[hs]; rfl),_,zae wr rfl,zag ⟨_,zae ((o0.2 _ l0).trans w0) rfl,fun q=>⟨_,zae wr rfl,zag ⟨_,_,_,zae ((o0.2 _ l1).trans w1) rfl,zag ⟨_,zae ((o0.2 _ l2).trans w2) rfl,zag ⟨by omega,by omega,_,by rw[Int.toNat_natCast]; exact hld1 1 _ rfl,fun q2=>⟨.inl ⟨rfl,rfl,q,q2⟩,o0⟩,fun q2=>⟨.inr ⟨rfl,fun z=>q2 z.2.2⟩,o0⟩⟩⟩⟩⟩,fun q=>⟨.inr ⟨rfl,fun z=>q z.2.1⟩,o0⟩⟩⟩
theorem zmM (kk:zo3 K) (T:zbL h p n rs) {vid bn:Int} {pb0 pb1 pb2 j:Nat} (w0:∃t ro,h.get pb0=some (.cells [.int .u64 vid] t ro)) (w1:∃t ro,h.get pb1=some (.cells [.int .u64 bn,.slice p n c] t ro)) (w2:∃t ro,h.get pb2=some (.cells [.int .i64 (j:Int)] t ro)) (l0:pb0 < h.next) (l1:pb1 < h.next) (l2:pb2 < h.next) (hj:j < rs.length):
 Wf Tryz.prog K 61 [.slice p n c,.func (.func 62) #[] #[.pointer (some ⟨pb0,0,none⟩),.pointer (some ⟨pb1,0,none⟩),.pointer (some ⟨pb2,0,none⟩)]] h fun v h'=>zbI v (∃s∈rs,s.snap=true∧s.own=vid∧s.name=rs[j].name)∧Old h h':=by
 have hn:=T.1
 have hn2:=T.2.1
 have hre:reachBytes=140737488351232:=rfl
 refine zbN kk.contains _ _ _ _ _ _ h _ (zb1 kk.a5.a4.a3.a2.a.r.index _ _ _ _ _ _ h _ ?_)
 refine⟨fun i k g=>∃u:Nat,i=u∧u≤n∧n - u=k∧Old h g∧∀(q:Nat) x,q < u→rs[q]?= some x→¬(x.snap=true∧x.own=vid∧x.name=rs[j].name),⟨_,0,rfl,Nat.zero_le _,rfl,Old.refl _,fun j x hj=>absurd hj (Nat.not_lt_zero _)⟩,?_⟩
 rintro k1 g2 i4 ⟨u,rfl,hu,rfl,o2,hb⟩
 refine⟨fun z=>?_,fun z=>?_⟩
 ·obtain⟨b,off,hpe,hu',hld, -⟩:=(T.old o2).at (i:=u) (by omega)
  have T2:=T.old o2
  subst hpe
  have f:∀{pb:Nat} {cs:List Value},(∃t ro,h.get pb=some (.cells cs t ro))→pb < h.next→∃t ro,g2.get pb=some (.cells cs t ro):=fun ⟨t,ro,w⟩ l=>⟨t,ro,(o2.2 _ l).trans w⟩
  have ln:=o2.1
  refine zag ⟨by omega,z,_,_,_,_,_,_,_,_,_,_,_,_,_,by rw[Int.toNat_natCast]; exact hld,(zrp kk T2 (r:=rs[u]) (f w0 l0) (f w1 l1) (f w2 l2) (by omega) (by omega) (by omega) hj).mono ?_⟩
  rintro _ g21 ⟨⟨rfl,k⟩ | ⟨rfl,k⟩,o21⟩
  ·exact .inl ⟨rfl,_,rfl,fun _=>⟨.inl ⟨rfl,rs[u],List.getElem_mem hu',k⟩,o2.trans o21⟩,fun q=>absurd (by omega) q⟩
  ·refine .inr ⟨rfl,fun i22 e22=>?_⟩
   have e22:=zcj e22 (by omega) (by omega)
   refine⟨_,by omega,u+1,by rw[e22]; rfl,by omega,rfl,o2.trans o21,fun q x hq hx=>?_⟩
   by_cases hju:q=u
   ·subst hju
    rw[List.getElem?_eq_getElem hu'] at hx
    cases hx
    exact k
   ·exact hb q x (by omega) hx
 ·refine⟨_,rfl,fun q=>absurd q (by decide),fun _=>⟨.inr ⟨rfl,?_⟩,o2⟩⟩
  rintro⟨s,hs,hq⟩
  obtain⟨q,hql,rfl⟩:=List.mem_iff_getElem.1 hs
  exact hb q _ (by omega) (List.getElem?_eq_getElem hql) hq
theorem zrq (hk:K 59=none) {pp:Option Addr} {m cc:Nat} {A B:List Int} {x:Int} (S:zaR h pp m 1 (zgi (A ++ x :: B))) (hp:pp=none∨∃b off,pp=some ⟨b,off,none⟩) (hx:x∉A) (hm:m≤1000000):
 Wf Tryz.prog K 59 [.slice pp m cc,.int .u64 x] h fun v h'=>v=.int .i64 (A.length:Int)∧h=h':=by
 have hml:m=A.length+(B.length+1):=by have:=S.1; rw[zdl] at this; simp at this; omega
 refine zcg hk _ _ _ _ h _ ⟨fun i k g=>∃u:Nat,i=u∧u≤A.length∧m - u=k∧g=h,⟨_,0,rfl,Nat.zero_le _,rfl,rfl⟩,?_⟩
 rintro k1 g2 i4 ⟨u,rfl,hu,rfl,rfl⟩
 refine⟨fun z=>?_,fun z=>absurd (by omega) z⟩
 obtain⟨b,off,rfl,h2⟩:=S.get (i:=u) (by omega)
 ·have hul:u < (A ++ x :: B).length:=by simp; omega
  refine zag ⟨by omega,z,(A ++ x :: B)[u],?_,fun q=>?_,fun q i8 e8=>?_⟩
  ·rw[Int.toNat_natCast,Nat.mul_one,h2,zk8 hul]
  ·have:u=A.length:=by
    by_cases q2:u < A.length
    ·rw[List.getElem_append_left q2] at q
     exact absurd (q▸List.getElem_mem q2) hx
    ·omega
   exact⟨by rw[this],rfl⟩
  ·have e8:=zcj e8 (by omega) (by omega)
   refine⟨_,by omega,u+1,by rw[e8]; rfl,?_,rfl,rfl⟩
   by_cases q2:u=A.length
   ·subst q2
    rw[List.getElem_append_right (Nat.le_refl _)] at q
    simp at q
   ·omega
theorem zdV {vid:Int} {mv:List Int} {r:zaj} (h:r.id∈mv):zce vid mv r={ r with own:=vid }:=if_pos h
theorem zdW {vid:Int} {mv:List Int} {r:zaj} (h:r.id∉mv):zce vid mv r=r:=if_neg h
open Classical in
theorem zn5 (kk:zo3 K) (T:zb0 h p n rs) (R:zam nx rs) (hn40:n≤1000) (f:ByteArray) (hf:f.size≤9223372036854775806):
 Wf Tryz.prog K 24 [.agg #[.int .u64 nx,.slice p n c],.string f] h fun v h'=>zu7 (zba nx rs (spl f)) v h'∧Old h h':=by
 refine ziU kk.promote _ _ _ _ _ h _ fun g0 e0 g1 e1=>?_
 have kr:=kk.a5.a4.a3.a2.a.r
 have kp:=kk.a5.a4.a3.a2.a.fplace
 have kw:=kk.a5.a4.a3.way
 have d1:=HdB.of e0 e1
 have hn:=T.1.1
 have err:∀{g:AH} {e:Int},HdB h g0 g nx p n c→zba nx rs (spl f)=(nx,rs,e)→∀i p' n' c' g',zb2 nx rs i p' n' g'→Old h g'→g.next≤g'.next→(∀y,y < g.next→y≠g0.next→g'.get y=g.get y)→zu7 (zba nx rs (spl f)) (.tuple #[.agg #[.int .u64 i,.slice p' n' c'],.int .i64 e]) g'∧Old h g':=fun d e i p' n' c' g' br o _ _=>⟨⟨i,p',n',c',by rw[e],by rw[e]; exact br⟩,o⟩
 refine⟨_,_,_,_,d1.ldN,(zi9 kr (c:=c) (T.1.old d1.o) R f hf nx).mono ?_⟩
 rintro _ g7 ⟨rfl,o7⟩
 have d7:=d1.old o7
 rcases zgm rs (spl f) with ⟨hv,e⟩ | ⟨⟨a,hv⟩,hl,e⟩ | ⟨a,i,v,hv,hl,hr,e⟩
 ·rw[e]
  exact⟨_,_,rfl,fun z=>absurd z (by decide),fun _=>zhj kr d7 T hn40 (err d7 (by unfold zba; rw[hv]))⟩
 ·rw[e]
  exact⟨_,_,rfl,fun z=>absurd z (by decide),fun _=>zhj kr d7 T hn40 (err d7 (by unfold zba; rw[hv]; simp only; rw[hl]))⟩
 ·rw[e]
  have hvs:=zfo R hv hl hr
  obtain⟨hi,hri⟩:=List.getElem?_eq_some_iff.1 hr
  have hvm:v∈rs:=List.mem_of_getElem? hr
  have hin:i < n:=by omega
  have T7:=T.1.old d7.o
  obtain⟨pb,off,rfl,hi',hld,hld1,ok⟩:=T7.at hin
  have hvi:=hld1 0 _ rfl
  rw[hri] at hvi
  refine⟨_,_,rfl,fun _=>⟨_,_,_,d7.sl,zag ⟨by omega,by omega,v.id,by rw[Int.toNat_natCast]; exact hvi,fun g16 e16=>?_⟩⟩,fun z=>absurd rfl z⟩
  obtain⟨g17,k17,nr17,w17⟩:=zmI (v:=.int .u64 v.id) (zaf e16) (i:=0) (by simp)
  have w17:g17.get g7.next=some (.cells [.int .u64 v.id] 26 false):=w17
  have o17:Old g7 g17:=zao (zab e16) nr17 (Nat.le_refl _)
  have n17:g17.next=g7.next+1:=nr17.1.trans (zaa e16)
  have d17:=d7.old o17
  refine⟨g17,k17,_,_,_,d17.sl,_,zae w17 rfl,(zkc kk.origin kw kp (T.1.old d17.o) v.id).mono ?_⟩
  rintro _ g23 ⟨rfl,o23⟩
  have d23:=d17.old o23
  refine⟨_,rfl,_,_,_,d23.sl,(zk6 kk.a5.a4.a3.a2.find kp kr.named0.copy (T.1.old d23.o) (wayR rs v.id).2).mono ?_⟩
  rintro _ g29 ⟨⟨jo,og,px,cx,hj,hjx,rfl,okx⟩ | ⟨hj,rfl⟩,o29⟩
  ·have d29:=d23.old o29
   obtain⟨w,pre,post,ee,Q⟩:=R.fam.promQ hvm hvs hj hjx
   have hpA:zba nx rs (spl f)=if ∃m∈(zcz rs og.own 32 og.id []).1,zjM rs v.id m then (nx,rs,171) else (nx,rs.map (zce v.id (zcz rs og.own 32 og.id []).1),0):=by
    unfold zba; rw[hv]; simp only; rw[hl]; simp only; rw[hr]; simp only; rw[hj]; simp only; rw[hjx]
   refine⟨_,_,_,_,_,_,_,_,_,_,_,_,_,.inl ⟨rfl,fun g43 e43=>?_⟩⟩
   obtain⟨g44,k44,n44,o44,v44⟩:=zap e43 (vs:=setC { og with dp:=px,dc:=cx }) rfl
   have w44:=(v44 [] (fun c hc=>by cases hc)).1
   have d44:=d29.old o44
   refine⟨rfl,g44,k44,d17.sl,d23.sl,_,_,_,d44.sl,_,zae w44 rfl,(zmz kk.a5.a4.a3.chain kw kp (T.1.old d44.o) og.own).mono ?_⟩
   rintro _ g50 ⟨pp,m,cc,rfl,G,o50⟩
   have d50:=d44.old o50
   have w50:=(o50.2 _ (by omega)).trans w44
   have hmap:(pre ++ og :: post).map (·.id)=pre.map (·.id) ++ og.id :: post.map (·.id):=by simp
   have S:=G.shows
   have hG:(zgi (wayR rs og.own).1).length=m * 1:=G.1
   rw[Q.way,hmap] at S hG
   have hml:m=pre.length+(post.length+1):=by rw[zdl] at hG; simp at hG; omega
   have hm32:m≤32:=by
    have:=Q.cw.short R.fam
    simp at this
    omega
   have hnd:=Q.cw.nodup R.fam
   rw[hmap,List.nodup_append] at hnd
   have hnot:og.id∉pre.map (·.id):=fun q=>hnd.2.2 _ q _ (List.mem_cons_self ..) rfl
   refine⟨_,_,_,rfl,_,zae w50 rfl,(zrq kk.index S G.form hnot (by omega)).mono ?_⟩
   rintro _ g56 ⟨rfl,rfl⟩
   rw[List.length_map]
   have hoc:m < zar:=by simp only[zar]; omega
   obtain⟨p59,c61,ks,ko,kn,kc⟩:=cutP zvq (by kernel_rfl) (G.cutQ hoc:zka Tryz.prog g50 26 pp m cc) (some pre.length) none (by show pre.length≤m; omega) (Nat.le_refl m)
   have ks:zaB Tryz.prog g50 102 (.slice pp m cc) (some (.int .i64 (pre.length:Int))) none none=some (.slice p59 (m - pre.length) c61):=ks
   have S59:zaR g50 p59 (m - pre.length) 1 (zgi ((og :: post).map (·.id))):=by
    have:=S.cut2 (lo:=pre.length) (hi:=m) (p':=p59) (by omega) (Nat.le_refl _) ko
    have he:((zgi (pre.map (·.id) ++ og.id :: post.map (·.id))).drop (pre.length * 1)).take ((m - pre.length) * 1)=zgi ((og :: post).map (·.id)):=by
     unfold zgi
     rw[List.map_append,List.drop_append,Nat.mul_one,List.drop_eq_nil_of_le (by simp),List.nil_append]
     simp only[List.length_map,Nat.sub_self,List.drop_zero]
     rw[List.take_of_length_le (by simp; omega)]
     simp
    rwa [he] at this
   rw[Q.mv] at hpA
   generalize hM:m - pre.length=M at *
   generalize hmv:(og :: post).map (·.id)=mv at *
   have hmvl:mv.length=M:=by rw[←hmv]; simp; omega
   have hmem:∀x∈mv,∃j y,plcN rs x=some j∧rs[j]?= some y∧y.id=x:=fun x hx=>by
    rw[←hmv] at hx
    obtain⟨y,hy,rfl⟩:=List.mem_map.1 hx
    obtain⟨j,h1,h2⟩:=R.fam.place (Q.cw.mem y (List.mem_append_right _ hy)).1
    exact⟨j,y,h1,h2,rfl⟩
   refine⟨_,rfl,fun i58 e58=>?_⟩
   rw[if_neg (by omega)] at e58
   subst e58
   refine⟨_,_,_,ks,_,_,_,_,d50.ldN,(zgM kr d50 T hn40).mono ?_⟩
   rintro _ g67 ⟨b,xs,rfl,hbl,hc,hnew,o67,F⟩
   refine⟨_,_,_,_,rfl,fun g72 e72=>?_⟩
   obtain⟨g73,k73,o73,u⟩:=F g72 e72
   have hxl:=za5 hc
   have w17f:∀{g:AH},Old g50 g→g.get g7.next=some (.cells [.int .u64 v.id] 26 false):=fun o=>(o.2 _ (by have:=o23.1; have:=o29.1; have:=o44.1; have:=o50.1; omega)).trans ((o50.2 _ (by have:=o23.1; have:=o29.1; have:=o44.1; omega)).trans ((o44.2 _ (by have:=o23.1; have:=o29.1; omega)).trans ((o29.2 _ (by have:=o23.1; omega)).trans ((o23.2 _ (by omega)).trans w17))))
   have l750:g7.next < g50.next:=by have:=o23.1; have:=o29.1; have:=o44.1; have:=o50.1; omega
   have hinit:xs.map cor=(rs.map (zce v.id (mv.take 0))).map cor:=by
    rw[hc,List.map_map]
    exact List.map_congr_left fun r _=>by rw[Function.comp,zdW (by simp)]
   refine⟨rfl,g73,k73,fun i78 k g=>∃(t:Nat) (xs' : List zaj),i78=t∧t≤M∧M - t=k∧Old g50 g∧Bkc h g0 g nx _ n c g67.next b nx n n xs'∧xs'.length=xs.length∧xs'.map cor=(rs.map (zce v.id (mv.take t))).map cor∧∀x∈mv.take t,¬zjM rs v.id x,
    ⟨_,0,xs,rfl,Nat.zero_le _,rfl,o67.trans o73,u,rfl,hinit,fun x hx=>(by simp at hx)⟩,?_⟩
   rintro k75 g76 i78 ⟨t,xs',rfl,ht,rfl,o76,u',hl',hc',hno⟩
   refine⟨fun z=>?_,fun z=>?_⟩
   ·have htM:t < M:=by omega
    have htl:t < mv.length:=by omega
    obtain⟨bq,offq,hpq,hldq⟩:=(S59.old o76).get htM
    obtain⟨j,y,hpj,hyj,hyi⟩:=hmem mv[t] (List.getElem_mem htl)
    obtain⟨hjl,hyj2⟩:=List.getElem?_eq_some_iff.1 hyj
    rw[hpq]
    refine zag ⟨by omega,by omega,mv[t],by rw[Int.toNat_natCast,Nat.mul_one,hldq,zk8 htl],_,_,_,u'.hd.sl,(zhi kr (T.1.old u'.hd.o) mv[t]).mono ?_⟩
    rintro _ g86 ⟨rfl,o86⟩
    rw[zaS hpj]
    refine⟨_,rfl,fun g88 e88=>?_⟩
    obtain⟨g89,k89,nr89,w89⟩:=zmI (v:=.int .i64 (j:Int)) (zaf e88) (i:=0) (by simp)
    have w89:g89.get g86.next=some (.cells [.int .i64 (j:Int)] 3 false):=w89
    have o89:Old g86 g89:=zao (zab e88) nr89 (Nat.le_refl _)
    have n89:g89.next=g86.next+1:=nr89.1.trans (zaa e88)
    have u89:=(u'.old o86).old o89
    have o7689:=(o76.trans o86).trans o89
    have ln1:=o7689.1
    have ln2:=u89.hd.lt
    refine⟨g89,k89,_,_,_,u89.hd.sl,(zmM kk (T.1.old u89.hd.o) (vid:=v.id) (j:=j) ⟨_,_,w17f o7689⟩ ⟨_,_,u89.hd.c0⟩ ⟨_,_,w89⟩ (by omega) (by omega) (by omega) hjl).mono ?_⟩
    rintro _ g94 ⟨⟨rfl,hcl⟩ | ⟨rfl,hcl⟩,o94⟩
    ·refine .inl ⟨rfl,zhj kr (u89.hd.old o94) T hn40 (err (u89.hd.old o94) ?_)⟩
     rw[hpA,if_pos]
     obtain⟨s,h1,h2,h3,h4⟩:=hcl
     exact⟨mv[t],List.getElem_mem htl,s,h1,h2,h3,j,y,hpj,hyj,by rw[h4,hyj2]⟩
    ·have u94:=u89.old o94
     have hjx:j < xs'.length:=by omega
     have hxm:=List.getElem_mem hjx
     obtain⟨g117,k117,nr117,u117⟩:=u94.st1 (i:=j) (k:=3) (v:=.int .u64 v.id) (r':={ xs'[j] with own:=v.id }) hjx (by omega) rfl ((u94.own.recs _ hxm).1.own (by have:=R.ent hvm; have:=this.1; exact zlg (by omega))) fun a ha=>⟨(u94.own.recs _ hxm).2 a ha,u94.far _ hxm a ha⟩
     refine .inr ⟨rfl,_,_,_,u94.sl,_,zae ((o94.2 _ (by omega)).trans w89) rfl,_,zae (w17f (o7689.trans o94)) rfl,zag ⟨by omega,by omega,g117,k117,fun i118 e118=>?_⟩⟩
     have e118:=zcj e118 (by omega) (by omega)
     have htk:mv.take (t+1)=mv.take t ++ [mv[t]]:=List.take_succ_eq_append_getElem htl
     refine⟨_,by omega,t+1,xs'.set j { xs'[j] with own:=v.id },by rw[e118]; rfl,by omega,rfl,zao (o7689.trans o94) nr117 (by omega),u117,by simpa using hl',?_,fun x hx=>?_⟩
     ·apply List.ext_getElem?
      intro q
      have hj:=congrArg (fun l=>l[q]?) hc'
      simp only[List.getElem?_map] at hj ⊢
      rw[List.getElem?_set]
      by_cases e:j=q
      ·subst e
       rw[if_pos rfl,if_pos hjx,hyj]
       rw[List.getElem?_eq_getElem hjx,hyj] at hj
       simp only[Option.map_some] at hj ⊢
       have hj:=zaL (Option.some.inj hj)
       have pf:=zhZ v.id (mv.take t) y
       rw[zdV (by rw[htk]; exact List.mem_append_right _ (List.mem_singleton.2 hyi))]
       have hrest:(zce v.id (mv.take t) y).blocks=y.blocks∧(zce v.id (mv.take t) y).root=y.root∧(zce v.id (mv.take t) y).dn=y.dn:=by unfold zce; split <;> exact⟨rfl,rfl,rfl⟩
       exact congrArg some (zfR ⟨hj.1.trans pf.1,hj.2.1.trans pf.2.2.2.1,hj.2.2.1.trans pf.2.1,rfl,hj.2.2.2.2.1.trans pf.2.2.2.2.1,hj.2.2.2.2.2.1.trans pf.2.2.1,hj.2.2.2.2.2.2.1.trans hrest.1,hj.2.2.2.2.2.2.2.1.trans hrest.2.1,hj.2.2.2.2.2.2.2.2.1.trans hrest.2.2,hj.2.2.2.2.2.2.2.2.2.trans pf.2.2.2.2.2⟩)
      ·rw[if_neg e,hj]
       cases hrj:rs[q]? with
       | none=>rfl
       | some r=>
         simp only[Option.map_some]
         have hne:r.id≠mv[t]:=fun q2=>e (by
          have a:=R.uniq hrj
          rw[q2,hpj] at a
          exact Option.some.inj a)
         by_cases hmt:r.id∈mv.take t
         ·rw[zdV hmt,zdV (by rw[htk]; exact List.mem_append_left _ hmt)]
         ·rw[zdW hmt,zdW (by rw[htk]; exact fun q=>(List.mem_append.1 q).elim hmt fun q=>hne (List.mem_singleton.1 q))]
     ·rw[htk] at hx
      rcases List.mem_append.1 hx with hx | hx
      ·exact hno x hx
      ·rw[List.mem_singleton] at hx
       subst hx
       rintro⟨s,h1,h2,h3,j2,x2,h4,h5,h6⟩
       rw[hpj] at h4
       cases h4
       rw[hyj] at h5
       cases h5
       exact hcl ⟨s,h1,h2,h3,by rw[h6,hyj2]⟩
   ·obtain rfl:t=M:=by omega
    rw[List.take_of_length_le (by omega)] at hc' hno
    rw[if_neg (by rintro⟨x,hx,hq⟩; exact hno x hx hq)] at hpA
    exact u'.ret (by omega) hc' fun g' br o nr=>⟨⟨_,_,_,_,by rw[hpA],by rw[hpA]; exact br⟩,o⟩
  ·have d29:=d23.old o29
   refine⟨_,_,_,_,_,_,_,_,_,_,_,_,_,.inr ⟨rfl,fun g43 e43=>?_⟩⟩
   obtain⟨g44,k44,n44,o44,v44⟩:=zap e43 (vs:=setC zaq) rfl
   exact⟨rfl,g44,k44,d17.sl,d23.sl,zhj kr (d29.old o44) T hn40 (err (d29.old o44) (by unfold zba; rw[hv]; simp only; rw[hl]; simp only; rw[hr]; simp only; rw[hj]))⟩
end
abbrev zhk (p:Option Addr):Prop:=p=none∨∃b off,p=some ⟨b,off,none⟩
def zbw (nx:Int) (R:List zaj) (i:Int) (p:Option Addr) (n:Nat) (g:AH):Prop:=i=nx∧zhk p∧∃rs',zbL g p n rs'∧rs'.map cor=R.map cor
structure zdm (K:Xs):Prop where
 r16:zhz K
 d13:zle K
 vol:K 68=none
 snap:K 72=none
 put:K 74=none
 cut:K 79=none
 add:K 70=none
 taken:K 69=none
 create:K 28=none
 snapA:K 33=none
 clone:K 34=none
 promote:K 35=none
 back:K 36=none
 dropVol:K 39=none
 dropSnap:K 38=none
def zn6 (s:zaj) (rs:List zaj):List zaj:=rs.map fun x=>if x.id=s.id then s else x
def zv1 (nx:Int) (s:zaj):zaj:=if s.snap=true then { s with id:=nx } else { s with id:=nx,own:=nx }
section
variable {K:Xs} {h:AH} {p:Option Addr} {n c:Nat} {rs:List zaj} {nx:Int}
theorem zdd {lim:Nat} {g:AH} {ys:List zaj} (G:zaY lim g 81 11 p n c (setsC ys)) (hn:n≤100000) (ok:∀r∈ys,zbC g r):zbL g p n ys:=by
 have hre:reachBytes=140737488351232:=rfl
 exact zla G.shows (by omega) ok
theorem zmN {lim:Nat} {g:AH} {ys:List zaj} (G:zaY lim g 81 11 p n c (setsC ys)):n=ys.length:=by
 have:=G.1
 rw[zaI] at this
 omega
theorem zhA {g0 g:AH} (d:HdB h g0 g nx p n c) (T:zbL h p n rs) (form:zhk p) {C:Int→Option Addr→Nat→Nat→AH→Prop} (HC:∀g',zbw nx rs nx p n g'→Old h g'→zbR g0.next g g'→C nx p n c g'):
 ∃i4:Int,∃(p5:Option Addr) (n6 c7:Nat),ldN g h.next 0 2=some [.int .u64 i4,.slice p5 n6 c7]∧(List.length [Value.int .u64 i4,.slice p5 n6 c7]=2)∧
  ∃h8:AH,stN g g0.next 0 [.int .u64 i4,.slice p5 n6 c7]=some h8∧∃i9:Int,∃(p10:Option Addr) (n11 c12:Nat),ldN h8 g0.next 0 2=some [.int .u64 i9,.slice p10 n11 c12]∧C i9 p10 n11 c12 h8:=by
 have l1:=d.lt
 have l2:=d.n0
 refine⟨_,_,_,_,d.ldN,rfl,zuh (by omega) d.c1 rfl fun g' nr=>?_⟩
 have o':=zao d.o nr (by omega)
 exact HC g' ⟨rfl,form,rs,T.old o',rfl⟩ o' nr
theorem zw3 {g0 g:AH} (d:HdB h g0 g nx p n c) {nx' : Int} {L n' c' : Nat} {p' : Option Addr} {R:List zaj} (G:zaY L g 81 11 p' n' c' (setsC R)) (hL:g0.next < L) (hn' : n'≤100000) (ok:∀g',Old h g'→∀r∈R,zbC g' r) {C:Int→Option Addr→Nat→Nat→AH→Prop} (HC:∀g',zbw nx' R nx' p' n' g'→Old h g'→zbR g0.next g g'→C nx' p' n' c' g'):
 ∃h17:AH,stN g g0.next 0 [.int .u64 nx',.slice p' n' c']=some h17∧∃i18:Int,∃(p19:Option Addr) (n20 c21:Nat),ldN h17 g0.next 0 2=some [.int .u64 i18,.slice p19 n20 c21]∧C i18 p19 n20 c21 h17:=by
 have l1:=d.lt
 have l2:=d.n0
 refine zuh (by omega) d.c1 rfl fun g' nr=>?_
 have o':=zao d.o nr (by omega)
 have G':=G.near nr hL (Nat.le_refl _)
 exact HC g' ⟨rfl,G'.form,R,zdd G' hn' (ok g' o'),rfl⟩ o' nr
theorem zrr (kk:zdm K) (f:ByteArray) (hf:f.size≤9223372036854775806):Wf Tryz.prog K 68 [.string f] h fun v h'=>zbI v (∃a,volOf (spl f)=some a)∧Old h h':=by
 refine zf5 kk.vol _ h _ ((zgj kk.r16.r15.r1 f hf).mono ?_)
 rintro _ g ⟨⟨a,b,hs,rfl⟩ | ⟨hs,rfl⟩,rfl⟩
 ·refine⟨_,_,_,rfl,fun _=>⟨fun e=>⟨.inl ⟨rfl,a,by rw[zaH hs]; exact if_pos e⟩,Old.refl _⟩,fun e=>⟨.inr ⟨rfl,?_⟩,Old.refl _⟩⟩,fun z=>absurd rfl z⟩
  rintro⟨x,hx⟩
  rw[zaH hs] at hx
  have:volOf (some (a,b))=none:=if_neg e
  rw[this] at hx
  cases hx
 ·refine⟨_,_,_,rfl,fun z=>absurd z (by decide),fun _=>⟨.inr ⟨rfl,?_⟩,Old.refl _⟩⟩
  rintro⟨x,hx⟩
  rw[zbB hs] at hx
  cases hx
theorem zrs (kk:zdm K) (f:ByteArray) (hf:f.size≤9223372036854775806):Wf Tryz.prog K 72 [.string f] h fun v h'=>zbI v (∃q,snapOf (spl f)=some q)∧Old h h':=by
 refine zfB kk.snap _ h _ ((zgj kk.r16.r15.r1 f hf).mono ?_)
 rintro _ g ⟨⟨a,b,hs,rfl⟩ | ⟨hs,rfl⟩,rfl⟩
 ·refine⟨_,_,_,rfl,fun _=>⟨fun e=>⟨.inr ⟨rfl,?_⟩,Old.refl _⟩,fun e=>⟨.inl ⟨rfl,(a,b),by rw[zaH hs]; exact if_neg e⟩,Old.refl _⟩⟩,fun z=>absurd rfl z⟩
  rintro⟨x,hx⟩
  rw[zaH hs] at hx
  have:snapOf (some (a,b))=none:=if_pos e
  rw[this] at hx
  cases hx
 ·refine⟨_,_,_,rfl,fun z=>absurd z (by decide),fun _=>⟨.inr ⟨rfl,?_⟩,Old.refl _⟩⟩
  rintro⟨x,hx⟩
  rw[zbB hs] at hx
  cases hx
theorem namedD {f:ByteArray} {v:Value} (q:zlb rs f v):(∃i r,lookOf rs (spl f)=some i∧rs[i]?= some r∧v=.tuple #[.agg (setC r).toArray,.int .i64 0])∨(lookOf rs (spl f)=none∧∃e,e≠0∧v=.tuple #[.agg (setC zaq).toArray,.int .i64 e]):=by
 rcases q with ⟨a,b,hs,⟨i,r,hl,hr,rfl⟩ | ⟨hl,rfl⟩⟩ | ⟨hs,rfl⟩
 ·exact .inl ⟨i,r,by rw[zaH hs]; exact hl,hr,rfl⟩
 ·exact .inr ⟨by rw[zaH hs]; exact hl,161,by decide,rfl⟩
 ·exact .inr ⟨by rw[zbB hs]; rfl,141,by decide,rfl⟩
theorem zll (kk:zdm K) (T:zbL h p n rs) (R:zam nx rs) (f:ByteArray) (hf:f.size≤9223372036854775806) (bn:Int):
 Wf Tryz.prog K 69 [.agg #[.int .u64 bn,.slice p n c],.string f] h fun v h'=>zbI v (∃i,lookOf rs (spl f)=some i)∧Old h h':=by
 refine zeR kk.taken _ _ _ _ _ h _ fun g0 e0=>?_
 have o0:=zab e0
 refine⟨_,_,_,zae (zaf e0) rfl,(zds kk.r16 (c:=c) (T.old o0) R f hf).mono ?_⟩
 rintro _ g5 ⟨q,o5⟩
 rcases namedD q with ⟨i,r,hl,hr,rfl⟩ | ⟨hl,e,he,rfl⟩
 ·refine⟨_,_,_,_,_,_,_,_,_,_,_,_,_,_,rfl,fun g20 e20=>?_⟩
  obtain⟨g21,k21,n21,o21,v21⟩:=zap e20 (vs:=setC r) rfl
  exact⟨rfl,g21,k21,fun _=>⟨.inl ⟨rfl,i,hl⟩,(o0.trans o5).trans o21⟩,fun z=>absurd rfl z⟩
 ·refine⟨_,_,_,_,_,_,_,_,_,_,_,_,_,_,rfl,fun g20 e20=>?_⟩
  obtain⟨g21,k21,n21,o21,v21⟩:=zap e20 (vs:=setC zaq) rfl
  exact⟨rfl,g21,k21,fun z=>absurd z he,fun _=>⟨.inr ⟨rfl,fun ⟨i,hi⟩=>by rw[hl] at hi; cases hi⟩,(o0.trans o5).trans o21⟩⟩
theorem ztm (kk:zdm K) (T:zbL h p n rs) (hn40:n≤1000) {s:zaj} (ks:zbC h s):
 Wf Tryz.prog K 74 [.slice p n c,.agg (setC s).toArray] h fun v h'=>∃p' c',v=.slice p' n c'∧zaY h.next h' 81 11 p' n c' (setsC (zn6 s rs))∧Old h h':=by
 have hn:=T.1
 have hrm:zaU=140737488355328:=rfl
 refine zf6 kk.put _ _ _ _ _ _ _ _ _ _ _ _ _ _ _ _ h _ fun g0 e0 g1 e1=>?_
 have o0:=zab e0
 have o1:=zab e1
 have n0:=zaa e0
 have n1:=zaa e1
 have oh1:=o0.trans o1
 have cs:∀{g:AH},zha g0.next g1 g→g.get h.next=some (.cells (setC s) 81 false):=fun o=>(o.2 _ (by omega)).trans ((o1.2 _ (by omega)).trans (zaf e0))
 refine⟨fun p6 n7 c8 i9 k g=>∃u:Nat,i9=u∧n7=u∧u≤n∧n - u=k∧zha g0.next g1 g∧zaY g0.next g 81 11 p6 n7 c8 (setsC (zn6 s (rs.take u))),⟨_,0,rfl,rfl,Nat.zero_le _,rfl,zha.refl _ _,zaY.lit e1 rfl (Nat.le_refl _)⟩,?_⟩
 rintro k3 g4 p6 n7 c8 i9 ⟨u,rfl,rfl,hu,rfl,o4,G⟩
 have oh4:Old h g4:=⟨Nat.le_trans oh1.1 o4.1,fun y hy=>(o4.2 y (by omega)).trans (oh1.2 y hy)⟩
 have lg:g0.next < g4.next:=by have:=o4.1; omega
 refine⟨fun z=>?_,fun z=>?_⟩
 ·obtain⟨b,off,rfl,hi',hld, -,ok⟩:=(T.old oh4).at (i:=n7) (by omega)
  refine zag ⟨by omega,z,_,_,_,_,_,_,_,_,_,_,_,_,_,by rw[Int.toNat_natCast]; exact hld,fun g25 e25=>?_⟩
  obtain⟨g26,k26,n26,o26,v26⟩:=zap e25 (vs:=setC rs[n7]) rfl
  have w26:=(v26 [] (fun c hc=>by cases hc)).1
  have G26:=G.old o26
  have o26' : zha g0.next g1 g26:=⟨Nat.le_trans o4.1 o26.1,fun y hy=>(o26.2 y (by omega)).trans (o4.2 y hy)⟩
  have step:∀{x:zaj} {g42:AH},zn6 s (rs.take (n7+1))=zn6 s (rs.take n7) ++ [x]→g42=g26.alloc (.cells (setC x) 81 false)→
   ∃(p43:Option Addr) (n44 c45:Nat) (h46:AH),zan Tryz.prog g42 .append #[27,27] [.slice p6 n7 c8,.slice (some ⟨g26.next,0,none⟩) 1 1]=some (.slice p43 n44 c45,h46)∧∀i47:Int,i47=IntKind.wrap .i64 ((n7:Int)+1)→∃j5,j5 < n - n7∧∃u:Nat,i47=u∧n44=u∧u≤n∧n - u=j5∧zha g0.next g1 h46∧zaY g0.next h46 81 11 p43 n44 c45 (setsC (zn6 s (rs.take u))):=fun {x g42} hx e42=>by
   obtain⟨p43,c45,g46,k46,G46,o46,f46,m46⟩:=G26.push znY (by have:=o26.1; omega) (m:=1) (ns:=setC x) e42 (by rw[zbA]) (by omega) (by omega)
   refine⟨p43,_,c45,g46,k46,fun i47 e47=>⟨n - (n7+1),by omega,n7+1,(zcj e47 (by omega) (by omega)).trans rfl,rfl,by omega,rfl,⟨Nat.le_trans o26'.1 o46.1,fun y hy=>(o46.2 y hy).trans (o26'.2 y hy)⟩,by rw[hx,zbg,zdS]; exact G46⟩⟩
  have htk:rs.take (n7+1)=rs.take n7 ++ [rs[n7]]:=List.take_succ_eq_append_getElem hi'
  refine⟨rfl,g26,k26,_,zae w26 rfl,_,zae (cs o26') rfl,fun q=>⟨_,_,_,_,_,_,_,_,_,_,_,_,_,zah (cs o26') rfl,fun g42 e42=>step (x:=s) ?_ e42⟩,fun q=>⟨_,_,_,_,_,_,_,_,_,_,_,_,_,zah w26 rfl,fun g42 e42=>step (x:=rs[n7]) ?_ e42⟩⟩
  ·unfold zn6
   rw[htk,List.map_append]
   simp[q]
  ·unfold zn6
   rw[htk,List.map_append]
   simp[q]
 ·obtain rfl:n7=n:=by omega
  rw[List.take_of_length_le (by omega)] at G
  exact⟨_,_,rfl,G.weak (by omega),oh4⟩
theorem zv2 (kk:zdm K) (T:zbL h p n rs) (hn40:n≤1000) (id:Int):
 Wf Tryz.prog K 79 [.slice p n c,.int .u64 id] h fun v h'=>∃p' n' c',v=.slice p' n' c'∧n'≤n∧zaY h.next h' 81 11 p' n' c' (setsC (rs.filter fun r=>!decide (r.id=id)))∧Old h h':=by
 have hn:=T.1
 have hrm:zaU=140737488355328:=rfl
 refine zf7 kk.cut _ _ _ _ h _ fun g0 e0=>?_
 have o0:=zab e0
 have n0:=zaa e0
 refine⟨fun p6 n7 c8 i9 k g=>∃u:Nat,i9=u∧u≤n∧n - u=k∧zha h.next h g∧zaY h.next g 81 11 p6 n7 c8 (setsC ((rs.take u).filter fun r=>!decide (r.id=id))),⟨_,0,rfl,Nat.zero_le _,rfl,⟨o0.1,o0.2⟩,zaY.lit e0 rfl (Nat.le_refl _)⟩,?_⟩
 rintro k3 g4 p6 n7 c8 i9 ⟨u,rfl,hu,rfl,o4,G⟩
 have oh4:Old h g4:=o4
 refine⟨fun z=>?_,fun z=>?_⟩
 ·obtain⟨b,off,rfl,hi',hld, -,ok⟩:=(T.old oh4).at (i:=u) (by omega)
  refine zag ⟨by omega,z,_,_,_,_,_,_,_,_,_,_,_,_,_,by rw[Int.toNat_natCast]; exact hld,fun g25 e25=>?_⟩
  obtain⟨g26,k26,n26,o26,v26⟩:=zap e25 (vs:=setC rs[u]) rfl
  have w26:=(v26 [] (fun c hc=>by cases hc)).1
  have G26:=G.old o26
  have o26':=oh4.trans o26
  have htk:rs.take (u+1)=rs.take u ++ [rs[u]]:=List.take_succ_eq_append_getElem hi'
  have ln:=o26'.1
  have hlen:n7≤u:=by
   rw[zmN G]
   exact Nat.le_trans (List.length_filter_le _ _) (by rw[List.length_take]; omega)
  refine⟨rfl,g26,k26,_,zae w26 rfl,fun q i27 e27=>⟨n - (u+1),by omega,u+1,(zcj e27 (by omega) (by omega)).trans rfl,by omega,rfl,o26',?_⟩,fun q=>⟨_,_,_,_,_,_,_,_,_,_,_,_,_,zah w26 rfl,fun g41 e41=>?_⟩⟩
  ·rw[htk,List.filter_append]
   simpa[q] using G26
  ·obtain⟨p43,c45,g46,k46,G46,o46,f46,m46⟩:=G26.push znY (by omega) (m:=1) (ns:=setC rs[u]) e41 (by rw[zbA]) (by omega) (by omega)
   refine⟨p43,_,c45,g46,k46,fun i47 e47=>⟨n - (u+1),by omega,u+1,(zcj e47 (by omega) (by omega)).trans rfl,by omega,rfl,⟨Nat.le_trans o26'.1 o46.1,fun y hy=>(o46.2 y hy).trans (o26'.2 y hy)⟩,?_⟩⟩
   rw[htk,List.filter_append]
   simp only[List.filter_cons,q,decide_false,Bool.not_false,if_true,List.filter_nil]
   rw[zbg,zdS]
   exact G46
 ·obtain rfl:u=n:=by omega
  rw[List.take_of_length_le (by omega)] at G
  have hlen:n7≤u:=by
   rw[zmN G]
   exact Nat.le_trans (List.length_filter_le _ _) (by omega)
  exact⟨_,_,_,rfl,hlen,G,oh4⟩
end
section
variable {K:Xs} {h:AH} {p:Option Addr} {n c:Nat} {rs:List zaj} {nx:Int}
theorem zrt {g g0 g1:AH} (T:zbL h p n rs) (form:zhk p) (hn40:n≤1000) (hbn:0≤nx∧nx < 1000000000000000) (o:Old h g) (l0:h.next≤g0.next) (l1:h.next < g1.next) (l00:h.next < g0.next) (l01:g0.next < g1.next) (l1g:g1.next < g.next) (cb:g.get h.next=some (.cells [.int .u64 nx,.slice p n c] 29 false)) {s' : zaj} (cs:g.get g0.next=some (.cells (setC s') 81 false)) (cz:g.get g1.next=some (.cells [.int .u64 0,.slice none 0 0] 29 false))
 {C:Int→Option Addr→Nat→Nat→AH→Prop} (HQ:∀p' c' g',zaY h.next g' 81 11 p' (n+1) c' (setsC (rs ++ [s']))→Old h g'→C (nx+1) p' (n+1) c' g'):
 ∀h5:AH,h5=g.alloc (.cells [] 81 false)→∃(p6:Option Addr) (n7 c8:Nat),ld1 h5 h.next 1=some (.slice p6 n7 c8)∧
  ∃(p9:Option Addr) (n10 c11:Nat) (h12:AH),zan Tryz.prog h5 .append #[27,27] [.slice (some ⟨g.next,0,none⟩) 0 0,.slice p6 n7 c8]=some (.slice p9 n10 c11,h12)∧
  ∃i41:Int,∃s42:ByteArray,∃b43:Bool,∃i44:Int,∃i45:Int,∃i46:Int,∃i47:Int,∃i48:Int,∃i49:Int,∃i50:Int,∃(p51:Option Addr) (n52 c53:Nat),ldN h12 g0.next 0 11=some [.int .u64 i41,.string s42,.bool b43,.int .u64 i44,.int .u64 i45,.int .u64 i46,.int .i64 i47,.int .i64 i48,.int .u64 i49,.int .u32 i50,.slice p51 n52 c53]∧
  ∀h26:AH,h26=h12.alloc (.cells [.int .u64 i41,.string s42,.bool b43,.int .u64 i44,.int .u64 i45,.int .u64 i46,.int .i64 i47,.int .i64 i48,.int .u64 i49,.int .u32 i50,.slice p51 n52 c53] 81 false)→
  ∃(p27:Option Addr) (n28 c29:Nat) (h30:AH),zan Tryz.prog h26 .append #[27,27] [.slice p9 n10 c11,.slice (some ⟨h12.next,0,none⟩) 1 1]=some (.slice p27 n28 c29,h30)∧
  ∃i31:Int,ld1 h30 h.next 0=some (.int .u64 i31)∧∀i32:Int,i32=IntKind.wrap .u64 (i31+1)→(List.length [Value.int .u64 i32,.slice p27 n28 c29]=2)∧
  ∃h33:AH,stN h30 g1.next 0 [.int .u64 i32,.slice p27 n28 c29]=some h33∧ld1 h26 h.next 0=some (.int .u64 i31)∧ld1 h30 h.next 0=some (.int .u64 i31)∧
  ∃i34:Int,∃(p35:Option Addr) (n36 c37:Nat),ldN h33 g1.next 0 2=some [.int .u64 i34,.slice p35 n36 c37]∧C i34 p35 n36 c37 h33:=by
 intro h5 e5
 have hn:=T.1
 have hrm:zaU=140737488355328:=rfl
 have o5:=zab e5
 have n5:=zaa e5
 have T5:=T.old (o.trans o5)
 obtain⟨p9,c11,g12,k12,G12,o12,f12,m12⟩:=(zaY.lit (n:=0) (sz:=11) e5 rfl (Nat.le_refl _)).append znY (by omega) (x:=.slice p n c) (m:=n) rfl (T5.shows.firstC form) T5.shows.1 (by omega) (by omega) ⟨_,znY.1⟩
 rw[Nat.zero_add] at k12 G12
 rw[List.nil_append] at G12
 have ob:∀{y:Nat},y < g.next→g12.get y=g.get y:=fun {y} hy=>(o12.2 y hy).trans (o5.2 y hy)
 have l12:=o12.1
 refine⟨_,_,_,zae ((o5.2 _ (by omega)).trans cb) rfl,p9,_,c11,g12,k12,_,_,_,_,_,_,_,_,_,_,_,_,_,zah ((ob (by omega)).trans cs) rfl,fun g26 e26=>?_⟩
 have o26:=zab e26
 obtain⟨p27,c29,g30,k30,G30,o30,f30,m30⟩:=G12.push znY (by omega) (m:=1) (ns:=setC s') e26 (by rw[zbA]) (by omega) (by omega)
 have l30:=o30.1
 have cb30:g30.get h.next=_:=(o30.2 _ (by omega)).trans ((ob (by omega)).trans cb)
 have cz30:g30.get g1.next=_:=(o30.2 _ (by omega)).trans ((ob (by omega)).trans cz)
 refine⟨p27,_,c29,g30,k30,_,zae cb30 rfl,fun i32 e32=>?_⟩
 have e32:=zuV e32 (by omega) (by omega)
 subst e32
 refine⟨rfl,_,zat cz30 rfl,zae ((o26.2 _ (by omega)).trans ((ob (by omega)).trans cb)) rfl,zae cb30 rfl,_,_,_,_,zah (zad _ _ _) rfl,?_⟩
 have nr:=zak g1.next g30 (.cells [.int .u64 (nx+1),.slice p27 (n+1) c29] 29 false)
 have of:Old h (g30.set g1.next (.cells [.int .u64 (nx+1),.slice p27 (n+1) c29] 29 false)):=zao (h:=h) (g:=g30) ⟨by have:=o.1; omega,fun y hy=>(o30.2 y (by have:=o.1; omega)).trans ((ob (by have:=o.1; omega)).trans (o.2 y hy))⟩ nr (by omega)
 have G33:=G30.near nr l1g (Nat.le_refl _)
 rw[←zdS,←zbg] at G33
 exact HQ _ _ _ (G33.weak (by omega)) of
theorem zu8 (kk:zdm K) (T:zbL h p n rs) (form:zhk p) (hn40:n≤1000) (hbn:0≤nx∧nx < 1000000000000000) (s:zaj):
 Wf Tryz.prog K 70 [.agg #[.int .u64 nx,.slice p n c],.agg (setC s).toArray] h fun v h'=>(∃p' c',v=.agg #[.int .u64 (nx+1),.slice p' (n+1) c']∧zaY h.next h' 81 11 p' (n+1) c' (setsC (rs ++ [zv1 nx s])))∧Old h h':=by
 refine zf8 kk.add _ _ _ _ _ _ _ _ _ _ _ _ _ _ _ _ _ h _ fun g0 e0 g1 e1 g2 e2=>?_
 have o0:=zab e0
 have o1:=zab e1
 have o2:=zab e2
 have n0:=zaa e0
 have n1:=zaa e1
 have n2:=zaa e2
 have oh2:=(o0.trans o1).trans o2
 have cb2:g2.get h.next=some (.cells [.int .u64 nx,.slice p n c] 29 false):=((o1.trans o2).2 _ (by omega)).trans (zaf e0)
 have cs2:g2.get g0.next=some (.cells (setC s) 81 false):=(o2.2 _ (by omega)).trans (zaf e1)
 have cz2:=zaf e2
 obtain⟨g4,k4,nr4,w4⟩:=zmI (v:=.int .u64 nx) cs2 (i:=0) (by simp[setC])
 have o4:=zao oh2 nr4 (by omega)
 have cb4:=(nr4.2 h.next (by omega)).trans cb2
 refine⟨_,zae cb2 rfl,g4,k4,?_⟩
 cases hs:s.snap with
 | true=>
   have ea:zv1 nx s={ s with id:=nx }:=by unfold zv1; rw[if_pos hs]
   rw[ea]
   exact .inl ⟨zae w4 (by show (_:Option Value)=some (.bool true); rw[←hs]; rfl),zrt T form hn40 hbn o4 (by omega) (by omega) (by omega) (by omega) (by rw[nr4.1]; omega) cb4 (s':={ s with id:=nx }) w4 ((nr4.2 _ (by omega)).trans cz2) fun p' c' g' t o=>⟨⟨p',c',rfl,t⟩,o⟩⟩
 | false=>
   have ea:zv1 nx s={ s with id:=nx,own:=nx }:=by unfold zv1; rw[if_neg (by rw[hs]; decide)]
   rw[ea]
   obtain⟨g5,k5,nr5,w5⟩:=zmI (v:=.int .u64 nx) w4 (i:=3) (by simp[setC])
   have nr:=nr4.trans nr5
   exact .inr ⟨zae w4 (by show (_:Option Value)=some (.bool false); rw[←hs]; rfl),_,zae cb4 rfl,g5,k5,zrt T form hn40 hbn (zao oh2 nr (by omega)) (by omega) (by omega) (by omega) (by omega) (by rw[nr.1]; omega) ((nr.2 _ (by omega)).trans cb2) (s':={ s with id:=nx,own:=nx }) w5 ((nr.2 _ (by omega)).trans cz2) fun p' c' g' t o=>⟨⟨p',c',rfl,t⟩,o⟩⟩
def zru (o:Int×List zaj×Int) (v:Value) (g:AH):Prop:=∃i p' n' c',v=.tuple #[.agg #[.int .u64 i,.slice p' n' c'],.int .i64 o.2.2]∧zbw o.1 o.2.1 i p' n' g
theorem zgN {f a:ByteArray} (h:volOf (spl f)=some a):spl f=some (a,noB)∧a=f∧zbf f:=by
 cases hs:spl f with
 | none=>rw[hs] at h; cases h
 | some q=>
   obtain⟨x,y⟩:=q
   rw[hs] at h
   unfold volOf at h
   simp only at h
   split at h
   ·rename_i e
    subst e
    cases h
    rcases spl_ok hs with ⟨h1,h2, -⟩ | ⟨-,h2, -⟩
    ·exact⟨rfl,h2,h1⟩
    ·exact absurd rfl h2.ne
   ·cases h
theorem zgO {f a b:ByteArray} (h:snapOf (spl f)=some (a,b)):spl f=some (a,b)∧b≠noB∧zbf a∧zbf b∧f=a ++ atB ++ b:=by
 cases hs:spl f with
 | none=>rw[hs] at h; cases h
 | some q=>
   obtain⟨x,y⟩:=q
   rw[hs] at h
   unfold snapOf at h
   simp only at h
   split at h
   ·cases h
   ·rename_i e
    cases h
    rcases spl_ok hs with ⟨-, -,h3⟩ | ⟨h1,h2,h3⟩
    ·exact absurd h3 e
    ·exact⟨rfl,e,h1,h2,h3⟩
theorem zdX {o:Option (ByteArray×ByteArray)} (h:¬∃a,volOf o=some a):volOf o=none:=by
 cases e:volOf o with
 | none=>rfl
 | some a=>exact absurd ⟨a,e⟩ h
theorem zgn {o:Option (ByteArray×ByteArray)} (h:¬∃a,snapOf o=some a):snapOf o=none:=by
 cases e:snapOf o with
 | none=>rfl
 | some a=>exact absurd ⟨a,e⟩ h
theorem zgo {rs:List zaj} {o:Option (ByteArray×ByteArray)} (h:¬∃a,lookOf rs o=some a):lookOf rs o=none:=by
 cases e:lookOf rs o with
 | none=>rfl
 | some a=>exact absurd ⟨a,e⟩ h
theorem ztn (kk:zdm K) (T:zbL h p n rs) (form:zhk p) (R:zam nx rs) (hn40:n≤1000) (hbn:0≤nx∧nx < 1000000000000000) (f:ByteArray) (hf:f.size≤9223372036854775806) (k:Int):
 Wf Tryz.prog K 28 [.agg #[.int .u64 nx,.slice p n c],.string f,.int .i64 k] h fun v h'=>zru (zax nx rs (spl f) k) v h'∧Old h h':=by
 refine zeq kk.create _ _ _ _ _ _ h _ fun g0 e0 g1 e1=>?_
 have d1:=HdB.of e0 e1
 have hn:=T.1
 have err:∀{e:Int},zax nx rs (spl f) k=(nx,rs,e)→∀{c:Nat} {g g' : AH},zbw nx rs nx p n g'→Old h g'→zbR g0.next g g'→zru (zax nx rs (spl f) k) (.tuple #[.agg #[.int .u64 nx,.slice p n c],.int .i64 e]) g'∧Old h g':=fun {e} e' {c} {g} {g'} br o _=>⟨⟨_,_,_,_,by rw[e'],by rw[e']; exact br⟩,o⟩
 refine (zrr kk f hf).mono ?_
 rintro _ g3 ⟨⟨rfl,a,ha⟩ | ⟨rfl,ha⟩,o3⟩
 ·have d3:=d1.old o3
  obtain⟨hs,rfl,na⟩:=zgN ha
  have hc:zax nx rs (spl a) k=if k < 1∨64 < k then (nx,rs,(176:Int)) else if 32≤rs.length then (nx,rs,175) else match lookOf rs (spl a) with
   | some _=>(nx,rs,171)
   | none=>(nx+1,rs ++ [zsk nx a 0 k (0,0,0)],0):=by unfold zax; rw[ha]; rfl
  refine .inl ⟨rfl,fun q=>zhA d3 T form fun g'=>err (by rw[hc,if_pos (.inl q)]),fun q=>⟨fun q2=>zhA d3 T form fun g'=>err (by rw[hc,if_pos (.inr q2)]),fun q2=>⟨_,_,_,d3.sl,fun q3=>zhA d3 T form fun g'=>err (by rw[hc,if_neg (by omega),if_pos (by omega)]),fun q3=>⟨_,_,_,_,d3.ldN,(zll kk (c:=c) (T.old d3.o) R a hf nx).mono ?_⟩⟩⟩⟩
  rw[if_neg (by omega),if_neg (by omega)] at hc
  rintro _ g39 ⟨⟨rfl,i,hl⟩ | ⟨rfl,hl⟩,o39⟩
  ·exact .inl ⟨rfl,zhA (d3.old o39) T form fun g'=>err (by rw[hc,hl])⟩
  ·have d39:=d3.old o39
   rw[zgo hl] at hc
   refine .inr ⟨rfl,_,_,_,_,d39.ldN,(zu8 kk (T.old d39.o) form hn40 hbn ⟨0,a,false,0,0,0,k,(0,0,0),none,0,0,[]⟩).mono ?_⟩
   rintro _ g54 ⟨⟨p',c',rfl,G⟩,o54⟩
   have l1:=d39.lt
   have l2:=d39.n0
   refine⟨_,_,_,_,rfl,rfl,zw3 (d39.old o54) G (by omega) (by omega) (fun g' o r hr=>?_) fun g' br o nr=>⟨⟨_,_,_,_,by rw[hc],by rw[hc]; exact br⟩,o⟩⟩
   rcases za1.1 hr with hr | rfl
   ·exact (T.ok r hr).old o
   ·exact (zlf g' hbn rfl ⟨rfl,rfl,rfl⟩ a).1
 ·exact .inr ⟨rfl,zhA (d1.old o3) T form fun g'=>err (by unfold zax; rw[zdX ha])⟩
end
end Go.Am
