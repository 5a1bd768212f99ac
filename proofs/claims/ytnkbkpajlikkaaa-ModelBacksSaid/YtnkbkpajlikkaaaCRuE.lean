/-
  FAMILIES: where a clone's ways part.
-/
import Derived.Test.YtnkbkpajlikkaaaCRuD
set_option linter.unusedVariables false
set_option linter.unusedSimpArgs false
set_option maxRecDepth 100000
namespace Go.Am
open Go.Proofs
theorem nodup_le:∀{l r:List Int},l.Nodup→(∀x∈l,x∈r)→l.length≤r.length
 | [],_,_,_=>Nat.zero_le _
 | a :: l,r,hn,hs=>by
   rw[List.nodup_cons] at hn
   have ha:=hs a (List.mem_cons_self ..)
   have:=nodup_le (l:=l) (r:=r.erase a) hn.2 fun x hx=>(List.mem_erase_of_ne (fun e=>hn.1 (by rw[←e]; exact hx))).2 (hs x (List.mem_cons_of_mem _ hx))
   rw[List.length_erase_of_mem ha] at this
   have h0:0 < r.length:=List.length_pos_of_mem ha
   simp only[List.length_cons]
   omega
section
variable {n:Int} {rs:List SetR}
theorem Chn.nodup (F:Fam n rs) {o e:Int}:∀{l:List SetR} {pr:Int},Chn rs o pr l e→(l.map (·.id)).Nodup
 | [],_,_=>List.nodup_nil
 | c :: l,pr,h=>by
   obtain⟨h1,h2,h3,h4,h5⟩:=h
   rw[List.map_cons,List.nodup_cons]
   refine⟨fun q=>?_,Chn.nodup F h5⟩
   obtain⟨y,hy,e⟩:=List.mem_map.1 q
   have hm:=h5.mem y hy
   have:=Chn.low F h5 c.stamp (fun p hp he=>F.older h2 h4 hp he) y hm.1 (.inl hy)
   have:=F.uniq hm.1 h2 e
   subst this
   omega
theorem Chn.short (F:Fam n rs) {o e:Int} {l:List SetR} {pr:Int} (h:Chn rs o pr l e):l.length≤32:=by
 have:=nodup_le (Chn.nodup F h) (r:=rs.map (·.id)) fun x hx=>by
  obtain⟨y,hy,e⟩:=List.mem_map.1 hx
  exact List.mem_map.2 ⟨y,(h.mem y hy).1,e⟩
 rw[List.length_map,List.length_map] at this
 exact Nat.le_trans this F.len
theorem Chn.way (F:Fam n rs) {o e:Int} (he:EndOk rs o e):∀{l:List SetR} {pr:Int} {k:Nat} {ch:List Int},Chn rs o pr l e→l.length≤k→wayW rs o k pr ch=(ch ++ l.map (·.id),e)
 | [],pr,k,ch,h,_=>by
   have:pr=e:=h
   subst this
   rw[List.map_nil,List.append_nil]
   rcases he with rfl | ⟨x,hx,rfl,hs,ho⟩
   ·exact wayW_zero _ _ _ _
   ·cases k with
    | zero=>rfl
    | succ k=>
      obtain⟨j,hj,hjx⟩:=F.place hx
      have:=F.id1 hx
      unfold wayW
      rw[if_neg (by omega),hj]
      simp only
      rw[hjx]
      exact if_neg ho
 | c :: l,pr,k,ch,h,hk=>by
   obtain⟨rfl,h2,h3,h4,h5⟩:=h
   cases k with
   | zero=>simp at hk
   | succ k=>
     obtain⟨j,hj,hjx⟩:=F.place h2
     have:=F.id1 h2
     unfold wayW
     rw[if_neg (by omega),hj]
     simp only
     rw[hjx]
     simp only
     rw[if_pos h3,Chn.way F he h5 (by simpa using hk)]
     simp
theorem Fam.wayR (F:Fam n rs) {v:SetR} (hv:v∈rs) (hs:v.snap=false) {l:List SetR} {e:Int} (h:Chn rs v.id v.prev l e) (he:EndOk rs v.id e):Am.wayR rs v.id=(l.map (·.id),e):=by
 obtain⟨j,hj,hjx⟩:=F.place hv
 unfold Am.wayR
 rw[hj]
 simp only
 rw[hjx]
 simp only
 rw[hs,if_neg (by decide),Chn.way F he h (h.short F)]
 rfl
structure PromQ (rs:List SetR) (v og w:SetR) (pre post:List SetR) (e:Int):Prop where
 hw:w∈rs
 ws:w.snap=false
 wo:og.own=w.id
 ho:og∈rs
 os:og.snap=true
 ne:og.own≠v.id
 cw:Chn rs w.id w.prev (pre ++ og :: post) e
 ew:EndOk rs w.id e
 aw:∀r∈rs,r.own=w.id→r=w∨r∈pre ++ og :: post
 way:(Am.wayR rs og.own).1=(pre ++ og :: post).map (·.id)
 mv:(wayW rs og.own 32 og.id []).1=(og :: post).map (·.id)
 cv:∃lv,Chn rs v.id v.prev lv og.id∧EndOk rs v.id og.id∧∀r∈rs,r.own=v.id→r=v∨r∈lv
theorem Fam.promQ (F:Fam n rs) {v:SetR} (hv:v∈rs) (hs:v.snap=false) {jo:Nat} {og:SetR} (hj:plcN rs (Am.wayR rs v.id).2=some jo) (ho:rs[jo]?= some og):∃w pre post e,PromQ rs v og w pre post e:=by
 obtain⟨lv,ev,cv,Ev,av⟩:=F.chain hv hs
 rw[F.wayR hv hs cv Ev] at hj
 obtain⟨hjl,hje⟩:=plcN_at hj
 have hog:rs[jo]=og:=by rw[List.getElem?_eq_getElem hjl] at ho; exact Option.some.inj ho
 have hoe:og.id=ev:=by rw[←hog]; exact hje
 have hom:og∈rs:=List.mem_of_getElem? ho
 obtain⟨hos,hoo⟩:og.snap=true∧og.own≠v.id:=by
  rcases Ev with rfl | ⟨x,hx,hxe,hxs,hxo⟩
  ·have:=F.id1 hom
   omega
  ·have:=F.uniq hx hom (hxe.trans hoe.symm)
   subst this
   exact⟨hxs,hxo⟩
 obtain⟨⟨w,hw,hwi,hws⟩, -⟩:=F.owner og hom hos
 obtain⟨l,e,cw,Ew,aw⟩:=F.chain hw hws
 have hol:og∈l:=by
  rcases aw og hom hwi.symm with rfl | h
  ·rw[hws] at hos
   cases hos
  ·exact h
 obtain⟨pre,post,rfl⟩:=List.append_of_mem hol
 refine⟨w,pre,post,e,hw,hws,hwi.symm,hom,hos,hoo,cw,Ew,aw,?_,?_,lv,by rw[hoe]; exact cv,by rw[hoe]; exact Ev,av⟩
 ·rw[←hwi,F.wayR hw hws cw Ew]
 ·have hc:=cw.cut
  rw[←hwi,Chn.way F Ew hc (hc.short F),List.nil_append]
end
end Go.Am
/-
 BOOKS:roles are changed.
-/
set_option linter.unusedVariables false
set_option linter.unusedSimpArgs false
set_option maxRecDepth 100000
namespace Go.Am
open Go.Proofs
def Clash (rs:List SetR) (vid:Int) (m:Int):Prop:=∃s∈rs,s.snap=true∧s.own=vid∧∃j x,plcN rs m=some j∧rs[j]?= some x∧s.name=x.name
open Classical in
noncomputable def promA (nx:Int) (rs:List SetR) (o:Option (ByteArray×ByteArray)):Int×List SetR×Int:=match volOf o with
 | none=>(nx,rs,141)
 | some _=>match lookOf rs o with
   | none=>(nx,rs,172)
   | some i=>match rs[i]? with
     | none=>(nx,rs,0)
     | some v=>match plcN rs (wayR rs v.id).2 with
       | none=>(nx,rs,174)
       | some jo=>match rs[jo]? with
         | none=>(nx,rs,0)
         | some og=>if ∃m∈(wayW rs og.own 32 og.id []).1,Clash rs v.id m then (nx,rs,171) else (nx,rs.map (promF v.id (wayW rs og.own 32 og.id []).1),0)
structure KActs6 (K:Xs):Prop where
 a5:KActs5 K
 promote:K 25=none
 promote1:K 50=none
 contains:K 49=none
 index:K 47=none
 origin:K 17=none
section
variable {K:Xs} {h:AH} {p:Option Addr} {n c:Nat} {rs:List SetR} {nx:Int}
theorem prom1Spec (kk:KActs6 K) (T:Sets h p n rs) {r:SetR} {vid bn:Int} {pb0 pb1 pb2 j:Nat} (w0:∃t ro,h.get pb0=some (.cells [.int .u64 vid] t ro)) (w1:∃t ro,h.get pb1=some (.cells [.int .u64 bn,.slice p n c] t ro)) (w2:∃t ro,h.get pb2=some (.cells [.int .i64 (j:Int)] t ro)) (l0:pb0 < h.next) (l1:pb1 < h.next) (l2:pb2 < h.next) (hj:j < rs.length):
 Wf Try.prog K 50 [.agg (setC r).toArray,.pointer (some ⟨pb0,0,none⟩),.pointer (some ⟨pb1,0,none⟩),.pointer (some ⟨pb2,0,none⟩)] h fun v h'=>BoolIs v (r.snap=true∧r.own=vid∧r.name=rs[j].name)∧Old h h':=by
 obtain⟨t0,r0,w0⟩:=w0
 obtain⟨t1,r1,w1⟩:=w1
 obtain⟨t2,r2,w2⟩:=w2
 refine vc_rule_Promote_1 kk.promote1 _ _ _ _ _ _ _ _ _ _ _ _ _ _ _ _ h _ fun g0 e0=>?_
 have o0:=old_of_alloc e0
 have wr:=get_of_alloc e0
 have hjn:j < n:=by have:=T.1; omega
 cases hs:r.snap with
 | false=>exact .inr ⟨ld1_at wr (by rw[hs]; rfl),.inr ⟨rfl,fun q=>by cases q.1⟩,o0⟩
 | true=>
   obtain⟨pb,off,rfl,hj',hld,hld1,ok⟩:=(T.old o0).at hjn
   refine .inl ⟨ld1_at wr (by rw[hs]; rfl),_,ld1_at wr rfl,derefP_at ⟨_,ld1_at ((o0.2 _ l0).trans w0) rfl,fun q=>⟨_,ld1_at wr rfl,derefP_at ⟨_,_,_,ld1_at ((o0.2 _ l1).trans w1) rfl,derefP_at ⟨_,ld1_at ((o0.2 _ l2).trans w2) rfl,derefP_at ⟨by omega,by omega,_,by rw[Int.toNat_natCast]; exact hld1 1 _ rfl,fun q2=>⟨.inl ⟨rfl,rfl,q,q2⟩,o0⟩,fun q2=>⟨.inr ⟨rfl,fun z=>q2 z.2.2⟩,o0⟩⟩⟩⟩⟩,fun q=>⟨.inr ⟨rfl,fun z=>q z.2.1⟩,o0⟩⟩⟩
theorem containsSpec (kk:KActs6 K) (T:Sets h p n rs) {vid bn:Int} {pb0 pb1 pb2 j:Nat} (w0:∃t ro,h.get pb0=some (.cells [.int .u64 vid] t ro)) (w1:∃t ro,h.get pb1=some (.cells [.int .u64 bn,.slice p n c] t ro)) (w2:∃t ro,h.get pb2=some (.cells [.int .i64 (j:Int)] t ro)) (l0:pb0 < h.next) (l1:pb1 < h.next) (l2:pb2 < h.next) (hj:j < rs.length):
 Wf Try.prog K 49 [.slice p n c,.func (.func 50) #[] #[.pointer (some ⟨pb0,0,none⟩),.pointer (some ⟨pb1,0,none⟩),.pointer (some ⟨pb2,0,none⟩)]] h fun v h'=>BoolIs v (∃s∈rs,s.snap=true∧s.own=vid∧s.name=rs[j].name)∧Old h h':=by
 have hn:=T.1
 have hn2:=T.2.1
 have hre:reachBytes=140737488351232:=rfl
 refine vc_slices_ContainsFunc_rule_Promote_1 kk.contains _ _ _ _ _ _ h _ (vc_slices_IndexFunc_rule_Promote_1 kk.a5.a4.a3.a2.a.r.index _ _ _ _ _ _ h _ ?_)
 refine⟨fun i k g=>∃u:Nat,i=u∧u≤n∧n - u=k∧Old h g∧∀(q:Nat) x,q < u→rs[q]?= some x→¬(x.snap=true∧x.own=vid∧x.name=rs[j].name),⟨_,0,rfl,Nat.zero_le _,rfl,Old.refl _,fun j x hj=>absurd hj (Nat.not_lt_zero _)⟩,?_⟩
 rintro k1 g2 i4 ⟨u,rfl,hu,rfl,o2,hb⟩
 refine⟨fun z=>?_,fun z=>?_⟩
 ·obtain⟨b,off,hpe,hu',hld, -⟩:=(T.old o2).at (i:=u) (by omega)
  have T2:=T.old o2
  subst hpe
  have f:∀{pb:Nat} {cs:List Value},(∃t ro,h.get pb=some (.cells cs t ro))→pb < h.next→∃t ro,g2.get pb=some (.cells cs t ro):=fun ⟨t,ro,w⟩ l=>⟨t,ro,(o2.2 _ l).trans w⟩
  have ln:=o2.1
  refine derefP_at ⟨by omega,z,_,_,_,_,_,_,_,_,_,_,_,_,_,by rw[Int.toNat_natCast]; exact hld,(prom1Spec kk T2 (r:=rs[u]) (f w0 l0) (f w1 l1) (f w2 l2) (by omega) (by omega) (by omega) hj).mono ?_⟩
  rintro _ g21 ⟨⟨rfl,k⟩ | ⟨rfl,k⟩,o21⟩
  ·exact .inl ⟨rfl,_,rfl,fun _=>⟨.inl ⟨rfl,rs[u],List.getElem_mem hu',k⟩,o2.trans o21⟩,fun q=>absurd (by omega) q⟩
  ·refine .inr ⟨rfl,fun i22 e22=>?_⟩
   have e22:=i64w e22 (by omega) (by omega)
   refine⟨_,by omega,u+1,by rw[e22]; rfl,by omega,rfl,o2.trans o21,fun q x hq hx=>?_⟩
   by_cases hju:q=u
   ·subst hju
    rw[List.getElem?_eq_getElem hu'] at hx
    cases hx
    exact k
   ·exact hb q x (by omega) hx
 ·refine⟨_,rfl,fun q=>absurd q (by decide),fun _=>⟨.inr ⟨rfl,?_⟩,o2⟩⟩
  rintro⟨s,hs,hq⟩
  obtain⟨q,hql,rfl⟩:=List.mem_iff_getElem.1 hs
  exact hb q _ (by omega) (List.getElem?_eq_getElem hql) hq
theorem indexSpec (hk:K 47=none) {pp:Option Addr} {m cc:Nat} {A B:List Int} {x:Int} (S:Shows h pp m 1 (u64I (A ++ x :: B))) (hp:pp=none∨∃b off,pp=some ⟨b,off,none⟩) (hx:x∉A) (hm:m≤1000000):
 Wf Try.prog K 47 [.slice pp m cc,.int .u64 x] h fun v h'=>v=.int .i64 (A.length:Int)∧h=h':=by
 have hml:m=A.length+(B.length+1):=by have:=S.1; rw[u64I_len] at this; simp at this; omega
 refine vc_slices_Index___uint64_uint64_ hk _ _ _ _ h _ ⟨fun i k g=>∃u:Nat,i=u∧u≤A.length∧m - u=k∧g=h,⟨_,0,rfl,Nat.zero_le _,rfl,rfl⟩,?_⟩
 rintro k1 g2 i4 ⟨u,rfl,hu,rfl,rfl⟩
 refine⟨fun z=>?_,fun z=>absurd (by omega) z⟩
 obtain⟨b,off,rfl,h2⟩:=S.get (i:=u) (by omega)
 ·have hul:u < (A ++ x :: B).length:=by simp; omega
  refine derefP_at ⟨by omega,z,(A ++ x :: B)[u],?_,fun q=>?_,fun q i8 e8=>?_⟩
  ·rw[Int.toNat_natCast,Nat.mul_one,h2,u64I_get hul]
  ·have:u=A.length:=by
    by_cases q2:u < A.length
    ·rw[List.getElem_append_left q2] at q
     exact absurd (q▸List.getElem_mem q2) hx
    ·omega
   exact⟨by rw[this],rfl⟩
  ·have e8:=i64w e8 (by omega) (by omega)
   refine⟨_,by omega,u+1,by rw[e8]; rfl,?_,rfl,rfl⟩
   by_cases q2:u=A.length
   ·subst q2
    rw[List.getElem_append_right (Nat.le_refl _)] at q
    simp at q
   ·omega
theorem promF_mem {vid:Int} {mv:List Int} {r:SetR} (h:r.id∈mv):promF vid mv r={ r with own:=vid }:=if_pos h
theorem promF_not {vid:Int} {mv:List Int} {r:SetR} (h:r.id∉mv):promF vid mv r=r:=if_neg h
open Classical in
theorem promoteSpec (kk:KActs6 K) (T:BookOk h p n rs) (R:RightP nx rs) (hn40:n≤1000) (f:ByteArray) (hf:f.size≤9223372036854775806):
 Wf Try.prog K 25 [.agg #[.int .u64 nx,.slice p n c],.string f] h fun v h'=>ResQ (promA nx rs (spl f)) v h'∧Old h h':=by
 refine vc_rule_Promote kk.promote _ _ _ _ _ h _ fun g0 e0 g1 e1=>?_
 have kr:=kk.a5.a4.a3.a2.a.r
 have kp:=kk.a5.a4.a3.a2.a.fplace
 have kw:=kk.a5.a4.a3.way
 have d1:=HdB.of e0 e1
 have hn:=T.1.1
 have err:∀{g:AH} {e:Int},HdB h g0 g nx p n c→promA nx rs (spl f)=(nx,rs,e)→∀i p' n' c' g',BookR nx rs i p' n' g'→Old h g'→g.next≤g'.next→(∀y,y < g.next→y≠g0.next→g'.get y=g.get y)→ResQ (promA nx rs (spl f)) (.tuple #[.agg #[.int .u64 i,.slice p' n' c'],.int .i64 e]) g'∧Old h g':=fun d e i p' n' c' g' br o _ _=>⟨⟨i,p',n',c',by rw[e],by rw[e]; exact br⟩,o⟩
 refine⟨_,_,_,_,d1.ldN,(volAtSpec kr (c:=c) (T.1.old d1.o) R f hf nx).mono ?_⟩
 rintro _ g7 ⟨rfl,o7⟩
 have d7:=d1.old o7
 rcases volAt_cases rs (spl f) with ⟨hv,e⟩ | ⟨⟨a,hv⟩,hl,e⟩ | ⟨a,i,v,hv,hl,hr,e⟩
 ·rw[e]
  exact⟨_,_,rfl,fun z=>absurd z (by decide),fun _=>errK kr d7 T hn40 (err d7 (by unfold promA; rw[hv]))⟩
 ·rw[e]
  exact⟨_,_,rfl,fun z=>absurd z (by decide),fun _=>errK kr d7 T hn40 (err d7 (by unfold promA; rw[hv]; simp only; rw[hl]))⟩
 ·rw[e]
  have hvs:=vol_snap R hv hl hr
  obtain⟨hi,hri⟩:=List.getElem?_eq_some_iff.1 hr
  have hvm:v∈rs:=List.mem_of_getElem? hr
  have hin:i < n:=by omega
  have T7:=T.1.old d7.o
  obtain⟨pb,off,rfl,hi',hld,hld1,ok⟩:=T7.at hin
  have hvi:=hld1 0 _ rfl
  rw[hri] at hvi
  refine⟨_,_,rfl,fun _=>⟨_,_,_,d7.sl,derefP_at ⟨by omega,by omega,v.id,by rw[Int.toNat_natCast]; exact hvi,fun g16 e16=>?_⟩⟩,fun z=>absurd rfl z⟩
  obtain⟨g17,k17,nr17,w17⟩:=st1K (v:=.int .u64 v.id) (get_of_alloc e16) (i:=0) (by simp)
  have w17:g17.get g7.next=some (.cells [.int .u64 v.id] 46 false):=w17
  have o17:Old g7 g17:=near_old (old_of_alloc e16) nr17 (Nat.le_refl _)
  have n17:g17.next=g7.next+1:=nr17.1.trans (next_of_alloc e16)
  have d17:=d7.old o17
  refine⟨g17,k17,_,_,_,d17.sl,_,ld1_at w17 rfl,(originSpec kk.origin kw kp (T.1.old d17.o) v.id).mono ?_⟩
  rintro _ g23 ⟨rfl,o23⟩
  have d23:=d17.old o23
  refine⟨_,rfl,_,_,_,d23.sl,(findSpec kk.a5.a4.a3.a2.find kp kr.named0.copy (T.1.old d23.o) (wayR rs v.id).2).mono ?_⟩
  rintro _ g29 ⟨⟨jo,og,px,cx,hj,hjx,rfl,okx⟩ | ⟨hj,rfl⟩,o29⟩
  ·have d29:=d23.old o29
   obtain⟨w,pre,post,ee,Q⟩:=R.fam.promQ hvm hvs hj hjx
   have hpA:promA nx rs (spl f)=if ∃m∈(wayW rs og.own 32 og.id []).1,Clash rs v.id m then (nx,rs,171) else (nx,rs.map (promF v.id (wayW rs og.own 32 og.id []).1),0):=by
    unfold promA; rw[hv]; simp only; rw[hl]; simp only; rw[hr]; simp only; rw[hj]; simp only; rw[hjx]
   refine⟨_,_,_,_,_,_,_,_,_,_,_,_,_,.inl ⟨rfl,fun g43 e43=>?_⟩⟩
   obtain⟨g44,k44,n44,o44,v44⟩:=put_new e43 (vs:=setC { og with dp:=px,dc:=cx }) rfl
   have w44:=(v44 [] (fun c hc=>by cases hc)).1
   have d44:=d29.old o44
   refine⟨rfl,g44,k44,d17.sl,d23.sl,_,_,_,d44.sl,_,ld1_at w44 rfl,(chainSpec kk.a5.a4.a3.chain kw kp (T.1.old d44.o) og.own).mono ?_⟩
   rintro _ g50 ⟨pp,m,cc,rfl,G,o50⟩
   have d50:=d44.old o50
   have w50:=(o50.2 _ (by omega)).trans w44
   have hmap:(pre ++ og :: post).map (·.id)=pre.map (·.id) ++ og.id :: post.map (·.id):=by simp
   have S:=G.shows
   have hG:(u64I (wayR rs og.own).1).length=m * 1:=G.1
   rw[Q.way,hmap] at S hG
   have hml:m=pre.length+(post.length+1):=by rw[u64I_len] at hG; simp at hG; omega
   have hm32:m≤32:=by
    have:=Q.cw.short R.fam
    simp at this
    omega
   have hnd:=Q.cw.nodup R.fam
   rw[hmap,List.nodup_append] at hnd
   have hnot:og.id∉pre.map (·.id):=fun q=>hnd.2.2 _ q _ (List.mem_cons_self ..) rfl
   refine⟨_,_,_,rfl,_,ld1_at w50 rfl,(indexSpec kk.index S G.form hnot (by omega)).mono ?_⟩
   rintro _ g56 ⟨rfl,rfl⟩
   rw[List.length_map]
   have hoc:m < openCap:=by simp only[openCap]; omega
   obtain⟨p59,c61,ks,ko,kn,kc⟩:=cutP eU64 (by kernel_rfl) (G.cutQ hoc:CutP Try.prog g50 46 pp m cc) (some pre.length) none (by show pre.length≤m; omega) (Nat.le_refl m)
   have ks:aSlice Try.prog g50 83 (.slice pp m cc) (some (.int .i64 (pre.length:Int))) none none=some (.slice p59 (m - pre.length) c61):=ks
   have S59:Shows g50 p59 (m - pre.length) 1 (u64I ((og :: post).map (·.id))):=by
    have:=S.cut2 (lo:=pre.length) (hi:=m) (p':=p59) (by omega) (Nat.le_refl _) ko
    have he:((u64I (pre.map (·.id) ++ og.id :: post.map (·.id))).drop (pre.length * 1)).take ((m - pre.length) * 1)=u64I ((og :: post).map (·.id)):=by
     unfold u64I
     rw[List.map_append,List.drop_append,Nat.mul_one,List.drop_eq_nil_of_le (by simp),List.nil_append]
     simp only[List.length_map,Nat.sub_self,List.drop_zero]
     rw[List.take_of_length_le (by simp; omega)]
     simp
    rwa [he] at this
   rw[Q.mv] at hpA
   generalize hM:m - pre.length=M at *
   generalize hmv:(og :: post).map (·.id)=mv at *
   have hmvl:mv.length=M:=by rw[←hmv]; simp; omega
   have hmem:∀x∈mv,∃j y,plcN rs x=some j∧rs[j]?= some y∧y.id=x:=fun x hx=>by
    rw[←hmv] at hx
    obtain⟨y,hy,rfl⟩:=List.mem_map.1 hx
    obtain⟨j,h1,h2⟩:=R.fam.place (Q.cw.mem y (List.mem_append_right _ hy)).1
    exact⟨j,y,h1,h2,rfl⟩
   refine⟨_,rfl,fun i58 e58=>?_⟩
   rw[if_neg (by omega)] at e58
   subst e58
   refine⟨_,_,_,ks,_,_,_,_,d50.ldN,(copiedCur kr d50 T hn40).mono ?_⟩
   rintro _ g67 ⟨b,xs,rfl,hbl,hc,hnew,o67,F⟩
   refine⟨_,_,_,_,rfl,fun g72 e72=>?_⟩
   obtain⟨g73,k73,o73,u⟩:=F g72 e72
   have hxl:=cor_len hc
   have w17f:∀{g:AH},Old g50 g→g.get g7.next=some (.cells [.int .u64 v.id] 46 false):=fun o=>(o.2 _ (by have:=o23.1; have:=o29.1; have:=o44.1; have:=o50.1; omega)).trans ((o50.2 _ (by have:=o23.1; have:=o29.1; have:=o44.1; omega)).trans ((o44.2 _ (by have:=o23.1; have:=o29.1; omega)).trans ((o29.2 _ (by have:=o23.1; omega)).trans ((o23.2 _ (by omega)).trans w17))))
   have l750:g7.next < g50.next:=by have:=o23.1; have:=o29.1; have:=o44.1; have:=o50.1; omega
   have hinit:xs.map cor=(rs.map (promF v.id (mv.take 0))).map cor:=by
    rw[hc,List.map_map]
    exact List.map_congr_left fun r _=>by rw[Function.comp,promF_not (by simp)]
   refine⟨rfl,g73,k73,fun i78 k g=>∃(t:Nat) (xs' : List SetR),i78=t∧t≤M∧M - t=k∧Old g50 g∧Bkc h g0 g nx _ n c g67.next b nx n n xs'∧xs'.length=xs.length∧xs'.map cor=(rs.map (promF v.id (mv.take t))).map cor∧∀x∈mv.take t,¬Clash rs v.id x,
    ⟨_,0,xs,rfl,Nat.zero_le _,rfl,o67.trans o73,u,rfl,hinit,fun x hx=>(by simp at hx)⟩,?_⟩
   rintro k75 g76 i78 ⟨t,xs',rfl,ht,rfl,o76,u',hl',hc',hno⟩
   refine⟨fun z=>?_,fun z=>?_⟩
   ·have htM:t < M:=by omega
    have htl:t < mv.length:=by omega
    obtain⟨bq,offq,hpq,hldq⟩:=(S59.old o76).get htM
    obtain⟨j,y,hpj,hyj,hyi⟩:=hmem mv[t] (List.getElem_mem htl)
    obtain⟨hjl,hyj2⟩:=List.getElem?_eq_some_iff.1 hyj
    rw[hpq]
    refine derefP_at ⟨by omega,by omega,mv[t],by rw[Int.toNat_natCast,Nat.mul_one,hldq,u64I_get htl],_,_,_,u'.hd.sl,(placeRSpec kr (T.1.old u'.hd.o) mv[t]).mono ?_⟩
    rintro _ g86 ⟨rfl,o86⟩
    rw[plc_some hpj]
    refine⟨_,rfl,fun g88 e88=>?_⟩
    obtain⟨g89,k89,nr89,w89⟩:=st1K (v:=.int .i64 (j:Int)) (get_of_alloc e88) (i:=0) (by simp)
    have w89:g89.get g86.next=some (.cells [.int .i64 (j:Int)] 3 false):=w89
    have o89:Old g86 g89:=near_old (old_of_alloc e88) nr89 (Nat.le_refl _)
    have n89:g89.next=g86.next+1:=nr89.1.trans (next_of_alloc e88)
    have u89:=(u'.old o86).old o89
    have o7689:=(o76.trans o86).trans o89
    have ln1:=o7689.1
    have ln2:=u89.hd.lt
    refine⟨g89,k89,_,_,_,u89.hd.sl,(containsSpec kk (T.1.old u89.hd.o) (vid:=v.id) (j:=j) ⟨_,_,w17f o7689⟩ ⟨_,_,u89.hd.c0⟩ ⟨_,_,w89⟩ (by omega) (by omega) (by omega) hjl).mono ?_⟩
    rintro _ g94 ⟨⟨rfl,hcl⟩ | ⟨rfl,hcl⟩,o94⟩
    ·refine .inl ⟨rfl,errK kr (u89.hd.old o94) T hn40 (err (u89.hd.old o94) ?_)⟩
     rw[hpA,if_pos]
     obtain⟨s,h1,h2,h3,h4⟩:=hcl
     exact⟨mv[t],List.getElem_mem htl,s,h1,h2,h3,j,y,hpj,hyj,by rw[h4,hyj2]⟩
    ·have u94:=u89.old o94
     have hjx:j < xs'.length:=by omega
     have hxm:=List.getElem_mem hjx
     obtain⟨g117,k117,nr117,u117⟩:=u94.st1 (i:=j) (k:=3) (v:=.int .u64 v.id) (r':={ xs'[j] with own:=v.id }) hjx (by omega) rfl ((u94.own.recs _ hxm).1.own (by have:=R.ent hvm; have:=this.1; exact u64Wf (by omega))) fun a ha=>⟨(u94.own.recs _ hxm).2 a ha,u94.far _ hxm a ha⟩
     refine .inr ⟨rfl,_,_,_,u94.sl,_,ld1_at ((o94.2 _ (by omega)).trans w89) rfl,_,ld1_at (w17f (o7689.trans o94)) rfl,derefP_at ⟨by omega,by omega,g117,k117,fun i118 e118=>?_⟩⟩
     have e118:=i64w e118 (by omega) (by omega)
     have htk:mv.take (t+1)=mv.take t ++ [mv[t]]:=List.take_succ_eq_append_getElem htl
     refine⟨_,by omega,t+1,xs'.set j { xs'[j] with own:=v.id },by rw[e118]; rfl,by omega,rfl,near_old (o7689.trans o94) nr117 (by omega),u117,by simpa using hl',?_,fun x hx=>?_⟩
     ·apply List.ext_getElem?
      intro q
      have hj:=congrArg (fun l=>l[q]?) hc'
      simp only[List.getElem?_map] at hj ⊢
      rw[List.getElem?_set]
      by_cases e:j=q
      ·subst e
       rw[if_pos rfl,if_pos hjx,hyj]
       rw[List.getElem?_eq_getElem hjx,hyj] at hj
       simp only[Option.map_some] at hj ⊢
       have hj:=cor_eq (Option.some.inj hj)
       have pf:=promF_id v.id (mv.take t) y
       rw[promF_mem (by rw[htk]; exact List.mem_append_right _ (List.mem_singleton.2 hyi))]
       have hrest:(promF v.id (mv.take t) y).blocks=y.blocks∧(promF v.id (mv.take t) y).root=y.root∧(promF v.id (mv.take t) y).dn=y.dn:=by unfold promF; split <;> exact⟨rfl,rfl,rfl⟩
       exact congrArg some (cor_mk ⟨hj.1.trans pf.1,hj.2.1.trans pf.2.2.2.1,hj.2.2.1.trans pf.2.1,rfl,hj.2.2.2.2.1.trans pf.2.2.2.2.1,hj.2.2.2.2.2.1.trans pf.2.2.1,hj.2.2.2.2.2.2.1.trans hrest.1,hj.2.2.2.2.2.2.2.1.trans hrest.2.1,hj.2.2.2.2.2.2.2.2.1.trans hrest.2.2,hj.2.2.2.2.2.2.2.2.2.trans pf.2.2.2.2.2⟩)
      ·rw[if_neg e,hj]
       cases hrj:rs[q]? with
       | none=>rfl
       | some r=>
         simp only[Option.map_some]
         have hne:r.id≠mv[t]:=fun q2=>e (by
          have a:=R.uniq hrj
          rw[q2,hpj] at a
          exact Option.some.inj a)
         by_cases hmt:r.id∈mv.take t
         ·rw[promF_mem hmt,promF_mem (by rw[htk]; exact List.mem_append_left _ hmt)]
         ·rw[promF_not hmt,promF_not (by rw[htk]; exact fun q=>(List.mem_append.1 q).elim hmt fun q=>hne (List.mem_singleton.1 q))]
     ·rw[htk] at hx
      rcases List.mem_append.1 hx with hx | hx
      ·exact hno x hx
      ·rw[List.mem_singleton] at hx
       subst hx
       rintro⟨s,h1,h2,h3,j2,x2,h4,h5,h6⟩
       rw[hpj] at h4
       cases h4
       rw[hyj] at h5
       cases h5
       exact hcl ⟨s,h1,h2,h3,by rw[h6,hyj2]⟩
   ·obtain rfl:t=M:=by omega
    rw[List.take_of_length_le (by omega)] at hc' hno
    rw[if_neg (by rintro⟨x,hx,hq⟩; exact hno x hx hq)] at hpA
    exact u'.ret (by omega) hc' fun g' br o nr=>⟨⟨_,_,_,_,by rw[hpA],by rw[hpA]; exact br⟩,o⟩
  ·have d29:=d23.old o29
   refine⟨_,_,_,_,_,_,_,_,_,_,_,_,_,.inr ⟨rfl,fun g43 e43=>?_⟩⟩
   obtain⟨g44,k44,n44,o44,v44⟩:=put_new e43 (vs:=setC zeroR) rfl
   exact⟨rfl,g44,k44,d17.sl,d23.sl,errK kr (d29.old o44) T hn40 (err (d29.old o44) (by unfold promA; rw[hv]; simp only; rw[hl]; simp only; rw[hr]; simp only; rw[hj]))⟩
end
end Go.Am
/-
 BOOKS:an act; what it makes is a family.
-/
set_option linter.unusedVariables false
set_option linter.unusedSimpArgs false
set_option maxRecDepth 100000
namespace Go.Am
open Go.Proofs
theorem vol_self {f a:ByteArray} (h:volOf (spl f)=some a):spl f=some (a,noB)∧a=f∧NameR f:=by
 cases hs:spl f with
 | none=>rw[hs] at h; cases h
 | some q=>
   obtain⟨x,y⟩:=q
   rw[hs] at h
   unfold volOf at h
   simp only at h
   split at h
   ·rename_i e
    subst e
    cases h
    rcases spl_ok hs with ⟨h1,h2, -⟩ | ⟨-,h2, -⟩
    ·exact⟨rfl,h2,h1⟩
    ·exact absurd rfl h2.ne
   ·cases h
theorem snap_self {f a b:ByteArray} (h:snapOf (spl f)=some (a,b)):spl f=some (a,b)∧b≠noB∧NameR a∧NameR b∧f=a ++ atB ++ b:=by
 cases hs:spl f with
 | none=>rw[hs] at h; cases h
 | some q=>
   obtain⟨x,y⟩:=q
   rw[hs] at h
   unfold snapOf at h
   simp only at h
   split at h
   ·cases h
   ·rename_i e
    cases h
    rcases spl_ok hs with ⟨-, -,h3⟩ | ⟨h1,h2,h3⟩
    ·exact absurd h3 e
    ·exact⟨rfl,e,h1,h2,h3⟩
theorem snap_snap {nx:Int} {rs:List SetR} (R:RightP nx rs) {o:Option (ByteArray×ByteArray)} {a b:ByteArray} {i:Nat} {v:SetR} (ha:snapOf o=some (a,b)) (hl:lookOf rs o=some i) (hv:rs[i]?= some v):v.snap=true:=by
 cases o with
 | none=>cases ha
 | some q=>
   obtain⟨x,y⟩:=q
   unfold snapOf at ha
   simp only at ha
   split at ha
   ·cases ha
   ·rename_i e
    cases ha
    unfold lookOf lookN at hl
    simp only at hl
    cases hp:plcC rs (0,a) with
    | none=>rw[hp] at hl; cases hl
    | some j=>
      rw[hp] at hl
      simp only at hl
      rw[if_neg e] at hl
      obtain⟨w,hw, -⟩:=plcC_at hp
      rw[hw] at hl
      simp only at hl
      obtain⟨r,hr,hc⟩:=plcC_at hl
      rw[hv] at hr
      cases hr
      have:=(R.ent (List.mem_of_getElem? hw)).1.1
      exact ((R.calk (List.mem_of_getElem? hv) hc).2.2 (by omega)).1
theorem flr_is {nx:Int} {rs:List SetR} (F:Fam nx rs) {v:SetR} (hv:v∈rs):FlrIs rs v.prev (flr rs v.id):=by
 obtain⟨j,hj,hjx⟩:=F.place hv
 rw[flr_of hj hjx]
 obtain⟨A,hA, -⟩:=F.elder v hv
 rcases hA with ⟨h1,h2⟩ | ⟨x,hx,h1,h2,h3⟩
 ·exact .inl ⟨h1,by unfold flrOf; rw[if_pos h1]⟩
 ·have:=F.id1 hx
  obtain⟨k,hk,hkx⟩:=F.place hx
  refine .inr ⟨x,hx,h1,h2,?_⟩
  unfold flrOf
  rw[if_neg (by omega),←h1,hk]
  simp only
  rw[hkx]
theorem lookN_calk {nx:Int} {rs:List SetR} {a:ByteArray} (h:lookN rs a noB=none):∀r∈rs,calK r≠(0,a):=by
 unfold lookN at h
 cases hp:plcC rs (0,a) with
 | none=>exact plcC_no hp
 | some i=>rw[hp] at h; simp only at h; rw[if_pos trivial] at h; cases h
theorem createF_right {nx:Int} {rs:List SetR} (R:RightP nx rs) (h1:1≤nx) (h2:nx < 281474976710655) (f:ByteArray) (k:Int):RightP (createF nx rs (spl f) k).1 (createF nx rs (spl f) k).2.1:=by
 unfold createF
 cases hv:volOf (spl f) with
 | none=>exact R
 | some a=>
   simp only
   split
   ·exact R
   ·split
    ·exact R
    ·cases hl:lookOf rs (spl f) with
     | some i=>exact R
     | none=>
       obtain⟨hs,rfl,na⟩:=vol_self hv
       rw[hs] at hl
       exact (R.fam.addVol h1 h2 (by omega) na (lookN_calk (nx:=nx) hl) (by omega) (.inl ⟨rfl,rfl,rfl⟩) (.inl rfl)).right
theorem cloneA_right {nx:Int} {rs:List SetR} (R:RightP nx rs) (h1:1≤nx) (h2:nx < 281474976710655) (f f2:ByteArray):RightP (cloneA nx rs (spl f) (spl f2)).1 (cloneA nx rs (spl f) (spl f2)).2.1:=by
 unfold cloneA
 cases hs:snapOf (spl f) with
 | none=>exact R
 | some q=>
   obtain⟨a0,b0⟩:=q
   simp only
   cases hv:volOf (spl f2) with
   | none=>exact R
   | some a=>
     simp only
     cases hl:lookOf rs (spl f) with
     | none=>exact R
     | some i=>
       simp only
       split
       ·exact R
       ·cases hl2:lookOf rs (spl f2) with
        | some j=>exact R
        | none=>
          simp only
          cases hr:rs[i]? with
          | none=>exact R
          | some s=>
            have hsm:=List.mem_of_getElem? hr
            have es:=R.ent hsm
            obtain⟨hs2,rfl,na⟩:=vol_self hv
            rw[hs2] at hl2
            exact (R.fam.addVol h1 h2 (by omega) na (lookN_calk (nx:=nx) hl2) es.2.2.2.1 es.2.2.2.2.2.1 (.inr ⟨s,hsm,rfl,snap_snap R hs hl hr⟩)).right
theorem snapA_right {nx:Int} {rs:List SetR} (R:RightP nx rs) (h1:1≤nx) (h2:nx < 281474976710655) (f:ByteArray) (st:Int):RightP (snapA nx rs (spl f) st).1 (snapA nx rs (spl f) st).2.1:=by
 unfold snapA
 cases hs:snapOf (spl f) with
 | none=>exact R
 | some q=>
   obtain⟨a,b⟩:=q
   simp only
   obtain⟨hs2,hb,na,nb, -⟩:=snap_self hs
   cases hl:lookN rs a noB with
   | none=>exact R
   | some i=>
     simp only
     split
     ·exact R
     ·cases hl2:lookOf rs (spl f) with
      | some j=>exact R
      | none=>
        simp only
        cases hr:rs[i]? with
        | none=>exact R
        | some v=>
          simp only
          split
          ·exact R
          ·have hvm:=List.mem_of_getElem? hr
           have hvs:v.snap=false:=vol_snap R (o:=some (a,noB)) (a:=a) (by unfold volOf; simp) hl hr
           have hcal:∀r∈rs,calK r≠(v.id,b):=by
            rw[hs2] at hl2
            have hp:plcC rs (0,a)=some i:=by
             unfold lookN at hl
             cases hq:plcC rs (0,a) with
             | none=>rw[hq] at hl; cases hl
             | some j=>
               rw[hq] at hl
               simp only at hl
               rw[if_pos trivial] at hl
               exact hl
            unfold lookOf lookN at hl2
            simp only at hl2
            rw[hp] at hl2
            simp only at hl2
            rw[if_neg hb,hr] at hl2
            exact plcC_no hl2
           have hfl:=flr_is R.fam hvm
           exact (R.fam.addSnap h1 h2 (by omega) hvm hvs nb hcal (st:=st) (by omega) fun Fl hF=>by rw[FlrIs.det R.fam hF hfl]; omega).right
open Classical in
theorem promA_right {nx:Int} {rs:List SetR} (R:RightP nx rs) (f:ByteArray):RightP (promA nx rs (spl f)).1 (promA nx rs (spl f)).2.1:=by
 unfold promA
 cases hv:volOf (spl f) with
 | none=>exact R
 | some a=>
   simp only
   cases hl:lookOf rs (spl f) with
   | none=>exact R
   | some i=>
     simp only
     cases hr:rs[i]? with
     | none=>exact R
     | some v=>
       simp only
       cases hj:plcN rs (wayR rs v.id).2 with
       | none=>exact R
       | some jo=>
         simp only
         cases ho:rs[jo]? with
         | none=>exact R
         | some og=>
           simp only
           split
           ·exact R
           ·rename_i hno
            have hvm:=List.mem_of_getElem? hr
            have hvs:=vol_snap R hv hl hr
            obtain⟨w,pre,post,ee,Q⟩:=R.fam.promQ hvm hvs hj ho
            obtain⟨lv,Cv,Ev,av⟩:=Q.cv
            have hch:=Q.cw.cut
            rw[Q.mv] at hno ⊢
            refine (R.fam.promote hvm hvs Cv Ev av Q.ho Q.os Q.hw Q.ws Q.wo Q.cw Q.ew Q.aw fun m hm s hs h1 h2 h3=>hno ⟨m.id,List.mem_map.2 ⟨m,hm,rfl⟩,s,hs,h1,h2,?_⟩).right
            obtain⟨j,hj1,hj2⟩:=R.fam.place (hch.mem m hm).1
            exact⟨j,m,hj1,hj2,h3⟩
theorem backA_right {nx:Int} {rs:List SetR} (R:RightP nx rs) (f:ByteArray):RightP (backA nx rs (spl f)).1 (backA nx rs (spl f)).2.1:=by
 unfold backA
 cases hv:volOf (spl f) with
 | none=>exact R
 | some a=>
   simp only
   cases hl:lookOf rs (spl f) with
   | none=>exact R
   | some i=>
     simp only
     cases hr:rs[i]? with
     | none=>exact R
     | some v=>
       simp only
       cases hj:plcN rs v.prev with
       | none=>exact R
       | some jo=>
         simp only
         cases ho:rs[jo]? with
         | none=>exact R
         | some x=>
           simp only
           have hx:=R.ent (List.mem_of_getElem? ho)
           refine (R.fam.keep (f:=backF v x.root) (fun r _=>?_) (fun r hr=>?_) fun r hr Fl hF q hq=>?_).right
           ·unfold backF
            split <;> exact⟨rfl,rfl,rfl,rfl,rfl,rfl⟩
           ·have e:=R.ent hr
            unfold backF
            split
            ·exact⟨e.1,e.2.1,e.2.2.1,e.2.2.2.1,e.2.2.2.2.1,hx.2.2.2.2.2.1,Nat.zero_le _,DeadR_nil,e.2.2.2.2.2.2.2.2⟩
            ·exact e
           ·unfold backF at hq
            split at hq
            ·cases hq
            ·obtain⟨F,hF2, -,h3⟩:=R.fam.elder r hr
             rw[FlrIs.det R.fam hF hF2]
             exact h3 q hq
theorem dropVolA_right {nx:Int} {rs:List SetR} (R:RightP nx rs) (f:ByteArray):RightP (dropVolA nx rs (spl f)).1 (dropVolA nx rs (spl f)).2.1:=by
 unfold dropVolA
 cases hv:volOf (spl f) with
 | none=>exact R
 | some a=>
   simp only
   cases hl:lookOf rs (spl f) with
   | none=>exact R
   | some i=>
     simp only
     cases hr:rs[i]? with
     | none=>exact R
     | some v=>
       simp only
       split
       ·exact R
       ·rename_i hno
        refine (R.fam.dropVol (List.mem_of_getElem? hr) (vol_snap R hv hl hr) fun s hs h1 h2=>hno ?_).right
        exact List.length_pos_of_mem (List.mem_filter.2 ⟨hs,by simp[h1,h2]⟩)
theorem killA_right {nx:Int} {rs:List SetR} (R:RightP nx rs) (hdn:∀r∈rs,r.dn=r.dead.length) (id:Int) (l:List PtI):RightP (killA nx rs id l).1 (killA nx rs id l).2.1:=by
 unfold killA
 cases hp:plcN rs id with
 | none=>exact R
 | some i=>
   simp only
   cases hr:rs[i]? with
   | none=>exact R
   | some v=>
     simp only
     have hvm:=List.mem_of_getElem? hr
     have ev:=R.ent hvm
     have hvi:v.id=id:=by
      obtain⟨hi,he⟩:=plcN_at hp
      rw[List.getElem?_eq_getElem hi] at hr
      rw[←Option.some.inj hr]
      exact he
     obtain⟨F0,hF0, -,hd0⟩:=R.fam.elder v hvm
     have hfe:F0=flr rs id:=by rw[←hvi]; exact FlrIs.det R.fam hF0 (flr_is R.fam hvm)
     rw[hfe] at hd0 hF0
     cases hk:killD (flr rs id) l v.dead [] with
     | none=>exact R
     | some q=>
       obtain⟨d,g⟩:=q
       have hlen:v.dead.length≤4000:=by
        have h1:=ev.2.2.2.2.2.2.1
        have h2:=hdn v hvm
        omega
       obtain⟨kd,kl,kf⟩:=killD_ok hk ev.2.2.2.2.2.2.2.1 hlen hd0
       refine (R.fam.keep (f:=dropF v v.prev d) (fun r hr=>?_) (fun r hr=>?_) fun r hr Fl hF q hq=>?_).right
       ·have:=dropF_id v v.prev d r
        refine⟨this.1,this.2.1,this.2.2.2.2,this.2.2.1,this.2.2.2.1,?_⟩
        unfold dropF
        split
        ·rename_i e
         rw[R.fam.uniq hr hvm e]
        ·rfl
       ·have e:=R.ent hr
        unfold dropF
        split
        ·exact⟨e.1,e.2.1,ev.2.2.1,e.2.2.2.1,e.2.2.2.2.1,e.2.2.2.2.2.1,kl,kd,e.2.2.2.2.2.2.2.2⟩
        ·exact e
       ·unfold dropF at hq
        split at hq
        ·rename_i e
         rw[R.fam.uniq hr hvm e] at hF
         rw[FlrIs.det R.fam hF hF0]
         exact kf q hq
        ·obtain⟨F,hF2, -,h3⟩:=R.fam.elder r hr
         rw[FlrIs.det R.fam hF hF2]
         exact h3 q hq
theorem dropSnapA_right {nx:Int} {rs:List SetR} (R:RightP nx rs) (f:ByteArray):RightP (dropSnapA nx rs (lookOf rs (spl f)) (snapOf (spl f)).isSome).1 (dropSnapA nx rs (lookOf rs (spl f)) (snapOf (spl f)).isSome).2.1:=by
 unfold dropSnapA
 cases hs:snapOf (spl f) with
 | none=>exact R
 | some q=>
   obtain⟨a,b⟩:=q
   rw[Option.isSome_some,if_neg (by decide)]
   cases hl:lookOf rs (spl f) with
   | none=>exact R
   | some i=>
     simp only
     cases hr:rs[i]? with
     | none=>exact R
     | some s=>
       simp only
       split
       ·exact R
       ·rename_i hno
        have hsm:=List.mem_of_getElem? hr
        have hss:=snap_snap R hs hl hr
        obtain⟨j,z,hj,hz,zo,zp, -⟩:=R.nextOk hr hss
        have hzm:=List.mem_of_getElem? hz
        rw[hj]
        simp only
        rw[hz]
        simp only
        cases hm:mrg (oldD (flr rs s.id) z.dead) s.dead with
        | none=>exact R
        | some d=>
          simp only
          split
          ·exact R
          ·have es:=R.ent hsm
           have ez:=R.ent hzm
           obtain⟨dd,dm⟩:=DeadR.mrg (ez.2.2.2.2.2.2.2.1.filter _) es.2.2.2.2.2.2.2.1 hm
           obtain⟨F0,hF0, -,hd0⟩:=R.fam.elder s hsm
           have hfl:=flr_is R.fam hsm
           refine (R.fam.dropSnap hsm hss hzm zo zp (fun r hrm hp=>?_) dd (by omega) fun Fl hF q hq=>?_).right
           ·by_cases ho:r.own=s.own
            ·obtain⟨-,⟨a0,ha0,h1,h2,h3⟩⟩:=R.fam.owner s hsm hss
             rw[h3 r hrm ho hp,h3 z hzm zo zp]
            ·exfalso
             apply hno
             obtain⟨k,hk,hkx⟩:=R.fam.place hsm
             unfold clL
             rw[hk]
             simp only
             rw[hkx]
             simp only
             rw[if_pos hss,List.length_map]
             exact List.length_pos_of_mem (List.mem_filter.2 ⟨hrm,by simp[ho,hp]⟩)
           ·rcases (dm q).1 hq with h | h
            ·rw[FlrIs.det R.fam hF hfl]
             exact (oldD_le h).2
            ·rw[FlrIs.det R.fam hF hF0]
             exact hd0 q h
noncomputable def actA (nx:Int) (rs:List SetR) (kind k:Int) (f f2:ByteArray) (id:Int) (l:List PtI):Int×List SetR×SetR×List PtI×Int:=
 if kind=0 then (let o:=createF nx rs (spl f) k; (o.1,o.2.1,zeroR,[],o.2.2))
 else if kind=1 then (let o:=snapA nx rs (spl f) id; (o.1,o.2.1,zeroR,[],o.2.2))
 else if kind=2 then (let o:=cloneA nx rs (spl f) (spl f2); (o.1,o.2.1,zeroR,[],o.2.2))
 else if kind=3 then (let o:=promA nx rs (spl f); (o.1,o.2.1,zeroR,[],o.2.2))
 else if kind=4 then (let o:=backA nx rs (spl f); (o.1,o.2.1,o.2.2.1,[],o.2.2.2))
 else if kind=5 then (let o:=dropVolA nx rs (spl f); (o.1,o.2.1,o.2.2.1,[],o.2.2.2))
 else if kind=6 then (let o:=dropSnapA nx rs (lookOf rs (spl f)) (snapOf (spl f)).isSome; (o.1,o.2.1,zeroR,o.2.2.1,o.2.2.2))
 else if kind=7 then (let o:=killA nx rs id l; (o.1,o.2.1,zeroR,o.2.2.1,o.2.2.2))
 else (nx,rs,zeroR,[],0)
theorem actA_right {nx:Int} {rs:List SetR} (R:RightP nx rs) (hdn:∀r∈rs,r.dn=r.dead.length) (h1:1≤nx) (h2:nx < 281474976710655) (kind k:Int) (f f2:ByteArray) (id:Int) (l:List PtI):RightP (actA nx rs kind k f f2 id l).1 (actA nx rs kind k f f2 id l).2.1:=by
 unfold actA
 split
 ·exact createF_right R h1 h2 f k
 ·split
  ·exact snapA_right R h1 h2 f id
  ·split
   ·exact cloneA_right R h1 h2 f f2
   ·split
    ·exact promA_right R f
    ·split
     ·exact backA_right R f
     ·split
      ·exact dropVolA_right R f
      ·split
       ·exact dropSnapA_right R f
       ·split
        ·exact killA_right R hdn id l
        ·exact R
end Go.Am
