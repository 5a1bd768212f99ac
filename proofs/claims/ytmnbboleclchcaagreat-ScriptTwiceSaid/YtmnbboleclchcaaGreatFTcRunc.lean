/-
  Texts of this proof, part 49. No condition.
-/
import Derived.Test.YtmnbboleclchcaaGreatFTcCp
set_option linter.unusedVariables false
set_option linter.unusedSimpArgs false
set_option maxRecDepth 100000
namespace Go.Am
open Go.Proofs
def Pv (S:TY) (g:AH) (a:Nat):Prop:=a < g.next/\S.ty a=none/\¬S.dv a
structure RJ (b n:Nat) (bs:List Nat) (h:AH) (pc:List Value) (a1 a2 d:Nat) (hR h13:AH) (st:Value) (p:Value) (j:Nat) (g:AH) (S:TY) (gg:Int) (o:Nat->Prop) (hc:AH) (rows:List (List Value)) (q:Option Addr) (cq:Nat):Prop where
 w:WT cx0 S gg g
 le:gg<=7001+8000 * j
 dev:S.dev=d
 pool:zoc S p
 tb:0 < n->S.ty b=some (false,57,zaJ cx0 57 n)
 p0:Pv S g h.next
 p1:Pv S g a1
 p2:Pv S g a2
 v0:g.get h.next=some (.cells pc 24 false)
 v1:g.get a1=some (.cells [.slice none 0 0,.slice none 0 0,.int .i64 0,.bool false] 29 false)
 v2:g.get a2=some (.cells [.slice q j cq,.slice none 0 0,.int .i64 0,.bool false] 29 false)
 gr:zbB h.next g 43 129 q j cq rows.flatten
 pq:∀a,q=some a->Pv S g a.block/\a.block≠h.next/\a.block≠a1/\a.block≠a2/\(o a.block\/hc.next<=a.block)
 ne:h.next < a1/\a1 < a2
 rw:∀r∈rows,zgF r
 ch:Ch Tryz.prog KB 15 (ptr d 0) (λi=>ptr b (i * 6)) (λq=>h.next<=q/\q < hR.next) h13 st j o hc p rows
 nx:hc.next<=g.next
 same:∀q,q < hc.next->¬o q->g.get q=hc.get q
 lt:LtH hc->LtH g
 o0:o h.next\/hc.next<=h.next
 o1:o a1\/hc.next<=a1
 o2:o a2\/hc.next<=a2
 out:∀q,q < h.next->q∉bs->S.ty q=none/\¬S.dv q/\g.get q=h.get q
theorem Pv.xt {S S' : TY} {g h' : AH} {a:Nat} (k:Pv S g a) (x:Xt g.next S S') (hn:g.next<=h'.next):Pv S' h' a:=⟨Qi k.1 hn,(x.old a k.1).trans k.2.1,λz=>k.2.2 (x.dvo a k.1 z)⟩
theorem Pv.le {S:TY} {g h' : AH} {a:Nat} (k:Pv S g a) (hn:g.next<=h'.next):Pv S h' a:=⟨Qi k.1 hn,k.2⟩
theorem Pv.new {S:TY} {gg:Int} {g h' : AH} {a:Nat} (w:WT cx0 S gg g) (h1:g.next<=a) (h2:a < h'.next):Pv S h' a:=by
 refine⟨h2,?_,λz=>by have:=w.2.1 a z; omega⟩
 cases e:S.ty a with
 | none=>rfl
 | some q=>have:=(w.1 a q.1 q.2.1 q.2.2 e).1; omega
theorem Pv.ne {S:TY} {gg:Int} {g g' : AH} {a b:Nat} (k:Pv S g' a) (h:(∃q,S.ty b=some q)\/S.dv b):b≠a:=λe=>by
 subst e
 rcases h with ⟨q,h⟩ | h
 ·rw[k.2.1] at h; grind
 ·exact k.2.2 h
set_option maxHeartbeats 1000000 in
theorem zFR {lim c:Nat} {p:Option Addr} {xs:List OX} {s:zil} {h:AH} (R:zfU lim h p c xs) (hs:xs.map OX.o=s.ops) (ok:zdZ s):
 Wf Tryz.prog KB 6 [.agg #[.int .i64 s.secs,.slice p xs.length c]] h (zBS s (bOf p) xs.length (bks (bOf p) xs) h):=by
 have gb:0 < xs.length->p=some ⟨bOf p,0,none⟩:=λz=>(R.gb (by grind)).1
 have Rtb:0 < xs.length->_:=λz=>R.tb (show xs≠[] by grind)
 have Rbd:=λ{q:Nat}=>R.bd (q:=q)
 have w0:=λ{n d:Nat} {h1:AH} {x:Dd} ok=>zyN (n:=n) (d:=d) (h1:=h1) (x:=x) R ok
 have xl:xs.length=s.ops.length:=by grind
 have sl:=ok.len
 have hrm:zaA=140737488355328:=rfl
 have hre:reachBytes=140737488351232:=rfl
 have okx:∀x∈xs,zgV x.o:=by grind[zdZ.ops]
 have Ro:=R.ops (by omega)
 rw[hs] at Ro
 clear R
 generalize bOf p=b at *
 refine zfO (xb rfl) _ _ _ _ h _ λg0 e0 g1 e1=>?_
 have o0:=zab e0
 have o1:=zab e1
 have n0:=zad e0
 have n1:=zad e1
 have c0:∀{g:AH},Old g1 g->g.get h.next=_:=λo=>((o1.trans o).2 _ (by omega)).trans (zae e0)
 have c1:∀{g:AH},Old g1 g->g.get g0.next=_:=λo=>(o.2 _ (by omega)).trans (zae e1)
 refine⟨_,_,_,_,zaw (c0 (Old.refl _)) rfl,?_⟩
 refine ((zk8 (xb rfl) (xb rfl) (xb rfl) (Ro.old (o0.trans o1))).rt (xb rfl)).mono ?_
 rintro _ g7 ⟨⟨⟨rfl, -⟩ | ⟨rfl,k⟩,o7⟩,r7⟩
 rotate_left
 ·grind
 have oh7:=(o0.trans o1).trans o7
 have q7:=o7.1
 refine .inl ⟨rfl,_,zah (c0 o7) rfl,?_⟩
 refine ((zzV (xb rfl) s.secs g7).rt (xb rfl)).mono ?_
 rintro _ g10 ⟨⟨d,dn,x,rfl,hn,hx,D,o10,hc⟩,r13⟩
 refine⟨_,rfl,?_⟩
 replace w0:=w0 okx (oh7.trans o10) D hx hn λc hc'=>by grind
 refine ((zFQ w0 (by omega) rfl).rt (xb rfl)).mono ?_
 rintro _ g13 ⟨⟨S,gg,p14,e,rfl,pv,hgg,f1,f2,f3,f4⟩,r14⟩
 refine⟨_,_,rfl,?_⟩
 have q10:=o10.1
 have pv13:∀q,q < g7.next->q∉bks b xs->Pv S g13 q/\g13.get q=g7.get q:=λq hq hb=>by
  have k1:zuH h (bks b xs) q=none:=if_neg hb
  have k2:¬q∈x.bk d:=λz=>by grind
  exact⟨Pv.xt ⟨by omega,k1,k2⟩ f1 f3,by rw[f4 q (by omega) k1 k2,o10.2 q hq]⟩
 have nb:∀q,h.next<=q->q∉bks b xs:=λq hq hb=>by have:=(Rbd hb).2; omega
 have A0:=pv13 h.next (by omega) (nb _ (by omega))
 have A1:=pv13 g0.next (by omega) (nb _ (by omega))
 have lt13:LtH h->LtH g7:=by grind[Rt.lt,zdF]
 have st0:∃st:Value,st=if e=0 then Value.pointer p14 else .pointer none:=⟨_,rfl⟩
 obtain⟨st,hst⟩:=st0
 have tb13:0 < xs.length->S.ty b=some (false,57,zaJ cx0 57 xs.length):=λz=>f1.ty _ _ (Rtb z)
 have out13:∀q,q < h.next->q∉bks b xs->S.ty q=none/\¬S.dv q/\g13.get q=h.get q:=λq hq hb=>by
  obtain⟨k1,k2⟩:=pv13 q (by omega) hb
  exact⟨k1.2.1,k1.2.2,by rw[k2,oh7.2 q hq]⟩
 have inRun:∀{h' : AH} {pr:Option Addr} {cr:Nat} {rows:List (List Value)} {o:Nat->Prop} {hE:AH} {pE:Value} {pl:Option Addr} {nl cl:Nat} {y:Int} {dd:Bool} {cs:List Value},h.next<=h'.next->(∀q,q < h.next->q∉bks b xs->h'.get q=h.get q)->zaz h' pr xs.length 129 rows.flatten->(∀a,pr=some a->h.next<=a.block)->(∀r∈rows,zgF r)->
  Ch Tryz.prog KB 15 (ptr d 0) (λi=>ptr b (i * 6)) (λq=>h.next<=q/\q < g7.next) g13 st xs.length o hE pE rows->zaz h' pl nl 4 cs->(∀a,pl=some a->h.next<=a.block\/a.block∈bks b xs)->zi4 nl cs->zyO o hE pE pl nl cl y dd cs->zBS s b xs.length (bks b xs) h (.tuple #[.agg #[.slice pr xs.length cr,.slice pl nl cl,.int .i64 y,.bool dd],.int .i64 0]) h':=
  λa1 a2 a3 a4 a5 a6 a7 a8 a9 a10=>⟨_,_,_,_,_,_,_,_,_,rfl,a1,a2,a3,a4,a5,a7,a8,a9,g7,g10,g13,d,.pointer p14,e,_,_,_,oh7,lt13,r13,r14,hst▸a6,a10⟩
 refine⟨λhz=>?l,λhz=>?r⟩
 case' l=>
  have P0:zoc S (.pointer p14):=pv hz
  have E0:st=.pointer p14:=by grind
 case' r=>
  have P0:zoc S (.pointer none):=.inl rfl
  have E0:st=.pointer none:=by grind
 all_goals
  clear pv hst
  intro g16 e16
  have o16:=zab e16
  have n16:=zad e16
  have w16:=f2.old o16
  refine⟨_,_,_,zah ((o16.2 _ A0.1.1).trans (A0.2.trans (c0 o7))) rfl,λp24 i25 k g=>∃(j:Nat) (S:TY) (gg:Int) (o:Nat->Prop) (hc:AH) (rows:List (List Value)) (q:Option Addr) (cq:Nat),i25=j/\j<=xs.length/\xs.length - j=k/\
   RJ b xs.length (bks b xs) h [.int .i64 s.secs,.slice p xs.length c] g0.next g13.next d g7 g13 st (.pointer p24) j g S gg o hc rows q cq,⟨_,0,S,gg,λq=>h.next<=q/\q < g7.next,g13,[],none,0,rfl,Qg _,rfl,?_⟩,?_⟩
  ·exact⟨w16,by omega,f1.dev,P0,tb13,A0.1.le o16.1,A1.1.le o16.1,by grind[Pv.new],(o16.2 _ A0.1.1).trans (by grind),(o16.2 _ A1.1.1).trans (by grind),zae e16,zbB.nil _ _ _ _,nofun,by omega,nofun,E0▸ .nil,o16.1,λq hq _=>o16.2 q hq,zdF e16,by omega,by omega,by omega,λq hq hb=>by
    obtain⟨k1,k2,k3⟩:=out13 q hq hb
    exact⟨k1,k2,by rw[o16.2 q (by omega),k3]⟩⟩
  clear pv13 P0 E0 A0 A1 out13 f1 f2 f3 f4 w16 tb13 w0 hgg
  clear S gg
  rintro k21 g22 p24 _ ⟨j,S,gg,o,hcc,rows,q,cq,rfl,hj,rfl,J⟩
  refine⟨λz g26 e26=>?_,λz=>?_⟩
  ·have hj' : j < xs.length:=by omega
   obtain rfl:=gb (by omega)
   have o26:=zab e26
   have n26:=zad e26
   have w26:=J.w.old o26
   have le:=J.le
   refine⟨_,_,_,zah ((o26.2 _ J.p0.1).trans J.v0) rfl,zaa ⟨by omega,by omega,?_⟩⟩
   rw[Qh,Qq]
   refine ((zAs w26 (by omega) J.dev J.pool (by exact⟨_,_,_,_,_,rfl,J.tb (by omega),by have:=zbh (X:=cx0) (T:=57) hj'; grind[zzk],nofun,nofun⟩)).rt (xb rfl)).mono ?_
   rintro _ g33 ⟨⟨S',g',r,p',rfl,hr,pool',le',f1,f2,f3,f4⟩,rt⟩
   have rl:=hr.len
   have a3:Pv S g26 g22.next:=Pv.new J.w (Qc _) (by omega)
   have keep:∀a,Pv S g26 a->g33.get a=g26.get a:=λa k=>f4 a k.1 k.2.1 k.2.2
   have w33:g33.get g22.next=_:=(keep _ a3).trans (zae e26)
   refine⟨r,_,rfl,rl,_,zaR w33 (by grind),?_⟩
   generalize e36:g33.set _ _=g36 at *
   have nr36:zaZ g22.next g33 g36:=by grind[zam]
   have q36:=nr36.1
   have P0:=J.p0.le o26.1
   have P1:=J.p1.le o26.1
   have P2:=J.p2.le o26.1
   have l0:=J.p0.1
   have l1:=J.p1.1
   have l2:=J.p2.1
   have ne:=J.ne
   have v36:∀a,Pv S g22 a->g36.get a=g22.get a:=λa k=>by rw[nr36.2 a (by have:=k.1; omega),keep a (k.le o26.1),o26.2 a k.1]
   have v2:=(v36 _ J.p2).trans J.v2
   have l36:g36.get g22.next=some (.cells r 43 false):=by grind[zaf]
   refine⟨_,_,_,zah v2 rfl,_,zaw l36 rl,_,_,_,_,zeG zyJ zAq (by simp) (by omega) rl,?_⟩
   have G36:zbB h.next g36 43 129 q j cq rows.flatten:=by
    refine⟨J.gr.1,?_⟩
    rcases J.gr.2 with z | ⟨b2,rfl,k1,k2,k3,k4⟩
    ·grind
    ·exact .inr ⟨b2,rfl,k1,by omega,(v36 _ (J.pq _ rfl).1).trans k3,k4⟩
   obtain⟨q2,c2,g48,k48,G48,o48,f48,m48⟩:=G36.push zyJ (by omega) (h4:=g36.alloc (.cells r 43 false)) rfl (m:=1) (by omega) (by omega) (by omega)
   obtain⟨b2,rfl,hb2⟩:=m48 (by omega)
   have apq:∀a,(∀x,q=some x->x.block≠a)->apart q a:=λa k=>by
    cases q with
    | none=>trivial
    | some x=>exact k x rfl
   have v48:g48.get g13.next=_:=(f48 _ (by omega) (apq _ λx hx=>(J.pq x hx).2.2.2.1)).trans v2
   refine⟨_,_,_,_,k48,_,zaN v48 (by simp),λi50 e50=>?_⟩
   have e50:=zaT e50 (by omega) (by omega)
   generalize e49:g48.set _ _=g49 at *
   have nr49:zaZ g13.next g48 g49:=by grind[zam]
   have q49:=nr49.1
   have q48:=o48.1
   have v49:∀a,a < g36.next->a≠g13.next->(∀x,q=some x->x.block≠a)->g49.get a=g36.get a:=λa k1 k2 k3=>by rw[nr49.2 a k2,f48 a k1 (apq a k3)]
   have priv' : ∀a,Pv S g26 a->Pv S' g33 a:=by grind[Pv.xt]
   refine⟨_,by omega,j+1,S',g',λa=>o a\/(hcc.next<=a/\a < g26.next),g33,rows ++ [r],some ⟨b2,0,none⟩,c2,by omega,hj',rfl,?_⟩
   have hne:∀a,Pv S g26 a->∀y,((∃q,S'.ty y=some q)\/S'.dv y)->y≠a:=λa k y hy=>(priv' a k).ne (gg:=g') (g:=g33) hy
   have nx:=J.nx
   exact {
    w:=f2.keep ziL (by omega) λy hy hty=>by
     rw[v49 y (by omega) (hne _ P2 y hty) (by grind[RJ.pq,Pv.le]),nr36.2 y (hne _ a3 y hty)]
    le:=by omega
    dev:=f1.dev.trans J.dev
    pool:=pool'
    tb:=λz=>f1.ty _ _ (J.tb z)
    p0:=(by grind[Pv.le])
    p1:=(by grind[Pv.le])
    p2:=(by grind[Pv.le])
    v0:=(by grind[RJ.pq,RJ.p0,RJ.v0])
    v1:=(by grind[RJ.pq,RJ.p1,RJ.v1])
    v2:=by grind[zaf]
    gr:=by
     rw[List.flatten_append,List.flatten_singleton]
     refine⟨G48.1,?_⟩
     rcases G48.2 with ⟨z, -⟩ | ⟨b3,z,k1,k2,k3,k4⟩
     ·grind
     ·cases z
      exact .inr ⟨b2,rfl,k1,by omega,by rw[nr49.2 _ (by omega)]; omega,k4⟩
    pq:=λa ha=>by
     have k2:b2 < g48.next:=by
      rcases G48.2 with ⟨z, -⟩ | ⟨b3,z,k1,k2,k3,k4⟩
      all_goals grind
     grind[Pv.new]
    ne:=ne
    rw:=by grind[RJ.rw]
    ch:=.snoc J.ch (by omega) (λa h1 h2=>by rw[o26.2 a (by omega)]; grind[RJ.same]) (by grind[zdF,RJ.lt]) rt hr.pl
    nx:=by omega
    same:=λa h1 h2=>by
     have h3:∀y,(o y\/hcc.next<=y)->y < g26.next->a≠y:=by grind
     rw[v49 a (by omega) (by grind[RJ.o2]) (λx hx=>(h3 _ (J.pq x hx).2.2.2.2 (by have:=(J.pq x hx).1.1; omega)).symm),nr36.2 a (by omega)]
    lt:=by grind[zs1,zjM,LtH.alloc]
    o0:=by grind[RJ.o0]
    o1:=.inl (J.o1.imp_right λk=>⟨k,by omega⟩)
    o2:=.inl (J.o2.imp_right λk=>⟨k,by omega⟩)
    out:=λy h1 h2=>by
     obtain⟨k1,k2,k3⟩:=J.out y h1 h2
     have k:=priv' y ⟨by omega,k1,k2⟩
     refine⟨k.2.1,k.2.2,?_⟩
     rw[v49 y (by omega) (by omega) (λx hx=>?_),v36 y ⟨by omega,k1,k2⟩,k3]
     grind[zbB.block] }
  ·obtain rfl:j=xs.length:=by omega
   have l1:=J.p1.1
   have l2:=J.p2.1
   have ne:=J.ne
   have qb:∀a,q=some a->h.next<=a.block:=λa ha=>(J.gr.block ha).1
   have fin:∀(g G:AH) (vs:List Value),Old g22 g->zaZ g13.next g G->vs.length=4->∃g',stN G g0.next 0 vs=some g'/\ldN g' g0.next 0 4=some vs/\h.next<=g'.next/\(∀y,y < h.next->y∉bks b xs->g'.get y=h.get y)/\zaz g' q xs.length 129 rows.flatten/\g.next<=g'.next/\∀y,y≠g0.next->y≠g13.next->g'.get y=g.get y:=λg G vs og ng hvs=>by
    have w1:G.get g0.next=_:=(ng.2 _ (by omega)).trans ((og.2 _ l1).trans J.v1)
    have qg:=og.1
    have qG:=ng.1
    refine⟨_,zaR w1 hvs,by grind[zaw,zaf],?_,λy h1 h2=>?_,zaz.kept (J.gr.shows.old og) (by show g.next<=G.next; omega) λa ha=>?_,by show g.next<=G.next; omega,λy k1 k2=>by rw[zal k1,ng.2 y k2]⟩
    ·show h.next<=G.next
     omega
    ·rw[zal (by omega),ng.2 y (by omega),og.2 y (by omega)]
     exact (J.out y h1 h2).2.2
    ·obtain⟨-,k1,k2,k3, -⟩:=J.pq a ha
     rw[zal k2,ng.2 _ k3]
   cases p24 with
   | none=>
     obtain⟨g',k1,k2,k3,k4,k5, -⟩:=fin g22 _ [.slice q xs.length cq,.slice none 0 0,.int .i64 0,.bool true] (Old.refl _) (zam _ _ _) rfl
     refine⟨_,zaN J.v2 (by simp),_,_,_,_,_,_,_,_,by grind[zaw,zaf],rfl,g',k1,_,_,_,_,_,_,_,_,k2,inRun k3 k4 k5 qb J.rw J.ch (cs:=[]) ⟨rfl,.inl rfl⟩ nofun ⟨Qg _,λj hj=>absurd hj (Nat.not_lt_zero _)⟩ (.inl ⟨rfl,rfl,rfl,rfl,rfl⟩)⟩
   | some p24=>
     have pp:zbr cx0 S 84 (.pointer (some p24)):=J.pool.resolve_left nofun
     refine ((zAu J.w pp).rt (xb rfl)).mono ?_
     rintro _ g70 ⟨⟨S',q1,m1,c1',cs,rfl,o70,w70,pp70,x70,sh70,il,tq⟩,r70⟩
     refine⟨_,_,_,rfl,((zAv w70 pp70).rt (xb rfl)).mono ?_⟩
     rintro _ g75 ⟨⟨i,rfl,o75⟩,r75⟩
     have o2:=o70.trans o75
     have v2:g75.get g13.next=_:=(o2.2 _ l2).trans J.v2
     obtain⟨g',k1,k2,k3,k4,k5,k6,k7⟩:=fin g75 _ [.slice q xs.length cq,.slice q1 m1 c1',.int .i64 i,.bool false] o2 ((zam _ _ _).trans (zam _ _ _)) rfl
     have p1:=J.p1.xt x70 o70.1
     have p2:=J.p2.xt x70 o70.1
     have sh' : zaz g' q1 m1 4 cs:=zaz.kept (sh70.old o75) k6 λa ha=>by
      have:=tq a ha
      exact k7 _ (p1.ne (gg:=gg) (g:=g70) (.inl (tq a ha))) (p2.ne (gg:=gg) (g:=g70) (.inl (tq a ha)))
     have pb:∀a,q1=some a->h.next<=a.block\/a.block∈bks b xs:=λa ha=>by
      obtain⟨t,ht⟩:=tq a ha
      by_cases k:h.next<=a.block
      ·exact .inl k
      ·refine .inr (Classical.byContradiction λk2=>?_)
       have k3:=(J.out _ (by omega) k2).1
       rw[<-x70.old _ (by have:=J.p0.1; omega),ht] at k3
       cases k3
     refine⟨_,rfl,_,zaN v2 (by simp),_,zaN (zaf _ _ _) (by simp),_,_,_,_,_,_,_,_,by grind[zaw,zaf],rfl,g',k1,_,_,_,_,_,_,_,_,k2,inRun k3 k4 k5 qb J.rw J.ch sh' pb il (.inr ⟨p24,g22,g70,g75,rfl,rfl,J.nx,J.same,J.lt,r70,r75,sh70⟩)⟩
def zyQ (i:Nat) (o:OpP):List Value:=[.int .i64 o.kind,.string o.name,.string o.to,.int .i64 o.n,.slice (some ⟨1+2 * i,0,none⟩) o.data.length o.data.length,if o.keep=[] then .slice none 0 0 else .slice (some ⟨2+2 * i,0,none⟩) o.keep.length o.keep.length]
def zgG:Nat->List OpP->List Value
 | _,[]=>[]
 | i,o :: os=>zyQ i o ++ zgG (i+1) os
def zuK:List OpP->List Obj
 | []=>[]
 | o :: os=>.cells (za7 .u8 o.data).toArray 5 (0,0) :: .cells (zjo o.keep).toArray 4 (0,0) :: zuK os
def gw (os:List OpP):World:={ (default:World) with heap:=(Obj.cells (zgG 0 os).toArray 57 (0,0) :: zuK os).toArray }
def goP:Nat->List OX->Fi
 | _,[],_=>none
 | i,x :: xs,q=>if q=x.d then some ⟨1+2 * i,0,x.o.data.length,1⟩ else if q=x.k then some ⟨2+2 * i,0,x.o.keep.length,1⟩ else goP (i+1) xs q
def zmT (T b:Nat) (xs:List OX):Fi:=λq=>if q=b/\xs≠[] then some ⟨0,0,T,6⟩ else goP 0 xs q
theorem zod:∀{xs:List OX} {i q:Nat} {r:Rec},goP i xs q=some r->∃j,∃hj:j < xs.length,(q=xs[j].d/\r=⟨1+2 * (i+j),0,xs[j].o.data.length,1⟩)\/(q=xs[j].k/\xs[j].k≠xs[j].d/\r=⟨2+2 * (i+j),0,xs[j].o.keep.length,1⟩)
 | [],_,_,_,h=>by cases h
 | x :: xs,i,q,r,h=>by
   unfold goP at h
   split at h
   ·exact⟨0,by simp,by grind⟩
   ·split at h
    ·exact⟨0,by simp,by grind⟩
    ·obtain⟨j,hj,k⟩:=zod h
     refine⟨j+1,by grind,?_⟩
     grind
theorem zvu:∀{xs:List OX} {i j:Nat} (hj:j < xs.length),xs.Pairwise (λx y=>x.k < y.d)->(∀x∈xs,x.d<=x.k)->goP i xs xs[j].d=some ⟨1+2 * (i+j),0,xs[j].o.data.length,1⟩/\(xs[j].k≠xs[j].d->goP i xs xs[j].k=some ⟨2+2 * (i+j),0,xs[j].o.keep.length,1⟩)
 | x :: xs,i,0,_,pw,dk=>by grind[goP]
 | x :: xs,i,j+1,hj,pw,dk=>by
   rw[List.pairwise_cons] at pw
   have hj' : j < xs.length:=by grind
   have k:=zvu (i:=i+1) hj' pw.2 λy hy=>dk y (QB _ hy)
   grind[goP]
theorem zo9:∀{os:List OpP} {j:Nat} (hj:j < os.length),(zuK os)[2 * j]?= some (.cells (za7 .u8 os[j].data).toArray 5 (0,0))/\(zuK os)[2 * j+1]?= some (.cells (zjo os[j].keep).toArray 4 (0,0))
 | o :: os,0,_=>⟨rfl,rfl⟩
 | o :: os,j+1,hj=>by
   have k:=zo9 (os:=os) (j:=j) (by grind)
   exact k
theorem zyR {os:List OpP} {j:Nat} (hj:j < os.length):(gw os).heap[1+2 * j]?= some (.cells (za7 .u8 os[j].data).toArray 5 (0,0))/\(gw os).heap[2+2 * j]?= some (.cells (zjo os[j].keep).toArray 4 (0,0)):=by grind[zo9,gw]
theorem zvv {φ:Fi} (k:IntKind):∀(l:List Nat),LR φ (za7 k l) (za7 k l)
 | []=>trivial
 | x :: l=>⟨.int _ _,rfl,zvv k l⟩
theorem zs2 {φ:Fi}:∀(l:List Bool),LR φ (zjo l) (zjo l)
 | []=>trivial
 | x :: l=>⟨.bool _,rfl,zs2 l⟩
theorem zmJ:∀(os:List OpP) (i:Nat),(zgG i os).length=os.length * 6
 | [],_=>rfl
 | o :: os,i=>by
   show (zyQ i o ++ zgG (i+1) os).length=_
   rw[Qs,zmJ os,QF]
   simp[zyQ]; omega
theorem zmK:∀(os us:List OpP) (i:Nat),zgG i (os ++ us)=zgG i os ++ zgG (i+os.length) us
 | [],us,i=>rfl
 | o :: os,us,i=>by
   show zyQ i o ++ zgG (i+1) (os ++ us)=(zyQ i o ++ zgG (i+1) os) ++ zgG (i+(os.length+1)) us
   rw[zmK os us,QM,show i+1+os.length=i+(os.length+1) by omega]
theorem zvw {φ:Fi}:∀{xs:List OX} {i:Nat},(∀x∈xs,(x.cd=zai\/x.cd=x.o.data.length)/\(x.ck=zai/\x.o.keep≠[]\/x.ck=x.o.keep.length)/\x.o.data.length < zai/\x.o.keep.length < zai)->
 (∀j (hj:j < xs.length),φ xs[j].d=some ⟨1+2 * (i+j),0,xs[j].o.data.length,1⟩/\(xs[j].k=xs[j].d->xs[j].o.keep=[])/\(xs[j].k≠xs[j].d->φ xs[j].k=some ⟨2+2 * (i+j),0,xs[j].o.keep.length,1⟩))->LR φ (xs.flatMap OX.row) (zgG i (xs.map OX.o))
 | [],_,_,_=>trivial
 | x :: xs,i,hx,hp=>by
   obtain⟨h1,h2,h3,h4⟩:=hx x (by simp)
   obtain⟨p1,p3,p2⟩:=hp 0 (by simp)
   simp only[List.getElem_cons_zero] at p1 p2 p3
   have sl:∀{b n c t:Nat},φ b=some ⟨t,0,n,1⟩->(c=zai\/c=n)->n < zai->VR φ (.slice (some ⟨b,0,none⟩) n c) (.slice (some ⟨t,0,none⟩) n n):=λ{b n c t} e q hn=>by
    rcases q with rfl | rfl
    ·exact .sliceO e hn (Qc _) (by simp)
    ·exact .slice e hn
   refine LR.append ?_ (zvw (by grind) λj hj=>?_)
   ·refine⟨.int _ _,rfl,.string _,rfl,.string _,rfl,.int _ _,rfl,sl p1 h1 h3,rfl,?_,?_,trivial⟩
    ·by_cases e:x.o.keep=[]
     ·rw[if_pos e,e]
      rw[e] at h2
      have hck:x.ck=0:=h2.elim (λz=>absurd rfl z.2) id
      split
      ·exact .sliceNil 0 0 (by decide)
      ·rw[hck]
       exact .sliceY _ _
     ·rw[if_neg e,if_neg λz=>e (p3 z)]
      exact sl (p2 λz=>e (p3 z)) (h2.imp And.left id) h4
    ·split <;> rfl
   ·have:=hp (j+1) (by grind)
    grind
section
variable {lim c:Nat} {p:Option Addr} {h:AH} {xs:List OX} {os:List OpP}
theorem zvx (R:zfU lim h p c xs) (hl:LtH h) (ho:xs.map OX.o=os.take xs.length) (hn:xs.length<=os.length):Am.R Tryz.prog (zmT (os.length * 6) (bOf p) xs) h (gw os):=by
 have oc:zai=18446744073709551616:=rfl
 have hre:reachBytes=140737488351232:=rfl
 have hd:∀x∈xs,x.d<=x.k:=λx hx=>(R.els x hx).dk
 have at_:∀j (hj:j < xs.length),zmT (os.length * 6) (bOf p) xs xs[j].d=some ⟨1+2 * (0+j),0,xs[j].o.data.length,1⟩/\(xs[j].k=xs[j].d->xs[j].o.keep=[])/\(xs[j].k≠xs[j].d->zmT (os.length * 6) (bOf p) xs xs[j].k=some ⟨2+2 * (0+j),0,xs[j].o.keep.length,1⟩):=λj hj=>by
  have A:=R.els _ (Qj hj)
  obtain⟨ep, -⟩:=R.gb (show xs≠[] by grind)
  have b1:=A.bd
  have b2:=A.bk
  rw[ep] at b1 b2
  have b1:bOf p≠xs[j].d:=b1
  have b2:bOf p≠xs[j].k:=b2
  obtain⟨g1,g2⟩:=zvu (i:=0) hj R.pw hd
  refine⟨by rw[zmT,if_neg (by grind)]; exact g1,A.kz,λz=>by rw[zmT,if_neg (by grind)]; exact g2 z⟩
 have inv:∀{q:Nat} {r:Rec},zmT (os.length * 6) (bOf p) xs q=some r->(q=bOf p/\xs≠[]/\r=⟨0,0,os.length * 6,6⟩)\/∃j,∃hj:j < xs.length,(q=xs[j].d/\r=⟨1+2 * j,0,xs[j].o.data.length,1⟩)\/(q=xs[j].k/\xs[j].k≠xs[j].d/\r=⟨2+2 * j,0,xs[j].o.keep.length,1⟩):=by grind[zmT,zod]
 have hoj:∀j (hj:j < xs.length),os[j]=xs[j].o:=λj hj=>by
  have:=congrArg (λl:List OpP=>l[j]?) ho
  grind
 refine⟨λq o r e1 e2=>?_,λb1 b2 o1 o2 r1 r2 e1 e2 e3 e4 e5=>.inl ?_,hl⟩
 ·rcases inv e2 with ⟨rfl,hne,rfl⟩ | ⟨j,hj,⟨rfl,rfl⟩ | ⟨rfl,kd,rfl⟩⟩
  ·rw[(R.gb hne).2.2.2] at e1
   cases e1
   refine⟨_,rfl,rfl,by rfl,by simp[zmJ],⟨[],zgG 0 (os.take xs.length),zgG (0+(os.take xs.length).length) (os.drop xs.length),?_,rfl,?_⟩,λ_=>.inl rfl⟩
   ·grind[zmK,Jl]
   ·rw[<-ho]
    exact zvw (λx hx=>by
     have A:=R.els x hx
     grind[OX.At.l1,OX.At.l2,OX.At.cd,OX.At.ck]) at_
  ·have A:=R.els _ (Qj hj)
   rw[A.gd] at e1
   cases e1
   refine⟨_,(zyR (Qi hj hn)).1,rfl,by rfl,by grind[zaG],⟨[],_,[],by rw[QR,QS],rfl,?_⟩,λ_=>.inl rfl⟩
   grind[zvv]
  ·have A:=R.els _ (Qj hj)
   rw[A.gk kd] at e1
   cases e1
   refine⟨_,(zyR (by omega)).2,rfl,by rfl,by grind[zep],⟨[],_,[],by rw[QR,QS],rfl,?_⟩,λ_=>.inl rfl⟩
   grind[zs2]
 ·rcases inv e3 with ⟨rfl, -,rfl⟩ | ⟨j,hj,⟨rfl,rfl⟩ | ⟨rfl, -,rfl⟩⟩ <;> rcases inv e4 with ⟨rfl, -,rfl⟩ | ⟨i,hi,⟨rfl,rfl⟩ | ⟨rfl, -,rfl⟩⟩ <;> simp only at e5 <;> first
   | rfl
   | omega
   | (obtain rfl:j=i:=by omega
      rfl)
theorem zhy (R:zfU lim h p c xs) {T q:Nat} (hq:h.next<=q):zmT T (bOf p) xs q=none:=by
 cases e:zmT T (bOf p) xs q with
 | none=>rfl
 | some r=>
   unfold zmT at e
   split at e
   ·rename_i z
    have:=(R.gb z.2).2.2.1
    omega
   ·obtain⟨j,hj,k⟩:=zod e
    have A:=R.els _ (Qj hj)
    have a1:=A.dk
    have a2:=A.hi
    omega
end
theorem VR.pairI {φ:Fi} {p v:Value} {e:Int} (k:VR φ (.tuple #[p,.int .i64 e]) v):∃p',v=.tuple #[p',.int .i64 e]/\VR φ p p':=by
 generalize hx:(Value.tuple #[p,.int .i64 e])=x at k
 cases k with
 | tuple h1 h3=>
   rename_i xs xs'
   cases hx
   match xs',h1,h3 with
   | ⟨[a,b]⟩,_,h3=>
     have ka:=h3 0 _ a rfl rfl
     have kb:=h3 1 _ b rfl rfl
     grind[int_eq]
   | ⟨[]⟩,h1,_=>grind
   | ⟨[_]⟩,h1,_=>grind
   | ⟨_ :: _ :: _ :: _⟩,h1,_=>grind
 | skip h=>grind[isSkip]
 | _=>grind
def zAw (w:World) (a:Option Addr) (m:Nat):Option (List Value):=match a with
 | some ⟨b,off,_⟩=>match w.heap[b]? with
   | some (.cells C _ _)=>some ((C.toList.drop off).take m)
   | _=>none
 | none=>none
theorem Pln.eq {φ:Fi} {v v' : Value} (k:Pln v) (h:VR φ v v'):v'= v:=by
 rcases k with ⟨_,_,rfl⟩ | ⟨_,rfl⟩ <;> cases h <;> rfl
theorem zvy {φ:Fi}:∀{l l' : List Value},(∀v∈l,Pln v)->LR φ l l'->l'= l
 | [],[],_,_=>rfl
 | x :: l,y :: l',h,k=>by
   rw[(h x (by simp)).eq k.1,zvy (λv hv=>h v (QB _ hv)) k.2.2]
theorem zjZ {φ:Fi} {h:AH} {w:World} (r:Am.R Tryz.prog φ h w) {p:Option Addr} {n c k:Nat} {cs:List Value} {v:Value} (hv:VR φ (.slice p n c) v) (S:zaz h p n k cs) (pl:∀v∈cs,Pln v):∃a c',v=.slice a n c'/\(n=0\/zAw w a (n * k)=some cs):=by
 rcases S.2 with z | ⟨b,off,al,e,ro,rfl, -,hb,hl,hcs⟩
 ·cases hv <;> exact⟨_,_,rfl,.inl z⟩
 ·have key:∀rc,φ b=some rc->zAw w (some ⟨rc.blk,rc.shift+off,none⟩) (n * k)=some cs:=λrc hφ=>by
   obtain⟨C,m,pre,mid,post,ho, -, -,hC,hsh,hlr, -⟩:=r.cells hb hφ
   have e1:(C.toList.drop (rc.shift+off)).take (n * k)=(mid.drop off).take (n * k):=by
    have hm:=hlr.length
    rw[hC,QM,QL,Q6 (by omega),QR,show rc.shift+off - pre.length=off by omega,List.drop_append_of_le_length (by omega),List.take_append_of_le_length (by rw[Q3]; omega)]
   have e2:=(hlr.drop off).take (n * k)
   rw[hcs] at e2
   simp only[zAw,ho,e1]
   rw[zvy pl e2]
  cases hv with
  | slice hφ _=>exact⟨_,_,rfl,.inr (key _ hφ)⟩
  | sliceO hφ _ _ _=>exact⟨_,_,rfl,.inr (key _ hφ)⟩
  | sliceE hφ _=>exact⟨_,_,rfl,.inl rfl⟩
  | sliceY=>exact⟨_,_,rfl,.inl rfl⟩
theorem zw3 (G:zdM Tryz.prog) (X:zbK Tryz.prog KB) {secs:Int} {limA limB cA cB:Nat} {qA qB:Option Addr} {hA hB:AH} {xA xB:List OX} {rA rB:List (List Value)} {plA plB:Option Addr} {nA nB clA clB:Nat} {xxA xxB:Int} {zA zB:Bool} {csA csB:List Value} (RA:zfU limA hA qA cA xA) (RB:zfU limB hB qB cB xB) (lA:LtH hA) (lB:LtH hB) (ho:xB.map OX.o=xA.map OX.o)
 (iA:zi4 nA csA) (iB:zi4 nB csB) (lcA:csA.length=nA * 4) (lcB:csB.length=nB * 4)
 (A:zzl secs (bOf qA) xA.length hA rA λo hE pE=>zyO o hE pE plA nA clA xxA zA csA) (B:zzl secs (bOf qB) xB.length hB rB λo hE pE=>zyO o hE pE plB nB clB xxB zB csB):rB=rA/\nB=nA/\csB=csA/\xxB=xxA/\zB=zA:=by
 have hlen:xB.length=xA.length:=by simpa using congrArg List.length ho
 have hm:xB.length<=xA.length:=by omega
 replace ho:xB.map OX.o=(xA.map OX.o).take xB.length:=by rw[ho,QA (by simp; omega)]
 have plA:=iA.pln lcA
 have plB:=iB.pln lcB
 clear iA iB
 generalize hbA:bOf qA=bA at *
 generalize hbB:bOf qB=bB at *
 obtain⟨gA,iA,kA,dA,pA,eA,oA,hEA,pEA,oldA,ltA,tA,uA,chA,enA⟩:=A
 obtain⟨gB,iB,kB,dB,pB,eB,oB,hEB,pEB,oldB,ltB,tB,uB,chB,enB⟩:=B
 have wA:=zvx RA lA (os:=xA.map OX.o) (by grind[QA]) (by simp)
 have wB:=zvx RB lB ho (by grind)
 rw[hbA] at wA
 rw[hbB] at wB
 have eqA:=λ{q:Nat} {r:Rec} (e:zmT ((xA.map OX.o).length * 6) bA xA q=some r)=>(show q < hA.next from Nat.lt_of_not_le λz=>by grind[zhy])
 have eqB:=λ{q:Nat} {r:Rec} (e:zmT ((xA.map OX.o).length * 6) bB xB q=some r)=>(show q < hB.next from Nat.lt_of_not_le λz=>by grind[zhy])
 have wA:=wA.keep (ltA lA) λq r e o g=>by rw[<-oldA.2 q (eqA e)]; omega
 have wB:=wB.keep (ltB lB) λq r e o g=>by rw[<-oldB.2 q (eqB e)]; omega
 have hb:∀i,i < xB.length->∃x,VR (zmT ((xA.map OX.o).length * 6) bA xA) (ptr bA (i * 6)) x/\VR (zmT ((xA.map OX.o).length * 6) bB xB) (ptr bB (i * 6)) x:=λi hi=>⟨_,.ptr (if_pos ⟨rfl,by grind⟩),.ptr (if_pos ⟨rfl,by grind⟩)⟩
 have fA:∀q,hA.next<=q->zmT ((xA.map OX.o).length * 6) bA xA q=none:=by grind[zhy]
 have fB:∀q,hB.next<=q->zmT ((xA.map OX.o).length * 6) bB xB q=none:=by grind[zhy]
 have nA:=oldA.1
 have nB:=oldB.1
 have new:∀{φ φ' : Fi} {h h' : AH} {w w' : World} {n:Nat},Tn Tryz.prog φ h w φ' h' w'->n<=h.next->(∀q,n<=q->φ q=none)->(∀q,n<=q->q < h.next->φ' q=none)/\∀q,h'.next<=q->φ' q=none:=λ{φ φ' h h' w w' n} t hn f=>by
  have tn:=t.nle
  have z:∀q,n<=q->¬(h.next<=q/\q < h'.next)->φ' q=none:=by grind[Tn.new]
  grind
 obtain⟨φA1,φB1,w1,v1,tnA,tnB,vA,vB⟩:=det G X (by simp) tA tB wA wB (args':=[.int .i64 secs]) ⟨.int _ _,trivial⟩ ⟨.int _ _,trivial⟩ (by grind) (by grind)
 obtain⟨sA1,fA1⟩:=new tnA nA fA
 obtain⟨sB1,fB1⟩:=new tnB nB fB
 obtain⟨φA2,φB2,w2,v2,unA,unB,yA,yB⟩:=det G X (by simp) uA uB tnA.rel tnB.rel (args':=[v1]) ⟨vA,trivial⟩ ⟨vB,trivial⟩ fA1 fB1
 have sA2:(∀q,hA.next<=q->q < gA.next->φA2 q=none)/\∀q,kA.next<=q->φA2 q=none:=by
  obtain⟨-,k2⟩:=new unA (Qc _) fA1
  have:=tnA.nle
  grind[Tn.new]
 have sB2:(∀q,hB.next<=q->q < gB.next->φB2 q=none)/\∀q,kB.next<=q->φB2 q=none:=by
  obtain⟨-,k2⟩:=new unB (Qc _) fB1
  have:=tnB.nle
  grind[Tn.new]
 obtain⟨p',rfl,pA'⟩:=yA.pairI
 obtain⟨p'',e',pB'⟩:=yB.pairI
 obtain⟨rfl,rfl⟩:=e'
 have n1:=tnA.nle
 have n2:=unA.nle
 have n3:=tnB.nle
 have n4:=unB.nle
 have R0:zAm Tryz.prog xB.length (ptr dA 0) (ptr dB 0) (λi=>ptr bA (i * 6)) (λi=>ptr bB (i * 6)) kA kB (if eA=0 then pA else .pointer none) (if eA=0 then pB else .pointer none) (λq=>hA.next<=q/\q < gA.next) (λq=>hB.next<=q/\q < gB.next):=by
  refine⟨w2,φA2,φB2,unA.rel,unB.rel,⟨v1,vA.mono unA.le,vB.mono unB.le⟩,?_,λj hj=>(hb j hj).imp λx k=>⟨(k.1.mono tnA.le).mono unA.le,(k.2.mono tnB.le).mono unB.le⟩,by grind,sA2.2,by grind,sB2.2⟩
  by_cases z:eA=0
  ·grind
  ·rw[if_neg z,if_neg z]; exact⟨_,.ptrNil,.ptrNil⟩
 rw[<-hlen] at chA
 obtain⟨RE,hr⟩:=zAn G X (by simp) R0 chA chB (Qc _)
 refine⟨hr.symm,?_⟩
 obtain⟨w,φA,φB,rA,rB, -,⟨p,p1,p2⟩, -,oA1,oA2,oB1,oB2⟩:=RE
 rcases enA with ⟨rfl,rfl,rfl,rfl,rfl⟩ | ⟨aA,hA1,hA2,hA3,rfl,rfl,a1,a2,a3,a4,a5,a6⟩
 ·rcases enB with ⟨rfl,rfl,rfl,rfl,rfl⟩ | ⟨aB,hB1,hB2,hB3,rfl,rfl,b1,b2,b3,b4,b5,b6⟩
  ·exact⟨rfl,rfl,rfl,rfl⟩
  ·cases p1
   cases p2
 ·rcases enB with ⟨rfl,rfl,rfl,rfl,rfl⟩ | ⟨aB,hB1,hB2,hB3,rfl,rfl,b1,b2,b3,b4,b5,b6⟩
  ·cases p2
   cases p1
  ·have rA:=rA.keep (a3 rA.lt) λq r e o g=>by
    by_cases z:q < hEA.next
    ·by_cases z2:oA q
     ·have:=(oA1 q z2).2; grind
     ·rw[<-a2 q z z2]; exact g
    ·have:=oA2 q (by omega); grind
   have rB:=rB.keep (b3 rB.lt) λq r e o g=>by
    by_cases z:q < hEB.next
    ·by_cases z2:oB q
     ·have:=(oB1 q z2).2; grind
     ·rw[<-b2 q z z2]; exact g
    ·have:=oB2 q (by omega); grind
   obtain⟨φA1,φB1,w1,v1,tA1,tB1,vA1,vB1⟩:=det G X (by simp) a4 b4 rA rB (args':=[p]) ⟨p1,trivial⟩ ⟨p2,trivial⟩ (by grind) (by grind)
   obtain⟨-,fA1'⟩:=new tA1 a1 oA2
   obtain⟨-,fB1'⟩:=new tB1 b1 oB2
   obtain⟨_,_,_,v2, -, -,vA2,vB2⟩:=det G X (by simp) a5 b5 tA1.rel tB1.rel (args':=[p]) ⟨p1.mono tA1.le,trivial⟩ ⟨p2.mono tB1.le,trivial⟩ fA1' fB1'
   have ey:xxB=xxA:=by
    have k1:=vA2.int_eq
    have k2:=vB2.int_eq
    rw[k1] at k2
    cases k2
    rfl
   obtain⟨sA,cA',rfl,kA⟩:=zjZ tA1.rel vA1 a6 plA
   obtain⟨sB,cB',e2,kB⟩:=zjZ tB1.rel vB1 b6 plB
   cases e2
   refine⟨rfl,?_,ey,rfl⟩
   have h1:=a6.1
   have h2:=b6.1
   rcases kA with z | kA
   ·subst z; grind
   ·rcases kB with z | kB
    ·subst z; grind
    ·rw[kA] at kB
     cases kB
     rfl
end Go.Am
