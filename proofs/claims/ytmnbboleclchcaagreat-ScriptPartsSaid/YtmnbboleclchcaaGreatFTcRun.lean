/-
  Texts of this proof, part 48. No condition.
-/
import Derived.Test.YtmnbboleclchcaaGreatFCJoin
set_option linter.unusedVariables false
set_option linter.unusedSimpArgs false
set_option maxRecDepth 100000
namespace Go.Am
open Go.Proofs
theorem zz9:cx0.fl 43=30 :: List.replicate 128 5:=by kernel_rfl
theorem zyy:za5 Tryz.prog 26 43 129 136:=zaU (by kernel_rfl)
theorem zAa:zan Tryz.prog 43=some (.int .i64 0 :: List.replicate 128 (.int .u8 0)):=by kernel_rfl
def ziW (r:List Value):Prop:=(∃x l,r=.int .i64 x :: l/\InR .i64 x/\l.length=128/\U8s l)/\∃la,zev Tryz.prog 43 (.agg r.toArray)=some la
theorem ziW.len {r:List Value} (k:ziW r):r.length=129:=by
 obtain⟨⟨x,l,rfl, -,e, -⟩, -⟩:=k
 grind
theorem ziW.pl {r:List Value} (k:ziW r):∀v∈r,∃k x,v=.int k x:=λv hv=>by
 obtain⟨⟨x,l,rfl, -, -,u⟩, -⟩:=k
 rcases Qz.1 hv with rfl | hv
 ·simp
 ·obtain⟨y,rfl, -⟩:=u v hv
  simp
theorem zAb {S:TY} {vs:List Value} (hl:vs.length=sz cx0 43) (ht:zaw cx0 S (zcR cx0 43) vs):ziW vs:=by
 refine⟨?_,zjj.ke S 43 vs rfl hl ht⟩
 have h129:sz cx0 43=129:=by grind[sz,zz9]
 rw[h129] at hl
 match vs,hl with
 | a :: l,hl=>
   simp at hl
   obtain⟨v,e,o⟩:=ht 0 30 (by grind[zcR,zz9])
   cases e
   unfold okC at o
   obtain⟨x,rfl,h1,h2⟩:=o
   refine⟨x,l,rfl,⟨h1,h2⟩,hl,λv hv=>?_⟩
   obtain⟨i,hi⟩:=List.mem_iff_getElem?.1 hv
   obtain⟨v',h1,h2⟩:=ht (i+1) 5 (by grind[zcR,zz9])
   grind[ok5]
def zn8 (S:TY) (p:Value):Prop:=p=.pointer none\/zbr cx0 S 84 p
abbrev zyz (S:TY) (hp:AH) (S' : TY) (g' : Int) (h' : AH):Prop:=Xt hp.next S S'/\WT cx0 S' g' h'/\hp.next<=h'.next/\∀b,b < hp.next->S.ty b=none->¬S.dv b->h'.get b=hp.get b
theorem zvm {S:TY} {h:AH} {v:Value} {base:Nat} (g:gam cx0 S h L0 base (.aggT 43) v):∃r:List Value,v=.agg r.toArray/\ziW r:=by grind[gam,zAb]
theorem zAc {S:TY} {g:Int} {hp:AH} {d:Nat} {p v:Value} (w:WT cx0 S g hp) (hg:g+8000<=1000000000) (hd:S.dev=d) (hp' : zn8 S p) (hv:gam cx0 S hp L0 hp.next (.cp false false 57) v):
 Wf Tryz.prog KB 15 [ptr d 0,p,v] hp λx h'=>∃S' g' r p',x=.tuple #[.agg r.toArray,.pointer p']/\ziW r/\zn8 S' (.pointer p')/\g'<=g+8000/\zyz S hp S' g' h':=by
 have fin:∀x h',(∃S' r g',Xt hp.next S S'/\WT cx0 S' g' h'/\hp.next<=h'.next/\(∀b,b < hp.next->(false=true\/(S.ty b=none/\¬S.dv b))->h'.get b=hp.get b)/\gam cx0 S' h' L0 hp.next r x/\tagsOf r=[]/\((r=.tup [.aggT 43,.np 84 true]\/r=.tup [.aggT 43,.np 84 false])/\g'<=g+8000))->∃S' g' r p',x=.tuple #[.agg r.toArray,.pointer p']/\ziW r/\zn8 S' (.pointer p')/\g'<=g+8000/\zyz S hp S' g' h':=by
  rintro x h' ⟨S',r,g',k1,k2,k3,k4,k5, -,k6,k7⟩
  have f:zyz S hp S' g' h':=by grind
  rcases k6 with rfl | rfl
  ·obtain⟨vs,rfl, -,k5⟩:=k5
   match vs,k5 with
   | [y,z],k5=>
     obtain⟨r,rfl,hr⟩:=zvm k5.1
     have k:=k5.2.1
     subst k
     exact⟨S',g',r,none,rfl,hr,.inl rfl,k7,f⟩
   | [],k5=>grind[gams]
   | [_],k5=>grind[gams]
   | _ :: _ :: _ :: _,k5=>grind[gams]
  ·obtain⟨vs,rfl, -,k5⟩:=k5
   match vs,k5 with
   | [y,z],k5=>
     obtain⟨r,rfl,hr⟩:=zvm k5.1
     have k:=k5.2.1
     simp only[gam] at k
     have k':=k
     unfold zbr at k'
     have:∃p',z=.pointer p':=by
      split at k'
      ·exact⟨_,k'⟩
      ·obtain⟨_,_,e,_⟩:=k'
       exact⟨_,e⟩
     obtain⟨p',rfl⟩:=this
     exact⟨S',g',r,p',rfl,hr,.inr k,k7,f⟩
   | [],k5=>grind[gams]
   | [_],k5=>grind[gams]
   | _ :: _ :: _ :: _,k5=>grind[gams]
 have hdv:gam cx0 S hp L0 hp.next (.hp 79) (ptr d 0):=by
  simp only[gam]
  unfold zbr
  rw[show Nat.beq 79 cx0.dt=true by rfl,hd]
 rcases hp' with rfl | hp'
 ·exact (zz5 ((),(),(),()) g (λr g'=>(r=.tup [.aggT 43,.np 84 true]\/r=.tup [.aggT 43,.np 84 false])/\g'<=g+8000) ⟨hg,λg' a b=>⟨⟨.inl rfl,b⟩,.inr rfl,b⟩⟩ S hp [ptr d 0,.pointer none,v] w (show gams cx0 S hp L0 hp.next [.hp 79,.nilp,.cp false false 57] _ by grind[gams,gam])).mono fin
 ·exact (z15 ((),(),(),()) g (λr g'=>(r=.tup [.aggT 43,.np 84 true]\/r=.tup [.aggT 43,.np 84 false])/\g'<=g+8000) ⟨hg,λg' a b=>⟨⟨.inl rfl,b⟩,.inr rfl,b⟩⟩ S hp [ptr d 0,p,v] w (show gams cx0 S hp L0 hp.next [.hp 79,.hp 84,.cp false false 57] _ by grind[gams,gam])).mono fin
theorem zFw {S:TY} {g:Int} {hp:AH} {d:Nat} (w:WT cx0 S g hp) (hg:g+7001<=1000000000) (hd:S.dev=d):
 Wf Tryz.prog KB 14 [ptr d 0] hp λx h'=>∃S' g' p' e,x=.tuple #[.pointer p',.int .i64 e]/\(e=0->zn8 S' (.pointer p'))/\g'<=g+7001/\zyz S hp S' g' h':=by
 have hdv:gam cx0 S hp L0 hp.next (.hp 79) (ptr d 0):=by
  simp only[gam]
  unfold zbr
  rw[show Nat.beq 79 cx0.dt=true by rfl,hd]
 refine (z14 ((),()) g (λr g'=>(r=.tup [.hp 84,.int .i64 0]\/∃e:Int,r=.tup [.np 84 true,.int .i64 e]/\¬e=0)/\g'<=g+7001) ⟨hg,λg' a b=>⟨.inl rfl,b⟩,λg' a b e _ he=>⟨.inr ⟨e,rfl,he⟩,b⟩⟩ S hp [ptr d 0] w (show gams cx0 S hp L0 hp.next [.hp 79] _ by grind[gams])).mono ?_
 rintro x h' ⟨S',r,g',k1,k2,k3,k4,k5, -,k6,k7⟩
 have f:zyz S hp S' g' h':=by grind
 rcases k6 with rfl | ⟨e,rfl,he⟩
 ·obtain⟨vs,rfl, -,k5⟩:=k5
  match vs,k5 with
  | [y,z],k5=>
    simp only[gams,gam] at k5
    obtain⟨k,⟨rfl, -⟩, -⟩:=k5
    have k':=k
    unfold zbr at k'
    have:∃p',y=.pointer p':=by
     split at k'
     ·exact⟨_,k'⟩
     ·obtain⟨_,_,e,_⟩:=k'
      exact⟨_,e⟩
    obtain⟨p',rfl⟩:=this
    exact⟨S',g',p',0,rfl,λ_=>.inr k,k7,f⟩
  | [],k5=>grind[gams]
  | [_],k5=>grind[gams]
  | _ :: _ :: _ :: _,k5=>grind[gams]
 ·obtain⟨vs,rfl, -,k5⟩:=k5
  match vs,k5 with
  | [y,z],k5=>
    obtain⟨rfl,⟨rfl, -⟩, -⟩:=k5
    grind
  | [],k5=>grind[gams]
  | [_],k5=>grind[gams]
  | _ :: _ :: _ :: _,k5=>grind[gams]
theorem zAd {S:TY} {g:Int} {hp:AH} {p:Value} (w:WT cx0 S g hp) (hp' : zbr cx0 S 84 p):
 Wf Tryz.prog KB 16 [p] hp λx h'=>∃S' q n c,x=.slice q n c/\Old hp h'/\WT cx0 S' g h'/\zbr cx0 S' 84 p:=by
 refine (z16 ((),()) g (λr g'=>(∃n,r=.sl false false false 102 n)/\g'= g) (λn _=>⟨⟨n,rfl⟩,rfl⟩) S hp [p] w (show gams cx0 S hp L0 hp.next [.hp 84] _ by grind[gams,gam])).mono ?_
 rintro x h' ⟨S',r,g',k1,k2,k3,k4,k5, -,⟨n,rfl⟩,rfl⟩
 obtain⟨-,q,c,rfl, -⟩:=k5
 exact⟨S',q,n,c,rfl,⟨k3,λb hb=>k4 b hb (.inl rfl)⟩,k2,hp'.mono ⟨k1.ty,k1.dev⟩⟩
theorem zAe {S:TY} {g:Int} {hp:AH} {p:Value} (w:WT cx0 S g hp) (hp' : zbr cx0 S 84 p):
 Wf Tryz.prog KB 17 [p] hp λx h'=>∃i:Int,x=.int .i64 i/\Old hp h':=by
 refine (z17 ((),()) g (λr g'=>∃n,r=.int .i64 n) (λn _=>⟨n,rfl⟩) S hp [p] w (show gams cx0 S hp L0 hp.next [.hp 84] _ by grind[gams,gam])).mono ?_
 rintro x h' ⟨S',r,g',k1,k2,k3,k4,k5, -,n,rfl⟩
 exact⟨n,k5.1,k3,λb hb=>k4 b hb (.inl rfl)⟩
theorem zyA {lim b c n d:Nat} {h h1:AH} {xs:List OX} {x:Dd} (R:zgU lim h b c xs) (ok:∀x∈xs,zfW x.o) (o:Old h h1) (D:DV h1 d n x) (hx:x.pn=0) (hn:n<=1024) (hc:∀c∈x.bk d,h.next<=c):WT cx0 ⟨zuu h (bks b xs),d,λc=>c∈x.bk d⟩ 0 h1:=
 ⟨λq ro e cc hq=>by
   obtain⟨⟨-,k1⟩,cs,r,k2,k3,k4⟩:=R.typed rfl ok hq
   exact⟨Qh k1 o.1,λz=>by grind,cs,r,by rw[o.2 q k1]; omega,k3,k4⟩,D.lt,n,x,D,by omega,by omega,hn,λ_ h=>h⟩
abbrev zAf (secs:Int) (b n:Nat) (h:AH) (rows:List (List Value)):Prop:=
 ∃(hR h10 h13:AH) (d:Nat) (p:Value) (e:Int) (o:Nat->Prop) (hE:AH) (pE:Value),Old h hR/\(LtH h->LtH hR)/\Rt Tryz.prog KB 13 [.int .i64 secs] hR (ptr d 0) h10/\Rt Tryz.prog KB 14 [ptr d 0] h10 (.tuple #[p,.int .i64 e]) h13/\
  Ch Tryz.prog KB 15 (ptr d 0) (λi=>ptr b (i * 6)) (λq=>h.next<=q/\q < hR.next) h13 (if e=0 then p else .pointer none) n o hE pE rows
def zy5 (s:zi3) (b n:Nat) (bs:List Nat) (h:AH) (v:Value) (h' : AH):Prop:=
 ∃(pr:Option Addr) (cr:Nat) (pl:Option Addr) (nl cl:Nat) (x:Int) (dd:Bool) (rows:List (List Value)),
  v=.tuple #[.agg #[.slice pr n cr,.slice pl nl cl,.int .i64 x,.bool dd],.int .i64 0]/\h.next<=h'.next/\(∀q,q < h.next->q∉bs->h'.get q=h.get q)/\
  zaF h' pr n 129 rows.flatten/\(∀a,pr=some a->h.next<=a.block)/\(∀r∈rows,ziW r)/\zAf s.secs b n h rows
theorem zvn {h:AH} {b:Nat} {o o' : zb3} (hb:h.get b=some o) (z:LtH h):LtH (h.set b o'):=z.set hb
theorem zfP {h h' : AH} {o:zb3} (e:h'= h.alloc o) (z:LtH h):LtH h':=by rw[e]; exact z.alloc
theorem zyB:∀f x,KB f=some (.ext x)\/KB f=some (.sum x)->∀args h v h',x args h=some (v,h')->LtH h->LtH h':=by
 intro f x hk args h v h' hx
 unfold KB zns zka at hk
 cases hb:Nat.beq f 5 with
 | true=>
   rw[hb] at hk
   rcases hk with hk | hk <;> cases hk
   unfold ztZ at hx
   split at hx
   ·cases hx; exact id
   ·cases hx
 | false=>
   rw[hb,cond_false] at hk
   cases hb:Nat.beq f 266 with
   | false=>rw[hb] at hk; rcases hk with hk | hk <;> cases hk
   | true=>
     rw[hb] at hk
     rcases hk with hk | hk
     ·cases hk
      unfold zcn at hx
      repeat' split at hx
      all_goals first | (cases hx; exact id) | (simp at hx; done) | skip
     ·cases hk
theorem Rt.lt {f:FuncId} {args:List Value} {h h' : AH} {v:Value} (r:Rt Tryz.prog KB f args h v h'):LtH h->LtH h':=by
 obtain⟨n,e⟩:=r
 exact zkM (zA9 zyB n) zyB e
def Pv (S:TY) (g:AH) (a:Nat):Prop:=a < g.next/\S.ty a=none/\¬S.dv a
structure RJ (b n:Nat) (bs:List Nat) (h:AH) (pc:List Value) (a1 a2 d:Nat) (hR h13:AH) (st:Value) (p:Value) (j:Nat) (g:AH) (S:TY) (gg:Int) (o:Nat->Prop) (hc:AH) (rows:List (List Value)) (q:Option Addr) (cq:Nat):Prop where
 w:WT cx0 S gg g
 le:gg<=7001+8000 * j
 dev:S.dev=d
 pool:zn8 S p
 tb:S.ty b=some (false,57,zaK cx0 57 n)
 p0:Pv S g h.next
 p1:Pv S g a1
 p2:Pv S g a2
 v0:g.get h.next=some (.cells pc 24 false)
 v1:g.get a1=some (.cells [.slice none 0 0,.slice none 0 0,.int .i64 0,.bool false] 29 false)
 v2:g.get a2=some (.cells [.slice q j cq,.slice none 0 0,.int .i64 0,.bool false] 29 false)
 gr:zby h.next g 43 129 q j cq rows.flatten
 pq:∀a,q=some a->Pv S g a.block/\a.block≠h.next/\a.block≠a1/\a.block≠a2/\(o a.block\/hc.next<=a.block)
 ne:h.next < a1/\a1 < a2
 rw:∀r∈rows,ziW r
 ch:Ch Tryz.prog KB 15 (ptr d 0) (λi=>ptr b (i * 6)) (λq=>h.next<=q/\q < hR.next) h13 st j o hc p rows
 nx:hc.next<=g.next
 same:∀q,q < hc.next->¬o q->g.get q=hc.get q
 lt:LtH hc->LtH g
 o0:o h.next\/hc.next<=h.next
 o1:o a1\/hc.next<=a1
 o2:o a2\/hc.next<=a2
 out:∀q,q < h.next->q∉bs->S.ty q=none/\¬S.dv q/\g.get q=h.get q
theorem Pv.xt {S S' : TY} {g h' : AH} {a:Nat} (k:Pv S g a) (x:Xt g.next S S') (hn:g.next<=h'.next):Pv S' h' a:=⟨Qh k.1 hn,(x.old a k.1).trans k.2.1,λz=>k.2.2 (x.dvo a k.1 z)⟩
theorem Pv.le {S:TY} {g h' : AH} {a:Nat} (k:Pv S g a) (hn:g.next<=h'.next):Pv S h' a:=⟨Qh k.1 hn,k.2⟩
theorem Pv.new {S:TY} {gg:Int} {g h' : AH} {a:Nat} (w:WT cx0 S gg g) (h1:g.next<=a) (h2:a < h'.next):Pv S h' a:=by
 refine⟨h2,?_,λz=>by have:=w.2.1 a z; omega⟩
 cases e:S.ty a with
 | none=>rfl
 | some q=>have:=(w.1 a q.1 q.2.1 q.2.2 e).1; omega
theorem Pv.ne {S:TY} {gg:Int} {g g' : AH} {a b:Nat} (k:Pv S g' a) (h:(∃q,S.ty b=some q)\/S.dv b):b≠a:=λe=>by
 subst e
 rcases h with ⟨q,h⟩ | h
 ·rw[k.2.1] at h; grind
 ·exact k.2.2 h
theorem zBC {lim b c:Nat} {xs:List OX} {s:zi3} {h:AH} (R:zgU lim h b c xs) (hs:xs.map OX.o=s.ops) (ok:zdS s):
 Wf Tryz.prog KB 6 [.agg #[.int .i64 s.secs,.slice (some ⟨b,0,none⟩) xs.length c]] h (zy5 s b xs.length (bks b xs) h):=by
 have xl:xs.length=s.ops.length:=by grind
 have sl:=ok.len
 have hrm:zay=140737488355328:=rfl
 have hre:reachBytes=140737488351232:=rfl
 have okx:∀x∈xs,zfW x.o:=by grind[zdS.ops]
 have Ro:=R.ops (by omega)
 rw[hs] at Ro
 refine zk1 (xb rfl) _ _ _ _ h _ λg0 e0 g1 e1=>?_
 have o0:=zab e0
 have o1:=zab e1
 have n0:=zad e0
 have n1:=zad e1
 have c0:∀{g:AH},Old g1 g->g.get h.next=_:=λo=>((o1.trans o).2 _ (by omega)).trans (zae e0)
 have c1:∀{g:AH},Old g1 g->g.get g0.next=_:=λo=>(o.2 _ (by omega)).trans (zae e1)
 refine⟨_,_,_,_,zaz (c0 (Old.refl _)) rfl,?_⟩
 refine ((zk0 (xb rfl) (xb rfl) (xb rfl) (Ro.old (o0.trans o1))).rt (xb rfl)).mono ?_
 rintro _ g7 ⟨⟨⟨rfl, -⟩ | ⟨rfl,k⟩,o7⟩,r7⟩
 rotate_left
 ·grind
 have oh7:=(o0.trans o1).trans o7
 have q7:=o7.1
 refine .inl ⟨rfl,_,zah (c0 o7) rfl,?_⟩
 refine ((zzD (xb rfl) s.secs g7).rt (xb rfl)).mono ?_
 rintro _ g10 ⟨⟨d,dn,x,rfl,hn,hx,D,o10,hc⟩,r13⟩
 refine⟨_,rfl,?_⟩
 have w0:=zyA R okx (oh7.trans o10) D hx hn λc hc'=>by grind
 refine ((zFw w0 (by omega) rfl).rt (xb rfl)).mono ?_
 rintro _ g13 ⟨⟨S,gg,p14,e,rfl,pv,hgg,f1,f2,f3,f4⟩,r14⟩
 refine⟨_,_,rfl,?_⟩
 have q10:=o10.1
 have pv13:∀q,q < g7.next->q∉bks b xs->Pv S g13 q/\g13.get q=g7.get q:=λq hq hb=>by
  have k1:zuu h (bks b xs) q=none:=if_neg hb
  have k2:¬q∈x.bk d:=λz=>by grind
  exact⟨Pv.xt ⟨by omega,k1,k2⟩ f1 f3,by rw[f4 q (by omega) k1 k2,o10.2 q hq]⟩
 have nb:∀q,h.next<=q->q∉bks b xs:=λq hq hb=>by have:=(R.bd hb).2; omega
 have A0:=pv13 h.next (by omega) (nb _ (by omega))
 have A1:=pv13 g0.next (by omega) (nb _ (by omega))
 have lt13:LtH h->LtH g7:=by grind[Rt.lt,zfP]
 have st0:∃st:Value,st=if e=0 then Value.pointer p14 else .pointer none:=⟨_,rfl⟩
 obtain⟨st,hst⟩:=st0
 have tb13:S.ty b=some (false,57,zaK cx0 57 xs.length):=f1.ty _ _ R.tb
 have out13:∀q,q < h.next->q∉bks b xs->S.ty q=none/\¬S.dv q/\g13.get q=h.get q:=λq hq hb=>by
  obtain⟨k1,k2⟩:=pv13 q (by omega) hb
  exact⟨k1.2.1,k1.2.2,by rw[k2,oh7.2 q hq]⟩
 have inRun:∀{h' : AH} {pr:Option Addr} {cr:Nat} {rows:List (List Value)} {o:Nat->Prop} {hE:AH} {pE:Value} {pl:Option Addr} {nl cl:Nat} {y:Int} {dd:Bool},h.next<=h'.next->(∀q,q < h.next->q∉bks b xs->h'.get q=h.get q)->zaF h' pr xs.length 129 rows.flatten->(∀a,pr=some a->h.next<=a.block)->(∀r∈rows,ziW r)->
  Ch Tryz.prog KB 15 (ptr d 0) (λi=>ptr b (i * 6)) (λq=>h.next<=q/\q < g7.next) g13 st xs.length o hE pE rows->zy5 s b xs.length (bks b xs) h (.tuple #[.agg #[.slice pr xs.length cr,.slice pl nl cl,.int .i64 y,.bool dd],.int .i64 0]) h':=
  λa1 a2 a3 a4 a5 a6=>⟨_,_,_,_,_,_,_,_,rfl,a1,a2,a3,a4,a5,g7,g10,g13,d,.pointer p14,e,_,_,_,oh7,lt13,r13,r14,hst▸a6⟩
 refine⟨λhz=>?l,λhz=>?r⟩
 case' l=>
  have P0:zn8 S (.pointer p14):=pv hz
  have E0:st=.pointer p14:=by grind
 case' r=>
  have P0:zn8 S (.pointer none):=.inl rfl
  have E0:st=.pointer none:=by grind
 all_goals
  clear pv hst
  intro g16 e16
  have o16:=zab e16
  have n16:=zad e16
  have w16:=f2.old o16
  refine⟨_,_,_,zah ((o16.2 _ A0.1.1).trans (A0.2.trans (c0 o7))) rfl,λp24 i25 k g=>∃(j:Nat) (S:TY) (gg:Int) (o:Nat->Prop) (hc:AH) (rows:List (List Value)) (q:Option Addr) (cq:Nat),i25=j/\j<=xs.length/\xs.length - j=k/\
   RJ b xs.length (bks b xs) h [.int .i64 s.secs,.slice (some ⟨b,0,none⟩) xs.length c] g0.next g13.next d g7 g13 st (.pointer p24) j g S gg o hc rows q cq,⟨_,0,S,gg,λq=>h.next<=q/\q < g7.next,g13,[],none,0,rfl,Qf _,rfl,?_⟩,?_⟩
  ·exact⟨w16,by omega,f1.dev,P0,tb13,A0.1.le o16.1,A1.1.le o16.1,by grind[Pv.new],(o16.2 _ A0.1.1).trans (by grind),(o16.2 _ A1.1.1).trans (by grind),zae e16,zby.nil _ _ _ _,nofun,by omega,nofun,E0▸ .nil,o16.1,λq hq _=>o16.2 q hq,zfP e16,by omega,by omega,by omega,λq hq hb=>by
    obtain⟨k1,k2,k3⟩:=out13 q hq hb
    exact⟨k1,k2,by rw[o16.2 q (by omega),k3]⟩⟩
  clear pv13 P0 E0 A0 A1 out13 f1 f2 f3 f4 w16 tb13 w0 hgg
  clear S gg
  rintro k21 g22 p24 _ ⟨j,S,gg,o,hcc,rows,q,cq,rfl,hj,rfl,J⟩
  refine⟨λz g26 e26=>?_,λz=>?_⟩
  ·have hj' : j < xs.length:=by omega
   have o26:=zab e26
   have n26:=zad e26
   have w26:=J.w.old o26
   have le:=J.le
   refine⟨_,_,_,zah ((o26.2 _ J.p0.1).trans J.v0) rfl,zaa ⟨by omega,by omega,?_⟩⟩
   rw[Qi,Qq]
   refine ((zAc w26 (by omega) J.dev J.pool (by exact⟨_,_,_,_,_,rfl,J.tb,by have:=zbo (X:=cx0) (T:=57) hj'; grind[zy2],nofun,nofun⟩)).rt (xb rfl)).mono ?_
   rintro _ g33 ⟨⟨S',g',r,p',rfl,hr,pool',le',f1,f2,f3,f4⟩,rt⟩
   have rl:=hr.len
   have a3:Pv S g26 g22.next:=Pv.new J.w (Qc _) (by omega)
   have keep:∀a,Pv S g26 a->g33.get a=g26.get a:=λa k=>f4 a k.1 k.2.1 k.2.2
   have w33:g33.get g22.next=_:=(keep _ a3).trans (zae e26)
   refine⟨r,_,rfl,rl,_,zaX w33 (by grind),?_⟩
   generalize e36:g33.set _ _=g36 at *
   have nr36:zaY g22.next g33 g36:=by grind[zam]
   have q36:=nr36.1
   have P0:=J.p0.le o26.1
   have P1:=J.p1.le o26.1
   have P2:=J.p2.le o26.1
   have l0:=J.p0.1
   have l1:=J.p1.1
   have l2:=J.p2.1
   have ne:=J.ne
   have v36:∀a,Pv S g22 a->g36.get a=g22.get a:=λa k=>by rw[nr36.2 a (by have:=k.1; omega),keep a (k.le o26.1),o26.2 a k.1]
   have v2:=(v36 _ J.p2).trans J.v2
   have l36:g36.get g22.next=some (.cells r 43 false):=by grind[zaf]
   refine⟨_,_,_,zah v2 rfl,_,zaz l36 rl,_,_,_,_,zeF zyy zAa (by simp) (by omega) rl,?_⟩
   have G36:zby h.next g36 43 129 q j cq rows.flatten:=by
    refine⟨J.gr.1,?_⟩
    rcases J.gr.2 with z | ⟨b2,rfl,k1,k2,k3,k4⟩
    ·grind
    ·exact .inr ⟨b2,rfl,k1,by omega,(v36 _ (J.pq _ rfl).1).trans k3,k4⟩
   obtain⟨q2,c2,g48,k48,G48,o48,f48,m48⟩:=G36.push zyy (by omega) (h4:=g36.alloc (.cells r 43 false)) rfl (m:=1) (by omega) (by omega) (by omega)
   obtain⟨b2,rfl,hb2⟩:=m48 (by omega)
   have apq:∀a,(∀x,q=some x->x.block≠a)->apart q a:=λa k=>by
    cases q with
    | none=>trivial
    | some x=>exact k x rfl
   have v48:g48.get g13.next=_:=(f48 _ (by omega) (apq _ λx hx=>(J.pq x hx).2.2.2.1)).trans v2
   refine⟨_,_,_,_,k48,_,zaM v48 (by simp),λi50 e50=>?_⟩
   have e50:=zaR e50 (by omega) (by omega)
   generalize e49:g48.set _ _=g49 at *
   have nr49:zaY g13.next g48 g49:=by grind[zam]
   have q49:=nr49.1
   have q48:=o48.1
   have v49:∀a,a < g36.next->a≠g13.next->(∀x,q=some x->x.block≠a)->g49.get a=g36.get a:=λa k1 k2 k3=>by rw[nr49.2 a k2,f48 a k1 (apq a k3)]
   have priv' : ∀a,Pv S g26 a->Pv S' g33 a:=by grind[Pv.xt]
   refine⟨_,by omega,j+1,S',g',λa=>o a\/(hcc.next<=a/\a < g26.next),g33,rows ++ [r],some ⟨b2,0,none⟩,c2,by omega,hj',rfl,?_⟩
   have hne:∀a,Pv S g26 a->∀y,((∃q,S'.ty y=some q)\/S'.dv y)->y≠a:=λa k y hy=>(priv' a k).ne (gg:=g') (g:=g33) hy
   have nx:=J.nx
   exact {
    w:=f2.keep zjj (by omega) λy hy hty=>by
     rw[v49 y (by omega) (hne _ P2 y hty) (by grind[RJ.pq,Pv.le]),nr36.2 y (hne _ a3 y hty)]
    le:=by omega
    dev:=f1.dev.trans J.dev
    pool:=pool'
    tb:=f1.ty _ _ J.tb
    p0:=(by grind[Pv.le])
    p1:=(by grind[Pv.le])
    p2:=(by grind[Pv.le])
    v0:=(by grind[RJ.pq,RJ.p0,RJ.v0])
    v1:=(by grind[RJ.pq,RJ.p1,RJ.v1])
    v2:=by grind[zaf]
    gr:=by
     rw[List.flatten_append,List.flatten_singleton]
     refine⟨G48.1,?_⟩
     rcases G48.2 with ⟨z, -⟩ | ⟨b3,z,k1,k2,k3,k4⟩
     ·grind
     ·cases z
      exact .inr ⟨b2,rfl,k1,by omega,by rw[nr49.2 _ (by omega)]; omega,k4⟩
    pq:=λa ha=>by
     have k2:b2 < g48.next:=by
      rcases G48.2 with ⟨z, -⟩ | ⟨b3,z,k1,k2,k3,k4⟩
      all_goals grind
     grind[Pv.new]
    ne:=ne
    rw:=by grind[RJ.rw]
    ch:=.snoc J.ch (by omega) (λa h1 h2=>by rw[o26.2 a (by omega)]; grind[RJ.same]) (by grind[zfP,RJ.lt]) rt hr.pl
    nx:=by omega
    same:=λa h1 h2=>by
     have h3:∀y,(o y\/hcc.next<=y)->y < g26.next->a≠y:=by grind
     rw[v49 a (by omega) (by grind[RJ.o2]) (λx hx=>(h3 _ (J.pq x hx).2.2.2.2 (by have:=(J.pq x hx).1.1; omega)).symm),nr36.2 a (by omega)]
    lt:=by grind[zvn,zjO,LtH.alloc]
    o0:=by grind[RJ.o0]
    o1:=.inl (J.o1.imp_right λk=>⟨k,by omega⟩)
    o2:=.inl (J.o2.imp_right λk=>⟨k,by omega⟩)
    out:=λy h1 h2=>by
     obtain⟨k1,k2,k3⟩:=J.out y h1 h2
     have k:=priv' y ⟨by omega,k1,k2⟩
     refine⟨k.2.1,k.2.2,?_⟩
     rw[v49 y (by omega) (by omega) (λx hx=>?_),v36 y ⟨by omega,k1,k2⟩,k3]
     grind[zby.block] }
  ·obtain rfl:j=xs.length:=by omega
   have l1:=J.p1.1
   have l2:=J.p2.1
   have ne:=J.ne
   have qb:∀a,q=some a->h.next<=a.block:=λa ha=>(J.gr.block ha).1
   have fin:∀(g G:AH) (vs:List Value),Old g22 g->zaY g13.next g G->vs.length=4->∃g',stN G g0.next 0 vs=some g'/\ldN g' g0.next 0 4=some vs/\h.next<=g'.next/\(∀y,y < h.next->y∉bks b xs->g'.get y=h.get y)/\zaF g' q xs.length 129 rows.flatten:=λg G vs og ng hvs=>by
    have w1:G.get g0.next=_:=(ng.2 _ (by omega)).trans ((og.2 _ l1).trans J.v1)
    have qg:=og.1
    have qG:=ng.1
    refine⟨_,zaX w1 hvs,by grind[zaz,zaf],?_,λy h1 h2=>?_,zaF.kept (J.gr.shows.old og) (by show g.next<=G.next; omega) λa ha=>?_⟩
    ·show h.next<=G.next
     omega
    ·rw[zal (by omega),ng.2 y (by omega),og.2 y (by omega)]
     exact (J.out y h1 h2).2.2
    ·obtain⟨-,k1,k2,k3, -⟩:=J.pq a ha
     rw[zal k2,ng.2 _ k3]
   cases p24 with
   | none=>
     obtain⟨g',k1,k2,k3,k4,k5⟩:=fin g22 _ [.slice q xs.length cq,.slice none 0 0,.int .i64 0,.bool true] (Old.refl _) (zam _ _ _) rfl
     refine⟨_,zaM J.v2 (by simp),_,_,_,_,_,_,_,_,by grind[zaz,zaf],rfl,g',k1,_,_,_,_,_,_,_,_,k2,inRun k3 k4 k5 qb J.rw J.ch⟩
   | some p24=>
     have pp:zbr cx0 S 84 (.pointer (some p24)):=J.pool.resolve_left nofun
     refine (zAd J.w pp).mono ?_
     rintro _ g70 ⟨S',q1,m1,c1',rfl,o70,w70,pp70⟩
     refine⟨_,_,_,rfl,(zAe w70 pp70).mono ?_⟩
     rintro _ g75 ⟨i,rfl,o75⟩
     have o2:=o70.trans o75
     have v2:g75.get g13.next=_:=(o2.2 _ l2).trans J.v2
     obtain⟨g',k1,k2,k3,k4,k5⟩:=fin g75 _ [.slice q xs.length cq,.slice q1 m1 c1',.int .i64 i,.bool false] o2 ((zam _ _ _).trans (zam _ _ _)) rfl
     refine⟨_,rfl,_,zaM v2 (by simp),_,zaM (zaf _ _ _) (by simp),_,_,_,_,_,_,_,_,by grind[zaz,zaf],rfl,g',k1,_,_,_,_,_,_,_,_,k2,inRun k3 k4 k5 qb J.rw J.ch⟩
def zyC (i:Nat) (o:OpP):List Value:=[.int .i64 o.kind,.string o.name,.string o.to,.int .i64 o.n,.slice (some ⟨1+2 * i,0,none⟩) o.data.length o.data.length,.slice (some ⟨2+2 * i,0,none⟩) o.keep.length o.keep.length]
def zgD:Nat->List OpP->List Value
 | _,[]=>[]
 | i,o :: os=>zyC i o ++ zgD (i+1) os
def zuF:List OpP->List Obj
 | []=>[]
 | o :: os=>.cells (za6 .u8 o.data).toArray 5 (0,0) :: .cells (zho o.keep).toArray 4 (0,0) :: zuF os
def gw (os:List OpP):World:={ (default:World) with heap:=(Obj.cells (zgD 0 os).toArray 57 (0,0) :: zuF os).toArray }
def goP:Nat->List OX->Fi
 | _,[],_=>none
 | i,x :: xs,q=>if q=x.d then some ⟨1+2 * i,0,x.o.data.length,1⟩ else if q=x.k then some ⟨2+2 * i,0,x.o.keep.length,1⟩ else goP (i+1) xs q
def zn9 (T b:Nat) (xs:List OX):Fi:=λq=>if q=b then some ⟨0,0,T,6⟩ else goP 0 xs q
theorem zoa:∀{xs:List OX} {i q:Nat} {r:Rec},goP i xs q=some r->∃j,∃hj:j < xs.length,(q=xs[j].d/\r=⟨1+2 * (i+j),0,xs[j].o.data.length,1⟩)\/(q=xs[j].k/\r=⟨2+2 * (i+j),0,xs[j].o.keep.length,1⟩)
 | [],_,_,_,h=>by cases h
 | x :: xs,i,q,r,h=>by
   unfold goP at h
   split at h
   ·exact⟨0,by simp,by grind⟩
   ·split at h
    ·exact⟨0,by simp,by grind⟩
    ·obtain⟨j,hj,k⟩:=zoa h
     refine⟨j+1,by grind,?_⟩
     grind
theorem zvo:∀{xs:List OX} {i j:Nat} (hj:j < xs.length),xs.Pairwise (λx y=>x.k < y.d)->(∀x∈xs,x.d < x.k)->goP i xs xs[j].d=some ⟨1+2 * (i+j),0,xs[j].o.data.length,1⟩/\goP i xs xs[j].k=some ⟨2+2 * (i+j),0,xs[j].o.keep.length,1⟩
 | x :: xs,i,0,_,pw,dk=>by grind[goP]
 | x :: xs,i,j+1,hj,pw,dk=>by
   rw[List.pairwise_cons] at pw
   have hj' : j < xs.length:=by grind
   have k:=zvo (i:=i+1) hj' pw.2 λy hy=>dk y (QG _ hy)
   grind[goP]
theorem zpb:∀{os:List OpP} {j:Nat} (hj:j < os.length),(zuF os)[2 * j]?= some (.cells (za6 .u8 os[j].data).toArray 5 (0,0))/\(zuF os)[2 * j+1]?= some (.cells (zho os[j].keep).toArray 4 (0,0))
 | o :: os,0,_=>⟨rfl,rfl⟩
 | o :: os,j+1,hj=>by
   have k:=zpb (os:=os) (j:=j) (by grind)
   exact k
theorem zyD {os:List OpP} {j:Nat} (hj:j < os.length):(gw os).heap[1+2 * j]?= some (.cells (za6 .u8 os[j].data).toArray 5 (0,0))/\(gw os).heap[2+2 * j]?= some (.cells (zho os[j].keep).toArray 4 (0,0)):=by grind[zpb,gw]
theorem zvp {φ:Fi} (k:IntKind):∀(l:List Nat),LR φ (za6 k l) (za6 k l)
 | []=>trivial
 | x :: l=>⟨.int _ _,rfl,zvp k l⟩
theorem zs0 {φ:Fi}:∀(l:List Bool),LR φ (zho l) (zho l)
 | []=>trivial
 | x :: l=>⟨.bool _,rfl,zs0 l⟩
theorem zmB:∀(os:List OpP) (i:Nat),(zgD i os).length=os.length * 6
 | [],_=>rfl
 | o :: os,i=>by
   show (zyC i o ++ zgD (i+1) os).length=_
   rw[Qs,zmB os,QF]
   simp[zyC]; omega
theorem zmC:∀(os us:List OpP) (i:Nat),zgD i (os ++ us)=zgD i os ++ zgD (i+os.length) us
 | [],us,i=>rfl
 | o :: os,us,i=>by
   show zyC i o ++ zgD (i+1) (os ++ us)=(zyC i o ++ zgD (i+1) os) ++ zgD (i+(os.length+1)) us
   rw[zmC os us,QP,show i+1+os.length=i+(os.length+1) by omega]
theorem zvq {φ:Fi}:∀{xs:List OX} {i:Nat},(∀x∈xs,(x.cd=zai\/x.cd=x.o.data.length)/\(x.ck=zai\/x.ck=x.o.keep.length)/\x.o.data.length < zai/\x.o.keep.length < zai)->
 (∀j (hj:j < xs.length),φ xs[j].d=some ⟨1+2 * (i+j),0,xs[j].o.data.length,1⟩/\φ xs[j].k=some ⟨2+2 * (i+j),0,xs[j].o.keep.length,1⟩)->LR φ (xs.flatMap OX.row) (zgD i (xs.map OX.o))
 | [],_,_,_=>trivial
 | x :: xs,i,hx,hp=>by
   obtain⟨h1,h2,h3,h4⟩:=hx x (by simp)
   obtain⟨p1,p2⟩:=hp 0 (by simp)
   have sl:∀{b n c t:Nat},φ b=some ⟨t,0,n,1⟩->(c=zai\/c=n)->n < zai->VR φ (.slice (some ⟨b,0,none⟩) n c) (.slice (some ⟨t,0,none⟩) n n):=λ{b n c t} e q hn=>by
    rcases q with rfl | rfl
    ·exact .sliceO e hn (Qc _) (by simp)
    ·exact .slice e hn
   refine LR.append ?_ (zvq (by grind) λj hj=>?_)
   ·exact⟨.int _ _,rfl,.string _,rfl,.string _,rfl,.int _ _,rfl,sl p1 h1 h3,rfl,sl p2 h2 h4,rfl,trivial⟩
   ·have:=hp (j+1) (by grind)
    grind
section
variable {lim b c:Nat} {h:AH} {xs:List OX} {os:List OpP}
theorem zvr (R:zgU lim h b c xs) (hl:LtH h) (ho:xs.map OX.o=os.take xs.length) (hn:xs.length<=os.length):Am.R Tryz.prog (zn9 (os.length * 6) b xs) h (gw os):=by
 have oc:zai=18446744073709551616:=rfl
 have hre:reachBytes=140737488351232:=rfl
 have hd:∀x∈xs,x.d < x.k:=λx hx=>(R.els x hx).dk
 have at_:∀j (hj:j < xs.length),zn9 (os.length * 6) b xs xs[j].d=some ⟨1+2 * (0+j),0,xs[j].o.data.length,1⟩/\zn9 (os.length * 6) b xs xs[j].k=some ⟨2+2 * (0+j),0,xs[j].o.keep.length,1⟩:=λj hj=>by
  have A:=R.els _ (Qj hj)
  grind[zvo,zgU.pw,zn9,OX.At.bd,OX.At.bk]
 have inv:∀{q:Nat} {r:Rec},zn9 (os.length * 6) b xs q=some r->(q=b/\r=⟨0,0,os.length * 6,6⟩)\/∃j,∃hj:j < xs.length,(q=xs[j].d/\r=⟨1+2 * j,0,xs[j].o.data.length,1⟩)\/(q=xs[j].k/\r=⟨2+2 * j,0,xs[j].o.keep.length,1⟩):=by grind[zn9,zoa]
 have hoj:∀j (hj:j < xs.length),os[j]=xs[j].o:=λj hj=>by
  have:=congrArg (λl:List OpP=>l[j]?) ho
  grind
 refine⟨λq o r e1 e2=>?_,λb1 b2 o1 o2 r1 r2 e1 e2 e3 e4 e5=>.inl ?_,hl⟩
 ·rcases inv e2 with ⟨rfl,rfl⟩ | ⟨j,hj,⟨rfl,rfl⟩ | ⟨rfl,rfl⟩⟩
  ·rw[R.gb] at e1
   cases e1
   refine⟨_,rfl,rfl,by rfl,by simp[zmB],⟨[],zgD 0 (os.take xs.length),zgD (0+(os.take xs.length).length) (os.drop xs.length),?_,rfl,?_⟩,λ_=>.inl rfl⟩
   ·grind[zmC,Q7]
   ·rw[<-ho]
    exact zvq (λx hx=>by
     have A:=R.els x hx
     grind[OX.At.l1,OX.At.l2,OX.At.cd,OX.At.ck]) at_
  ·have A:=R.els _ (Qj hj)
   rw[A.gd] at e1
   cases e1
   refine⟨_,(zyD (Qh hj hn)).1,rfl,by rfl,by grind[zaD],⟨[],_,[],by rw[QU,QR],rfl,?_⟩,λ_=>.inl rfl⟩
   grind[zvp]
  ·have A:=R.els _ (Qj hj)
   rw[A.gk] at e1
   cases e1
   refine⟨_,(zyD (by omega)).2,rfl,by rfl,by grind[zem],⟨[],_,[],by rw[QU,QR],rfl,?_⟩,λ_=>.inl rfl⟩
   grind[zs0]
 ·rcases inv e3 with ⟨rfl,rfl⟩ | ⟨j,hj,⟨rfl,rfl⟩ | ⟨rfl,rfl⟩⟩ <;> rcases inv e4 with ⟨rfl,rfl⟩ | ⟨i,hi,⟨rfl,rfl⟩ | ⟨rfl,rfl⟩⟩ <;> simp only at e5 <;> first
   | rfl
   | omega
   | (obtain rfl:j=i:=by omega
      rfl)
theorem zhw (R:zgU lim h b c xs) {T q:Nat} (hq:h.next<=q):zn9 T b xs q=none:=by
 cases e:zn9 T b xs q with
 | none=>rfl
 | some r=>
   unfold zn9 at e
   split at e
   ·have:=R.hi; omega
   ·obtain⟨j,hj,k⟩:=zoa e
    have A:=R.els _ (Qj hj)
    have a1:=A.dk
    have a2:=A.hi
    omega
end
theorem VR.pairI {φ:Fi} {p v:Value} {e:Int} (k:VR φ (.tuple #[p,.int .i64 e]) v):∃p',v=.tuple #[p',.int .i64 e]/\VR φ p p':=by
 generalize hx:(Value.tuple #[p,.int .i64 e])=x at k
 cases k with
 | tuple h1 h3=>
   rename_i xs xs'
   cases hx
   match xs',h1,h3 with
   | ⟨[a,b]⟩,_,h3=>
     have ka:=h3 0 _ a rfl rfl
     have kb:=h3 1 _ b rfl rfl
     grind[int_eq]
   | ⟨[]⟩,h1,_=>grind
   | ⟨[_]⟩,h1,_=>grind
   | ⟨_ :: _ :: _ :: _⟩,h1,_=>grind
 | skip h=>grind[isSkip]
 | _=>grind
theorem zwU (G:zdL Tryz.prog) (X:zbR Tryz.prog KB) {secs:Int} {limA limB bA bB cA cB:Nat} {hA hB:AH} {xA xB:List OX} {rA rB:List (List Value)} (RA:zgU limA hA bA cA xA) (RB:zgU limB hB bB cB xB) (lA:LtH hA) (lB:LtH hB) (hm:xB.length<=xA.length) (ho:xB.map OX.o=(xA.map OX.o).take xB.length)
 (A:zAf secs bA xA.length hA rA) (B:zAf secs bB xB.length hB rB):rB=rA.take xB.length:=by
 obtain⟨gA,iA,kA,dA,pA,eA,oA,zA,qA,oldA,ltA,tA,uA,chA⟩:=A
 obtain⟨gB,iB,kB,dB,pB,eB,oB,zB,qB,oldB,ltB,tB,uB,chB⟩:=B
 have wA:=zvr RA lA (os:=xA.map OX.o) (by grind[Qw]) (by simp)
 have wB:=zvr RB lB ho (by grind)
 have eqA:=λ{q:Nat} {r:Rec} (e:zn9 ((xA.map OX.o).length * 6) bA xA q=some r)=>(show q < hA.next from Nat.lt_of_not_le λz=>by grind[zhw])
 have eqB:=λ{q:Nat} {r:Rec} (e:zn9 ((xA.map OX.o).length * 6) bB xB q=some r)=>(show q < hB.next from Nat.lt_of_not_le λz=>by grind[zhw])
 have wA:=wA.keep (ltA lA) λq r e o g=>by rw[<-oldA.2 q (eqA e)]; omega
 have wB:=wB.keep (ltB lB) λq r e o g=>by rw[<-oldB.2 q (eqB e)]; omega
 have hb:∀i,i < xB.length->∃x,VR (zn9 ((xA.map OX.o).length * 6) bA xA) (ptr bA (i * 6)) x/\VR (zn9 ((xA.map OX.o).length * 6) bB xB) (ptr bB (i * 6)) x:=λi hi=>⟨_,.ptr (if_pos rfl),.ptr (if_pos rfl)⟩
 have fA:∀q,hA.next<=q->zn9 ((xA.map OX.o).length * 6) bA xA q=none:=by grind[zhw]
 have fB:∀q,hB.next<=q->zn9 ((xA.map OX.o).length * 6) bB xB q=none:=by grind[zhw]
 have nA:=oldA.1
 have nB:=oldB.1
 have new:∀{φ φ' : Fi} {h h' : AH} {w w' : World} {n:Nat},Tn Tryz.prog φ h w φ' h' w'->n<=h.next->(∀q,n<=q->φ q=none)->(∀q,n<=q->q < h.next->φ' q=none)/\∀q,h'.next<=q->φ' q=none:=λ{φ φ' h h' w w' n} t hn f=>by
  have tn:=t.nle
  have z:∀q,n<=q->¬(h.next<=q/\q < h'.next)->φ' q=none:=by grind[Tn.new]
  grind
 obtain⟨φA1,φB1,w1,v1,tnA,tnB,vA,vB⟩:=det G X (by simp) tA tB wA wB (args':=[.int .i64 secs]) ⟨.int _ _,trivial⟩ ⟨.int _ _,trivial⟩ (by grind) (by grind)
 obtain⟨sA1,fA1⟩:=new tnA nA fA
 obtain⟨sB1,fB1⟩:=new tnB nB fB
 obtain⟨φA2,φB2,w2,v2,unA,unB,yA,yB⟩:=det G X (by simp) uA uB tnA.rel tnB.rel (args':=[v1]) ⟨vA,trivial⟩ ⟨vB,trivial⟩ fA1 fB1
 have sA2:(∀q,hA.next<=q->q < gA.next->φA2 q=none)/\∀q,kA.next<=q->φA2 q=none:=by
  obtain⟨-,k2⟩:=new unA (Qc _) fA1
  have:=tnA.nle
  grind[Tn.new]
 have sB2:(∀q,hB.next<=q->q < gB.next->φB2 q=none)/\∀q,kB.next<=q->φB2 q=none:=by
  obtain⟨-,k2⟩:=new unB (Qc _) fB1
  have:=tnB.nle
  grind[Tn.new]
 obtain⟨p',rfl,pA'⟩:=yA.pairI
 obtain⟨p'',e',pB'⟩:=yB.pairI
 obtain⟨rfl,rfl⟩:=e'
 have n1:=tnA.nle
 have n2:=unA.nle
 have n3:=tnB.nle
 have n4:=unB.nle
 have R0:zz7 Tryz.prog xB.length (ptr dA 0) (ptr dB 0) (λi=>ptr bA (i * 6)) (λi=>ptr bB (i * 6)) kA kB (if eA=0 then pA else .pointer none) (if eA=0 then pB else .pointer none) (λq=>hA.next<=q/\q < gA.next) (λq=>hB.next<=q/\q < gB.next):=by
  refine⟨w2,φA2,φB2,unA.rel,unB.rel,⟨v1,vA.mono unA.le,vB.mono unB.le⟩,?_,λj hj=>(hb j hj).imp λx k=>⟨(k.1.mono tnA.le).mono unA.le,(k.2.mono tnB.le).mono unB.le⟩,by grind,sA2.2,by grind,sB2.2⟩
  by_cases z:eA=0
  ·grind
  ·rw[if_neg z,if_neg z]; exact⟨_,.ptrNil,.ptrNil⟩
 obtain⟨o',h',p',chA'⟩:=chA.pre hm
 exact (zz8 G X (by simp) R0 chA' chB (Qc _)).2.symm
end Go.Am
