/-
  Texts of this proof, part 24. No condition.
-/
import Derived.Test.YtmnbboleclchcaaGreatFTc12
set_option linter.unusedVariables false
set_option linter.unusedSimpArgs false
namespace Go.Am
section
variable {X:Cx} {S S' : TY} {h:AH} {L:Loc} {base:Nat}
theorem zau.updW {c:Nat->Option Nat} {cs new:List Value} {off T m:Nat} (ht:zau X S c cs) (ha:∀j,j < m->AtT X c (off+j * sz X T) T) (hl:off+new.length<=cs.length) (hn:new.length=m * sz X T) (hT:zau X S (zaJ X T m) new):zau X S c (cs.take off ++ new ++ cs.drop (off+new.length)):=by
 intro i U hU
 have e1:(cs.take off).length=off:=by grind
 rw[QM]
 by_cases h1:i < off
 ·rw[QT (by omega),Ji,if_pos h1]
  exact ht i U hU
 ·rw[Qu (by omega),e1]
  by_cases h2:i - off < new.length
  ·rw[QT h2]
   have hp:0 < sz X T:=by grind
   have hlt:(i - off) % sz X T < sz X T:=Nat.mod_lt _ hp
   have hq:(X.fl T)[(i - off) % sz X T]?= some ((X.fl T)[(i - off) % sz X T]'hlt):=Qe _
   have:=ha ((i - off) / sz X T) (by rw[Nat.div_lt_iff_lt_mul hp]; omega) _ _ hq
   rw[Ja,Nat.mul_comm,Nat.div_add_mod,show off+(i - off)=i by omega,hU] at this
   exact hT _ _ (by grind[zaJ])
  ·rw[Qu (by omega),QX,show off+new.length+(i - off - new.length)=i by omega]
   exact ht i U hU
section
variable {pu:Bool} {S0:TY} {h0:AH} {σ:Sx} {e:Env} {k:TV->Sx->Prop} {c:OpC}
theorem zb3 {tag t:Nat} {σ:Sx}:zaD (zd1 tag σ).pv t=if t=tag then none else zaD σ.pv t:=by grind[zd1,zbq]
theorem zjQ {d t:Nat} {σ:Sx} {v:TV} (hv:(zd1 d σ).a.get t=some v):σ.a.get t=some v/\zas d v=false:=zfx (c:=.ty 0) hv
theorem G.drop (g:G X pu base S0 h0 S h L σ e) (tag:Nat):G X pu base S0 h0 S h L (zd1 tag σ) e:=by
 refine⟨g.wt,g.ext,g.nx,g.fr,λt v hv=>?_,λt c hc=>?_,λt1 t2 p1 p2 b c1 c2 k1 k2=>?_⟩
 ·obtain⟨h1,h2⟩:=zjQ hv
  obtain⟨x,h3,h4,h5⟩:=g.sl t v h1
  refine⟨x,h3,h4,λu hu=>?_⟩
  obtain⟨c,hc⟩:=h5 u hu
  grind[zb3,zrX]
 ·grind[zb3,pv]
 ·rw[zb3] at k1 k2
  split at k1
  ·grind
  split at k2
  ·grind
  exact g.inj t1 t2 p1 p2 b c1 c2 k1 k2
theorem G.kill (O:XOk X) (g:G X pu base S0 h0 S h L σ e) {tag b:Nat} {pc:PC} {c0:Nat->Option Nat} (hpv:zaD σ.pv tag=some pc) (hL:L tag=some (b,c0)):G X pu base S0 h0 S (h.del b) L (zd1 tag σ) e:=by
 have hp:=(g.pv tag _ hpv).prv hL
 have ne:∀u c d q,u≠tag->zaD σ.pv u=some c->L u=some (d,q)->d≠b:=λu c d q hu hc hd hb=>hu (g.inj u tag _ _ d q c0 hc hpv hd (by grind))
 refine⟨WT.keep O g.wt (Qc _) λd hd q=>?_,g.ext,g.nx,λd hd q=>?_,λt v hv=>?_,λt c hc=>?_,λt1 t2 p1 p2 b c1 c2 k1 k2=>?_⟩
 ·rw[AH.get_del,if_neg]
  rintro rfl
  rcases q with ⟨q,hq⟩ | q
  ·rw[hp.2.2.1] at hq; grind
  ·exact hp.2.2.2 q
 ·rw[AH.get_del,if_neg (by have:=hp.1; omega)]; grind[fr]
 ·obtain⟨h1,h2⟩:=zjQ hv
  obtain⟨x,h3,h4,h5⟩:=g.sl t v h1
  refine⟨x,h3,zbv (Le2.refl _) v x (λ_ _=>rfl) (λu d q hu hd=>?_) h4,λu hu=>?_⟩
  ·obtain⟨c,hc⟩:=h5 u (by grind[zbb])
   grind[zck.of,AH.get_del]
  ·obtain⟨c,hc⟩:=h5 u hu
   grind[zb3,zrX]
 ·rw[zb3] at hc
  split at hc
  ·grind
  ·exact (g.pv t c hc).keep (Qc _) rfl λd q hd=>by grind[AH.get_del]
 ·rw[zb3] at k1 k2
  split at k1
  ·grind
  split at k2
  ·grind
  exact g.inj t1 t2 p1 p2 b c1 c2 k1 k2
theorem G.retag (g:G X pu base S0 h0 S h L σ e) {tag T ee:Nat} (d T' : Nat) (hpv:zaD σ.pv tag=some (.rows T ee)):G X pu base S0 h0 S h (upL L d (L tag)) (zbf d (.rows T' ee) (zd1 tag σ)) e:=by
 have g1:=g.drop tag
 refine⟨g.wt,g.ext,g.nx,g.fr,λt v hv=>?_,λt c hc=>?_,λt1 t2 p1 p2 b c1 c2 k1 k2 k3 k4=>?_⟩
 ·obtain⟨h1,h2⟩:=zfx hv
  obtain⟨x,h3,h4,h5⟩:=g1.sl t v h1
  refine⟨x,h3,zbv (Le2.refl _) v x (by grind) (by grind[zck.of]) h4,λu hu=>?_⟩
  obtain⟨c,hc⟩:=h5 u hu
  grind[za4]
 ·rw[za4] at hc
  split at hc
  ·rename_i ht
   cases hc
   rcases g.pv tag _ hpv with o | ⟨b,c',cs,o1,o2⟩
   ·exact .inl (by grind)
   ·exact .inr ⟨b,c',cs,by grind,o2⟩
  ·rename_i ht
   exact (g1.pv t c hc).keep (Qc _) (if_neg ht) λ_ _ _=>rfl
 ·rw[za4] at k1 k2
  have key:∀t p c',t≠d->(if t=d then some (PC.rows T' ee) else zaD (zd1 tag σ).pv t)=some p->upL L d (L tag) t=some (b,c')->zaD σ.pv t=some p/\t≠tag/\L t=some (b,c'):=by grind[zb3]
  by_cases e1:t1=d
  ·by_cases e2:t2=d
   ·omega
   ·obtain⟨q1,q2,q3⟩:=key t2 p2 c2 e2 k2 k4
    simp only[upL,if_pos e1] at k3
    exact absurd (g.inj t2 tag _ _ b _ _ q1 hpv q3 k3) q2
  ·obtain⟨q1,q2,q3⟩:=key t1 p1 c1 e1 k1 k3
   by_cases e2:t2=d
   ·simp only[upL,if_pos e2] at k4
    exact absurd (g.inj t1 tag _ _ b _ _ q1 hpv q3 k4) q2
   ·obtain⟨r1,r2,r3⟩:=key t2 p2 c2 e2 k2 k4
    exact g.inj t1 t2 _ _ b _ _ q1 r1 q3 r3
theorem G.newNil (g:G X pu base S0 h0 S h L σ e) (d T ee:Nat):G X pu base S0 h0 S h (upL L d none) (zbf d (.rows T ee) σ) e:=by
 refine⟨g.wt,g.ext,g.nx,g.fr,λt v hv=>?_,λt c hc=>?_,λt1 t2 p1 p2 b c1 c2 k1 k2 k3 k4=>?_⟩
 ·obtain⟨h1,h2⟩:=zfx hv
  obtain⟨x,h3,h4,h5⟩:=g.sl t v h1
  refine⟨x,h3,zbv (Le2.refl _) v x (by grind) (by grind[zck.of]) h4,λu hu=>?_⟩
  obtain⟨c,hc⟩:=h5 u hu
  grind[za4]
 ·rw[za4] at hc
  split at hc
  ·rename_i ht
   cases hc
   exact .inl (if_pos ht)
  ·rename_i ht
   exact (g.pv t c hc).keep (Qc _) (if_neg ht) λ_ _ _=>rfl
 ·rw[za4] at k1 k2
  simp only[upL] at k3 k4
  split at k3
  ·grind
  split at k4
  ·grind
  rename_i e1 e2
  rw[if_neg e1] at k1
  rw[if_neg e2] at k2
  exact g.inj t1 t2 p1 p2 b c1 c2 k1 k2 k3 k4
theorem zeJ {d:Nat} {pc:PC} {T n:Nat} {kc:Bool}:zoO (zbf d pc σ) (.ap d T n kc):=λu hu=>by
 simp only[tagsOf,QD] at hu
 exact⟨_,by rw[za4,if_pos hu]⟩
theorem zd9 {st elem:TypeId} {i:TypeInfo} {z:Value} {s x:Value} {p:Option Addr} {n m cp:Nat} {old new:List Value} (hu:und X st=some (.slice elem)) (hi:inf X elem=some i) (hz:i.zero=some z) (hzs:z.cells.size=i.size) (hp:0 < i.size)
 (hs:s=.slice p n cp) (hx:zjd x=some m) (ho:firstC h i.size n s=some old) (hn:firstC h i.size m x=some new) (lo:old.length=n * i.size) (ln:new.length=m * i.size) (hc:cp < zai) (hcap:cp < n+m) (hle:n<=cp) (room:(n+m) * i.bytes<=zaA) (room2:n+m<=9223372036854775807):
 zaM X.P h st false s x=some (.slice (some ⟨h.next,0,none⟩) (n+m) zai,h.alloc (.cells (old ++ new) elem false)):=by
 unfold zaM
 grind[zat,zcy]
theorem znI {st elem:TypeId} {i:TypeInfo} {z:Value} {x:Value} {b off n m:Nat} {old new cs:List Value} (hu:und X st=some (.slice elem)) (hi:inf X elem=some i) (hz:i.zero=some z) (hzs:z.cells.size=i.size) (hp:0 < i.size)
 (hx:zjd x=some m) (ho:firstC h i.size n (.slice (some ⟨b,off,none⟩) n zai)=some old) (hn:firstC h i.size m x=some new) (lo:old.length=n * i.size) (ln:new.length=m * i.size) (hb:h.get b=some (.cells cs elem false)) (room:(n+m) * i.bytes<=zaA) (room2:n+m<=9223372036854775807):
 zaM X.P h st false (.slice (some ⟨b,off,none⟩) n zai) x=some (.slice (some ⟨h.next,0,none⟩) (n+m) zai,(h.del b).alloc (.cells (old ++ new) elem false)):=by
 unfold zaM
 grind[zat,zcy]
theorem ze6 {st elem:TypeId} {i:TypeInfo} {z:Value} {x:Value} {b off n m cp:Nat} {old new cs:List Value} {ee:TypeId} (hu:und X st=some (.slice elem)) (hi:inf X elem=some i) (hz:i.zero=some z) (hzs:z.cells.size=i.size) (hp:0 < i.size)
 (hx:zjd x=some m) (ho:firstC h i.size n (.slice (some ⟨b,off,none⟩) n cp)=some old) (hn:firstC h i.size m x=some new) (lo:old.length=n * i.size) (ln:new.length=m * i.size) (hc:cp < zai) (hcap:n+m<=cp) (hb:h.get b=some (.cells cs ee false)) (hl:off+n * i.size+new.length<=cs.length):
 zaM X.P h st false (.slice (some ⟨b,off,none⟩) n cp) x=some (.slice (some ⟨b,off,none⟩) (n+m) cp,match m with | 0=>h | _+1=>h.set b (.cells (cs.take (off+n * i.size) ++ new ++ cs.drop (off+n * i.size+new.length)) ee false)):=by
 unfold zaM
 grind[zat,zcy,zap]
theorem zjR {st elem:TypeId} {i:TypeInfo} {z:Value} {x:Value} {new:List Value} (hu:und X st=some (.slice elem)) (hi:inf X elem=some i) (hz:i.zero=some z) (hzs:z.cells.size=i.size) (hp:0 < i.size)
 (hx:zjd x=some 0) (hn:firstC h i.size 0 x=some new) (ln:new.length=0 * i.size):zaM X.P h st false (.slice none 0 0) x=some (.slice none 0 0,h):=by
 have h0:firstC h i.size 0 (.slice none 0 0)=some []:=rfl
 unfold zaM
 simp only[zat hu,zcy hi,hx,hn,hz,h0]
 rw[if_pos ⟨hzs,hp,ln,by simp⟩,if_neg (by decide),if_pos (by omega)]
theorem zwA {b:Nat} {o:zca} (hb:b < h.next):∀d,d < h.next->d≠b->((h.del b).alloc o).get d=h.get d:=by grind[AH.del,AH.get_alloc,AH.get_del]
theorem zkN (O:XOk X) (g:G X pu base S0 h0 S h L σ e) {st xt:TypeId} {s x:Operand} {dst:Option Tmp} (w:znA X pu st xt s x dst σ k)
 (hc:c=.wild\/(c=.quiet/\evT σ.a s=some .nils)\/(∃r,c=.wr r/\zgg (evT σ.a s)=some r)):
 ∃v h',zak X.P h .append #[st,xt] [ev e s,ev e x]=some (v,h')/\zgZ X pu base S0 h0 S h L σ e c k v h':=by
 unfold znA at w
 split at w
 rotate_left
 ·grind
 rename_i elem d hu hxt
 split at w
 rotate_left
 ·grind
 rename_i i hi
 obtain⟨xv,hxv,w⟩:=zaq w
 obtain⟨gx,ix⟩:=g.val hxv
 split at w
 rotate_left
 ·grind
 rename_i T m stag hsrc
 split at w
 rotate_left
 ·grind
 rename_i hcnd
 simp only[Qd] at hcnd
 obtain⟨⟨⟨⟨hT,hsz⟩,hby⟩,hzt⟩,hst⟩:=hcnd
 have hsz:0 < sz X T:=by simp_all
 have hby:0 < i.bytes:=by simp_all
 have hi' : (inf X elem).isSome=true:=by grind
 have hce:=zd7 O hT hi'
 have his:i.size=sz X T:=by grind[Program.cellsOf,zcy]
 obtain⟨z,hz,hzs⟩:=O.zc elem i hi hzt
 obtain⟨hlx,hmv,hfx⟩:=zkM O g hsrc hT hi' gx ix (by grind)
 obtain⟨new,hnew,lnew,tnew⟩:=hfx m (Qc _)
 rw[<-his] at hnew lnew
 have hp:0 < i.size:=by omega
 have hbi:zak X.P h .append #[st,xt] [ev e s,ev e x]=zaM X.P h st false (ev e s) (ev e x):=by
  unfold zak
  grind[zat]
 rw[hbi]
 have room:∀n,(n+m) * i.bytes<=zaA->n+m<=9223372036854775807/\n+m<=zbT:=λn hr=>by
  have h1:(n+m) * 1<=(n+m) * i.bytes:=Nat.mul_le_mul_left _ hby
  grind[zaA,zbT]
 have capB:zbT < zai:=by decide
 obtain⟨sv,hsv,w⟩:=zaq w
 obtain⟨gs,is⟩:=g.val hsv
 have fresh0:∀{σ' : Sx} {L1:Loc},G X pu base S0 h0 S h L1 σ' e->m * i.bytes<=zaA->k (.ap d T m false) (zbf d (.rows T elem) σ')->(∀S' h' L' σ2,(∀b,b < h.next->h'.get b=h.get b)->Chg c S h L σ S' h' L' σ2)->ev e s=.slice none 0 0->∃v h',zaM X.P h st false (ev e s) (ev e x)=some (v,h')/\zgZ X pu base S0 h0 S h L σ e c k v h':=by
  intro σ' L1 g1 hr hk hch hes
  rw[hes]
  cases hm:m with
  | zero=>
    subst hm
    refine⟨_,_,zjR hu hi hz hzs hp hlx hnew lnew,S,_,_,_,g1.newNil d T elem,?_,zeJ,Qc _,by grind,hk⟩
    grind[gam]
  | succ m'=>
    have hr':=room 0 (by grind)
    have e1:=zd9 (h:=h) (p:=none) (n:=0) (cp:=0) (old:=[]) hu hi hz hzs hp rfl hlx rfl hnew (by simp) lnew (by omega) (by omega) (Qc _) (by grind) (by omega)
    refine⟨_,_,e1,S,_,_,_,g1.newRows O d T elem m tnew,?_,zeJ,Qw _,by grind[zb8],hk⟩
    grind[gam,zan,zbh]
 split at w
 ·
  refine fresh0 g w.1 w.2 (λS' h' L' σ2 ho=>?_) gs
  rcases hc with rfl | ⟨rfl,_⟩ | ⟨r,rfl,hr⟩
  ·trivial
  ·exact ho
  ·exact λb hb _=>ho b hb
 ·rename_i tag T' n kc
  split at w
  rotate_left
  ·grind
  rename_i hcc
  simp only[Qd] at hcc
  obtain⟨⟨hTT,hst2⟩,hpv⟩:=hcc
  have hTT:=Qb hTT
  subst hTT
  split at hpv
  rotate_left
  ·grind
  rename_i T2 e2 hpv0
  have hpv:=Qb hpv
  rw[hpv] at hpv0
  simp only[gam] at gs
  obtain⟨hn,p,cp,hes,gs⟩:=gs
  have hwr:∀b c0,L tag=some (b,c0)->∀S' h' L' σ2,(∀d,d < h.next->d≠b->h'.get d=h.get d)->Chg c S h L σ S' h' L' σ2:=by
   intro b c0 hL S' h' L' σ2 ho
   rcases hc with rfl | ⟨rfl,hq⟩ | ⟨r,rfl,hr⟩
   ·trivial
   ·grind
   ·rw[hsv] at hr
    cases hr
    intro b' hb' hn'
    exact ho b' hb' (λq=>hn' ⟨c0,by grind⟩)
  rcases gs with ⟨rfl,rfl,rfl⟩ | ⟨b,cc,cs,ee,rfl,k1,k2,k3,k4⟩
  ·refine fresh0 (g.drop tag) (by rw[<-Qq m]; exact w.1) (by have:=w.2; grind) (λS' h' L' σ2 ho=>?_) hes
   rcases hc with rfl | ⟨rfl,hq⟩ | ⟨r,rfl,hr⟩
   ·trivial
   ·grind
   ·exact λb hb _=>ho b hb
  ·have okr:=g.pv tag _ hpv0
   rcases okr with o | ⟨b',c',cs',o1,o2,o3,o4⟩
   ·grind
   rw[k1] at o1
   cases o1
   rw[k2] at o3
   cases o3
   obtain⟨r1,r2⟩:=room n w.1
   rw[hes]
   rcases k4 with ⟨rfl,rfl,q3,q4⟩ | ⟨q1,q2,q3,q4⟩
   ·
    have ho:firstC h i.size n (.slice (some ⟨b,0,none⟩) n zai)=some cs:=by grind[firstC]
    refine⟨_,_,znI hu hi hz hzs hp hlx ho hnew (by grind) lnew k2 w.1 r1,?_⟩
    have told:zau X S (zaJ X T n) cs:=by
     have:=zd8 (T:=T) (m:=n) (off:=0) o4 (λj hj=>by grind)
     grind
    have g1:=g.kill O hpv0 k1
    have g2:=g1.newRows O d T elem (n+m) (zaL q3 told tnew)
    refine⟨S,_,_,_,g2,?_,zeJ,Qw _,hwr b _ k1 _ _ _ _ (zwA o2.2.1),w.2⟩
    grind[gam,zbh,zan,AH.del]
   ·have told:∃old,firstC h i.size n (.slice (some ⟨b,0,none⟩) n cp)=some old/\old.length=n * sz X T/\zau X S (zaJ X T n) old:=by
     have hwin:∀j,j < n->AtT X cc (0+j * sz X T) T:=by grind
     have hle:n * sz X T<=cp * sz X T:=Qt _ q2
     refine⟨(cs.drop 0).take (n * sz X T),?_,by grind,zd8 o4 hwin⟩
     grind[firstC]
    obtain⟨old,ho,lo,told⟩:=told
    rw[<-his] at lo
    by_cases hfit:n+m<=cp
    ·have hle:(n+m) * sz X T<=cp * sz X T:=Qt _ hfit
     rw[QQ] at hle
     have hl:0+n * i.size+new.length<=cs.length:=by grind
     refine⟨_,_,ze6 hu hi hz hzs hp hlx ho hnew lo lnew q1 hfit k2 hl,?_⟩
     have gv:∀h' : AH,(∃cs2,h'.get b=some (.cells cs2 elem false)/\cs2.length=cs.length)->gam X S h' (upL L d (L tag)) base (.ap d T (n+m) false) (.slice (some ⟨b,0,none⟩) (n+m) cp):=by grind[gam]
     cases m with
     | zero=>exact⟨S,_,_,_,g.retag d T hpv0,by grind,zeJ,Qc _,by grind,w.2⟩
     | succ m'=>
       have tt:zau X S cc (cs.take (0+n * i.size) ++ new ++ cs.drop (0+n * i.size+new.length)):=by
        refine zau.updW (T:=T) (m:=m'+ 1) o4 (λj hj=>?_) hl (by grind) tnew
        have:=q4 (n+j) (by omega)
        grind
       have g1:=g.stTy O (tag:=tag) (by grind[zbC]) k1 k2 (ze3 hl) tt
       exact⟨S,_,_,_,g1.retag d T hpv0,gv _ ⟨_,by simp,ze3 hl⟩,zeJ,Qc _,by grind[AH.get_set],w.2⟩
    ·refine⟨_,_,zd9 hu hi hz hzs hp rfl hlx ho hnew lo lnew q1 (by omega) q2 w.1 r1,?_⟩
     have g2:=(g.drop tag).newRows O d T elem (n+m) (zaL (by grind) told tnew)
     refine⟨S,_,_,_,g2,?_,zeJ,Qw _,by grind[zb8],w.2⟩
     grind[gam,zan,zbh]
 ·rename_i fr T' n
  split at w
  rotate_left
  ·exact w.elim
  rename_i hcc
  simp only[Qd,Jh,QJ] at hcc
  obtain⟨hTT,hfr⟩:=hcc
  have hTT:=Qb hTT
  subst hTT
  obtain⟨hn,p,cp,hes,gs⟩:=gs
  obtain⟨r1,r2⟩:=room n w.1
  have hq:∀S' h' L' σ2,(∀d,d < h.next->(∀q,S.ty d=some q->False)->h'.get d=h.get d)->Chg c S h L σ S' h' L' σ2:=by
   intro S' h' L' σ2 ho
   rcases hc with rfl | ⟨rfl,hq⟩ | ⟨r,rfl,hr⟩
   ·trivial
   ·rw[hsv] at hq; cases hq
   ·rw[hsv] at hr
    cases hr
    exact λb' hb' hn'=>ho b' hb' λq hq=>hn' ⟨q,hq⟩
  rw[hes]
  have freshP:∀{old:List Value} {p:Option Addr},firstC h i.size n (.slice p n cp)=some old->old.length=n * i.size->zau X S (zaJ X T n) old->cp < zai->cp < n+m->n<=cp->∃v h',zaM X.P h st false (.slice p n cp) (ev e x)=some (v,h')/\zgZ X pu base S0 h0 S h L σ e c k v h':=by
   intro old p ho lo told q1 q2 q3
   refine⟨_,_,zd9 hu hi hz hzs hp rfl hlx ho hnew lo lnew q1 q2 q3 w.1 r1,?_⟩
   obtain⟨g2,l2⟩:=g.newPub (ee:=elem) (cc:=zaJ X T (n+m)) O (zaL (by rw[lo,his]) told tnew)
   refine⟨_,_,_,_,g2,?_,zaE rfl,Qw _,by grind[zb8],w.2⟩
   exact⟨r2,_,_,rfl,.inr ⟨h.next,0,false,elem,zaJ X T (n+m),rfl,by simp only[zeI,if_true],by grind[zbh],λ_=>rfl,λ_=>g.nx,by grind⟩⟩
  rcases gs with ⟨rfl,rfl,rfl⟩ | ⟨b,off,ro,ee,cc,rfl,k1,k2,k3,k4,k5⟩
  ·cases hm:m with
   | zero=>
     subst hm
     refine⟨_,_,zjR hu hi hz hzs hp hlx hnew lnew,S,_,_,_,g,?_,zaE rfl,Qc _,by grind,w.2⟩
     exact⟨Qg _,none,0,rfl,by simp⟩
   | succ m'=>
     exact freshP (old:=[]) rfl (by simp) (λi U hU=>by unfold zaJ at hU; rw[if_neg (by omega)] at hU; cases hU) (by decide) (by omega) (Qc _)
  ·obtain⟨v1,v2,cs,r,v3,v3r,v4⟩:=g.wt.1 b _ _ _ k1
   rw[v3r (k3 rfl)] at v3
   rcases k5 with ⟨q1,q2,q3⟩ | ⟨q1,q2,q3⟩
   rotate_left
   ·cases q2
   have told:∃old,firstC h i.size n (.slice (some ⟨b,off,none⟩) n cp)=some old/\old.length=n * sz X T/\zau X S (zaJ X T n) old:=by
    rw[his]
    cases hq:n * sz X T with
    | zero=>exact⟨[],by simp[firstC,hq],rfl,λi U hU=>by unfold zaJ at hU; rw[hq,if_neg (by omega)] at hU; cases hU⟩
    | succ q=>
      have hle:=zmn v4 k2 (by omega)
      refine⟨(cs.drop off).take (n * sz X T),?_,by simp; omega,zd8 v4 k2⟩
      unfold firstC
      simp only[hq,v3]
      rw[if_pos ⟨Qc _,by omega⟩]
   obtain⟨old,ho,lo,told⟩:=told
   rw[<-his] at lo
   by_cases hfit:n+m<=cp
   ·cases m with
    | zero=>
      have e1:zaM X.P h st false (.slice (some ⟨b,off,none⟩) n cp) (ev e x)=some (.slice (some ⟨b,off,none⟩) (n+0) cp,h):=by
       unfold zaM
       simp only[zat hu,zcy hi,hlx,ho,hnew,hz]
       rw[if_pos ⟨hzs,hp,lnew,lo⟩,if_neg (by omega),if_pos hfit]
       rfl
      refine⟨_,_,e1,S,_,_,_,g,?_,zaE rfl,Qc _,by grind,w.2⟩
      exact⟨r2,_,_,rfl,by grind⟩
    | succ m'=>
      have hw:∀j,j < n+(m'+ 1)->AtT X cc (off+j * sz X T) T:=by grind
      have hle:=zmn v4 hw (by rw[QQ,QQ]; omega)
      have hl:off+n * i.size+new.length<=cs.length:=by rw[lnew,his]; rw[QQ] at hle; omega
      refine⟨_,_,ze6 hu hi hz hzs hp hlx ho hnew lo lnew q1 hfit v3 hl,?_⟩
      have tt:zau X S cc (cs.take (off+n * i.size) ++ new ++ cs.drop (off+n * i.size+new.length)):=by
       refine zau.updW (T:=T) (m:=m'+ 1) v4 (λj hj=>?_) hl (by rw[lnew,his]) tnew
       have:=hw (n+j) (by omega)
       rw[his]
       rw[QQ,<-Ja] at this
       exact this
      have g1:=g.stPub O k1 v3 (ze3 hl) tt (hfr.imp (λq=>k4 q) id)
      refine⟨S,_,_,_,g1,?_,zaE rfl,Qc _,hq _ _ _ _ (λu _ hn'=>?_),w.2⟩
      ·exact⟨r2,_,_,rfl,by grind⟩
      ·rw[AH.get_set,if_neg]
       rintro rfl
       exact hn' _ k1
   ·exact by grind
 ·exact w.elim
end
end
section
variable {X:Cx} {S S' : TY} {h:AH} {L:Loc} {base:Nat}
section
variable {pu:Bool} {S0:TY} {h0:AH} {σ:Sx} {e:Env} {k:TV->Sx->Prop} {c:OpC}
theorem zr7 (a:ByteArray):a.data.toList.length=a.size:=by rfl
theorem zul (O:XOk X) {el:Nat} {lo hi:Int} (hc:ck X el=.int .u8 lo hi) {n:Nat} {cs:List Value} (hl:cs.length=n * sz X el) (ht:zau X S (zaJ X el n) cs):∃bs,zaF cs=some bs/\bs.length=n:=by
 obtain⟨hu,hf,hs,_,rfl,rfl⟩:=zr6 O hc
 have key:∀(cs:List Value),(∀x∈cs,∃y,x=.int .u8 y)->∃bs,zaF cs=some bs/\bs.length=cs.length:=by
  intro cs
  induction cs<;>grind[QO,zaF]
 obtain⟨bs,h1,h2⟩:=key cs λx hx=>by
  obtain⟨i,hi,rfl⟩:=Jg hx
  obtain⟨v,h1,h2⟩:=ht i el (by grind[zaJ])
  grind[okC]
 grind
theorem znJ (O:XOk X) (g:G X pu base S0 h0 S h L σ e) {s d:TypeId} {dst:Option Tmp} {x:Operand} (w:zwo X s d dst x σ k):
 ∃v h',zav X.P h s d (ev e x)=some (v,h')/\zgZ X pu base S0 h0 S h L σ e (match X.P.underlying s,X.P.underlying d with | _,some (.slice _)=>.quiet | _,_=>.still) k v h':=by
 unfold zwo at w
 split at w
 ·rename_i ks kd hs hd
  obtain⟨v,hv,w⟩:=zaq w
  obtain⟨gv,ip⟩:=g.val hv
  split at w
  rotate_left
  ·grind
  rw[gv.1]
  simp only[zat hs,zat hd]
  refine⟨_,_,by simp only[zav,zat hs,zat hd]; rfl,?_⟩
  exact g.still (zwz (zaQ _ _)) (zaE rfl) (w _ (zaQ _ _) λh1 h2=>zgh h1 h2) (.inl rfl)
 ·rename_i hs hd
  obtain⟨v,hv,w⟩:=zaq w
  obtain⟨gv,ip⟩:=g.val hv
  split at w
  rotate_left
  ·grind
  have gv2:=gv
  simp only[gam] at gv
  rw[gv.1]
  refine⟨_,_,by simp only[zav,zat hs,zat hd]; rfl,?_⟩
  grind[G.still]
 ·rename_i el hs hd
  obtain⟨v,hv,w⟩:=zaq w
  obtain⟨gv,ip⟩:=g.val hv
  split at w
  rotate_left
  ·grind
  rename_i a t lo hi hc _
  split at w
  rotate_left
  ·grind
  obtain⟨hu,hf,hs1,hce,_⟩:=zr6 O hc
  simp only[gam] at gv
  rw[gv.1]
  simp only[zat hs,zat hd]
  have hr:za8<=zaA:=by decide
  have hr2:za8<=zbT:=by decide
  have e1:zav X.P h s d (.string a)=some (.slice (some ⟨h.next,0,none⟩) a.size zai,h.alloc (.cells (a.data.toList.map λb=>.int .u8 b.toNat) el false)):=by
   simp only[zav,zat hs,zat hd,zat hu]
   grind
  refine⟨_,_,e1,S,_,_,_,g.newRows O t el el a.size (by grind[ziw,zr7]),?_,zeJ,Qw _,zb8,w⟩
  grind[gam,zan,zr7,zbh]
 ·rename_i el hs hd
  obtain⟨v,hv,w⟩:=zaq w
  obtain⟨gv,ip⟩:=g.val hv
  split at w
  rotate_left
  ·grind
  rename_i lo hi hc
  obtain⟨hu,hf,hs1,hce,_⟩:=zr6 O hc
  have hi':=O.info el _ hu
  have fin:∀{T n:Nat} {st:Option Nat},zwr X el v=some (T,n,st)->Nat.beq T el=true->(∀tag,st=some tag->zbC σ tag=true)->n<=za8->(∀a:ByteArray,a.size=n->k (.str a) σ)->(∃p cp,ev e x=.slice p n cp)->∃v h',zav X.P h s d (ev e x)=some (v,h')/\zgZ X pu base S0 h0 S h L σ e (match X.P.underlying s,X.P.underlying d with | _,some (.slice _)=>.quiet | _,_=>.still) k v h':=by
   rintro T n st hsrc hT hty hb hk ⟨p,cp,hx⟩
   have hT:=Qb hT
   subst hT
   obtain⟨_,_,hf2⟩:=zkM O g hsrc (by grind[zcj]) hi' gv ip hty
   obtain⟨new,h1,h2,h3⟩:=hf2 n (Qc _)
   obtain⟨bs,b1,b2⟩:=zul O hc h2 h3
   have hsz:(ByteArray.mk bs.toArray).size=n:=by rw[<-zr7,<-b2]
   refine⟨_,_,?_,g.still (tv:=.str ⟨bs.toArray⟩) (v:=.string ⟨bs.toArray⟩) (by grind[gam]) (zaE rfl) (hk _ hsz) (by grind)⟩
   rw[hs1] at h1
   rw[hx] at h1 ⊢
   simp only[zav,zat hs,zat hd,zat hu,h1,b1]
  split at w
  ·split at w
   rotate_left
   ·grind
   rename_i hT
   refine fin rfl hT (by simp) w.1 w.2 ?_
   obtain⟨_,p,cp,hx,_⟩:=gv
   grind
  ·split at w
   rotate_left
   ·grind
   rename_i hT
   simp only[Qd] at hT
   refine fin rfl hT.1 (by grind) w.1 w.2 ?_
   grind[gam]
  grind
 grind
theorem znK (O:XOk X) (g:G X pu base S0 h0 S h L σ e) {t:TypeId} {d s:Operand} (w:zws X pu t d s σ k):∃v h',zc4 X.P h t (ev e d) (ev e s)=some (v,h')/\zgZ X pu base S0 h0 S h L σ e .wild k v h':=by
 unfold zws at w
 split at w
 rotate_left
 ·grind
 rename_i elem hu
 obtain⟨sv,hsv,w⟩:=zaq w
 obtain⟨gs,is⟩:=g.val hsv
 split at w
 rotate_left
 ·grind
 rename_i T m stag hsrc
 obtain⟨dv,hdv,w⟩:=zaq w
 obtain⟨gd,id⟩:=g.val hdv
 split at w
 rotate_left
 ·grind
 rename_i T' n st2 hdst hok hi
 split at w
 rotate_left
 ·grind
 rename_i hT
 simp only[Qd] at hT
 obtain⟨⟨hTT,hT⟩,hst⟩:=hT
 have hTT:=Qb hTT
 subst hTT
 have hce:=zd7 O hT hi
 obtain⟨i,hi2⟩:=Option.isSome_iff_exists.1 hi
 have his:i.size=sz X T:=by grind[Program.cellsOf,zcy]
 obtain⟨hlx,hmv,hfx⟩:=zkM O g hsrc hT hi gs is (by grind)
 obtain⟨new,hnew,lnew,tnew⟩:=hfx (Nat.min m n) (by grind)
 have hcn:Nat.min m n<=n:=by grind
 have hcm:Nat.min m n<=m:=Nat.min_le_left _ _
 have hvi:InR .i64 ((Nat.min m n:Nat):Int):=by
  have:(zbT:Int)<=kHi .i64:=by decide
  have h0:kLo .i64<=0:=by decide
  constructor <;> omega
 have fin:∀{h' : AH},G X pu base S0 h0 S h' L σ e->h'.next=h.next->zgZ X pu base S0 h0 S h L σ e .wild k (.int .i64 ((Nat.min m n:Nat):Int)) h':=λg' hn=>⟨S,L,σ,_,g',zwz hvi,zaE rfl,by omega,trivial,by grind⟩
 have nilc:∀{p:Option Addr} {cp:Nat},new=[]->(p=none\/∃b off,p=some ⟨b,off,none⟩)->ev e d=.slice p n cp->zc4 X.P h t (ev e d) (ev e s)=some (.int .i64 ((Nat.min m n:Nat):Int),h):=by
  intro p cp hz hp hx
  unfold zc4
  grind[zat,zcy]
 have cell:∀{b off cp:Nat} {cs:List Value} {ee:TypeId} {a:Value} {r:List Value},new=a :: r->ev e d=.slice (some ⟨b,off,none⟩) n cp->h.get b=some (.cells cs ee false)->off+new.length<=cs.length->zc4 X.P h t (ev e d) (ev e s)=some (.int .i64 ((Nat.min m n:Nat):Int),h.set b (.cells (cs.take off ++ new ++ cs.drop (off+new.length)) ee false)):=by
  intro b off cp cs ee a r hz hx hb hl
  unfold zc4
  grind[zat,zcy,zap]
 have win:∀{off:Nat} {cc:Nat->Option Nat} {cs:List Value},zau X S cc cs->(∀j,j < n->AtT X cc (off+j * sz X T) T)->new≠[]->off+new.length<=cs.length/\zau X S cc (cs.take off ++ new ++ cs.drop (off+new.length)):=by grind[List.length_pos_iff,zmn,zau.updW]
 have shape:∃p cp,ev e d=.slice p n cp/\((p=none/\n=0)\/∃b off cc cs ee,p=some ⟨b,off,none⟩/\h.get b=some (.cells cs ee false)/\zau X S cc cs/\(∀j,j < n->AtT X cc (off+j * sz X T) T)/\
  ∀cs',cs'.length=cs.length->zau X S cc cs'->G X pu base S0 h0 S (h.set b (.cells cs' ee false)) L σ e):=by
  unfold zwr at hdst
  split at hdst
  ·cases hdst
   obtain⟨_,p,cp,hx,gd⟩:=gd
   rcases gd with ⟨q1,q2,_⟩ | ⟨b,off,ro,ee,cc,q1,k1,k2,k3,k4,_⟩
   ·grind
   ·obtain⟨_,_,cs,r,v3,v3r,v4⟩:=g.wt.1 b _ _ _ k1
    grind[G.stPub]
  all_goals grind[gam,G.typedBlk,G.stTy]
 obtain⟨p,cp,hx,shape⟩:=shape
 cases hnn:new with
 | nil=>grind
 | cons a r=>
   rcases shape with ⟨rfl,rfl⟩ | ⟨b,off,cc,cs,ee,rfl,v3,v4,v5,v6⟩
   ·grind
   ·obtain⟨hl,ht⟩:=win v4 v5 (by grind)
    exact⟨_,_,cell hnn hx v3 hl,fin (by grind[ze3]) rfl⟩
theorem znL (O:XOk X) (g:G X pu base S0 h0 S h L σ e) {t:TypeId} {l c' : TV} {dst:Option Tmp} (w:zwt X t l c' dst σ k) {a b:Value} (ga:gam X S h L base l a) (gb:gam X S h L base c' b):∃v h',zaX X.P h t a b=some (v,h')/\zgZ X pu base S0 h0 S h L σ e .quiet k v h':=by
 unfold zwt at w
 split at w
 rotate_left
 ·grind
 rename_i k1 ln k2 cn d
 obtain⟨rfl,_⟩:=ga
 obtain⟨rfl,_⟩:=gb
 split at w
 rotate_left
 ·grind
 rename_i elem hu
 split at w
 rotate_left
 ·grind
 rename_i i hi
 split at w
 rotate_left
 ·grind
 rename_i hcc
 simp only[Qd] at hcc
 obtain⟨⟨hz,hs⟩,hb⟩:=hcc
 have hb:0 < i.bytes:=by simp_all
 have hi' : (inf X elem).isSome=true:=by grind
 have hce:=O.cells elem hi'
 have his:i.size=sz X elem:=by grind[Program.cellsOf,zcy]
 obtain⟨zs,hz1,hz2,hz3⟩:=O.zero elem hi' hz
 obtain⟨⟨w1,w2,w3,w4⟩,hk⟩:=w
 have hcv:cn<=281474976710656:=by
  have h1:(1:Int) * cn<=i.bytes * cn:=Int.mul_le_mul_of_nonneg_right (by omega) (by omega)
  omega
 have e1:zaX X.P h t (.int k1 ln) (.int k2 cn)=some (.slice (some ⟨h.next,0,none⟩) ln.toNat cn.toNat,h.alloc (.cells ((List.replicate cn.toNat zs).flatten) elem false)):=by
  unfold zaX
  grind[zat,zcy]
 refine⟨_,_,e1,S,_,_,_,g.newRows O d elem elem cn.toNat (by grind[zfD]),?_,zeJ,Qw _,zb8,hk⟩
 grind[zbT,zai,gam,zan,ze5,zbh]
theorem zxN {tag elem:Nat} {b:Nat} {cc:Nat->Option Nat} (hL:L tag=some (b,cc)) {off n cp:Nat} (h1:n<=cp) (h2:cp < zai) (h3:n<=zbT) (h4:∀j,j < cp->AtT X cc (off+j * sz X elem) elem):gam X S h L base (.sp tag elem n) (.slice (some ⟨b,off,none⟩) n cp):=by grind[gam]
theorem zmq (O:XOk X) (g:G X pu base S0 h0 S h L σ e) {t:TypeId} {x:Operand} {lo hi mx:Option Operand} (w:zrU X t x lo hi mx σ k) (hc:c=.quiet\/(c=.still/\∀v,evT σ.a x=some v->tagsOf v=[])):
 ∃v,zay X.P h t (ev e x) (lo.map (ev e)) (hi.map (ev e)) (mx.map (ev e))=some v/\zgZ X pu base S0 h0 S h L σ e c k v h:=by
 have post:∀{S1:TY} {σ1:Sx} {tv:TV} {v:Value},G X pu base S0 h0 S1 h L σ1 e->(c=.still->S1=S/\σ1=σ)->gam X S1 h L base tv v->zoO σ1 tv->k tv σ1->zgZ X pu base S0 h0 S h L σ e c k v h:=by
  intro S1 σ1 tv v g1 hs gv ip hk
  refine⟨S1,L,σ1,tv,g1,gv,ip,Qc _,?_,hk⟩
  rcases hc with rfl | ⟨rfl,_⟩
  ·exact λ_ _=>rfl
  ·obtain⟨rfl,rfl⟩:=hs rfl
   exact⟨rfl,rfl,rfl,rfl⟩
 unfold zrU at w
 split at w
 ·replace w:=zaq w
  obtain⟨v,hv,w⟩:=w
  obtain⟨gv,ip⟩:=g.val hv
  split at w
  rotate_left
  ·grind
  rename_i s
  replace w:=zbR g w
  obtain⟨l,w,hl⟩:=w
  replace w:=zbR g w
  obtain⟨u,w,hu2⟩:=w
  obtain⟨gx,gs⟩:=gv
  have hb:=zb2 (len:=s.size) (cap:=s.size) hl hu2 w.1.1 w.1.2.1 w.1.2.2 (Qc _)
  have hsz:((s.extract l.toNat u.toNat).size:Int)=u - l:=by grind[ByteArray.size_extract]
  refine⟨.string (s.extract l.toNat u.toNat),?_,post g (by simp) (tv:=.str (s.extract l.toNat u.toNat)) (by grind[gam]) (zaE rfl) (w.2 _ hsz)⟩
  unfold zay
  grind[zat]
 ·rename_i elem hu
  obtain⟨S1,σ1,v,g1,l1,gv,hv,w,v0,hv0,hsame⟩:=g.openV O w
  have hst:c=.still->S1=S/\σ1=σ:=λq=>by grind
  split at w
  ·rename_i w' fr kc T n hi'
   split at w
   rotate_left
   ·grind
   rename_i hT
   replace w:=zbR g1 w
   obtain⟨l,w,hl⟩:=w
   replace w:=zbR g1 w
   obtain⟨u,w,hu2⟩:=w
   split at w
   ·obtain⟨y,hy,gy⟩:=zoR (σ:=σ1) O hu hi' hT g1.wt gv hl hu2 w.1.1 w.1.2.1 w.1.2.2
    exact⟨y,hy,post g1 hst (tv:=.sl w' fr kc T (u - l).toNat) (by grind[gam]) (zaE rfl) w.2⟩
   ·split at w
    ·grind
    replace w:=zbR g1 w
    obtain⟨m,w,hm⟩:=w
    rcases hu2 with ⟨q,_⟩ | ⟨ku,hu2⟩
    ·grind
    rcases hm with ⟨q,_⟩ | ⟨km,hm⟩
    ·grind
    obtain⟨y,hy,gy⟩:=zmk (σ:=σ1) (kd:=ku) (kd':=km) O hu hi' hT g1.wt gv hl w.1.1 w.1.2.1 w.1.2.2.1 w.1.2.2.2.1 (by omega)
    rw[hu2,hm]
    exact⟨y,hy,post g1 hst (tv:=.sl w' fr false T (u - l).toNat) (by grind[gam]) (zaE rfl) w.2⟩
  ·rename_i hi'
   replace w:=zbR g1 w
   obtain⟨l,w,hl⟩:=w
   replace w:=zbR g1 w
   obtain⟨u,w,hu2⟩:=w
   split at w
   rotate_left
   ·grind
   obtain⟨⟨rfl,rfl⟩,hk⟩:=w
   have hb:=zb2 (len:=0) (cap:=0) hl hu2 (Jd _) (Jd _) (Jd _) (Qc _)
   refine⟨.slice none 0 0,?_,post g1 hst (tv:=.nils) (by rfl) (zaE rfl) hk⟩
   rw[gv]
   unfold zay
   simp only[zat hu,Option.map_none,hb]
   rw[if_pos ⟨zbz hi',by decide⟩]
   rfl
  grind
 ·split at w
  rotate_left
  ·grind
  rename_i arr n elem ha
  replace w:=zaq w
  obtain⟨v,hv,w⟩:=w
  obtain⟨gv,ip⟩:=g.val hv
  split at w
  rotate_left
  ·grind
  rename_i hcc
  simp only[Qd] at hcc
  have hn:=Qr hcc.2
  replace w:=zbR g w
  obtain⟨l,w,hl⟩:=w
  replace w:=zbR g w
  obtain⟨u,w,hu2⟩:=w
  obtain⟨⟨w1,w2,w3⟩,w⟩:=w
  split at w
  ·split at w
   rotate_left
   ·grind
   rename_i hT
   have hT:=Qb hT
   subst hT
   obtain⟨b,cc,k1,k2,k3⟩:=gv
   obtain⟨off',cp,q1,q2,q3,q4,q5⟩:=zfC (h:=h) O ha hcc.1 hn k3 hl hu2 w1 w2 w3
   exact⟨_,by rw[k2]; exact q1,post g (by simp) (zxN k1 q2 q3 q4 q5) ip w⟩
  ·split at w
   rotate_left
   ·grind
   rename_i hT
   have hT:=Qb hT
   subst hT
   obtain⟨b,cc,off,k1,k2,k3⟩:=gv
   obtain⟨off',cp,q1,q2,q3,q4,q5⟩:=zfC (h:=h) O ha hcc.1 hn k3 hl hu2 w1 w2 w3
   exact⟨_,by rw[k2]; exact q1,post g (by simp) (zxN k1 q2 q3 q4 q5) ip w⟩
  ·rename_i w' fr T
   split at w
   rotate_left
   ·grind
   rename_i hT
   have hT:=Qb hT
   subst hT
   obtain⟨b,off,ro,ee,cc,k2,k1,k3,k4,k5⟩:=gv
   obtain⟨off',cp,q1,q2,q3,q4,q5⟩:=zfC (h:=h) O ha hcc.1 hn k3 hl hu2 w1 w2 w3
   exact⟨_,by rw[k2]; exact q1,post g (by simp) (tv:=.sl w' fr true elem (u - l).toNat) (by exact⟨q4,_,_,rfl,by grind⟩) (zaE rfl) w⟩
  ·split at w
   rotate_left
   ·grind
   rename_i hT
   simp only[Qd,QJ] at hT
   obtain⟨hT,hd⟩:=hT
   have hT:=Qb hT
   subst hT
   simp only[gam,zbr,hd] at gv
   obtain⟨b,cc,k2,k1,k3⟩:=gv
   obtain⟨off',cp,q1,q2,q3,q4,q5⟩:=zfC (h:=h) O ha hcc.1 hn k3 hl hu2 w1 w2 w3
   exact⟨_,by rw[k2]; exact q1,post g (by simp) (tv:=.sl true false true elem (u - l).toNat) (by exact⟨q4,_,_,rfl,by grind⟩) (zaE rfl) w⟩
  grind
end
end
end Go.Am
