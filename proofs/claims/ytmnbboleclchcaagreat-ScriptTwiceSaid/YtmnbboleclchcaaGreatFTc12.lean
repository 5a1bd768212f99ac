/-
  Texts of this proof, part 23. No condition.
-/
import Derived.Test.YtmnbboleclchcaaGreatFTc9
set_option linter.unusedVariables false
set_option linter.unusedSimpArgs false
namespace Go.Am
section
variable {X:Cx} {S S' : TY} {h:AH} {L:Loc} {base:Nat}
section
variable {pu:Bool} {S0:TY} {h0:AH} {σ:Sx} {e:Env} {k:TV->Sx->Prop} {c:OpC}
theorem ze4 (O:XOk X) (g:G X pu base S0 h0 S h L σ e) {t:TypeId} {x:Operand} (w:zwp X t x σ k):∃v,zbL X.P h t (ev e x)=some v/\eqV v v=true/\∃tv,gam X S h L base tv v/\tagsOf tv=[]/\k tv σ:=by
 have typed:∀{T b off:Nat} {cc:Nat->Option Nat} {cs:List Value} {ee:TypeId} {r:Bool} {q:TV->Prop},zrN X T t q->h.get b=some (.cells cs ee r)->zau X S cc cs->AtT X cc off T->∃v,zbL X.P h t (ptr b off)=some v/\eqV v v=true/\∃tv,gam X S h L base tv v/\tagsOf tv=[]/\q tv:=by
  intro T b off cc cs ee r q w hb hT a
  obtain⟨v,y,h1,h2,h3,h4,h5⟩:=zr2 O w hb hT a
  exact⟨y,h2,h5,v,h3,h4,h1⟩
 obtain⟨p,hp,w⟩:=zaq w
 obtain⟨gp,ip⟩:=g.val hp
 split at w
 ·rename_i tag off T
  split at w
  ·rename_i t0 l hpv
   obtain⟨b,cs,h1,h2,h3,h4,h5,h6⟩:=g.pv tag _ hpv
   obtain⟨b',c',k1,k2,k3⟩:=gp
   rw[h1] at k1
   rw[k2]
   split at w
   ·grind[zaq,zcR,zd5,ze1,zbL,ptr,zbG]
   ·rename_i ha
    split at w
    rotate_left
    ·grind
    rename_i hl
    have hl:=Qr hl
    refine⟨.agg ((cs.drop off).take (sz X t)).toArray,?_,by grind[zr1],_,?_,?_,w⟩
    ·simp only[zbL,ptr,h3]
     rw[show aggT X.P t=some true from zbG ha]
     simp only[(O.isz ha).2]
     grind[zbH]
    all_goals grind[gam,zfv,zfw,tagsOf,ziq]
   grind
  ·rename_i t0 hpv
   obtain⟨b,cs,h1,h2,h3,h4⟩:=g.pv tag _ hpv
   grind[gam]
  grind
 ·rename_i tag T
  split at w
  rotate_left
  ·grind
  rename_i ht
  obtain⟨b,c',off,k1,k2,k3⟩:=gp
  unfold zbC at ht
  split at ht
  ·rename_i t0 hpv
   obtain⟨b',cs,h1,h2,h3,h4⟩:=g.pv tag _ hpv
   grind
  ·rename_i T0 e0 hpv
   rcases g.pv tag _ hpv with h1 | ⟨b',c2,cs,h1,h2,h3,h4⟩
   all_goals grind
  grind
 ·obtain⟨b,off,ro,ee,cc,k1,k2,k3,_⟩:=gp
  obtain⟨_,_,cs,r,h3,_,h4⟩:=g.wt.1 b _ _ _ k2
  grind
 ·rename_i x
  split at w
  rotate_left
  ·grind
  obtain⟨b,off,ro,ee,cc,k1,k2,k3,k4,k5⟩:=gp
  obtain⟨_,_,cs,r,h3,_,h4⟩:=g.wt.1 b _ _ _ k2
  obtain⟨y,y1,y2⟩:=h4 _ _ k3
  unfold okC at y2
  rw[zxL k4 k5] at y2
  obtain⟨z,rfl,z1,z2⟩:=y2
  obtain rfl:z=x:=by omega
  refine⟨.int .i64 z,?_,zd5 rfl,.int .i64 z,zwz ⟨by grind[kLo],by grind[kHi]⟩,rfl,w⟩
  grind[zbL,ptr,zbG]
 ·split at w
  rotate_left
  ·grind
  rename_i hd
  simp only[gam,zbr,hd] at gp
  obtain⟨b,cc,k1,k2,k3⟩:=gp
  obtain⟨_,_,cs,r,h3,_,h4⟩:=g.wt.1 b _ _ _ k2
  grind
 grind
theorem zml {v:TV} {r:Reg} (hr:zgg (some v)=some r) {x:Value} (gv:gam X S h L base v x) {b off:Nat} (hx:x=ptr b off\/∃n c,x=.slice (some ⟨b,off,none⟩) n c) (hd:∀T,v=.hp T->Nat.beq T X.dt=false):ziu S L r b:=by
 have pe:∀{b b' off off' : Nat},ptr b off=ptr b' off'->b=b':=by grind[ptr]
 unfold zgg at hr
 split at hr <;> first | (cases hr; done) | skip
 all_goals (rename_i heq; cases hr; simp only[Qa] at heq; subst heq; simp only[gam] at gv)
 ·obtain⟨b',c',k1,k2,_⟩:=gv
  rcases hx with hx | ⟨n,c,hx⟩
  ·rw[k2] at hx; cases pe hx; exact⟨_,k1⟩
  ·rw[k2] at hx; cases hx
 ·obtain⟨b',c',o',k1,k2,_⟩:=gv
  rcases hx with hx | ⟨n,c,hx⟩
  ·rw[k2] at hx; cases pe hx; exact⟨_,k1⟩
  ·rw[k2] at hx; cases hx
 ·obtain⟨_,p,cp,k1,k2⟩:=gv
  rcases hx with hx | ⟨n,c,hx⟩
  ·rw[k1] at hx; cases hx
  ·rw[k1] at hx
   cases hx
   rcases k2 with ⟨q,_⟩ | ⟨b',c',cs,ee,q,k3,_⟩
   ·grind
   ·cases q; exact⟨_,k3⟩
 ·obtain⟨_,b',c',o',cp,k1,_,_,k2,_⟩:=gv
  rcases hx with hx | ⟨n,c,hx⟩
  ·rw[k1] at hx; cases hx
  ·rw[k1] at hx; cases hx; exact⟨_,k2⟩
 ·obtain⟨b',o',ro,ee,cc,k1,k2,_⟩:=gv
  rcases hx with hx | ⟨n,c,hx⟩
  ·rw[k1] at hx; cases pe hx; exact⟨_,k2⟩
  ·rw[k1] at hx; cases hx
 ·obtain⟨b',o',ro,ee,cc,k1,k2,_⟩:=gv
  rcases hx with hx | ⟨n,c,hx⟩
  ·rw[k1] at hx; cases pe hx; exact⟨_,k2⟩
  ·rw[k1] at hx; cases hx
 ·rename_i T
  simp only[zbr,hd T rfl] at gv
  obtain⟨b',cc,k1,k2,_⟩:=gv
  rcases hx with hx | ⟨n,c,hx⟩
  ·rw[k1] at hx; cases pe hx; exact⟨_,k2⟩
  ·rw[k1] at hx; cases hx
 ·obtain⟨_,p,cp,k1,k2⟩:=gv
  rcases hx with hx | ⟨n,c,hx⟩
  ·rw[k1] at hx; cases hx
  ·rw[k1] at hx
   cases hx
   rcases k2 with ⟨q,_⟩ | ⟨b',o',ro,ee,cc,q,k3,_⟩
   ·grind
   ·cases q; exact⟨_,k3⟩
theorem zmm (O:XOk X) (g:G X pu base S0 h0 S h L σ e) {t:TypeId} {x y:Operand} (w:zrQ X pu t x y σ k) (hc:c=.wild\/(∃r,c=.wr r/\zgg (evT σ.a x)=some r/\∀v,evT σ.a y=some v->tagsOf v=[])):∃h',zbM X.P h t (ev e x) (ev e y)=some h'/\zgZ X pu base S0 h0 S h L σ e c k undef h':=by
 unfold zrQ at w
 split at w
 ·grind
 rename_i hsz
 rw[Qd] at hsz
 have hsz:0 < sz X t:=by simp_all
 obtain⟨hi,hce⟩:(X.P.info? t).isSome=true/\X.P.cellsOf t=sz X t:=by cases ha:isAgg X t<;>grind[XOk.isz]
 obtain⟨S1,σ1,v,g1,l1,gv,hv,w,v0,hv0,hsame⟩:=g.openV O w
 obtain⟨p,hp,w⟩:=zaq w
 obtain⟨gp,ip⟩:=g1.val hp
 have fin:∀{b off:Nat} {o:zca} {σ2:Sx},ev e x=ptr b off->(∀T,p=.hp T->Nat.beq T X.dt=false)->G X pu base S0 h0 S1 (h.set b o) L σ2 e->k .any σ2->zgZ X pu base S0 h0 S h L σ e c k undef (h.set b o):=by
  intro b off o σ2 hx hd g2 hk
  refine⟨S1,L,σ2,.any,g2,by grind[gam],zaE rfl,Qc _,?_,hk⟩
  rcases hc with rfl | ⟨r,rfl,hr,ht⟩
  ·trivial
  ·intro d hdl hn
   grind[AH.get_set,zml]
 split at w
 ·rename_i tag off T
  obtain⟨b,c0,k1,k2,k3⟩:=gp
  have hd:∀T',TV.loc tag off T=.hp T'->Nat.beq T' X.dt=false:=by simp
  split at w
  ·rename_i t0 l hpv
   obtain⟨m,hm,gm,ml,mm,mt,nt⟩:=zis w gv hv
   split at hm
   rotate_left
   ·grind
   rename_i hle
   have hle:=Qr hle
   obtain⟨b',cs,h1,h2,h3,h4,h5,h6⟩:=g1.pv tag _ hpv
   rw[h1] at k1
   have hlen:=zbH gm
   have hle2:off+(ev e y).cells.toList.length<=cs.length:=by grind[zbH]
   have hst:=zd6 (h:=h) (X:=X) (t:=t) h3 nt hi (by omega) hle2
   grind[G.stTv,zgW,zcB,zfv,zfw,zcA]
  ·rename_i t0 hpv
   split at w
   rotate_left
   ·grind
   rename_i hT
   have hT:=Qb hT
   subst hT
   obtain⟨hk,⟨c1,c2,c3,c4⟩,_⟩:=zbE O w gv
   obtain⟨b',cs,h1,h2,h3,h4⟩:=g1.pv tag _ hpv
   rw[h1] at k1
   cases k1
   have hle2:off+(ev e y).cells.toList.length<=cs.length:=by rw[c1]; exact AtT.le h4 k3 hsz
   have hst:=zd6 (h:=h) (X:=X) (t:=T) h3 c4 hi (by omega) hle2
   refine⟨_,by rw[k2]; omega,?_⟩
   exact fin k2 hd (g1.stTy O (by grind[zbC]) h1 h3 (ze3 hle2) (by grind[zau.upd])) hk
  grind
 ·rename_i tag T
  split at w
  rotate_left
  ·grind
  rename_i ht hT
  have hT:=Qb hT
  subst hT
  obtain⟨b,c0,off,k1,k2,k3⟩:=gp
  obtain⟨hk,⟨c1,c2,c3,c4⟩,_⟩:=zbE O w gv
  obtain⟨cs,ee,h3,h4⟩:=g1.typedBlk ht k1
  have hle2:off+(ev e y).cells.toList.length<=cs.length:=by rw[c1]; exact AtT.le h4 k3 hsz
  have hst:=zd6 (h:=h) (X:=X) (t:=T) h3 c4 hi (by omega) hle2
  grind[G.stTy,zau.upd]
 ·rename_i w' fr T
  split at w
  rotate_left
  ·grind
  rename_i ht hT
  have hT:=Qb hT
  subst hT
  simp only[Qd,Jh,QJ] at ht
  obtain⟨b,off,ro,ee',c0,k2,k1,k3,k4,k5⟩:=gp
  obtain⟨hk,⟨c1,c2,c3,c4⟩,_⟩:=zbE O w gv
  obtain⟨q1,q2,cs,r,h3,h3r,h4⟩:=g1.wt.1 b _ _ _ k1
  rw[h3r (k4 ht.1)] at h3
  have hle2:off+(ev e y).cells.toList.length<=cs.length:=by rw[c1]; exact AtT.le h4 k3 hsz
  have hst:=zd6 (h:=h) (X:=X) (t:=T) h3 c4 hi (by omega) hle2
  grind[G.stPub,zau.upd]
 ·rename_i T
  split at w
  rotate_left
  ·grind
  rename_i ht hT
  have hT:=Qb hT
  subst hT
  simp only[Qd,QJ] at ht
  simp only[gam,zbr,ht.1] at gp
  obtain⟨b,c0,k2,k1,k3⟩:=gp
  obtain⟨hk,⟨c1,c2,c3,c4⟩,_⟩:=zbE O w gv
  obtain⟨q1,q2,cs,r,h3,h3r,h4⟩:=g1.wt.1 b _ _ _ k1
  rw[h3r rfl] at h3
  have hle2:0+(ev e y).cells.toList.length<=cs.length:=by rw[c1]; exact AtT.le h4 k3 hsz
  have hst:=zd6 (h:=h) (X:=X) (t:=T) h3 c4 hi (by omega) hle2
  refine⟨_,by rw[k2]; omega,?_⟩
  exact fin k2 (by grind) (g1.stPub O k1 h3 (ze3 hle2) (h4.upd k3 hle2 c1 c2) (.inr ht.2)) hk
 grind
end
end
section
variable {X:Cx} {S S' : TY} {h:AH} {L:Loc} {base:Nat}
def zaJ (X:Cx) (T n:Nat):Nat->Option Nat:=λi=>if i < n * sz X T then (X.fl T)[i % sz X T]? else none
theorem zbh {T n j:Nat} (hj:j < n):AtT X (zaJ X T n) (j * sz X T) T:=λi ct hi=>by
 have h1:i < sz X T:=(Qo.1 hi).1
 have h2:j * sz X T+i < n * sz X T:=by
  have:(j+1) * sz X T<=n * sz X T:=Qt _ hj
  grind
 grind[zaJ,Nat.mul_comm,Nat.mul_add_mod,Q0]
theorem zaL {T n m:Nat} {old new:List Value} (h1:old.length=n * sz X T) (h2:zau X S (zaJ X T n) old) (h3:zau X S (zaJ X T m) new):zau X S (zaJ X T (n+m)) (old ++ new):=by
 intro i U hU
 unfold zaJ at hU
 split at hU
 rotate_left
 ·grind
 by_cases hn:i < n * sz X T
 ·rw[QT (by omega)]
  exact h2 i U (by grind[zaJ])
 ·rw[Qu (by omega),h1]
  have e:i=(i - n * sz X T)+sz X T * n:=by grind
  refine h3 _ U ?_
  unfold zaJ
  rw[if_pos (by grind),<-hU]
  conv=>rhs; rw[e,Nat.add_mul_mod_self_left]
theorem zd8 {T m off:Nat} {c:Nat->Option Nat} {cs:List Value} (ht:zau X S c cs) (ha:∀j,j < m->AtT X c (off+j * sz X T) T):zau X S (zaJ X T m) ((cs.drop off).take (m * sz X T)):=by
 intro i U hU
 unfold zaJ at hU
 split at hU
 rotate_left
 ·grind
 rename_i hi
 have hp:0 < sz X T:=by grind
 have:=ha (i / sz X T) (by rw[Nat.div_lt_iff_lt_mul hp]; omega) _ _ hU
 rw[Ja,Nat.mul_comm,Nat.div_add_mod] at this
 rw[Ji,if_pos hi,QX]
 exact ht _ _ this
theorem zmn {T m off:Nat} {c:Nat->Option Nat} {cs:List Value} (ht:zau X S c cs) (ha:∀j,j < m->AtT X c (off+j * sz X T) T) (hm:0 < m * sz X T):off+m * sz X T<=cs.length:=by
 have hp:0 < sz X T:=by grind
 have hm' : 0 < m:=by grind
 have:=AtT.le ht (ha (m - 1) (by omega)) hp
 have e:m * sz X T=(m - 1) * sz X T+sz X T:=by
  conv=>lhs; rw[show m=(m - 1)+1 by omega,QQ,Nat.one_mul]
 omega
theorem zr5 {zs:List Value} {z:Nat} (hz:zs.length=z):∀{n i:Nat},i < n * z->((List.replicate n zs).flatten)[i]?= zs[i % z]?
 | 0,i,hi=>by omega
 | n+1,i,hi=>by
   rw[List.replicate_succ,List.flatten_cons]
   by_cases h1:i < z
   ·grind[Q0]
   ·rw[Qu (by omega),hz,zr5 hz (by grind)]
    grind[Nat.mod_eq_sub_mod]
theorem zfD {T n:Nat} {zs:List Value} (hz:zs.length=sz X T) (ht:zau X S (zcO X T) zs):zau X S (zaJ X T n) ((List.replicate n zs).flatten):=by
 intro i U hU
 unfold zaJ at hU
 split at hU
 rotate_left
 ·grind
 rename_i hi
 rw[zr5 hz hi]
 exact ht _ _ hU
theorem ze5 {zs:List Value} {n:Nat}:((List.replicate n zs).flatten).length=n * zs.length:=by simp
section
variable {pu:Bool} {S0:TY} {h0:AH} {σ:Sx} {e:Env} {k:TV->Sx->Prop} {c:OpC}
theorem G.noty (g:G X pu base S0 h0 S h L σ e):S.ty h.next=none/\¬S.dv h.next:=by
 refine⟨?_,λq=>absurd (g.wt.2.1 _ q) (Q9 _)⟩
 cases hq:S.ty h.next with
 | none=>rfl
 | some q=>exact absurd (g.wt.1 _ _ _ _ hq).1 (Q9 _)
theorem G.prvNew (g:G X pu base S0 h0 S h L σ e) (o:zca):Prv S (h.alloc o) base h.next:=⟨g.nx,Je _,g.noty⟩
abbrev upL (L:Loc) (d:Nat) (q:Option (Nat×(Nat->Option Nat))):Loc:=λu=>if u=d then q else L u
theorem G.newTv (O:XOk X) (g:G X pu base S0 h0 S h L σ e) (d t:Nat) {l:List TV} {cs:List Value} (hg:gams X S h L base l cs) (hm:∀x∈cs,zbi x=true) (ht:tagsOfL l=[]):
 G X pu base S0 h0 S (h.alloc (.cells cs t false)) (upL L d (some (h.next,zcO X t))) (zbf d (.tv t l) σ) e:=
 g.new O d _ _ _ ⟨h.next,cs,if_pos rfl,g.prvNew _,zan _ _,zcf (Le2.refl _) ht hg,hm,ht⟩
theorem G.newTy (O:XOk X) (g:G X pu base S0 h0 S h L σ e) (d t:Nat) {cs:List Value} (hT:zau X S (zcO X t) cs):
 G X pu base S0 h0 S (h.alloc (.cells cs t false)) (upL L d (some (h.next,zcO X t))) (zbf d (.ty t) σ) e:=
 g.new O d _ _ _ ⟨h.next,cs,if_pos rfl,g.prvNew _,zan _ _,hT⟩
theorem G.newRows (O:XOk X) (g:G X pu base S0 h0 S h L σ e) (d T ee n:Nat) {cs:List Value} (hT:zau X S (zaJ X T n) cs):
 G X pu base S0 h0 S (h.alloc (.cells cs ee false)) (upL L d (some (h.next,zaJ X T n))) (zbf d (.rows T ee) σ) e:=
 g.new O d _ _ _ (.inr ⟨h.next,_,cs,if_pos rfl,g.prvNew _,zan _ _,hT⟩)
theorem G.newPub (O:XOk X) (g:G X pu base S0 h0 S h L σ e) {cs:List Value} {ee:TypeId} {cc:Nat->Option Nat} (hT:zau X S cc cs):
 G X pu base S0 h0 (zeI S h.next (false,ee,cc)) (h.alloc (.cells cs ee false)) L σ e/\Le2 S (zeI S h.next (false,ee,cc)):=by
 have l:Le2 S (zeI S h.next (false,ee,cc)):=⟨by grind[zeI,noty],rfl⟩
 have w':=WT.keep (h':=h.alloc (.cells cs ee false)) O g.wt (Qw _) λb hb _=>by grind[AH.get_alloc]
 refine⟨⟨⟨λb ro e' c' hb=>?_,w'.2.1,O.dS _ _ _ _ w'.2.2 rfl (λ_=>Iff.rfl)⟩,⟨λb q hq=>l.ty _ _ (g.ext.ty b q hq),λb hb=>?_,g.ext.dv,g.ext.dvo,g.ext.dev⟩,Qm g.nx (Qw _),λb hb q=>?_,λu v hv=>?_,λu c hc=>?_,g.inj⟩,l⟩
 ·simp only[zeI] at hb
  split at hb
  ·rename_i q
   subst q
   cases hb
   exact⟨Je _,g.noty.2,cs,false,zan _ _,λ_=>rfl,hT.mono l⟩
  ·obtain⟨q1,q2,cs',r,q3,q4,q5⟩:=w'.1 b ro e' c' hb
   exact⟨q1,q2,cs',r,q3,q4,q5.mono l⟩
 ·simp only[zeI]
  rw[if_neg (by have:=g.nx; omega)]
  exact g.ext.old b hb
 ·rw[AH.get_alloc,if_neg (Nat.ne_of_lt (Qi hb g.nx))]; grind[fr]
 ·obtain⟨x,k1,k2,k3⟩:=g.sl u v hv
  refine⟨x,k1,zbv l v x (λ_ _=>rfl) (λtag b c' ht hL=>?_) k2,k3⟩
  obtain⟨c0,hc0⟩:=k3 tag (by grind[zbb])
  have:=(g.pv tag c0 hc0).prv hL
  exact zck.of (by rw[AH.get_alloc,if_neg (Nat.ne_of_lt this.2.1)])
 ·have o:=(g.pv u c hc).keep (h':=h.alloc (.cells cs ee false)) (L':=L) (Qw _) rfl λb d hL=>by
   have:=(g.pv u c hc).prv hL
   rw[AH.get_alloc,if_neg (Nat.ne_of_lt this.2.1)]
  have hP:∀b d,L u=some (b,d)->Prv S (h.alloc (.cells cs ee false)) base b->Prv (zeI S h.next (false,ee,cc)) (h.alloc (.cells cs ee false)) base b:=λb d hb ⟨k1,k2,k3,k4⟩=>⟨k1,k2,by
   simp only[zeI]
   rw[if_neg (Nat.ne_of_lt ((g.pv u c hc).prv hb).2.1)]
   omega,k4⟩
  cases c with
  | tv t l'=>obtain⟨b,cs',k1,k2,k3,k4,k5,k6⟩:=o; exact⟨b,cs',k1,hP _ _ k1 k2,k3,zcf l k6 k4,k5,k6⟩
  | ty t=>obtain⟨b,cs',k1,k2,k3,k4⟩:=o; exact⟨b,cs',k1,hP _ _ k1 k2,k3,k4.mono l⟩
  | rows T e=>rcases o with o | ⟨b,c',cs',k1,k2,k3,k4⟩
              ·exact .inl o
              ·exact .inr ⟨b,c',cs',k1,hP _ _ k1 k2,k3,k4.mono l⟩
theorem zgi:∀{Ts:List Nat} {l:List TV},zeros X Ts=some l->tagsOfL l=[]
 | [],l,w=>by simp only[zeros,Qa] at w; subst w; rfl
 | T :: Ts,l,w=>by
   unfold zeros at w
   split at w
   rotate_left
   ·grind
   rename_i v hv
   split at w
   rotate_left
   ·grind
   rename_i m hm
   cases w
   simp only[tagsOfL,zgi hm,QS]
   unfold zrO at hv
   split at hv <;> cases hv <;> rfl
theorem zmo:∀{Ts:List Nat} {l:List TV},zeros X Ts=some l->l.length=Ts.length
 | [],l,w=>by grind[zeros]
 | T :: Ts,l,w=>by
   unfold zeros at w
   split at w
   rotate_left
   ·grind
   split at w
   rotate_left
   ·grind
   rename_i m hm
   cases w
   simp[zmo hm]
theorem zb8 {o:zca}:∀b,b < h.next->(h.alloc o).get b=h.get b:=by grind[AH.get_alloc]
theorem znH {o:zca} {d:Nat} {x:Option (Nat×(Nat->Option Nat))} {pc:PC}:Chg (.mk d) S h L σ S (h.alloc o) (upL L d x) (zbf d pc σ):=
 ⟨zb8,rfl,by grind,by grind[za4]⟩
theorem zmp (O:XOk X) (g:G X pu base S0 h0 S h L σ e) {t:TypeId} {dst:Option Tmp} (w:zrP X t dst σ k):∃z,zao X.P t=some z/\zgZ X pu base S0 h0 S h L σ e (zzN dst) k (ptr h.next 0) (h.alloc (.cells z t false)):=by
 unfold zrP at w
 cases dst with
 | none=>grind
 | some d=>
 replace w:(match zkJ X t with
  | true=>match zeros X (X.fl t) with | some l=>k (.loc d 0 t) (zbf d (.tv t l) σ) | none=>False
  | false=>match zg7 X t && (inf X t).isSome with | true=>k (.loc d 0 t) (zbf d (.ty t) σ) | false=>False):=w
 split at w
 ·rename_i hs
  split at w
  rotate_left
  ·grind
  rename_i l hl
  obtain⟨zs,hz,hm,hg⟩:=O.zeros t l hs hl
  refine⟨zs,hz,S,_,_,_,g.newTv O d t (hg S h L base) hm (zgi hl),?_,?_,Qw _,znH,w⟩
  ·exact⟨h.next,_,if_pos rfl,rfl,λi ct hi=>by rw[Qq]; exact hi⟩
  ·intro u hu
   simp only[tagsOf,QD] at hu
   exact⟨_,by rw[za4,if_pos hu]⟩
 ·split at w
  rotate_left
  ·grind
  rename_i hz
  simp only[Qd] at hz
  obtain⟨zs,hz1,hz2,hz3⟩:=O.zero t hz.2 hz.1
  refine⟨zs,hz1,S,_,_,_,g.newTy O d t (hz3 S),?_,?_,Qw _,znH,w⟩
  ·exact⟨h.next,_,if_pos rfl,rfl,λi ct hi=>by rw[Qq]; exact hi⟩
  ·intro u hu
   simp only[tagsOf,QD] at hu
   exact⟨_,by rw[za4,if_pos hu]⟩
theorem zp5 (O:XOk X) (g:G X pu base S0 h0 S h L σ e) {t:TypeId} {x:Operand} {dst:Option Tmp} (w:zzL X t x dst σ k):(∀xs,ev e x≠.tuple xs)/\zgZ X pu base S0 h0 S h L σ e .quiet k (ptr h.next 0) (h.alloc (.cells (ev e x).cells.toList t false)):=by
 unfold zzL at w
 split at w
 rotate_left
 ·grind
 rename_i d
 obtain⟨S1,σ1,v,g1,l1,gv,hv,w,_⟩:=g.openV O w
 split at w
 ·obtain⟨l,hk,gl,ll,lm,lt,nt⟩:=zis w gv hv
  refine⟨nt,S1,_,_,_,g1.newTv O d t gl lm lt,?_,?_,Qw _,zb8,hk⟩
  ·exact⟨h.next,_,if_pos rfl,rfl,λi ct hi=>by rw[Qq]; exact hi⟩
  ·intro u hu
   simp only[tagsOf,QD] at hu
   exact⟨_,by rw[za4,if_pos hu]⟩
 ·obtain⟨hk,⟨c1,c2,c3,c4⟩,_⟩:=zbE O w gv
  refine⟨c4,S1,_,_,_,g1.newTy O d t c2,?_,?_,Qw _,zb8,hk⟩
  ·exact⟨h.next,_,if_pos rfl,rfl,λi ct hi=>by rw[Qq]; exact hi⟩
  ·intro u hu
   simp only[tagsOf,QD] at hu
   exact⟨_,by rw[za4,if_pos hu]⟩
theorem zr6 (O:XOk X) {el:Nat} {lo hi:Int} (hc:ck X el=.int .u8 lo hi):und X el=some (.int .u8)/\X.fl el=[el]/\sz X el=1/\X.P.cellsOf el=1/\lo=0/\hi=255:=by
 rcases ck_int hc with ⟨_,q,_⟩ | ⟨hb,q1,q2,hu⟩
 ·grind
 have ha:isAgg X el=some false:=by grind[und,isAgg,aggT]
 have hf:=O.one el ha
 exact⟨hu,hf,by grind[sz],by rw[(O.isz (t:=el) ha).2]; grind[sz],q1,q2⟩
theorem ziw (O:XOk X) {el:Nat} {lo hi:Int} (hc:ck X el=.int .u8 lo hi) (l:List UInt8):zau X S (zaJ X el l.length) (l.map λb=>Value.int .u8 (b.toNat:Nat)):=by
 obtain⟨hu,hf,hs,_,rfl,rfl⟩:=zr6 O hc
 intro i U hU
 unfold zaJ at hU
 rw[hs,hf] at hU
 split at hU
 rotate_left
 ·grind
 rw[Nat.mod_one] at hU
 simp only[List.getElem?_cons_zero,Qa] at hU
 refine⟨.int .u8 ((l[i]).toNat:Nat),by grind,?_⟩
 grind[okC,UInt8.toNat_lt]
theorem zkM (O:XOk X) (g:G X pu base S0 h0 S h L σ e) {elem:Nat} {v:TV} {T m:Nat} {st:Option Nat} (hs:zwr X elem v=some (T,m,st)) (hT:zcj X T elem=true) (hi:(inf X elem).isSome=true) {x:Value} (gv:gam X S h L base v x) (ip:zoO σ v) (hty:∀tag,st=some tag->zbC σ tag=true):
 zjd x=some m/\m<=zbT/\∀m',m'<=m->∃new,firstC h (sz X T) m' x=some new/\new.length=m' * sz X T/\zau X S (zaJ X T m') new:=by
 have block:∀{b off n cp m' : Nat} {cc:Nat->Option Nat} {cs:List Value} {ee:TypeId} {r:Bool},h.get b=some (.cells cs ee r)->zau X S cc cs->(∀j,j < n->AtT X cc (off+j * sz X T) T)->m'<=n->∃new,firstC h (sz X T) m' (.slice (some ⟨b,off,none⟩) n cp)=some new/\new.length=m' * sz X T/\zau X S (zaJ X T m') new:=by
  intro b off n cp m' cc cs ee r hb ht ha hm
  have ha' : ∀j,j < m'->AtT X cc (off+j * sz X T) T:=by grind
  cases hz:m' * sz X T with
  | zero=>
    refine⟨[],by grind[firstC],by rfl,λi U hU=>?_⟩
    grind[zaJ]
  | succ q=>
    have hle:=zmn ht ha' (by omega)
    grind[zd8,firstC]
 unfold zwr at hs
 split at hs
 ·cases hs
  obtain⟨hn,p,cp,rfl,gv⟩:=gv
  refine⟨rfl,hn,λm' hm=>?_⟩
  rcases gv with ⟨rfl,rfl,rfl⟩ | ⟨b,off,ro,ee,cc,rfl,k1,k2,_⟩
  ·obtain rfl:m'= 0:=by omega
   exact⟨[],rfl,by simp,λi U hU=>by grind[zaJ]⟩
  ·obtain⟨_,_,cs,r,h3,_,h4⟩:=g.wt.1 b _ _ _ k1
   exact block h3 h4 k2 hm
 ·cases hs
  obtain⟨hn,b,cc,off,cp,rfl,k1,k2,k3,k4⟩:=gv
  refine⟨rfl,hn,λm' hm=>?_⟩
  obtain⟨cs,ee,h3,h4⟩:=g.typedBlk (hty _ rfl) k3
  exact block h3 h4 (by grind) hm
 ·cases hs
  obtain⟨hn,p,cp,rfl,gv⟩:=gv
  refine⟨rfl,hn,λm' hm=>?_⟩
  rcases gv with ⟨rfl,rfl,rfl⟩ | ⟨b,cc,cs,ee,rfl,k1,k2,k3,k4⟩
  ·obtain rfl:m'= 0:=by omega
   exact⟨[],rfl,by simp,λi U hU=>by grind[zaJ]⟩
  ·obtain⟨cs',ee',h3,h4⟩:=g.typedBlk (hty _ rfl) k1
   rcases k4 with ⟨_,_,_,k4⟩ | ⟨_,q,_,k4⟩
   ·exact block h3 h4 (by grind) hm
   ·exact block h3 h4 (by grind) hm
 ·rename_i s
  split at hs
  rotate_left
  ·grind
  rename_i lo hi' hc
  cases hs
  obtain⟨rfl,hz⟩:=gv
  have hbv:za8<=zbT:=by decide
  refine⟨rfl,by omega,λm' hm=>?_⟩
  obtain⟨hu,hf,hs1,_⟩:=zr6 O hc
  refine⟨_,rfl,?_,?_⟩
  ·simp_all
  ·have:=ziw (S:=S) O hc (s.extract 0 m').data.toList
   simp_all
 ·cases hs
  subst gv
  refine⟨rfl,Qg _,λm' hm=>?_⟩
  obtain rfl:m'= 0:=by omega
  exact⟨[],rfl,by simp,λi U hU=>by grind[zaJ]⟩
 ·rename_i l
  split at hs
  rotate_left
  ·grind
  rename_i lo hi' hc hsp
  cases hs
  obtain⟨hv,b,off,cp,ro,ee,cc,rfl,k1,k2,k3,k4⟩:=gv
  refine⟨rfl,hv,λm' hm=>?_⟩
  obtain⟨_,_,cs,r,h3,_,h4⟩:=g.wt.1 b _ _ _ k3
  have hs1:sz X elem=1:=zvc O hc hi
  have at' : ∀i,i < l.length->∃x:Int,cs[off+i]?= some (.int .i64 x)/\0<=x/\x < 1000000:=λi hi=>by
   obtain⟨q1,q2,q3⟩:=k4 i _ (Qe hi)
   obtain⟨y,y1,y2⟩:=h4 _ _ q1
   unfold okC at y2
   rw[zxL q2 q3] at y2
   grind
  cases hz:m' with
  | zero=>exact⟨[],by unfold firstC; rw[Nat.zero_mul],by simp,λi U hU=>by unfold zaJ at hU; rw[if_neg (by omega)] at hU; cases hU⟩
  | succ q=>
    have hle:off+m'<=cs.length:=by
     obtain⟨x,hx,_⟩:=at' q (by omega)
     have:=(Qo.1 hx).1
     omega
    refine⟨(cs.drop off).take (m' * sz X elem),?_,by simp[hs1]; omega,λi U hU=>?_⟩
    ·rw[<-hz]
     unfold firstC
     rw[hs1,Qp,hz]
     simp only[h3]
     rw[if_pos ⟨by omega,by omega⟩]
    ·unfold zaJ at hU
     rw[<-hz,hs1,Qp] at hU
     split at hU
     rotate_left
     ·cases hU
     rename_i hlt
     have hf:X.fl elem=[elem]:=by
      rcases ck_int hc with ⟨hb,_⟩ | ⟨_,_,_,hu⟩
      ·rw[hsp] at hb; cases hb
      ·have:aggT X.P elem=some false:=by unfold aggT; rw[zat hu]
       exact by grind[XOk.one,zhu]
     rw[hf,Nat.mod_one] at hU
     cases hU
     obtain⟨x,hx,x1,x2⟩:=at' i (by omega)
     unfold okC
     rcases ck_int hc with ⟨hb,_⟩ | ⟨_,q1,q2,_⟩
     ·rw[hsp] at hb; cases hb
     ·exact by grind[kLo,kHi]
 ·cases hs
end
end
end Go.Am
