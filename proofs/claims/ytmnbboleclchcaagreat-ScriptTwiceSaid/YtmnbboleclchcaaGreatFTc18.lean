/-
  Texts of this proof, part 26. No condition.
-/
import Derived.Test.YtmnbboleclchcaaGreatFTc16
set_option linter.unusedVariables false
set_option linter.unusedSimpArgs false
namespace Go.Am
section
variable {X:Cx} {S S' : TY} {h:AH} {L:Loc} {base:Nat}
section
variable {pu:Bool} {S0:TY} {h0:AH} {σ:Sx} {e:Env} {k:TV->Sx->Prop} {c:OpC}
theorem zwB {f:Operand} {f0:FuncId} {a c' : List TV} {σ:Sx} (hp:zjP X f=true) (hf:evT σ.a f=some (.fn f0 a c')):∃s,X.sp f0=some s/\s.pu=true:=by cases f<;>grind[evT,zjP]
theorem znN (O:XOk X) (V:∀f s,X.sp f=some s->Val X f s) (g:G X pu base S0 h0 S h L σ e) {d:Option Tmp} {f:Operand} {args:Array Operand} {ats:Array TypeId} {t:TypeId} {p:String} {af:Array Edge} {gd:Option (Nat×Bool)} (w:zxJ X pu f args.toList σ k):
 Wo X.P X.K ⟨d,.call ⟨.value f,args,ats⟩,t,p,af,gd⟩ e h (zgZ X pu base S0 h0 S h L σ e (match zjP X f with | true=>.quiet | false=>.wild) k):=by
 obtain⟨fv,hfv,w⟩:=zaq w
 split at w
 rotate_left
 ·grind
 obtain⟨S1,σ1,g1,l1,w⟩:=g.pubs O w
 obtain⟨fv1,hfv1,w⟩:=zaq w
 split at w
 rotate_left
 ·grind
 rename_i f0 a c' vs hvs
 obtain⟨gf,_⟩:=g1.val hfv1
 obtain⟨gvs,_⟩:=zer g1 hvs
 obtain⟨va,vc,hf,ga,gc⟩:=gf
 rw[zqX hf]
 have hpure:(match zjP X f with | true=>OpC.quiet | false=>OpC.wild)=.wild\/((match zjP X f with | true=>OpC.quiet | false=>OpC.wild)=.quiet/\∃s,X.sp f0=some s/\s.pu=true):=by grind[zwB]
 have:=znM O V g1 (vs:=va ++ args.toList.map (ev e) ++ vc) w (zcB (zcB ga gvs) gc) hpure
 refine this.mono λv h' ⟨S2,L2,σ2,tv,q1,q2,q3,q4,q5,q6⟩=>⟨S2,L2,σ2,tv,q1,q2,q3,q4,?_,q6⟩
 rcases hpure with hq | ⟨hq,_⟩
 ·rw[hq]; trivial
 ·rw[hq] at q5 ⊢; exact q5
theorem zjr (O:XOk X) (g:G X pu base S0 h0 S h L σ e) {b:Builtin} {args:Array Operand} {ats:Array TypeId} {d:Option Tmp} {t:TypeId} {p:String} {af:Array Edge} {gd:Option (Nat×Bool)} (w:zhs X pu b ats.toList args.toList d σ k):
 ∃v h',zak X.P h b ats (args.toList.map (ev e))=some (v,h')/\zgZ X pu base S0 h0 S h L σ e (opC X ⟨d,.call ⟨.builtin b,args,ats⟩,t,p,af,gd⟩ σ) k v h':=by
 unfold zhs at w
 split at w
 ·rename_i t1 x hats hargs
  obtain⟨v,hv,w⟩:=zaq w
  obtain⟨y,hy,hp⟩:=zcD g (zp4 (h:=h) O w (g.val hv).1) (λ_ q=>q) (c:=.still) (.inl rfl)
  refine⟨y,h,?_,hp⟩
  simp only[zak,hats,hargs,QE,Jk,hy,Ql]
 ·rename_i st xt s x hats hargs
  have hc:opC X ⟨d,.call ⟨.builtin .append,args,ats⟩,t,p,af,gd⟩ σ=.wild\/(opC X ⟨d,.call ⟨.builtin .append,args,ats⟩,t,p,af,gd⟩ σ=.quiet/\evT σ.a s=some .nils)\/(∃r,opC X ⟨d,.call ⟨.builtin .append,args,ats⟩,t,p,af,gd⟩ σ=.wr r/\zgg (evT σ.a s)=some r):=by grind[opC]
  obtain⟨v,h',h1,h2⟩:=zkN O g w hc
  have:ats=#[st,xt]:=by grind
  grind
 ·rename_i t1 ts d1 s hats hargs
  obtain⟨v,h',h1,h2⟩:=znK O g w
  refine⟨v,h',?_,h2⟩
  simp only[zak,hats,hargs,QE,Jk]
  omega
 ·rename_i x y hargs
  obtain⟨v,hv,w⟩:=zaq w
  obtain⟨v2,hv2,w⟩:=zaq w
  obtain⟨z,hz,hp⟩:=zcD g (zfB w (g.val hv).1 (g.val hv2).1) (λ_ q=>q) (c:=.still) (.inl rfl)
  refine⟨z,h,?_,hp⟩
  simp only[zak,hargs,QE,Jk,hz,Ql]
 ·rename_i x y hargs
  obtain⟨v,hv,w⟩:=zaq w
  obtain⟨v2,hv2,w⟩:=zaq w
  obtain⟨z,hz,hp⟩:=zcD g (zfB w (g.val hv).1 (g.val hv2).1) (λ_ q=>q) (c:=.still) (.inl rfl)
  refine⟨z,h,?_,hp⟩
  simp only[zak,hargs,QE,Jk,hz,Ql]
 grind
theorem zmt (O:XOk X) (V:∀f s,X.sp f=some s->Val X f s) (g:G X pu base S0 h0 S h L σ e) {o:Oper} (w:tOp X pu o σ k):Wo X.P X.K o e h (zgZ X pu base S0 h0 S h L σ e (opC X o σ) k):=by
 obtain⟨d,op,t,p,af,gd⟩:=o
 have val:∀{x:Operand} {v:TV} {c:OpC},evT σ.a x=some v->(c=.still\/c=.quiet)->k v σ->zgZ X pu base S0 h0 S h L σ e c k (ev e x) h:=λhv hc w=>g.still (g.val hv).1 (g.val hv).2 w hc
 cases op <;> simp only[tOp] at w <;> try exact w.elim
 case move x=>
  obtain⟨v,hv,w⟩:=zaq w
  exact WoP rfl rfl (val hv (.inl rfl) w)
 case assign x=>
  obtain⟨v,hv,w⟩:=zaq w
  exact WoP rfl rfl (val hv (.inl rfl) w)
 case pick cc x y=>
  obtain⟨v,hv,w⟩:=zaq w
  have gv:=(g.val hv).1
  split at w
  rotate_left
  ·grind
  rename_i b
  simp only[gam] at gv
  cases b with
  | true=>
    obtain⟨u,hu,w⟩:=zaq w
    refine WoP rfl (v:=ev e x) (h':=h) (by grind[aOp]) (val hu (.inl rfl) w)
  | false=>
    obtain⟨u,hu,w⟩:=zaq w
    refine WoP rfl (v:=ev e y) (h':=h) (by grind[aOp]) (val hu (.inl rfl) w)
 case alloc t'=>
  obtain⟨z,hz,hp⟩:=zmp O g w
  exact WoP rfl (by simp only[aOp,hz]; rfl) hp
 case box t' x=>
  obtain⟨nt,hp⟩:=zp5 O g w
  refine WoP rfl ?_ hp
  simp only[aOp]
  rfl
 case build t' parts=>
  obtain⟨v,h1,h2⟩:=zms O g w
  exact WoP rfl (by grind[aOp]) h2
 case buildSlice t' n parts=>
  have hc:opC X ⟨d,.buildSlice t' n parts,t,p,af,gd⟩ σ=.quiet\/∃d' vs elem,d=some d'/\evs σ.a (parts.toList.map (·.2))=some vs/\und X t'= some (.slice elem)/\tagsOfL vs=[]/\(∀k lo hi,ck X elem≠.int k lo hi)/\opC X ⟨d,.buildSlice t' n parts,t,p,af,gd⟩ σ=.mk d':=by grind[opC]
  obtain⟨v,h',h1,h2⟩:=zgj O g w hc
  exact WoP rfl (by grind[aOp]) h2
 case load t' x=>
  obtain⟨v,h1,_,tv,h2,h3,h4⟩:=ze4 O g w
  exact WoP rfl (by grind[aOp]) (g.still h2 (zaE h3) h4 (.inl rfl))
 case store t' x y=>
  have hc:opC X ⟨d,.store t' x y,t,p,af,gd⟩ σ=.wild\/(∃r,opC X ⟨d,.store t' x y,t,p,af,gd⟩ σ=.wr r/\zgg (evT σ.a x)=some r/\∀v,evT σ.a y=some v->tagsOf v=[]):=by grind[opC]
  obtain⟨h',h1,h2⟩:=zmm O g w hc
  exact WoP rfl (by grind[aOp]) h2
 case nilCheck x=>
  obtain⟨v,hv,w⟩:=zaq w
  obtain⟨gv,ip⟩:=g.val hv
  have gv0:=gv
  have ptrc:(∃b off,ev e x=ptr b off)->aOp X.P ⟨d,.nilCheck x,t,p,af,gd⟩ e h=some (ev e x,h):=by grind[aOp,ptr]
  split at w
  ·simp only[gam] at gv
   exact WoP rfl (by grind) (g.still gv0 ip w (.inl rfl))
  ·simp only[gam] at gv
   exact WoP rfl (by grind) (g.still gv0 ip w (.inl rfl))
  ·simp only[gam] at gv
   exact WoP rfl (by grind) (g.still gv0 ip w (.inl rfl))
  ·simp only[gam] at gv
   exact WoP rfl (by grind) (g.still gv0 ip w (.inl rfl))
  ·exact WoP rfl (ptrc (zeq gv)) (g.still gv0 ip w (.inl rfl))
  ·rename_i T z
   obtain⟨rfl,w⟩:=w
   exact WoP rfl (ptrc (zeq gv)) (g.still (tv:=.hp T) (by grind[gam]) (zaE rfl) w (.inl rfl))
  ·simp only[gam] at gv
   refine WoP rfl ?_ (g.still gv0 ip w (.inl rfl))
   grind[aOp]
  grind
 case binOp op t' x y yt=>
  obtain⟨v,hv,w⟩:=zaq w
  obtain⟨v2,hv2,w⟩:=zaq w
  obtain⟨z,hz,hp⟩:=zcD g (zp2 O w (g.val hv).1 (g.val hv2).1) (λ_ q=>q) (c:=.still) (.inl rfl)
  exact WoP rfl (by grind[aOp]) hp
 case unOp op t' x=>
  obtain⟨v,hv,w⟩:=zaq w
  obtain⟨z,hz,hp⟩:=zcD g (zr3 w (g.val hv).1) (λ_ q=>q) (c:=.still) (.inl rfl)
  exact WoP rfl (by grind[aOp]) hp
 case convert s' d' x=>
  obtain⟨v,h',h1,h2⟩:=znJ O g w
  exact WoP rfl (by grind[aOp]) h2
 case makeFunc fn a b=>
  split at w
  rotate_left
  ·grind
  rename_i f va vb ha hb
  obtain⟨g1,i1⟩:=zer g ha
  obtain⟨g2,i2⟩:=zer g hb
  refine WoP rfl (v:=.func (.func f) (a.map (ev e)) (b.map (ev e))) (h':=h) (by rfl) (g.still (tv:=.fn f va vb) ?_ (λu hu=>?_) w (.inl rfl))
  ·grind[gam,Value.func.injEq]
  ·simp only[tagsOf,QI] at hu
   have key:∀{l:List TV},(∀v∈l,zoO σ v)->u∈tagsOfL l->∃c,zaD σ.pv u=some c:=by
    intro l
    induction l with
    | nil=>grind[tagsOfL]
    | cons v l ih=>
      intro hl q
      simp only[tagsOfL,QI] at q
      rcases q with q | q
      ·exact hl v (by simp) u q
      grind
   grind
 case makeSlice t' l c'=>
  obtain⟨v,hv,w⟩:=zaq w
  obtain⟨v2,hv2,w⟩:=zaq w
  obtain⟨y,h',h1,h2⟩:=znL O g w (g.val hv).1 (g.val hv2).1
  exact WoP rfl (by grind[aOp]) h2
 case slice t' x lo hi mx=>
  have hc:opC X ⟨d,.slice t' x lo hi mx,t,p,af,gd⟩ σ=.quiet\/(opC X ⟨d,.slice t' x lo hi mx,t,p,af,gd⟩ σ=.still/\∀v,evT σ.a x=some v->tagsOf v=[]):=by
   simp only[opC]
   split
   ·simp
   ·simp
   ·simp
   ·simp
   ·simp
   ·simp
   ·simp
   ·rename_i q1 q2 q3 q4 q5 q6 q7
    refine .inr ⟨rfl,λv hv=>?_⟩
    cases v <;> first | rfl | grind | grind | grind | grind | grind | grind | grind
  obtain⟨v,h1,h2⟩:=zmq O g w hc
  exact WoP rfl (by grind[aOp]) h2
 case fieldAddr s x f=>
  obtain⟨v,hv,w⟩:=zaq w
  obtain⟨gv,ip⟩:=g.val hv
  obtain⟨z,hz,hp⟩:=zjS g (zg8 O w gv ip) (λ_ q=>q) (c:=.still) (.inl rfl)
  exact WoP rfl (by grind[aOp]) hp
 case field t' x f=>
  obtain⟨v,hv,w⟩:=zaq w
  obtain⟨gv,ip⟩:=g.val hv
  split at w
  rotate_left
  ·grind
  rename_i ht
  obtain⟨z,hz,hp⟩:=zcD g (zmi O w gv ht) (λ_ q=>q) (c:=.still) (.inl rfl)
  exact WoP rfl (by grind[aOp]) hp
 case indexAddr t' x i=>
  obtain⟨v,hv,w⟩:=zaq w
  obtain⟨v2,hv2,w⟩:=zaq w
  obtain⟨gv,ip⟩:=g.val hv
  obtain⟨z,hz,hp⟩:=zjS g (zg9 O w gv (g.val hv2).1 ip) (λ_ q=>q) (c:=.still) (.inl rfl)
  exact WoP rfl (by grind[aOp]) hp
 case index t' x i=>
  obtain⟨v,hv,w⟩:=zaq w
  obtain⟨v2,hv2,w⟩:=zaq w
  obtain⟨z,hz,hp⟩:=zcD g (zmj O w (g.val hv).1 (g.val hv2).1) (λ_ q=>q) (c:=.still) (.inl rfl)
  exact WoP rfl (by grind[aOp]) hp
 case extract t' i=>
  obtain⟨v,hv,w⟩:=zaq w
  obtain⟨gv,ip⟩:=g.val hv
  split at w
  rotate_left
  ·grind
  obtain⟨u,hu,w⟩:=zaq w
  obtain⟨vs,hx,hsk,gl⟩:=gv
  obtain⟨y,hy,gy⟩:=zcR gl hu
  refine WoP rfl (v:=y) (h':=h) ?_ (g.still gy (λq hq=>ip q ?_) w (.inl rfl))
  ·grind[aOp]
  ·simp only[tagsOf]
   have key:∀{l:List TV} {i:Nat},l[i]?= some u->q∈tagsOfL l:=by
    intro l
    induction l<;>grind[tagsOfL]
   grind
 case call cl=>
  obtain⟨callee,args,ats⟩:=cl
  cases callee with
  | value f=>
    have:=znN O V g (d:=d) (ats:=ats) (t:=t) (p:=p) (af:=af) (gd:=gd) w
    exact this
  | builtin b=>
    obtain⟨v,h',h1,h2⟩:=zjr O g (t:=t) (p:=p) (af:=af) (gd:=gd) w
    exact WoP rfl (by grind[aOp]) h2
  | invoke r m=>grind
end
end
section
variable {X:Cx} {S S' : TY} {h:AH} {L:Loc} {base:Nat}
section
variable {pu:Bool} {S0:TY} {h0:AH} {σ:Sx} {e:Env} {c:OpC}
theorem zsa (g:G X pu base S0 h0 S h L σ e) {ops:Array Oper} {o:Oper} {A B:Prop} (w:tG ops o σ A B):(zaI ops o e=some true/\A)\/(zaI ops o e=some false/\B):=by grind[tG,zaI,G.sl,gam,isSkip]
theorem G.skip (g:G X pu base S0 h0 S h L σ e) (d:Option Tmp):G X pu base S0 h0 S h L (zu8 σ d .skip) (putO e d zdq):=g.put d (by rfl) (zaE rfl)
theorem zsb {σ:Sx} {d:Option Tmp} {v:TV}:(zu8 σ d v).pv=σ.pv:=by cases d <;> rfl
theorem zgk (O:XOk X) (V:∀f s,X.sp f=some s->Val X f s) {ops:Array Oper}:∀{os:List Oper} {S:TY} {h:AH} {L:Loc} {σ:Sx} {e:Env} {k:Sx->Prop},G X pu base S0 h0 S h L σ e->zze X pu ops os σ k->
 Ws X.P X.K ops os e h λe' h'=>∃S' L' σ',G X pu base S0 h0 S' h' L' σ' e'/\k σ'
 | [],S,h,L,σ,e,k,g,w=>zqV.2 ⟨S,L,σ,g,w⟩
 | o :: os,S,h,L,σ,e,k,g,w=>by
   rcases zsa g w with ⟨hw,w⟩ | ⟨hw,w⟩
   ·refine (zxr hw).2 ?_
    obtain⟨n,v,h',hr,S',L',σ',tv,g',gv,ip,hn,hc,hk⟩:=zmt O V g w
    exact⟨n,v,h',hr,zgk O V (g'.put o.dst gv ip) hk⟩
   ·exact (zqW hw).2 (zgk O V (g.skip o.dst) w)
theorem znO {P:Program} {t:TypeId} {x:Value} {lo hi mx:Option Value} {v:Value} (w:zay P h t x lo hi mx=some v):zbi v=true:=by
 unfold zay at w
 repeat' split at w
 all_goals first | (cases w; done) | (cases w; rfl)
theorem zp6 {P:Program} {t:TypeId} {x:Value} {lo hi mx:Option Value} {h2:AH} (hg:∀b off n c,x=.slice (some ⟨b,off,none⟩) n c->h2.get b=h.get b):zay P h2 t x lo hi mx=zay P h t x lo hi mx:=by
 unfold zay
 grind
theorem zun (O:XOk X) (g:G X pu base S0 h0 S h L σ e) {o:Oper} {k:TV->Sx->Prop} (w:tOp X pu o σ k) {rr:Option Reg} (hr:rdR X o σ=some rr) {v:Value} {h' : AH} (ha:aOp X.P o e h=some (v,h')):
 eqV v v=true/\(∃d,o.dst=some d)/\∀h2:AH,(∀rg,rr=some rg->∀b,ziu S L rg b->h2.get b=h.get b)->∃h3,aOp X.P o e h2=some (v,h3):=by
 obtain⟨d,op,t,p,af,gd⟩:=o
 unfold rdR at hr
 cases d with
 | none=>grind
 | some d0=>
 cases op <;> simp only at hr <;> try grind
 case load t' x=>
  obtain⟨v',h1,h2,_⟩:=ze4 O g w
  simp only[aOp,h1,Ql,Qa,Qf] at ha
  obtain⟨rfl,rfl⟩:=ha
  refine⟨h2,⟨d0,rfl⟩,λhh hg=>⟨hh,?_⟩⟩
  obtain⟨pv,hp,w⟩:=zaq w
  obtain⟨gp,_⟩:=g.val hp
  rw[hp] at hr
  cases hq:zgg (some pv) with
  | none=>grind
  | some rg=>
    rw[hq] at hr
    simp only[Ql,Qa] at hr
    have key:∀b off,ev e x=ptr b off->hh.get b=h.get b:=λb off hx=>by
     refine hg rg hr.symm b (zml hq gp (.inl hx) λT hT=>?_)
     grind
    have hl:zbL X.P hh t' (ev e x)=zbL X.P h t' (ev e x):=by
     unfold zbL
     split
     ·rename_i b off hx
      rw[key b off hx]
     rfl
    grind[aOp]
 case slice t' x lo hi mx=>
  simp only[aOp] at ha
  cases hs:zay X.P h t' (ev e x) (lo.map (ev e)) (hi.map (ev e)) (mx.map (ev e)) with
  | none=>grind
  | some v0=>
    rw[hs] at ha
    obtain⟨rfl,rfl⟩:=ha
    refine⟨zd5 (znO hs),⟨d0,rfl⟩,λhh hg=>⟨hh,?_⟩⟩
    have key:∀b off n c,ev e x=.slice (some ⟨b,off,none⟩) n c->hh.get b=h.get b:=λb off n c hx=>by
     cases hv:evT σ.a x with
     | none=>grind
     | some u=>
       obtain⟨gu,_⟩:=g.val hv
       rw[hv] at hr
       cases u <;> simp only at hr <;> try grind
       case str=>grind[gam]
       case nils=>grind[gam]
       case sl w' fr kc T n' _=>
        cases hr
        exact hg _ rfl b (zml (v:=.sl w' fr kc T n') rfl gu (.inr ⟨n,c,hx⟩) λT' q=>by grind)
    grind[aOp,zp6]
 case convert s' d' x=>
  simp only[aOp] at ha ⊢
  cases hu:X.P.underlying d' with
  | none=>grind
  | some dd=>
    rw[hu] at hr
    cases dd <;> simp only at hr <;> try grind
    case int kd=>
     unfold zav at ha
     rw[hu] at ha
     cases hus:X.P.underlying s' with
     | none=>grind
     | some sd=>
       rw[hus] at ha
       cases sd <;> simp only at ha <;> try grind
       cases hx:ev e x <;> rw[hx] at ha <;> simp only at ha <;> try grind
       cases ha
       exact⟨zd5 rfl,⟨d0,rfl⟩,λhh _=>⟨hh,by unfold zav; grind⟩⟩
    case string=>
     unfold zav at ha
     rw[hu] at ha
     cases hus:X.P.underlying s' with
     | none=>grind
     | some sd=>
       rw[hus] at ha
       cases sd <;> simp only at ha <;> try grind
       case string=>
        cases hx:ev e x <;> rw[hx] at ha <;> simp only at ha <;> try grind
        cases ha
        exact⟨zd5 rfl,⟨d0,rfl⟩,λhh _=>⟨hh,by unfold zav; grind⟩⟩
       case slice el=>
        cases hx:ev e x <;> rw[hx] at ha <;> simp only at ha <;> try grind
        rename_i a n c
        split at ha
        rotate_left
        ·grind
        split at ha
        rotate_left
        ·grind
        split at ha
        rotate_left
        ·grind
        cases ha
        refine⟨zd5 rfl,⟨d0,rfl⟩,λhh hg=>⟨hh,?_⟩⟩
        have key:∀b off,a=some ⟨b,off,none⟩->hh.get b=h.get b:=λb off hab=>by
         cases hv:evT σ.a x with
         | none=>grind
         | some u=>
           obtain⟨gu,_⟩:=g.val hv
           rw[hv] at hr
           cases u <;> simp only at hr <;> try grind
           case str=>grind[gam]
           case sl w' fr kc T n' _=>
            cases hr
            exact hg _ rfl b (zml (v:=.sl w' fr kc T n') rfl gu (.inr ⟨n,c,by rw[hx,hab]⟩) λT' q=>by grind)
           case ap tag T n' kc _=>
            cases hr
            exact hg _ rfl b (zml (v:=.ap tag T n' kc) rfl gu (.inr ⟨n,c,by rw[hx,hab]⟩) λT' q=>by grind)
        have hf:firstC hh 1 n (.slice a n c)=firstC h 1 n (.slice a n c):=by
         unfold firstC
         grind
        unfold zav
        grind
 case call cl=>
  obtain⟨callee,args,ats⟩:=cl
  cases callee <;> simp only at hr <;> try grind
  rename_i b
  cases b <;> simp only at hr <;> try grind
  simp only[tOp] at w
  have hw:∃t1 x v,ats.toList=[t1]/\args.toList=[x]/\∃q,zxH X t1 v q:=by
   rcases hA:ats.toList with _ | ⟨t1,_ | ⟨t2,ts⟩⟩ <;> rcases hB:args.toList with _ | ⟨x,_ | ⟨y,ys⟩⟩ <;> rw[hA,hB] at w <;> simp only[zhs] at w <;> try exact w.elim
   grind[zaq]
  obtain⟨t1,x,v1,hats,hargs,q,wl⟩:=hw
  simp only[aOp,zak,hats,hargs,QE,Jk] at ha ⊢
  cases hl:zjz X.P h t1 (ev e x) with
  | none=>grind
  | some v0=>
    rw[hl] at ha
    simp only[Ql,Qa,Qf] at ha
    obtain⟨rfl,rfl⟩:=ha
    have hself:zbi v0=true:=by
     unfold zjz at hl
     repeat' split at hl
     all_goals first | (cases hl; done) | (cases hl; rfl)
    refine⟨zd5 hself,⟨d0,rfl⟩,λhh _=>⟨hh,?_⟩⟩
    have:zjz X.P hh t1 (ev e x)=zjz X.P h t1 (ev e x):=by
     unfold zxH at wl
     unfold zjz
     grind[zat]
    grind
end
end
section
variable {X:Cx}
section
variable {pu:Bool} {base:Nat} {S0:TY} {h0:AH}
def zvd (cl:OpC×Option (Option Reg)) (σ:Sx):Prop:=(∀tag,cl.1=.wr (.prv tag)->∃c,zaD σ.pv tag=some c)/\∀tag,cl.2=some (some (.prv tag))->∃c,zaD σ.pv tag=some c
theorem zkO {S:TY} {h:AH} {L:Loc} {σ:Sx} {e:Env} (g:G X pu base S0 h0 S h L σ e) {x:Operand} {tag:Nat} (hr:zgg (evT σ.a x)=some (.prv tag)):∃c,zaD σ.pv tag=some c:=by
 cases hv:evT σ.a x with
 | none=>rw[hv] at hr; cases hr
 | some v=>
   rw[hv] at hr
   obtain⟨_,ip⟩:=g.val hv
   cases v <;> simp only[zgg] at hr <;> try grind
   all_goals (cases hr; exact ip tag (by simp[tagsOf]))
theorem zwC {S:TY} {h:AH} {L:Loc} {σ:Sx} {e:Env} (g:G X pu base S0 h0 S h L σ e) (o:Oper):zvd (opC X o σ,rdR X o σ) σ:=by
 obtain⟨d,op,t,p,af,gd⟩:=o
 constructor
 ·intro tag hq
  cases op <;> simp only[opC] at hq <;> try grind
  case store t' x y=>grind[zkO]
  case alloc t'=>unfold zzN at hq; grind
  all_goals grind[zkO]
 ·intro tag hq
  unfold rdR at hq
  cases d with
  | none=>grind
  | some d=>
    cases op <;> simp only at hq <;> try (cases hq; done)
    case load t' x=>cases hr:zgg (evT σ.a x)<;>grind[zkO]
    case slice t' x lo hi mx=>grind
    case convert s' d' x=>
     split at hq
     ·grind
     ·split at hq
      ·grind
      ·rename_i tg _ _ _ hv
       cases hq
       exact zkO (x:=x) g (by rw[hv]; rfl)
      all_goals grind
     grind
    grind
end
structure znP (X:Cx) (pu:Bool) (base:Nat) (S0:TY) (h0:AH) (ops:Array Oper) where
 E:Nat->Env
 H:Nat->AH
 S:Nat->TY
 L:Nat->Loc
 σ:Nat->Sx
def zve (X:Cx) (ops:Array Oper) (j:Nat) (e e' : Env) (h h' : AH) (S S' : TY) (L L' : Loc) (σ σ' : Sx) (cl:OpC×Option (Option Reg)):Prop:=
 zvd cl σ/\∃o,ops[j]?= some o/\h.next<=h'.next/\Chg cl.1 S h L σ S' h' L' σ'/\
  (zaI ops o e=some false\/(zaI ops o e=some true/\∃v,e'= putO e o.dst v/\∀rr,cl.2=some rr->eqV v v=true/\(∃d,o.dst=some d)/\∀h2:AH,(∀rg,rr=some rg->∀b,ziu S L rg b->h2.get b=h.get b)->∃h3,aOp X.P o e h2=some (v,h3)))
structure zb4 {X:Cx} {pu:Bool} {base:Nat} {S0:TY} {h0:AH} {ops:Array Oper} (t:znP X pu base S0 h0 ops) (js:List Nat) (l:List (Env×AH)) (cl:List (OpC×Option (Option Reg))):Prop where
 len:l.length=js.length+1
 clen:cl.length=js.length
 at' : ∀i,i<=js.length->l[i]?= some (t.E i,t.H i)/\G X pu base S0 h0 (t.S i) (t.H i) (t.L i) (t.σ i) (t.E i)
 step:∀i j q,js[i]?= some j->cl[i]?= some q->zve X ops j (t.E i) (t.E (i+1)) (t.H i) (t.H (i+1)) (t.S i) (t.S (i+1)) (t.L i) (t.L (i+1)) (t.σ i) (t.σ (i+1)) q
section
variable {pu:Bool} {base:Nat} {S0:TY} {h0:AH} {ops:Array Oper}
def znP.cons (t:znP X pu base S0 h0 ops) (e:Env) (h:AH) (S:TY) (L:Loc) (σ:Sx):znP X pu base S0 h0 ops where
 E:=λi=>match i with | 0=>e | i+1=>t.E i
 H:=λi=>match i with | 0=>h | i+1=>t.H i
 S:=λi=>match i with | 0=>S | i+1=>t.S i
 L:=λi=>match i with | 0=>L | i+1=>t.L i
 σ:=λi=>match i with | 0=>σ | i+1=>t.σ i
theorem zb4.cons {t:znP X pu base S0 h0 ops} {j:Nat} {js:List Nat} {l:List (Env×AH)} {cl:List (OpC×Option (Option Reg))} (k:zb4 t js l cl) {e:Env} {h:AH} {S:TY} {L:Loc} {σ:Sx} {q:OpC×Option (Option Reg)} (g:G X pu base S0 h0 S h L σ e)
 (s:zve X ops j e (t.E 0) h (t.H 0) S (t.S 0) L (t.L 0) σ (t.σ 0) q):zb4 (t.cons e h S L σ) (j :: js) ((e,h) :: l) (q :: cl) where
 len:=by grind[len]
 clen:=by grind[clen]
 at':=λi hi=>by
  cases i with
  | zero=>exact⟨rfl,g⟩
  | succ i=>exact k.at' i (by grind)
 step:=λi j' q' h1 h2=>by
  cases i with
  | zero=>simp at h1 h2; subst h1; subst h2; exact s
  | succ i=>exact k.step i j' q' (by grind) (by grind)
theorem zxO {o:Oper} {e:Env} {h:AH} {Q:Value->AH->Prop} (w:Wo X.P X.K o e h Q):Wo X.P X.K o e h λv h'=>Q v h'/\(zfp o.op=false->aOp X.P o e h=some (v,h')):=by
 obtain⟨n,v,h',hr,hq⟩:=w
 exact⟨n,v,h',hr,hq,by grind[zdw]⟩
theorem zuo {o:Oper} {σ:Sx} {rr:Option Reg} (h:rdR X o σ=some rr):zfp o.op=false:=by
 obtain⟨d,op,t,p,af,gd⟩:=o
 unfold rdR at h
 cases d with
 | none=>grind
 | some d=>
   cases op <;> first | rfl | skip
   rename_i cl
   obtain⟨callee,args,ats⟩:=cl
   cases callee <;> first | rfl | grind
theorem zkP (O:XOk X) (V:∀f s,X.sp f=some s->Val X f s):∀{js:List Nat} {S:TY} {h:AH} {L:Loc} {σ:Sx} {e:Env} {k:List (OpC×Option (Option Reg))->Sx->Prop},G X pu base S0 h0 S h L σ e->tL X pu ops js σ k->
 Wl X.P X.K ops js e h λl=>∃(t:znP X pu base S0 h0 ops) (cl:List (OpC×Option (Option Reg))),zb4 t js l cl/\t.E 0=e/\t.H 0=h/\t.S 0=S/\t.L 0=L/\t.σ 0=σ/\k cl (t.σ js.length)
 | [],S,h,L,σ,e,k,g,w=>by
   rw[zu0]
   exact⟨⟨λ_=>e,λ_=>h,λ_=>S,λ_=>L,λ_=>σ⟩,[],⟨rfl,rfl,by grind,by simp⟩,rfl,rfl,rfl,rfl,rfl,w⟩
 | j :: js,S,h,L,σ,e,k,g,w=>by
   rw[zng]
   unfold tL at w
   cases ho:ops[j]? with
   | none=>grind
   | some o=>
     rw[ho] at w
     rw[zou,zvW]
     rcases zsa g w with ⟨hw,w⟩ | ⟨hw,w⟩
     ·rw[hw]
      obtain⟨n,v,h',hr,⟨S',L',σ',tv,g',gv,ip,hn,hc,hk⟩,hp⟩:=zxO (zmt O V g w)
      refine⟨n,v,h',hr,?_⟩
      obtain⟨m,l,hl,t,cl,tk,e1,e2,e3,e4,e5,e6⟩:=zkP O V (g'.put o.dst gv ip) hk
      refine⟨m,l,hl,t.cons e h S L σ,_,tk.cons (q:=(opC X o σ,rdR X o σ)) g ⟨zwC g o,o,ho,by grind,?_,.inr ⟨hw,v,e1,by grind[zun,zuo]⟩⟩,rfl,rfl,rfl,rfl,rfl,e6⟩
      rw[e2,e3,e4,e5]
      cases hcc:opC X o σ <;> rw[hcc] at hc <;> simp only[Chg,zsb] at hc ⊢ <;> exact hc
     ·rw[hw]
      obtain⟨m,l,hl,t,cl,tk,e1,e2,e3,e4,e5,e6⟩:=zkP O V (g.skip o.dst) w
      refine⟨m,l,hl,t.cons e h S L σ,_,tk.cons (q:=(.still,some none)) g ⟨⟨by simp,by simp⟩,o,ho,by grind,?_,.inl hw⟩,rfl,rfl,rfl,rfl,rfl,e6⟩
      rw[e2,e3,e4,e5]
      exact⟨rfl,rfl,rfl,zsb⟩
variable {t:znP X pu base S0 h0 ops} {js:List Nat} {l:List (Env×AH)} {cl:List (OpC×Option (Option Reg))}
theorem zb4.next_le (k:zb4 t js l cl):∀{i j:Nat},i<=j->j<=js.length->(t.H i).next<=(t.H j).next:=by
 intro i j hij
 induction hij with
 | refl=>omega
 | step hm ih=>
   rename_i m
   intro hj
   have h1:m < js.length:=hj
   obtain⟨_,o,_,hn,_⟩:=k.step m _ _ (Qe h1) (Qe (by grind[clen]))
   grind
theorem zb4.quiet (k:zb4 t js l cl) {p:Nat}:∀{q:Nat},p<=q->q<=js.length->(∀i x,p<=i->i < q->cl[i]?= some x->zwv x.1=true)->∀b,b < (t.H p).next->(t.H q).get b=(t.H p).get b:=by
 intro q hpq
 induction hpq with
 | refl=>simp
 | step hm ih=>
   rename_i m
   intro hq hc b hb
   have h1:m < js.length:=hq
   have hx:=Qe (l:=cl) (i:=m) (by grind[clen])
   obtain⟨_,o,_,hn,hch,_⟩:=k.step m _ _ (Qe h1) hx
   rw[<-ih (Nat.le_of_lt h1) (by grind) b hb]
   have hnr:=hc m _ hm (Je m) hx
   generalize (cl[m]'(by grind)).1=oc at hch hnr
   have hlt:=Qi hb (k.next_le hm (Nat.le_of_lt h1))
   cases oc with
   | still=>rw[hch.1]
   | quiet=>exact hch b hlt
   | mk d=>exact hch.1 b hlt
   | wild=>cases hnr
   | wr r=>cases hnr
theorem zb4.near (k:zb4 t js l cl) {p:Nat} {r:Reg} (hr:∀tag,r=.prv tag->∃c,zaD (t.σ p).pv tag=some c) (hb:∀b,ziu (t.S p) (t.L p) r b->b < (t.H p).next):∀{q:Nat},p<=q->q<=js.length->(∀i x,p<=i->i < q->cl[i]?= some x->zrW r x.1=true)->
 (∀b,ziu (t.S p) (t.L p) r b->(t.H q).get b=(t.H p).get b/\ziu (t.S q) (t.L q) r b)/\∀tag,r=.prv tag->∃c,zaD (t.σ q).pv tag=some c:=by
 intro q hpq
 induction hpq with
 | refl=>grind
 | step hm ih=>
   rename_i m
   intro hq hc
   have h1:m < js.length:=hq
   have hx:=Qe (l:=cl) (i:=m) (by grind[clen])
   obtain⟨_,o,_,hn,hch,_⟩:=k.step m _ _ (Qe h1) hx
   obtain⟨a1,a2⟩:=ih (Nat.le_of_lt h1) (by grind)
   have hnr:=hc m _ hm (Je m) hx
   generalize (cl[m]'(by grind)).1=oc at hch hnr
   cases oc with
   | still=>
     obtain⟨b1,b2,b3,b4⟩:=hch
     grind
   | mk d=>
     obtain⟨b1,b2,b3,b4⟩:=hch
     refine⟨λb hbb=>?_,λtag ht=>?_⟩
     ·obtain⟨c1,c2⟩:=a1 b hbb
      refine⟨by grind[Qi,next_le],?_⟩
      rw[b2]
      cases r with
      | pub=>exact c2
      | prv tg=>
        simp only[zrW,QJ] at hnr
        obtain⟨c,hcc⟩:=c2
        exact⟨c,by grind[QG]⟩
     grind[zrW,QG]
   | quiet=>cases hnr
   | wild=>cases hnr
   | wr r=>cases hnr
theorem zsc {S:TY} {h:AH} {L:Loc} {σ:Sx} {e:Env} (g:G X pu base S0 h0 S h L σ e) {r r' : Reg} (ha:zoN r r'= true) (hr:∀tag,r=.prv tag->∃c,zaD σ.pv tag=some c) (hr' : ∀tag,r'= .prv tag->∃c,zaD σ.pv tag=some c) {b:Nat} (hb:ziu S L r b):¬ziu S L r' b:=by
 intro hb'
 cases r with
 | prv t1=>
   obtain⟨c1,h1⟩:=hb
   obtain⟨p1,hp1⟩:=hr t1 rfl
   cases r' with
   | prv t2=>
     obtain⟨c2,h2⟩:=hb'
     grind[G.inj,zoN,QG]
   | pub=>
     obtain⟨q,hq⟩:=hb'
     have:=((g.pv t1 p1 hp1).prv h1).2.2.1
     grind
 | pub=>
   obtain⟨q,hq⟩:=hb
   cases r' with
   | prv t2=>
     obtain⟨c2,h2⟩:=hb'
     obtain⟨p2,hp2⟩:=hr' t2 rfl
     have:=((g.pv t2 p2 hp2).prv h2).2.2.1
     grind
   | pub=>cases ha
theorem zoT {S:TY} {h:AH} {L:Loc} {σ:Sx} {e:Env} (g:G X pu base S0 h0 S h L σ e) {r:Reg} (hr:∀tag,r=.prv tag->∃c,zaD σ.pv tag=some c) {b:Nat} (hb:ziu S L r b):b < h.next:=by
 cases r with
 | prv t1=>
   obtain⟨c1,h1⟩:=hb
   obtain⟨p1,hp1⟩:=hr t1 rfl
   exact ((g.pv t1 p1 hp1).prv h1).2.1
 | pub=>
   obtain⟨⟨ro,ee,cc⟩,hq⟩:=hb
   exact (g.wt.1 _ _ _ _ hq).1
theorem zvf {α:Type} {f:α->Bool} {l:List α} {p n i:Nat} {x:α} (h:((l.drop p).take n).all f=true) (h1:p<=i) (h2:i < p+n) (hx:l[i]?= some x):f x=true:=by
 refine Qz.1 h x (QP (i:=i - p) ?_)
 grind
theorem zwD (k:zb4 t js l cl) {p q:Nat} (hp:zww cl p q=true):za6 X.P ops js l p q=true/\za6 X.P ops js l p (q+1)=true:=by
 unfold zww at hp
 have hpq:p < q/\q < cl.length/\∃rr,(cl[p]?).map (·.2)=some (some rr)/\∀r,rr=some r->((cl.drop p).take (q - p+1)).all (λc=>zwv c.1)=true\/(((cl.drop p).take (q - p)).all (λc=>zrW r c.1)=true/\∃r' z,cl[q]?= some (.wr r',z)/\zoN r r'= true):=by
  split at hp
  ·rename_i h1 h2
   exact⟨by simp_all,by simp_all,none,h2,λr q=>by grind⟩
  ·rename_i r h1 h2
   refine⟨by simp_all,by simp_all,some r,h2,λr2 q=>?_⟩
   grind
  grind
 obtain⟨hlt,hql,rr,hrr,hr⟩:=hpq
 have hql' : q < js.length:=by grind[zb4.clen]
 have hx:=Qe (l:=cl) (i:=p) (by omega)
 rw[hx,Ql,Qa] at hrr
 obtain⟨tg,o,ho,hn,hch,hw⟩:=k.step p _ _ (Qe (by omega)) hx
 obtain⟨lp,gp⟩:=k.at' p (by omega)
 obtain⟨lp1,_⟩:=k.at' (p+1) (by omega)
 have key:∀q',q'= q\/q'= q+1->za6 X.P ops js l p q'= true:=by
  intro q' hq'
  obtain⟨lq,gq⟩:=k.at' q' (by omega)
  unfold za6
  rw[Qe (l:=js) (i:=p) (by omega)]
  simp only[Option.bind_some]
  rw[ho,lp,lp1,lq]
  simp only
  rcases hw with hw | ⟨hw,v,he,hread⟩
  ·grind
  ·rw[hw]
   obtain⟨hself,⟨d,hd⟩,hrd⟩:=hread rr hrr
   have same:∀rg,rr=some rg->∀b,ziu (t.S p) (t.L p) rg b->(t.H q').get b=(t.H p).get b:=by
    intro rg hrg b hb
    have tgr:∀tag,rg=.prv tag->∃c,zaD (t.σ p).pv tag=some c:=λtag ht=>tg.2 tag (by grind)
    have hbl:=zoT gp tgr hb
    rcases hr rg hrg with ha | ⟨ha,r',z,hz,hap⟩
    ·refine k.quiet (q:=q') (by omega) (by omega) (λi x h1 h2 hxi=>?_) b hbl
     grind[zvf]
    ·obtain⟨a1,a2⟩:=k.near (p:=p) (q:=q) tgr (λb hb=>zoT gp tgr hb) (by omega) (by omega) (by grind[zvf])
     obtain⟨c1,c2⟩:=a1 b hb
     rcases hq' with rfl | rfl
     ·omega
     ·obtain⟨tgq,oq,_,_,hchq,_⟩:=k.step q _ _ (Qe hql') hz
      obtain⟨_,gqq⟩:=k.at' q (by omega)
      rw[<-c1]
      exact hchq b (Qi hbl (k.next_le (by omega) (by omega))) (zsc gqq hap a2 (λtag ht=>tgq.1 tag (by grind)) c2)
   obtain⟨h3,ha⟩:=hrd (t.H q') same
   grind[zdT,zdH,Tr.get_set]
 grind
theorem znQ (O:XOk X) (V:∀f s,X.sp f=some s->Val X f s) {S:TY} {h:AH} {L:Loc} {σ:Sx} {e:Env} {k:Sx->Prop} (g:G X pu base S0 h0 S h L σ e) (w:zwx X pu ops σ k):
 Wd X.P X.K ops e h λe' h'=>∃S' L' σ',G X pu base S0 h0 S' h' L' σ' e'/\k σ':=by
 unfold zwx at w
 split at w
 rotate_left
 ·grind
 rename_i ord ps hpl
 rw[zq0 hpl]
 obtain⟨n,l,hl,t,cl,tk,_,_,_,_,_,hk⟩:=zkP O V g w
 refine⟨n,l,hl,?_,?_⟩
 ·split at hk
  ·refine Qz.2 λp hp=>?_
   grind[zwD]
  grind
 ·obtain⟨hlast,glast⟩:=tk.at' ord.length (Qc _)
  grind[zb4.len]
end
end
end Go.Am
