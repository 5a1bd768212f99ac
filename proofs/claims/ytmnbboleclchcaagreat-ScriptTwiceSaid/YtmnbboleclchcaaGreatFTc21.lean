/-
  Texts of this proof, part 27. No condition.
-/
import Derived.Test.YtmnbboleclchcaaGreatFTc18
set_option linter.unusedVariables false
set_option linter.unusedSimpArgs false
namespace Go.Am
section
variable {X:Cx} {S S' : TY} {h:AH} {L:Loc} {base:Nat}
theorem zcE {a b:Bool} (h:znB a b=true) (q:a=true):b=true:=by grind[znB]
theorem zwE {a T n:Nat} {z z' : Bool} {x:Value} (hz:z=true->z'= true) (g:gam X S h L base (.ap a T n z') x):gam X S h L base (.ap a T n z) x:=by grind[gam]
mutual
theorem zmu:∀(v w:TV) (q:Prop) (x:Value),zgX v w q->gam X S h L base w x->q/\gam X S h L base v x/\∀u,u∈tagsOf v->u∈tagsOf w
 | .int k a,w,q,x,e,g=>by
   unfold zgX at e
   cases w <;> simp only at e <;> try exact e.elim
   split at e
   rotate_left
   ·exact e.elim
   rename_i hk
   have hk:=of_decide_eq_true hk
   subst hk
   obtain⟨rfl,hq⟩:=e
   exact⟨hq,g,λu hu=>hu⟩
 | .bool b,w,q,x,e,g=>by
   unfold zgX at e
   cases w <;> simp only at e <;> try exact e.elim
   obtain⟨rfl,hq⟩:=e
   exact⟨hq,g,λu hu=>hu⟩
 | .str b,w,q,x,e,g=>by
   unfold zgX at e
   cases w <;> simp only at e <;> try exact e.elim
   obtain⟨rfl,hq⟩:=e
   exact⟨hq,g,λu hu=>hu⟩
 | .nilp,w,q,x,e,g=>by
   unfold zgX at e
   cases w <;> simp only at e <;> try exact e.elim
   exact⟨e,g,λu hu=>hu⟩
 | .nils,w,q,x,e,g=>by
   unfold zgX at e
   cases w <;> simp only at e <;> try exact e.elim
   exact⟨e,g,λu hu=>hu⟩
 | .loc a b c,w,q,x,e,g=>by
   unfold zgX at e
   cases w <;> simp only at e <;> try exact e.elim
   split at e
   rotate_left
   ·exact e.elim
   rename_i hk
   simp only[Qd] at hk
   have h1:=Qb hk.1.1
   have h2:=Qb hk.1.2
   have h3:=Qb hk.2
   subst h1; subst h2; subst h3
   exact⟨e,g,λu hu=>hu⟩
 | .pp a b,w,q,x,e,g=>by
   unfold zgX at e
   cases w <;> simp only at e <;> try exact e.elim
   split at e
   rotate_left
   ·exact e.elim
   rename_i hk
   simp only[Qd] at hk
   have h1:=Qb hk.1
   have h2:=Qb hk.2
   subst h1; subst h2
   exact⟨e,g,λu hu=>hu⟩
 | .cp a b c,w,q,x,e,g=>by
   unfold zgX at e
   cases w <;> simp only at e <;> try exact e.elim
   split at e
   rotate_left
   ·exact e.elim
   rename_i hk
   simp only[Qd] at hk
   have h3:=Qb hk.2
   subst h3
   refine⟨e,?_,λu hu=>by simp[tagsOf] at hu⟩
   simp only[gam] at g ⊢
   obtain⟨b',off,ro,ee,cc,k1,k2,k3,k4,k5⟩:=g
   exact⟨b',off,ro,ee,cc,k1,k2,k3,λq=>k4 (zcE hk.1.1 q),λq=>k5 (zcE hk.1.2 q)⟩
 | .hp a,w,q,x,e,g=>by
   unfold zgX at e
   cases w <;> simp only at e <;> try exact e.elim
   split at e
   rotate_left
   ·exact e.elim
   rename_i hk
   have h1:=Qb hk
   subst h1
   exact⟨e,g,λu hu=>hu⟩
 | .np a z,w,q,x,e,g=>by
   unfold zgX at e
   cases w <;> simp only at e <;> try exact e.elim
   split at e
   rotate_left
   ·exact e.elim
   rename_i hk
   have h1:=Qb hk
   subst h1
   obtain⟨rfl,hq⟩:=e
   exact⟨hq,g,λu hu=>hu⟩
 | .sl a b c T n,w,q,x,e,g=>by
   unfold zgX at e
   cases w <;> simp only at e <;> try exact e.elim
   split at e
   rotate_left
   ·exact e.elim
   rename_i hk
   simp only[Qd] at hk
   have h1:=Qb hk.2
   subst h1
   obtain⟨rfl,hq⟩:=e
   refine⟨hq,?_,λu hu=>by simp[tagsOf] at hu⟩
   simp only[gam] at g ⊢
   exact g.weak (λq=>zcE hk.1.1.1 q) (λq=>⟨zcE hk.1.1.2 q,Qc _⟩) (λq=>zcE hk.1.2 q)
 | .ap a T n z,w,q,x,e,g=>by
   unfold zgX at e
   cases w <;> simp only at e <;> try exact e.elim
   split at e
   rotate_left
   ·exact e.elim
   rename_i hk
   simp only[Qd] at hk
   have h1:=Qb hk.1.1
   have h2:=Qb hk.2
   subst h1; subst h2
   obtain⟨rfl,hq⟩:=e
   exact⟨hq,zwE (zcE hk.1.2) g,λu hu=>hu⟩
 | .sp a T n,w,q,x,e,g=>by
   unfold zgX at e
   cases w <;> simp only at e <;> try exact e.elim
   split at e
   rotate_left
   ·exact e.elim
   rename_i hk
   simp only[Qd] at hk
   have h1:=Qb hk.1
   have h2:=Qb hk.2
   subst h1; subst h2
   obtain⟨rfl,hq⟩:=e
   exact⟨hq,g,λu hu=>hu⟩
 | .aggT a,w,q,x,e,g=>by
   unfold zgX at e
   cases w <;> simp only at e <;> try exact e.elim
   split at e
   rotate_left
   ·exact e.elim
   rename_i hk
   have h1:=Qb hk
   subst h1
   exact⟨e,g,λu hu=>hu⟩
 | .agg l,w,q,x,e,g=>by
   unfold zgX at e
   cases w <;> simp only at e <;> try exact e.elim
   simp only[gam] at g ⊢
   obtain⟨vs,h1,h2,h3⟩:=g
   obtain⟨hq,h4,h5⟩:=eqTVs_elim l _ q vs e h2
   exact⟨hq,⟨vs,h1,h4,h3⟩,λu hu=>by simp only[tagsOf] at hu ⊢; exact h5 u hu⟩
 | .tup l,w,q,x,e,g=>by
   unfold zgX at e
   cases w <;> simp only at e <;> try exact e.elim
   simp only[gam] at g ⊢
   obtain⟨vs,h1,h2,h3⟩:=g
   obtain⟨hq,h4,h5⟩:=eqTVs_elim l _ q vs e h3
   exact⟨hq,⟨vs,h1,h2,h4⟩,λu hu=>by simp only[tagsOf] at hu ⊢; exact h5 u hu⟩
 | .fn f a c,w,q,x,e,g=>by
   unfold zgX at e
   cases w <;> simp only at e <;> try exact e.elim
   split at e
   rotate_left
   ·exact e.elim
   rename_i hk
   have h1:=Qb hk
   subst h1
   simp only[gam] at g ⊢
   obtain⟨va,vc,h1,h2,h3⟩:=g
   obtain⟨hq,h4,h5⟩:=eqTVs_elim a _ _ va e h2
   obtain⟨hq,h6,h7⟩:=eqTVs_elim c _ q vc hq h3
   exact⟨hq,⟨va,vc,h1,h4,h6⟩,λu hu=>by
    simp only[tagsOf,QI] at hu ⊢
    exact hu.imp (h5 u) (h7 u)⟩
 | .skip,w,q,x,e,g=>by
   unfold zgX at e
   cases w <;> simp only at e <;> try exact e.elim
   exact⟨e,g,λu hu=>hu⟩
 | .any,w,q,x,e,g=>by
   have e' : q:=by
    unfold zgX at e
    cases w <;> exact e
   exact⟨e',by simp only[gam],λu hu=>by simp[tagsOf] at hu⟩
 | .xs l,w,q,x,e,g=>by
   unfold zgX at e
   cases w <;> simp only at e <;> try exact e.elim
   obtain⟨rfl,hq⟩:=e
   exact⟨hq,g,λu hu=>hu⟩
theorem eqTVs_elim:∀(vs ws:List TV) (q:Prop) (xs:List Value),eqTVs vs ws q->gams X S h L base ws xs->q/\gams X S h L base vs xs/\∀u,u∈tagsOfL vs->u∈tagsOfL ws
 | [],ws,q,xs,e,g=>by
   unfold eqTVs at e
   cases ws with
   | nil=>exact⟨e,g,λu hu=>hu⟩
   | cons _ _=>exact e.elim
 | v :: vs,ws,q,xs,e,g=>by
   unfold eqTVs at e
   cases ws with
   | nil=>exact e.elim
   | cons w ws=>
     cases xs with
     | nil=>simp[gams] at g
     | cons x xs=>
       simp only[gams] at g ⊢
       obtain⟨e,h1,h2⟩:=zmu v w _ x e g.1
       obtain⟨hq,h3,h4⟩:=eqTVs_elim vs ws q xs e g.2
       exact⟨hq,⟨h1,h3⟩,λu hu=>by simp only[tagsOfL,QI] at hu ⊢; exact hu.imp (h2 u) (h4 u)⟩
end
def zp7 (p:TP) (v0 v:TV) (l:List Int):Prop:=
 match p with
 | .int kd=>∃x:Int,InR kd x/\v=.int kd x/\l=[x]
 | .bool=>∃b:Bool,v=.bool b/\l=[]
 | .str=>∃s:ByteArray,s.size<=za8/\v=.str s/\l=[]
 | .same=>v=v0/\l=[]
 | .see=>v=v0/\l=zwy v0
 | .sl w fr kc T=>∃n:Nat,v=.sl w fr kc T n/\l=[(n:Int)]
 | .ap tag T _ kc=>∃n:Nat,v=.ap tag T n kc/\l=[(n:Int)]
 | .st u=>v=u/\l=[]
theorem zsd {p:TP} {v0 v:TV} {l:List Int} {k:TV->List Int->Prop} (w:zzO p v0 k) (hh:zp7 p v0 v l):k v l:=by
 cases p <;> simp only[zzO] at w <;> simp only[zp7] at hh
 case int=>obtain⟨x,h1,rfl,rfl⟩:=hh; exact w x h1
 all_goals grind[zdB]
def zmv:List TP->List TV->List TV->List Int->Prop
 | [],_,vs,m=>vs=[]/\m=[]
 | p :: ps,v0,vs,m=>∃v l vs' m',zp7 p (v0.headD .any) v l/\zmv ps v0.tail vs' m'/\vs=v :: vs'/\m=l ++ m'
theorem zgl:∀{ps:List TP} {v0 vs:List TV} {m:List Int} {k:List TV->List Int->Prop},zuh ps v0 k->zmv ps v0 vs m->k vs m
 | [],v0,vs,m,k,w,hh=>by obtain⟨rfl,rfl⟩:=hh; exact w
 | p :: ps,v0,vs,m,k,w,hh=>by
   obtain⟨v,l,vs',m',h1,h2,rfl,rfl⟩:=hh
   exact zgl (k:=λvs' m'=>k (v :: vs') (l ++ m')) (zsd w h1) h2
def ziB (pv0:List (Nat×PC)):List (Nat×Option (List TP))->List (Nat×PC)->List Int->Prop
 | [],pv,m=>pv=[]/\m=[]
 | (tag,none) :: r,pv,m=>∃c pv',zaD pv0 tag=some c/\ziB pv0 r pv' m/\pv=(tag,c) :: pv'
 | (tag,some ps) :: r,pv,m=>∃t l0 vs m1 pv' m',zaD pv0 tag=some (.tv t l0)/\ps.length=l0.length/\zmv ps l0 vs m1/\ziB pv0 r pv' m'/\pv=(tag,.tv t vs) :: pv'/\m=m1 ++ m'
theorem zgm {pv0:List (Nat×PC)}:∀{r:List (Nat×Option (List TP))} {pv:List (Nat×PC)} {m:List Int} {k:List (Nat×PC)->List Int->Prop},zp0 pv0 r k->ziB pv0 r pv m->k pv m
 | [],pv,m,k,w,hh=>by obtain⟨rfl,rfl⟩:=hh; exact w
 | (tag,none) :: r,pv,m,k,w,hh=>by
   obtain⟨c,pv',h1,h2,rfl⟩:=hh
   unfold zp0 at w
   rw[h1] at w
   exact zgm (k:=λl m=>k ((tag,c) :: l) m) w h2
 | (tag,some ps) :: r,pv,m,k,w,hh=>by
   obtain⟨t,l0,vs,m1,pv',m',h1,h2,h3,h4,rfl,rfl⟩:=hh
   unfold zp0 at w
   rw[h1] at w
   simp only at w
   exact zgm (k:=λl m=>k ((tag,.tv t vs) :: l) (m1 ++ m)) (by grind[zgl]) h4
def zse (H:LH) (σ0 σ1:Sx) (m:List Int):Prop:=
 ∃v0 vs m1 pv m2 g,zgY σ0.a (H.sl.map (·.1))=some v0/\zmv (H.sl.map (·.2)) v0 vs m1/\ziB σ0.pv H.pv pv m2/\σ1={ a:=zdz (H.sl.map (·.1)) vs,pv:=zcQ H.sl ++ pv,g:=g }/\
  ((H.fg=true/\m=g :: (m1 ++ m2))\/(H.fg=false/\g=σ0.g/\m=m1 ++ m2))
theorem zsf {H:LH} {σ0 σ1:Sx} {m:List Int} {k:Sx->List Int->Prop} (w:zzR H σ0 k) (hh:zse H σ0 σ1 m):k σ1 m:=by
 obtain⟨v0,vs,m1,pv,m2,g,h1,h2,h3,rfl,h4⟩:=hh
 grind[zzR,zgm,zgl]
theorem zmw:∀{s:List (Nat×Option Nat)},znC s=true->∀{p a a'},(p,a)∈s->(p,a')∈s->a=a'
 | [],_,p,a,a',h1,_=>by grind
 | (q,b) :: r,hs,p,a,a',h1,h2=>by
   simp only[znC,Qd,Qz] at hs
   have key:∀x,(q,x)∈r->b=x:=by grind[QG,Qb]
   rcases Qy.1 h1 with g1 | g1 <;> rcases Qy.1 h2 with g2 | g2
   ·grind
   ·grind
   ·grind
   ·exact zmw hs.2 g1 g2
theorem zmx:∀{s:List (Nat×Option Nat)},znC s=true->∀{p p' a},(p,some a)∈s->(p',some a)∈s->p=p'
 | [],_,p,p',a,h1,_=>by grind
 | (q,b) :: r,hs,p,p',a,h1,h2=>by
   simp only[znC,Qd,Qz] at hs
   have key:∀p' a,b=some a->(p',some a)∈r->q=p':=by grind[QG,Qb]
   rcases Qy.1 h1 with g1 | g1 <;> rcases Qy.1 h2 with g2 | g2
   ·grind
   ·grind
   ·grind
   ·exact zmx hs.2 g1 g2
def zsg (L:Loc) (a:Option Nat):Option (Nat×(Nat->Option Nat)):=match a with | some a=>L a | none=>none
def zxP (s:List (Nat×Option Nat)) (L:Loc):Loc:=λt=>match s.find? (λx=>Nat.beq x.1 t) with | some (_,some a)=>L a | _=>none
theorem zkQ {s:List (Nat×Option Nat)} (hs:znC s=true) {p:Nat} {a:Option Nat} (hm:(p,a)∈s):zxP s L p=zsg L a:=by
 unfold zxP
 cases hf:s.find? (λx=>Nat.beq x.1 p) with
 | none=>grind[QG]
 | some x=>
   have h1:=List.mem_of_find?_eq_some hf
   have h2:=List.find?_some hf
   obtain⟨p',a'⟩:=x
   have h2:=Qb h2
   subst h2
   have:=zmw hs h1 hm
   subst this
   cases a' <;> rfl
end
section
variable {X:Cx} {S S' : TY} {h:AH} {L:Loc} {base:Nat}
theorem zoU {t:Nat}:∀{l:List Nat},zva t l=true↔t∈l
 | []=>by simp[zva]
 | u :: r=>by simp only[zva,Jh,zoU,Qy,zdA]
def zsh (X:Cx) (S:TY) (h:AH) (L:Loc) (base:Nat) (pv:List (Nat×PC)) (ts:List Nat) (p:TP) (v0:TV) (k:List Int->List (Nat×Option Nat)->Prop) (x:Value):Prop:=
 ∃l r v',k l r/\zp7 p v0 v' l/\(∀L' : Loc,(∀t a,(t,a)∈r->L' t=zsg L a)->(∀u,u∈ts->L' u=L u)->gam X S h L' base v' x)/\
  (∀t a,(t,a)∈r->∀a',a=some a'->∃c,zaD pv a'= some c)/\(∀t T e kc,p=.ap t T e kc->∃a,(t,a)∈r/\∀a',a=some a'->∃T',zaD pv a'= some (.rows T' e))/\(∀u,u∈tagsOf v'->u∈ts\/∃T e kc,p=.ap u T e kc)
theorem zsi {pv:List (Nat×PC)} {p:TP} {v0 v:TV} {k:List Int->List (Nat×Option Nat)->Prop} (w:zzP pv p v0 v k) {x:Value} (g:gam X S h L base v x) {ts:List Nat} (ht:zcz ts [p] [v0]=true):zsh X S h L base pv ts p v0 k x:=by
 have plain:∀{v' : TV} {l:List Int},tagsOf v'= []->gam X S h L base v' x->zp7 p v0 v' l->k l []->(∀t T e kc,p≠.ap t T e kc)->zsh X S h L base pv ts p v0 k x:=λ{v' l} htg gv hh hk hna=>⟨l,[],v',hk,hh,λL' _ _=>zbc (Le2.refl _) htg gv,by simp,by grind,by grind⟩
 have stay:∀{v' : TV} {l:List Int},zgX v' v (k l [])->zp7 p v0 v' l->(tagsOf v').all (λt=>zva t ts)=true->(∀t T e kc,p≠.ap t T e kc)->zsh X S h L base pv ts p v0 k x:=λ{v' l} he hh hts hna=>by
  obtain⟨hk,gv,_⟩:=zmu v' v _ x he g
  have hsub:∀u,u∈tagsOf v'->u∈ts:=by grind[zoU]
  exact⟨l,[],v',hk,hh,λL' _ hL=>zbv (Le2.refl _) v' x (by grind[zbb]) (by grind[zck.of]) gv,by simp,by grind,by grind⟩
 unfold zzP at w
 cases p <;> simp only at w
 case int kd=>
  cases v <;> simp only at w <;> try exact w.elim
  split at w
  rotate_left
  ·grind
  rename_i hk
  have hk:=of_decide_eq_true hk
  subst hk
  have g2:=g
  exact plain (v':=.int kd _) rfl g ⟨_,g2.2,rfl,rfl⟩ w (by simp)
 case bool=>
  cases v <;> simp only at w <;> try exact w.elim
  exact plain (v':=.bool _) rfl g ⟨_,rfl,rfl⟩ w (by simp)
 case str=>
  cases v <;> simp only at w <;> try exact w.elim
  have g2:=g
  exact plain (v':=.str _) rfl g ⟨_,g2.2,rfl,rfl⟩ w (by simp)
 case same=>
  refine stay w ⟨rfl,rfl⟩ ?_ (by simp)
  grind[zcz]
 case see=>
  refine stay w ⟨rfl,rfl⟩ ?_ (by simp)
  grind[zcz]
 case st u=>
  refine stay w ⟨rfl,rfl⟩ ?_ (by simp)
  grind[zcz]
 case sl w0 fr kc T=>
  cases v <;> simp only at w <;> try exact w.elim
  case sl w' fr' kc' T' n=>
   split at w
   rotate_left
   ·grind
   rename_i hk
   simp only[Qd] at hk
   have hT:=Qb hk.2
   refine plain (v':=.sl w0 fr kc T n) rfl ?_ ⟨n,rfl,rfl⟩ w (by simp)
   grind[gam,SlV.weak,zcE]
  case nils=>
   refine plain (v':=.sl w0 fr kc T 0) rfl ?_ ⟨0,rfl,rfl⟩ w (by simp)
   exact⟨Qg _,none,0,g,by simp⟩
 case ap tag T ee kc=>
  cases v <;> simp only at w <;> try exact w.elim
  case ap tag' T' n kc'=>
   split at w
   rotate_left
   ·grind
   rename_i hk
   simp only[Qd] at hk
   have hT:=Qb hk.1.2
   have hrow:∃T2,zaD pv tag'= some (.rows T2 ee):=by grind[Qb]
   refine⟨_,_,.ap tag T n kc,w,⟨n,rfl,rfl⟩,λL' hL _=>?_,λt a q=>?_,by grind,λu hu=>?_⟩
   all_goals grind[zcE,gam,zsg,tagsOf]
  case nils=>
   cases kc with
   | true=>grind
   | false=>
     refine⟨_,_,.ap tag T 0 false,w,⟨0,rfl,rfl⟩,λL' hL _=>?_,λt a q=>?_,by simp,λu hu=>?_⟩
     all_goals grind[gam,tagsOf]
theorem znR {ts:List Nat} {p:TP} {ps:List TP} {v0:List TV} (h:zcz ts (p :: ps) v0=true):zcz ts [p] [v0.headD .any]=true/\zcz ts ps v0.tail=true:=by
 cases p <;> simp only[zcz,Qd] at h ⊢ <;> first | grind | grind | exact⟨⟨h.1,by simp⟩,h.2⟩ | exact⟨trivial,h⟩
theorem zgn {pv:List (Nat×PC)} {ts:List Nat}:∀{ps:List TP} {v0 vs:List TV} {k:List Int->List (Nat×Option Nat)->Prop} {xs:List Value},zui pv ps v0 vs k->gams X S h L base vs xs->vs.length=ps.length->zcz ts ps v0=true->
 ∃m s vs',k m s/\zmv ps v0 vs' m/\vs'.length=ps.length/\(∀L' : Loc,(∀t a,(t,a)∈s->L' t=zsg L a)->(∀u,u∈ts->L' u=L u)->gams X S h L' base vs' xs)/\
  (∀t a,(t,a)∈s->∀a',a=some a'->∃c,zaD pv a'= some c)/\(∀t T e kc,TP.ap t T e kc∈ps->∃a,(t,a)∈s/\∀a',a=some a'->∃T',zaD pv a'= some (.rows T' e))/\(∀v,v∈vs'->∀u,u∈tagsOf v->u∈ts\/∃T e kc,TP.ap u T e kc∈ps)
 | [],v0,vs,k,xs,w,g,hl,ht=>by
   have:vs=[]:=by grind
   subst this
   exact⟨[],[],[],w,⟨rfl,rfl⟩,rfl,λL' _ _=>zcf (Le2.refl _) rfl g,by simp,by simp,by simp⟩
 | p :: ps,v0,[],k,xs,w,g,hl,ht=>by grind
 | p :: ps,v0,v :: vs,k,[],w,g,hl,ht=>by grind[gams]
 | p :: ps,v0,v :: vs,k,x :: xs,w,g,hl,ht=>by
   obtain⟨t1,t2⟩:=znR ht
   obtain⟨l,r,v',w,h1,h2,h3,h4,h5⟩:=zsi w g.1 t1
   obtain⟨m,s,vs',w,k1,k0,k2,k3,k4,k5⟩:=zgn w g.2 (by grind) t2
   refine⟨_,_,v' :: vs',w,⟨v',l,vs',m,h1,k1,rfl,rfl⟩,by grind,λL' hL hu=>?_,λt a q=>?_,by grind,λu hu t ht=>?_⟩
   all_goals grind[gams]
section
variable {pu:Bool} {S0:TY} {h0:AH} {σ:Sx} {e:Env}
def zxQ (X:Cx) (S:TY) (h:AH) (L:Loc) (base:Nat) (σ:Sx) (pv0:List (Nat×PC)) (r:List (Nat×Option (List TP))) (k:List Int->List (Nat×Option Nat)->Prop):Prop:=
 ∃m s pv',k m s/\ziB pv0 r pv' m/\(∀t a,(t,a)∈s->a=some t/\∃c,zaD σ.pv t=some c)/\(∀t,t∈r.map (·.1)->(t,some t)∈s/\∃c,zaD pv' t=some c)/\(∀t c,zaD pv' t=some c->t∈r.map (·.1)/\∀L' : Loc,L' t=L t->okP X S h L' base t c)
theorem zjT (g:G X pu base S0 h0 S h L σ e) {pv0:List (Nat×PC)}:∀{r:List (Nat×Option (List TP))} {k:List Int->List (Nat×Option Nat)->Prop},znD pv0 σ.pv r k->zxQ X S h L base σ pv0 r k
 | [],k,w=>⟨[],[],[],w,⟨rfl,rfl⟩,by simp,by simp,λt c q=>(by cases q)⟩
 | (tag,hd) :: r,k,w=>by
   have fin:∀{m1:List Int} {c:PC} {k' : List Int->List (Nat×Option Nat)->Prop},(∃c',zaD σ.pv tag=some c')->(∀L' : Loc,L' tag=L tag->okP X S h L' base tag c)->znD pv0 σ.pv r k'->(∀m s,k' m s->k (m1 ++ m) ((tag,some tag) :: s))->(∀pv' m,ziB pv0 r pv' m->ziB pv0 ((tag,hd) :: r) ((tag,c) :: pv') (m1 ++ m))->zxQ X S h L base σ pv0 ((tag,hd) :: r) k:=λ{m1 c k'} hex hok wk hk hh=>by
    obtain⟨m,s,pv',w1,q1,q2,q3,q4⟩:=zjT g wk
    exact⟨m1 ++ m,(tag,some tag) :: s,(tag,c) :: pv',hk m s w1,hh _ _ q1,by grind,by grind[zaD,QG],by grind[zaD,Qb]⟩
   cases hd with
   | none=>
     unfold znD at w
     split at w
     rotate_left
     ·grind
     rename_i c d h1 h2
     have ok:=g.pv tag d h2
     have key:∀{q:Prop},zzQ c d q->q/\∀L' : Loc,L' tag=L tag->okP X S h L' base tag c:=by
      intro q he
      unfold zzQ at he
      cases c <;> cases d <;> simp only at he <;> try exact he.elim
      case tv.tv t l t' l'=>
       split at he
       rotate_left
       ·grind
       rename_i ht
       have ht:=Qb ht
       subst ht
       obtain⟨b,cs,a1,a2,a3,a4,a5,a6⟩:=ok
       obtain⟨hq,a7,a8⟩:=eqTVs_elim l l' q cs he a4
       have htg:tagsOfL l=[]:=by cases hl:tagsOfL l<;>grind[QO]
       exact⟨hq,λL' hL=>⟨b,cs,hL.trans a1,a2,a3,zcf (Le2.refl _) htg a7,a5,htg⟩⟩
      case ty.ty t t'=>
       split at he
       rotate_left
       ·grind
       rename_i ht
       have ht:=Qb ht
       subst ht
       obtain⟨b,cs,a1,a2⟩:=ok
       exact⟨he,λL' hL=>⟨b,cs,hL.trans a1,a2⟩⟩
      case rows.rows t u t' u'=>
       split at he
       rotate_left
       ·grind
       rename_i ht
       rw[Qd] at ht
       have hu:=Qb ht.2
       subst hu
       refine⟨he,λL' hL=>?_⟩
       rcases ok with o | ⟨b,cc,cs,a1,a2⟩
       ·exact .inl (hL.trans o)
       ·exact .inr ⟨b,cc,cs,hL.trans a1,a2⟩
     obtain⟨w,hok⟩:=key w
     exact fin (m1:=[]) ⟨d,h2⟩ hok w (λm s q=>q) (λpv' m hh=>⟨c,pv',h1,hh,rfl⟩)
   | some ps=>
     unfold znD at w
     split at w
     rotate_left
     ·grind
     rename_i t l0 t' l h1 h2
     split at w
     rotate_left
     ·grind
     rename_i hc
     simp only[Qd] at hc
     have ht:=Qb hc.1.1.1
     subst ht
     have hps:=Qb hc.1.1.2
     have hll:=Qb hc.1.2
     obtain⟨b,cs,a1,a2,a3,a4,a5,a6⟩:=g.pv tag _ h2
     obtain⟨m1,s1,vs',w,k1,k0,k2,k3,k4,k5⟩:=zgn w a4 hll hc.2
     split at w
     rotate_left
     ·grind
     have htg:tagsOfL vs'= []:=zcA.2 λv hv=>by cases hl:tagsOf v<;>grind[QO]
     exact fin (m1:=m1) (c:=.tv t vs') ⟨_,h2⟩ (λL' hL=>⟨b,cs,hL.trans a1,a2,a3,by grind,a5,htg⟩) w (λm s q=>q) (λpv' m hh=>⟨t,l0,vs',m1,pv',m,h1,hps,k1,hh,rfl,rfl⟩)
theorem ziC (g:G X pu base S0 h0 S h L σ e):∀{ts:List Tmp} {vs:List TV},zgY σ.a ts=some vs->vs.length=ts.length/\∃xs,gams X S h L base vs xs/\∀(i:Nat) (t:Tmp) (x:Value),ts[i]?= some t->xs[i]?= some x->e.get t=some x
 | [],vs,w=>by simp only[zgY,Qa] at w; subst w; exact⟨rfl,[],by grind[gams],by simp⟩
 | t :: ts,vs,w=>by
   unfold zgY at w
   split at w
   rotate_left
   ·grind
   rename_i v hv
   split at w
   rotate_left
   ·grind
   rename_i l hl
   obtain⟨h1,xs,h2,h3⟩:=ziC g hl
   obtain⟨x,k1,k2,_⟩:=g.sl t v hv
   refine⟨by grind,x :: xs,by grind[gams],λi u y q1 q2=>?_⟩
   grind
theorem ziD:∀{ts:List Tmp} {vs:List TV} {t:Tmp} {v:TV},(zdz ts vs).get t=some v->∃i:Nat,ts[i]?= some t/\vs[i]?= some v
 | [],vs,t,v,w=>by grind[zdz,Tr.get_nil]
 | u :: ts,[],t,v,w=>by grind[zdz,Tr.get_nil]
 | u :: ts,x :: vs,t,v,w=>by
   simp only[zdz,Tr.get_set] at w
   split at w
   ·rename_i q
    subst q
    cases w
    exact⟨0,rfl,rfl⟩
   ·obtain⟨i,h1,h2⟩:=ziD w
    exact⟨i+1,by grind,by grind⟩
theorem zet:∀{l:List (Tmp×TP)} {t:Nat} {c:PC},zaD (zcQ l) t=some c->∃T e kc,TP.ap t T e kc∈l.map (·.2)/\c=.rows T e
 | [],t,c,w=>by grind[zcQ,zaD]
 | (x,p) :: l,t,c,w=>by
   cases p with
   | ap tag T e kc=>
     simp only[zcQ,zaD] at w
     cases hb:Nat.beq tag t with
     | true=>grind[Qb]
     | false=>
       rw[hb] at w
       obtain⟨T',e',kc',h1,h2⟩:=zet w
       grind
   | _=>
     simp only[zcQ] at w
     obtain⟨T',e',kc',h1,h2⟩:=zet w
     grind
theorem zjU:∀{l:List (Tmp×TP)} {t T e:Nat} {kc:Bool},TP.ap t T e kc∈l.map (·.2)->∃c,zaD (zcQ l) t=some c
 | [],t,T,e,kc,w=>by grind
 | (x,p) :: l,t,T,e,kc,w=>by
   simp only[QE,Qy] at w
   rcases w with w | w
   ·exact⟨.rows T e,by grind[zcQ,zaD,QG]⟩
   ·obtain⟨c,hc⟩:=zjU w
    cases p <;> simp only[zcQ] <;> try grind
    grind[zaD]
theorem zfF:∀{l m:List (Nat×PC)} {t:Nat},zaD (l ++ m) t=match zaD l t with | some c=>some c | none=>zaD m t
 | [],m,t=>rfl
 | (u,c) :: l,m,t=>by
   simp only[List.cons_append,zaD]
   cases Nat.beq u t with
   | true=>rfl
   | false=>exact zfF
theorem zjV (g:G X pu base S0 h0 S h L σ e) {H:LH} {σ0:Sx} {k:List Int->Prop} (w:zzf H σ0 σ k):∃m σ1 L',k m/\zse H σ0 σ1 m/\G X pu base S0 h0 S h L' σ1 e:=by
 unfold zzf at w
 split at w
 rotate_left
 ·grind
 rename_i v0 v hv0 hv
 split at w
 ·grind
 rename_i htags
 obtain⟨hvl,xs,gx,hx⟩:=ziC g hv
 obtain⟨m1,s,vs',w,a1,a0,a2,a3,a4,a5⟩:=zgn w gx (by grind) htags
 obtain⟨m2,s',pv',w,b1,b2,b3,b4⟩:=zjT g w
 split at w
 rotate_left
 ·grind
 rename_i hren
 have hL1:∀t a,(t,a)∈s->zxP (s ++ s') L t=zsg L a:=by grind[zkQ]
 have hL2:∀t,t∈H.pv.map (·.1)->zxP (s ++ s') L t=L t:=λt q=>zkQ hren (List.mem_append_right _ (b3 t q).1)
 have gvs:=a2 _ hL1 hL2
 have hg:G X pu base S0 h0 S h (zxP (s ++ s') L) { a:=zdz (H.sl.map (·.1)) vs',pv:=zcQ H.sl ++ pv',g:=σ.g } e:=by
  have tagOf:∀t c,zaD (zcQ H.sl ++ pv') t=some c->∃a,(t,a)∈s ++ s'/\(∀a',a=some a'->∃c',zaD σ.pv a'= some c'):=by grind[zfF,zet]
  refine⟨g.wt,g.ext,g.nx,g.fr,λt u hu=>?_,λt c hc=>?_,λt1 t2 p1 p2 b c1 c2 k1 k2 k3 k4=>?_⟩
  ·obtain⟨i,h1,h2⟩:=ziD hu
   obtain⟨y,h3,h4⟩:=zcR gvs h2
   refine⟨y,hx i t y h1 h3,h4,λq hq=>?_⟩
   grind[zfF,zjU]
  ·rw[zfF] at hc
   split at hc
   ·rename_i c1 hc1
    cases hc
    obtain⟨T,ee,kc,hm,rfl⟩:=zet hc1
    obtain⟨a,ha,hh⟩:=a4 t T ee kc hm
    have hLt:=hL1 t a ha
    cases a with
    | none=>exact .inl hLt
    | some a'=>
      obtain⟨T',hT'⟩:=hh a' rfl
      rcases g.pv a' _ hT' with o | ⟨b,c',cs,o1,o2⟩
      ·exact .inl (hLt.trans o)
      ·exact .inr ⟨b,c',cs,hLt.trans o1,o2⟩
   grind
  ·obtain⟨x1,y1,z1⟩:=tagOf t1 p1 k1
   obtain⟨x2,y2,z2⟩:=tagOf t2 p2 k2
   have e1:=zkQ (L:=L) hren y1
   have e2:=zkQ (L:=L) hren y2
   rw[k3] at e1
   rw[k4] at e2
   cases x1 with
   | none=>cases e1
   | some x1=>
     cases x2 with
     | none=>cases e2
     | some x2=>
       obtain⟨c1',w1⟩:=z1 x1 rfl
       obtain⟨c2',w2⟩:=z2 x2 rfl
       have:=g.inj x1 x2 _ _ b _ _ w1 w2 e1.symm e2.symm
       grind[zmx]
 split at w
 ·rename_i hf
  exact⟨_,_,_,w,⟨v0,vs',m1,pv',m2,σ.g,hv0,a1,b1,rfl,.inl ⟨hf,rfl⟩⟩,hg⟩
 ·rename_i hf
  exact⟨_,_,_,w.2,⟨v0,vs',m1,pv',m2,σ.g,hv0,a1,b1,rfl,.inr ⟨hf,w.1,rfl⟩⟩,hg⟩
end
end
section
variable {X:Cx} {S S' : TY} {h:AH} {L:Loc} {base:Nat}
section
variable {pu:Bool} {S0:TY} {h0:AH} {σ:Sx} {e:Env}
def Aft (X:Cx) (pu:Bool) (base:Nat) (S0:TY) (h0:AH) (Q:AX->Sx->Prop):AX->Env->AH->Prop:=λx e h=>∃S L σ,G X pu base S0 h0 S h L σ e/\Q x σ
theorem zup (O:XOk X) (V:∀f s,X.sp f=some s->Val X f s) {hs:List LH}:∀{c:Code} {rd:Option Nat} {S:TY} {h:AH} {L:Loc} {σ:Sx} {e:Env} {Q:AX->Sx->Prop},G X pu base S0 h0 S h L σ e->tc X pu hs c σ Q->Wc X.P X.K rd c e h (Aft X pu base S0 h0 Q):=by
 intro c
 induction c with
 | skip=>intro rd S h L σ e Q g w; exact znc.2 ⟨S,L,σ,g,w⟩
 | label l=>intro rd S h L σ e Q g w; exact zkk.2 ⟨S,L,σ,g,w⟩
 | region id ops draw=>
   intro rd S h L σ e Q g w
   cases draw with
   | false=>
     refine zlI.2 ?_
     obtain⟨n,e',h',hr,hq⟩:=zgk O V g w
     exact⟨n,e',h',hr,hq⟩
   | true=>
     refine zqU.2 ?_
     obtain⟨n,e',h',hr,hq⟩:=znQ O V g w
     exact⟨n,e',h',hr,hq⟩
 | seq c d ihc ihd=>
   intro rd S h L σ e Q g w
   refine zuZ.2 ((ihc g w).mono λx e' h' hq=>?_)
   obtain⟨S',L',σ',g',hq⟩:=hq
   cases x with
   | normal=>exact ihd g' hq
   | exit i=>exact⟨S',L',σ',g',hq⟩
   | ret=>exact⟨S',L',σ',g',hq⟩
 | cond o x y ihx ihy=>
   intro rd S h L σ e Q g w
   obtain⟨v,hv,w⟩:=zaq w
   have gv:=(g.val hv).1
   grind[gam,zqS]
 | block id c ih=>
   intro rd S h L σ e Q g w
   refine zkl.2 ((ih g w).mono λx e' h' hq=>?_)
   obtain⟨S',L',σ',g',hq⟩:=hq
   cases x with
   | normal=>exact⟨S',L',σ',g',hq⟩
   | ret=>exact⟨S',L',σ',g',hq⟩
   | exit i=>
     simp only[zAK] at hq
     simp only[zji]
     cases hb:Nat.beq i id with
     | true=>rw[hb] at hq; exact⟨S',L',σ',g',hq⟩
     | false=>rw[hb] at hq; exact⟨S',L',σ',g',hq⟩
 | loop c ih=>
   intro rd S h L σ e Q g w
   unfold tc at w
   split at w
   rotate_left
   ·grind
   rename_i H hH
   obtain⟨S0',σ',g,_,w⟩:=g.pubs O w
   obtain⟨w1,w2⟩:=w
   obtain⟨m0,σ1,L1,hm0,hd0,g0⟩:=zjV g w1
   refine zh2 (λn e1 h1=>∃S2 L2 σ2 m,G X pu base S0 h0 S2 h1 L2 σ2 e1/\zse H σ' σ2 m/\H.inv m/\n=(H.me m).toNat) ?_ (H.me m0).toNat e h ⟨S0',L1,σ1,m0,g0,hd0,hm0,rfl⟩
   rintro n e1 h1 ⟨S2,L2,σ2,m,g2,hd,hi,rfl⟩
   have wb:=zsf w2 hd hi
   refine (ih g2 wb).mono λx e2 h2 hq=>?_
   obtain⟨S3,L3,σ3,g3,hq⟩:=hq
   cases x with
   | normal=>
     obtain⟨m2,σ4,L4,⟨k1,k2,k3⟩,hd4,g4⟩:=zjV (H:=H) (σ0:=σ') (k:=λm2=>H.inv m2/\0<=H.me m2/\H.me m2 < H.me m) g3 hq
     exact⟨_,by omega,S3,L4,σ4,m2,g4,hd4,k1,rfl⟩
   | exit i=>exact⟨S3,L3,σ3,g3,hq⟩
   | ret=>exact⟨S3,L3,σ3,g3,hq⟩
 | scope c ih=>intro rd S h L σ e Q g w; exact zkm.2 (ih g w)
 | exit i=>intro rd S h L σ e Q g w; exact znd.2 ⟨S,L,σ,g,w⟩
 | ret=>intro rd S h L σ e Q g w; exact Wc_ret.2 ⟨S,L,σ,g,w⟩
 | rangeFunc f ps assign body ihA ihB=>intro rd S h L σ e Q g w; exact w.elim
 | goto l=>intro rd S h L σ e Q g w; exact w.elim
 | refuse s=>intro rd S h L σ e Q g w; exact w.elim
theorem zdD (O:XOk X) (g:G X pu base S0 h0 S h L σ e):∀{rs:List ResultVar} {k:List TV->Prop},zmf X σ rs k->∃l vs,k l/\rs.mapM (zbW X.P e h)=some vs/\gams X S h L base l vs
 | [],k,w=>⟨[],[],w,rfl,by grind[gams]⟩
 | .tmp t :: r,k,w=>by
   obtain⟨v,hv,w⟩:=zaq w
   obtain⟨x,h1,h2,_⟩:=g.sl t v hv
   obtain⟨l,vs,w,h3,h4⟩:=zdD O g w
   refine⟨_,x :: vs,w,?_,by grind[gams]⟩
   simp only[List.mapM_cons,zbW,zdH,h1,QV,h3]
   rfl
 | .cell a t :: r,k,w=>by
   obtain⟨x,h1,_,tv,h2,_,w⟩:=ze4 O g w
   obtain⟨l,vs,w,h3,h4⟩:=zdD O g w
   refine⟨_,x :: vs,w,?_,by grind[gams]⟩
   simp only[List.mapM_cons,zbW,h1,h3]
   rfl
mutual
theorem zp8 (O:XOk X):∀(s:RS) (t:TypeId) (v:TV) (k:TV->Prop) (x:Value),znE X t s v k->gam X S h L base v x->tagsOf v=[]->∃v',k v'/\gam X S h L base v' x/\tagsOf v'= []
 | .keep,t,v,k,x,w,g,ht=>by
   cases v <;> simp only[znE] at w
   case nils=>
    split at w
    rotate_left
    ·exact w.elim
    simp only[gam] at g
    exact⟨_,w,by simp only[gam]; exact⟨Qg _,none,0,g,.inl ⟨rfl,by trivial,rfl⟩⟩,rfl⟩
   case nilp=>
    split at w
    rotate_left
    ·exact w.elim
    simp only[gam] at g
    exact⟨_,w,by simp only[gam]; exact g,rfl⟩
   all_goals exact⟨_,w,g,ht⟩
 | .np,t,v,k,x,w,g,ht=>by
   cases v <;> simp only[znE] at w <;> try exact w.elim
   case nilp=>
    split at w
    rotate_left
    ·exact w.elim
    simp only[gam] at g
    exact⟨_,w,by simp only[gam]; exact g,rfl⟩
   case hp T=>exact⟨_,w,by simp only[gam] at g ⊢; exact g,rfl⟩
   case np T z=>exact⟨_,w,g,rfl⟩
 | .sl w0 fr kc,t,v,k,x,w,g,ht=>by
   cases v <;> simp only[znE] at w <;> try exact w.elim
   case nils=>
    split at w
    rotate_left
    ·exact w.elim
    simp only[gam] at g
    exact⟨_,w,by simp only[gam]; exact⟨Qg _,none,0,g,.inl ⟨rfl,by trivial,rfl⟩⟩,rfl⟩
   case sl w' fr' kc' T n=>
    split at w
    rotate_left
    ·exact w.elim
    rename_i hk
    simp only[Qd] at hk
    refine⟨_,w,?_,rfl⟩
    simp only[gam] at g ⊢
    exact g.weak (λq=>zcE hk.1.1 q) (λq=>⟨zcE hk.1.2 q,Qc _⟩) (λq=>zcE hk.2 q)
 | .ty T,t,v,k,x,w,g,ht=>by
   cases v <;> simp only[znE] at w <;> try exact w.elim
   case aggT T'=>
    split at w
    rotate_left
    ·exact w.elim
    rename_i hT
    have hT:=Qb hT
    subst hT
    exact⟨_,w,g,rfl⟩
   case agg l=>
    split at w
    rotate_left
    ·exact w.elim
    simp only[gam] at g
    obtain⟨vs,rfl,h1,h2⟩:=g
    obtain⟨hk,h3,h4,_⟩:=zd4 w h1
    exact⟨_,hk,by simp only[gam]; exact⟨vs,rfl,h3,h4⟩,rfl⟩
 | .agg ss,t,v,k,x,w,g,ht=>by
   cases v <;> simp only[znE] at w <;> try exact w.elim
   rename_i l
   split at w
   rotate_left
   ·exact w.elim
   simp only[gam] at g
   obtain⟨vs,rfl,h1,h2⟩:=g
   obtain⟨l',hk,h3,h4⟩:=asRess_elim O ss _ l _ vs w h1 (by simpa[tagsOf] using ht)
   exact⟨_,hk,by simp only[gam]; exact⟨vs,rfl,h3,h2⟩,by simp only[tagsOf]; exact h4⟩
theorem asRess_elim (O:XOk X):∀(ss:List RS) (ts:List TypeId) (l:List TV) (k:List TV->Prop) (xs:List Value),asRess X ts ss l k->gams X S h L base l xs->tagsOfL l=[]->∃l',k l'/\gams X S h L base l' xs/\tagsOfL l'= []
 | [],ts,l,k,xs,w,g,ht=>by
   cases ts <;> simp only[asRess] at w <;> exact⟨_,w,g,ht⟩
 | s :: ss,ts,l,k,xs,w,g,ht=>by
   cases ts with
   | nil=>simp only[asRess] at w
   | cons t ts=>
     cases l with
     | nil=>simp only[asRess] at w
     | cons v l=>
       cases xs with
       | nil=>simp[gams] at g
       | cons x xs=>
         simp only[gams] at g
         simp only[tagsOfL,List.append_eq_nil_iff] at ht
         simp only[asRess] at w
         obtain⟨v',w1,g1,t1⟩:=zp8 O s t v _ x w g.1 ht.1
         obtain⟨l',w2,g2,t2⟩:=asRess_elim O ss ts l _ xs w1 g.2 ht.2
         exact⟨v' :: l',w2,by simp only[gams]; exact⟨g1,g2⟩,by simp only[tagsOfL,t1,t2,QS]⟩
end
theorem zwF:∀{l:List TV} {vs:List Value},gams X S h L base l vs->tagsOfL l=[]->gam X S h L base (zqs l) (one vs)/\tagsOf (zqs l)=[]
 | [],[],g,ht=>by
   exact⟨⟨[],rfl,rfl,g⟩,by rfl⟩
 | [],_ :: _,g,ht=>by grind[gams]
 | _ :: _,[],g,ht=>by grind[gams]
 | [v],[x],g,ht=>by grind[gams,zqs,one,tagsOfL]
 | [_],_ :: _ :: _,g,ht=>by grind[gams]
 | _ :: _ :: _,[_],g,ht=>by grind[gams]
 | v :: v2 :: l,x :: x2 :: xs,g,ht=>by grind[zqs,one,gam,isSkip,tagsOf]
theorem zp9 (O:XOk X) (g:G X pu base S0 h0 S h L σ e) {rs:List ResultVar} {ts:List TypeId} {ss:List RS} {k:TV->Sx->Prop} (w:zzS X σ rs ts ss k):
 ∃v,zb6 X.P e h rs=some v/\∃S' σ' r,G X pu base S0 h0 S' h L σ' e/\gam X S' h L base r v/\tagsOf r=[]/\k r σ':=by
 obtain⟨l0,vs0,w,h1,h2⟩:=zdD O g w
 obtain⟨S1,σ1,g1,l1,w⟩:=g.pubs O w
 obtain⟨l,vs,w,h3,h4⟩:=zdD O g1 w
 split at w
 rotate_left
 ·grind
 rename_i ht
 obtain⟨l',w,h5,h6⟩:=asRess_elim O _ _ _ _ vs w h4 ht
 obtain⟨h7,h8⟩:=zwF h5 h6
 refine⟨one vs,?_,S1,σ1,_,g1,h7,h8,w⟩
 unfold zb6
 rw[h3]
 cases vs with
 | nil=>rfl
 | cons v t=>cases t <;> rfl
end
theorem zsj (O:XOk X) (V:∀f s,X.sp f=some s->Val X f s) {pu:Bool} {hs:List LH} {f:FuncId} {ss:List RS} {args:List TV} {g:Int} {Q:TV->Int->Prop} (hk:X.K f=none) (w:tcF X pu hs f ss args g Q):Tf X pu f args g Q:=by
 intro S h vs hw ga
 unfold tcF at w
 split at w
 rotate_left
 ·grind
 rename_i fn hf
 split at w
 rotate_left
 ·grind
 rename_i c hc
 split at w
 ·grind
 have gen:G X pu h.next S h S h (λ_=>none) { a:=Tr.ofList args,pv:=[],g:=g } (Tr.ofList vs):=by
  refine⟨hw,⟨λ_ _ q=>q,λ_ _=>rfl,λ_ q=>q,λ_ _ q=>q,rfl⟩,Qc _,λ_ _ _=>rfl,λt v hv=>?_,λtag c hc=>(by cases hc),by simp⟩
  grind[Tr.get_ofList,zcR,zaE,ze1]
 refine (zot hk hf hc).2 ((zup O V gen w).mono λx e' h' hq=>?_)
 obtain⟨S',L',σ',g',hq⟩:=hq
 have key:∀(q:zzS X σ' fn.results.toList fn.resultTypes.toList ss λr σ=>Q r σ.g),∃v,zb6 X.P e' h' fn.results.toList=some v/\∃S' r g',Xt h.next S S'/\WT X S' g' h'/\h.next<=h'.next/\(∀b,b < h.next->(pu=true\/(S.ty b=none/\¬S.dv b))->h'.get b=h.get b)/\gam X S' h' (λ_=>none) h.next r v/\tagsOf r=[]/\Q r g':=by
  intro q
  obtain⟨v,h1,S2,σ2,r,g2,h2,h3,h4⟩:=zp9 O g' q
  exact⟨v,h1,S2,r,σ2.g,g2.ext,g2.wt,g2.nx,g2.fr,zbc (Le2.refl _) h3 h2,h3,h4⟩
 cases x<;>grind
end
end Go.Am
