/-
  Texts of this proof, part 7. No condition.
-/
import Derived.Test.YtmnbboleclchcaaGreatFAm2j
set_option linter.unusedVariables false
set_option linter.unusedSimpArgs false
namespace Go.Am
section
variable {P:Program} {K:Xs} {φ φ' : Fi} {h h' : AH} {w w' : World}
def zfk (r:Ex):Prop:=∀rd ks c e h x e' h',r rd ks c e h=some (x,e',h')->h.next<=h'.next
section
variable {r:Ex} (M:zfk r)
include M
theorem zps {f:FuncId} {args:List Value} {v:Value} (hs:zeU P r f args h=some (v,h')):h.next<=h'.next:=by
 unfold zeU at hs
 split at hs
 rotate_left
 ·grind
 split at hs
 rotate_left
 ·grind
 split at hs
 ·rename_i hr
  split at hs
  ·obtain⟨_,rfl⟩:=hs
   exact M _ _ _ _ _ _ _ _ hr
  grind
 ·rename_i hr
  split at hs
  ·obtain⟨_,rfl⟩:=hs
   exact M _ _ _ _ _ _ _ _ hr
  grind
 grind
omit M in
theorem zcn {y:Option (Value×AH)} {v:Value} (hs:zpj h y=some (v,h')):h.next<=h'.next/\y=some (v,h'):=by
 unfold zpj at hs
 split at hs
 ·split at hs
  ·rename_i hb
   simp only[Qa,Qf] at hs
   obtain⟨rfl,rfl⟩:=hs
   exact⟨Qr hb,rfl⟩
  ·simp at hs
 ·simp at hs
theorem zjC {f:FuncId} {args:List Value} {v:Value} (hs:zbJ P K r f args h=some (v,h')):h.next<=h'.next:=by
 unfold zbJ at hs
 split at hs
 ·exact (zcn hs).1
 ·grind
 ·exact zps M hs
theorem zpt {f:FuncId} {args:List Value} {v:Value} (hs:zdQ P K r f args h=some (v,h')):h.next<=h'.next:=by
 unfold zdQ at hs
 split at hs
 ·exact (zcn hs).1
 ·exact zjC M hs
theorem zm6 {l:Nat} {args:List Value} {v:Value} (hs:zc6 r l args h=some (v,h')):h.next<=h'.next:=by
 unfold zc6 at hs
 split at hs
 rotate_left
 ·grind
 split at hs
 rotate_left
 ·grind
 split at hs
 rotate_left
 ·grind
 rename_i h1
 split at hs
 rotate_left
 ·grind
 split at hs
 rotate_left
 ·grind
 split at hs
 rotate_left
 ·grind
 rename_i h2
 split at hs
 rotate_left
 ·grind
 have a1:=M _ _ _ _ _ _ _ _ h1
 have a2:=M _ _ _ _ _ _ _ _ h2
 grind[AH.next_set]
theorem zlr {f:Value} {args:List Value} {v:Value} (hs:zcs P K r f args h=some (v,h')):h.next<=h'.next:=by
 unfold zcs at hs
 split at hs
 ·exact zpt M hs
 ·exact zm6 M hs
 grind
theorem zek {o:Oper} {e:Env} {v:Value} (hs:runOp P K r o e h=some (v,h')):h.next<=h'.next:=by
 unfold runOp at hs
 split at hs
 ·exact zlr M hs
 ·exact zvM hs
theorem zdt {ks:List Tmp} {ops:Array Oper}:∀{os:List Oper} {e e' : Env} {h h' : AH},zbj P K r ks ops os e h=some (e',h')->h.next<=h'.next
 | [],e,e',h,h',hs=>by grind[zbj]
 | o :: os,e,e',h,h',hs=>by
   unfold zbj at hs
   split at hs
   ·split at hs
    ·rename_i hr
     have a1:=zek M hr
     rw[zgQ] at a1
     exact Qm a1 (zdt hs)
    grind
   ·exact zdt hs
   grind
theorem zhS {ops:Array Oper}:∀{os:List Nat} {e:Env} {h:AH} {l:List (Env×AH)},zcU P K r ops os e h=some l->∀y,l.getLast?= some y->h.next<=y.2.next
 | [],e,h,l,hr,y,hy=>by grind[zcU]
 | j :: js,e,h,l,hr,y,hy=>by
   have ne:∀{os:List Nat} {e:Env} {h:AH} {l:List (Env×AH)},zcU P K r ops os e h=some l->l≠[]:=by
    intro os e h l hq
    cases os with
    | nil=>grind[zcU]
    | cons a os=>
      unfold zcU at hq
      grind
   unfold zcU at hr
   split at hr
   rotate_left
   ·grind
   split at hr
   ·split at hr
    ·rename_i v h1 hr1
     have n1:=zek M hr1
     split at hr
     ·rename_i l2 hl2
      simp only[Qa] at hr
      subst hr
      rw[List.getLast?_cons_of_ne_nil (ne hl2)] at hy
      exact Qm n1 (zhS hl2 y hy)
     grind
    grind
   ·split at hr
    ·rename_i l2 hl2
     simp only[Qa] at hr
     subst hr
     rw[List.getLast?_cons_of_ne_nil (ne hl2)] at hy
     exact zhS hl2 y hy
    grind
   grind
theorem zm7 {ops:Array Oper} {e e' : Env} (hs:zcb P K r ops e h=some (e',h')):h.next<=h'.next:=by
 unfold zcb at hs
 split at hs
 rotate_left
 ·grind
 split at hs
 rotate_left
 ·grind
 rename_i hl
 split at hs
 rotate_left
 ·grind
 exact zhS M hl _ hs
theorem zeD {f:Value} {l:Nat} {v:Value} (hs:zbp P K r f l h=some (v,h')):h.next<=h'.next:=by
 unfold zbp at hs
 split at hs
 ·exact zjC M hs
 grind
theorem zls {ks:List Tmp} {f:Operand} {ps:List Tmp} {as bd:Code} {e e' : Env} {x:AX} (hs:zct P K r ks f ps as bd e h=some (x,e',h')):h.next<=h'.next:=by
 unfold zct at hs
 split at hs
 rotate_left
 ·grind
 rename_i hi
 have a1:=zeD M hi
 grind[AH.next_alloc,AH.next_del]
theorem zm8:zfk (zaK P K r):=by
 intro rd ks c e h x e' h' hs
 unfold zaK at hs
 split at hs
 ·grind
 ·grind
 ·split at hs
  ·split at hs
   ·rename_i hr
    obtain⟨_,_,rfl⟩:=hs
    exact zdt M hr
   grind
  ·split at hs
   ·rename_i hr
    obtain⟨_,_,rfl⟩:=hs
    exact zm7 M hr
   grind
 ·split at hs
  ·rename_i hr
   exact Qm (M _ _ _ _ _ _ _ _ hr) (M _ _ _ _ _ _ _ _ hs)
  ·exact M _ _ _ _ _ _ _ _ hs
 ·split at hs
  ·rename_i t _
   cases t
   ·exact M _ _ _ _ _ _ _ _ hs
   ·exact M _ _ _ _ _ _ _ _ hs
  grind
 ·split at hs
  ·rename_i id' _ _ hr
   have:=M _ _ _ _ _ _ _ _ hr
   grind
  ·exact M _ _ _ _ _ _ _ _ hs
 ·split at hs
  ·rename_i hr
   exact Qm (M _ _ _ _ _ _ _ _ hr) (M _ _ _ _ _ _ _ _ hs)
  ·exact M _ _ _ _ _ _ _ _ hs
 ·exact M _ _ _ _ _ _ _ _ hs
 ·grind
 ·grind
 ·split at hs
  ·grind
  ·exact zls M hs
 all_goals grind
end
theorem zqJ:∀n,zfk (ex P K n)
 | 0=>λ_ _ _ _ _ _ _ _ hs=>by grind[ex]
 | n+1=>zm8 (zqJ n)
def zy6 (r s:Ex):Prop:=∀rd ks c e h x,r rd ks c e h=some x->s rd ks c e h=some x
section
variable {r s:Ex} (L:zy6 r s)
include L
theorem ztw {f:FuncId} {args:List Value} {x:Value×AH} (hs:zeU P r f args h=some x):zeU P s f args h=some x:=by
 unfold zeU at hs ⊢
 split at hs
 rotate_left
 ·omega
 split at hs
 rotate_left
 ·omega
 split at hs
 ·rename_i hr
  rw[L _ _ _ _ _ _ hr]
  omega
 ·rename_i hr
  rw[L _ _ _ _ _ _ hr]
  omega
 grind
theorem zhj {f:FuncId} {args:List Value} {x:Value×AH} (hs:zbJ P K r f args h=some x):zbJ P K s f args h=some x:=by grind[zbJ,ztw]
theorem zke {f:FuncId} {args:List Value} {x:Value×AH} (hs:zdQ P K r f args h=some x):zdQ P K s f args h=some x:=by grind[zdQ,zhj]
theorem zqK {l:Nat} {args:List Value} {x:Value×AH} (hs:zc6 r l args h=some x):zc6 s l args h=some x:=by
 unfold zc6 at hs ⊢
 cases hl:h.get l with
 | none=>grind
 | some ob=>
   rw[hl] at hs
   cases ob with
   | loop L0=>
     simp only at hs ⊢
     by_cases hlen:args.length=L0.params.length
     ·cases hr1:r (some l) [] L0.assign (putAll L0.env L0.params args) h with
      | none=>grind
      | some y=>
        obtain⟨x1,e2,h2⟩:=y
        rw[L _ _ _ _ _ _ hr1]
        rw[hr1] at hs
        cases x1 with
        | normal=>
          simp only at hs ⊢
          cases hl2:h2.get l with
          | none=>grind
          | some ob2=>
            rw[hl2] at hs
            cases ob2 with
            | loop L2=>
              simp only at hs ⊢
              by_cases hst:L2.state=.ready
              ·cases hr2:r (some l) [] L0.body e2 (h2.set l (.loop { L2 with state:=.busy })) with
               | none=>grind
               | some z=>
                 rw[L _ _ _ _ _ _ hr2]
                 grind
              grind
            | _=>omega
        | _=>omega
     grind
   | _=>omega
theorem zpu {f:Value} {args:List Value} {x:Value×AH} (hs:zcs P K r f args h=some x):zcs P K s f args h=some x:=by
 unfold zcs at hs ⊢
 grind[zke,zqK]
theorem zhk {o:Oper} {e:Env} {x:Value×AH} (hs:runOp P K r o e h=some x):runOp P K s o e h=some x:=by grind[runOp,zpu]
theorem zfl {ks:List Tmp} {ops:Array Oper}:∀{os:List Oper} {e:Env} {h:AH} {x:Env×AH},zbj P K r ks ops os e h=some x->zbj P K s ks ops os e h=some x
 | [],e,h,x,hs=>by grind[zbj]
 | o :: os,e,h,x,hs=>by
   unfold zbj at hs ⊢
   split at hs
   ·split at hs
    ·rename_i hr
     rw[zhk L hr]
     exact zfl hs
    grind
   ·exact zfl hs
   omega
theorem zkf {ops:Array Oper}:∀{os:List Nat} {e:Env} {h:AH} {x:List (Env×AH)},zcU P K r ops os e h=some x->zcU P K s ops os e h=some x
 | [],e,h,x,hs=>by grind[zcU]
 | j :: js,e,h,x,hs=>by
   unfold zcU at hs ⊢
   split at hs
   rotate_left
   ·omega
   split at hs
   ·split at hs
    ·rename_i v h1 hr1
     rw[zhk L hr1]
     split at hs
     ·rename_i l2 hl2
      simp only[zkf hl2]
      omega
     grind
    grind
   ·split at hs
    ·rename_i l2 hl2
     simp only[zkf hl2]
     omega
    grind
   omega
theorem zqL {ops:Array Oper} {e:Env} {y:Env×AH} (hd:zcb P K r ops e h=some y):zcb P K s ops e h=some y:=by grind[zcb,zkf]
theorem zlt {f:Value} {l:Nat} {x:Value×AH} (hs:zbp P K r f l h=some x):zbp P K s f l h=some x:=by
 unfold zbp at hs ⊢
 grind[zhj]
theorem zqM:zy6 (zaK P K r) (zaK P K s):=by
 intro rd ks c e h x hs
 unfold zaK at hs ⊢
 split at hs
 ·omega
 ·omega
 ·grind[zfl,zqL]
 ·split at hs
  ·rename_i hr
   rw[L _ _ _ _ _ _ hr]
   exact L _ _ _ _ _ _ hs
  ·rw[L _ _ _ _ _ _ hs]
   grind
 ·split at hs
  ·rename_i t _
   cases t
   ·exact L _ _ _ _ _ _ hs
   ·exact L _ _ _ _ _ _ hs
  omega
 ·split at hs
  ·rename_i hr
   rw[L _ _ _ _ _ _ hr]
   omega
  ·rw[L _ _ _ _ _ _ hs]
   grind
 ·split at hs
  ·rename_i hr
   rw[L _ _ _ _ _ _ hr]
   exact L _ _ _ _ _ _ hs
  ·rw[L _ _ _ _ _ _ hs]
   grind
 ·exact L _ _ _ _ _ _ hs
 all_goals grind[zct,zlt]
end
theorem zqN:∀n,zy6 (ex P K n) (ex P K (n+1))
 | 0=>λ_ _ _ _ _ _ hs=>by grind[ex]
 | n+1=>zqM (zqN n)
theorem zfm {n m:Nat} (hnm:n<=m):zy6 (ex P K n) (ex P K m):=by
 induction hnm with
 | refl=>exact λ_ _ _ _ _ _ h=>h
 | step _ ih=>exact λ_ _ _ _ _ _ h=>zqN _ _ _ _ _ _ _ (ih _ _ _ _ _ _ h)
end
section
variable {P:Program} {K:Xs} {φ φ' : Fi} {h h' : AH} {w w' : World}
def Arr (P:Program) (m:Machine) (b:Frame) (k:List Item) (cs:List Frame):AX->Array Value->List Deferred->World->Prop
 | .normal,a,ds,w=>Steps P m (lone (At b a ds k) cs w)
 | .exit id,a,ds,w=>∃k',Steps P m (lone (At b a ds (.code (.exit id) :: k')) cs w)/\exitTo id k'= exitTo id k
 | .ret,a,ds,w=>∃k',Steps P m (lone (At b a ds (.code .ret :: k')) cs w)
theorem Arr.of_steps {m m1:Machine} {b:Frame} {k:List Item} {cs:List Frame} {x:AX} {a:Array Value} {ds:List Deferred} (s:Steps P m m1) (r:Arr P m1 b k cs x a ds w):Arr P m b k cs x a ds w:=by
 cases x with
 | normal=>exact s.trans r
 | exit id=>obtain⟨k',h1,h2⟩:=r; exact⟨k',s.trans h1,h2⟩
 | ret=>obtain⟨k',h1⟩:=r; exact⟨k',s.trans h1⟩
def zex (P:Program) (B:Nat) (φ:Fi) (h:AH) (w:World):List Deferred->Prop
 | []=>True
 | d :: ds=>(∃q,d.target=.collected q/\B<=q/\w.heap[q]?= some (.deferred (some []))/\¬Own φ h q/\∀d'∈ds,d'.target≠.collected q)/\zex P B φ h w ds
theorem zex.tn {B:Nat} (t:Tn P φ h w φ' h' w'):∀{ds:List Deferred},zex P B φ h w ds->zex P B φ' h' w' ds
 | [],_=>trivial
 | d :: ds,⟨⟨q,h1,h2,h3,h4,h5⟩,hr⟩=>by
   exact⟨by grind[Tn.keep,Tn.own],zex.tn t hr⟩
def RD (φ:Fi) (rd:Option Nat) (b:Frame):Prop:=match rd with | none=>b.roundOf=none | some l=>∃rc,φ l=some rc/\b.roundOf=some rc.blk
theorem RD.mono {φ φ' : Fi} {rd:Option Nat} {b:Frame} (k:RD φ rd b) (l:Le φ φ'):RD φ' rd b:=by
 cases rd with
 | none=>exact k
 | some x=>obtain⟨rc,h1,h2⟩:=k; exact⟨rc,l _ _ h1,h2⟩
def SEx (P:Program) (r:Ex):Prop:=∀rd ks c e h x e' h',r rd ks c e h=some (x,e',h')->∀(N B:Nat) φ a w ds b k cs,
 h'.next<=N->zeB φ h.next N->zcK φ e a->zaP a.size c=true->R P φ h w->RD φ rd b->zex P B φ h w ds->B<=w.heap.size->
 ∃φ' a' ds' w',Tn P φ h w φ' h' w'/\zcK φ' e' a'/\a'.size=a.size/\zex P B φ' h' w' ds'/\Arr P (lone (At b a ds (.code c :: k)) cs w) b k cs x a' ds' w'
def zzo (P:Program) (K:Xs) (r:Ex):Prop:=∀f args h v h',zbJ P K r f args h=some (v,h')->∀(N:Nat) φ args' w cs,
 h'.next<=N->zeB φ h.next N->AR φ args args'->R P φ h w->
 ∃φ' v' w' fr,Tn P φ h w φ' h' w'/\VR φ' v v'/\Steps P (lone (Frame.enter P f args'.toArray .normal) cs w) (lone fr cs w')/\fr.fn=f/\fr.leaving P w' (.returned v')
def SOp (P:Program) (K:Xs) (r:Ex):Prop:=∀o e h v h',runOp P K r o e h=some (v,h')->∀(N:Nat) φ a w ds b k cs (ops:Array Oper) i rest,
 h'.next<=N->zeB φ h.next N->zcK φ e a->R P φ h w->ops[i]?= some o->Region.wanted o (yielded ops a)=true->
 ∃φ' v' w',Tn P φ h w φ' h' w'/\VR φ' v v'/\Steps P (lone (At b a ds (.inRegion ops (i :: rest) :: k)) cs w) (lone (At b (zm2 a o.dst v') ds (.inRegion ops rest :: k)) cs w')
def zxn (P:Program) (K:Xs) (r:Ex):Prop:=∀(id:Nat) ops e h e' h',zcb P K r ops e h=some (e',h')->∀(N:Nat) φ a w ds b k cs,
 h'.next<=N->zeB φ h.next N->zcK φ e a->zaP a.size (.region id ops true)=true->R P φ h w->
 ∃φ' a' w',Tn P φ h w φ' h' w'/\zcK φ' e' a'/\a'.size=a.size/\Steps P (lone (At b a ds (.code (.region id ops true) :: k)) cs w) (lone (At b a' ds k) cs w')
theorem R.nomark (r:R P φ h w) {q:Nat} (hq:w.heap[q]?= some (.deferred (some []))):∀b o rc,h.get b=some o->φ b=some rc->rc.blk≠q:=by grind[obj,OR]
theorem zgR {b:Frame} {B:Nat} {a:Array Value} {cs:List Frame} {td:List Item} (hk:b.kind=.normal):∀(ds:List Deferred) (w:World),zex P B φ h w ds->R P φ h w->
 ∃w',Steps P (lone { At b a ds td with mode:=.returning } cs w) (lone { At b a [] td with mode:=.returning } cs w')/\R P φ h w'/\w'.heap.size=w.heap.size/\w'.os=w.os/\w'.tape=w.tape/\w'.output=w.output/\
  (∀c,c < B->w'.heap[c]?= w.heap[c]?)
 | [],w,_,r=>by grind[Steps.refl]
 | d :: ds,w,⟨⟨q,h1,h2,h3,h4,h5⟩,hm⟩,r=>by
   have hnm:=r.nomark h3
   let w1:World:={ w with heap:=w.heap.setIfInBounds q (.deferred none) }
   have r1:R P φ h w1:=⟨by grind[R.obj],r.inj,r.lt⟩
   have hm1:zex P B φ h w1 ds:=by
    induction ds with
    | nil=>trivial
    | cons d2 ds ih=>
      obtain⟨⟨q2,g1,g2,g3,g4,g5⟩,gm⟩:=hm
      exact⟨by grind,by grind⟩
   obtain⟨w',s,r',g1,g2,g3,g4,g5⟩:=zgR hk ds w1 hm1 r1
   refine⟨w',Steps.head ?_ s,r',by grind,g2,g3,g4,by grind⟩
   have hg:(getObj q).run P w=.ok (.deferred (some [])) w:=by grind[zbX]
   have hset:(setObj q (.deferred none)).run P w=.ok () w1:=by grind[zbY]
   have htake:(Instr.takeDeferred q).run P w=.ok [] w1:=by
    simp[Instr.takeDeferred,hg,hset]
   obtain⟨tg,ar⟩:=d
   subst h1
   refine step_lone_go ?_
   simp[stepG,unwind,At,htake]
structure zbK (P:Program) (K:Xs):Prop where
 ext:∀f g,K f=some (.ext g)->∀φ args args' h w v h',g args h=some (v,h')->h.next<=h'.next->zeB φ h.next h'.next->AR φ args args'->R P φ h w->
  ∃φ' v' w',(callFunc f args'.toArray).run P w=.ok (.value v') w'/\VR φ' v v'/\Tn P φ h w φ' h' w'
 body:∀f g,K f=some (.sum g)->∃fn c,P.funcs[f]?= some fn/\fn.body=some c
 sum:∀f g,K f=some (.sum g)->∀args h v h',g args h=some (v,h')->h.next<=h'.next->∀(N:Nat) φ args' w cs,h'.next<=N->zeB φ h.next N->AR φ args args'->R P φ h w->
  ∃φ' v' w' fr,Tn P φ h w φ' h' w'/\VR φ' v v'/\Steps P (lone (Frame.enter P f args'.toArray .normal) cs w) (lone fr cs w')/\fr.fn=f/\fr.leaving P w' (.returned v')
theorem zlu {n m:Nat} (hnm:n<=m):∀(c:Code),zaP n c=true->zaP m c=true:=by
 have hb:∀d,Nat.blt d n=true->Nat.blt d m=true:=by grind[Q5]
 intro c
 induction c<;>grind[zaP]
theorem zqO {args args' : List Value} (ha:AR φ args args') (n:Nat):zcK φ (Tr.ofList args) (args'.toArray ++ Array.replicate n undef):=by
 intro i
 rw[Tr.get_ofList]
 by_cases hi:i < args.length
 ·obtain⟨v',hv',hr⟩:=ha.at i args[i] (by simp)
  have hi' : i < args'.length:=by grind
  have:(args'.toArray ++ Array.replicate n undef).getD i undef=v':=by
   rw[Qe hi'] at hv'
   simp[Array.getElem?_append,hi',hv']
  grind
 ·rw[List.getElem?_eq_none (by omega)]
  exact .junk _
def zos (a:Array Value):ResultVar->Sem Value
 | .tmp t=>pure (a.getD t undef)
 | .cell p t=>do loadVar t (<-asAddr (a.getD p undef))
theorem zpv (r:R P φ h w) {e:Env} {a:Array Value} (k:zcK φ e a) {rv:ResultVar} {v:Value} (hs:zbW P e h rv=some v):
 ∃v',(zos a rv).run P w=.ok v' w/\VR φ v v':=by
 cases rv with
 | tmp t=>
   simp only[zbW,Qa] at hs
   subst hs
   exact⟨a.getD t undef,rfl,k t⟩
 | cell p t=>
   simp only[zbW] at hs
   obtain⟨u',h1,h2⟩:=zjA r hs (k p)
   refine⟨u',?_,h2⟩
   unfold zbL at hs
   have hv:=k p
   split at hs
   ·rename_i b off hev
    rw[zdH] at hev
    rw[hev] at hv
    show ((do loadVar t (<-asAddr (a.getD p undef)):Sem Value)).run P w=.ok u' w
    generalize a.getD p undef=x at hv h1 ⊢
    cases hv
    grind[Instr.loadAt,Instr.sureAddr,asAddr]
   grind
theorem zkg (r:R P φ h w) {e:Env} {a:Array Value} (k:zcK φ e a) {fn:Func} {v:Value} (hs:zb6 P e h fn.results.toList=some v):
 ∃v',(results fn a).run P w=.ok v' w/\VR φ v v':=by
 have key:∀(l:List ResultVar) (vs:List Value),l.mapM (zbW P e h)=some vs->∃vs',(l.mapM (zos a)).run P w=.ok vs' w/\AR φ vs vs':=by
  intro l
  induction l with
  | nil=>
    intro vs hv
    simp at hv
    subst hv
    exact⟨[],by simp,trivial⟩
  | cons rv l ih=>
    intro vs hv
    rw[List.mapM_cons] at hv
    simp only[bind,Option.bind_eq_some_iff,pure,Qa] at hv
    obtain⟨v1,h1,vs1,h2,rfl⟩:=hv
    obtain⟨v1',g1,g2⟩:=zpv r k h1
    obtain⟨vs1',g3,g4⟩:=ih vs1 h2
    exact⟨v1' :: vs1',by grind[Sem.run_bind,Result.andThen_ok,Sem.run_pure],g2,g4⟩
 unfold zb6 at hs
 cases hm:fn.results.toList.mapM (zbW P e h) with
 | none=>grind
 | some vs=>
   obtain⟨vs',g1,g2⟩:=key _ _ hm
   have hrun:(fn.results.mapM (zos a)).run P w=.ok vs'.toArray w:=by
    rw[Array.mapM_eq_mapM_toList,Sem.run_map,g1]
    rfl
   have hlen:=g2.length
   rw[hm] at hs
   have hres:results fn a=(fn.results.mapM (zos a)).bind λvs=>pure (if h:vs.size=1 then vs[0] else .tuple vs):=rfl
   have hr0:(results fn a).run P w=.ok (if h:vs'.toArray.size=1 then vs'.toArray[0] else .tuple vs'.toArray) w:=by
    rw[hres,Sem.run_bind',hrun]
    rfl
   match vs,vs',hs,g2,hlen,hr0 with
   | [u],[u'],hs,g2,_,hr0=>
     simp only[Qa] at hs
     subst hs
     exact⟨u',by grind,g2.1⟩
   | [],[],hs,g2,_,hr0=>grind[AR.tuple]
   | x :: y :: l,x' :: y' :: l',hs,g2,_,hr0=>grind[AR.tuple]
def zzp (P:Program) (r:Ex):Prop:=∀f args h v h',zeU P r f args h=some (v,h')->∀(N:Nat) φ args' w cs,
 h'.next<=N->zeB φ h.next N->AR φ args args'->R P φ h w->
 ∃φ' v' w' fr,Tn P φ h w φ' h' w'/\VR φ' v v'/\Steps P (lone (Frame.enter P f args'.toArray .normal) cs w) (lone fr cs w')/\fr.fn=f/\fr.leaving P w' (.returned v')
theorem zjD {r:Ex} (G:zdM P) (S:SEx P r):zzp P r:=by
 intro f args h v h' hs N φ args' w cs hN hF ha hr
 unfold zeU at hs
 split at hs
 rotate_left
 ·grind
 rename_i fn hfn
 split at hs
 rotate_left
 ·grind
 rename_i c hc
 let b:Frame:={ (default:Frame) with fn:=f,kind:=.normal,roundOf:=none }
 have henter:Frame.enter P f args'.toArray .normal=At b (args'.toArray ++ Array.replicate (fn.ntmps - args'.toArray.size) undef) [] [.code c]:=by grind[Frame.enter,At]
 have hdst:zaP (args'.toArray ++ Array.replicate (fn.ntmps - args'.toArray.size) undef).size c=true:=zlu (by grind) c (G.dst f fn c hfn hc)
 have fin:∀(x:AX) e1 h1,(x=.normal\/x=.ret)->r none [] c (Tr.ofList args) h=some (x,e1,h1)->(match zb6 P e1 h1 fn.results.toList with | some v=>some (v,h1) | none=>none)=some (v,h')->
  ∃φ' v' w' fr,Tn P φ h w φ' h' w'/\VR φ' v v'/\Steps P (lone (Frame.enter P f args'.toArray .normal) cs w) (lone fr cs w')/\fr.fn=f/\fr.leaving P w' (.returned v'):=by
  intro x e1 h1 hx hrun hres
  split at hres
  rotate_left
  ·grind
  rename_i v0 hv0
  simp only[Qa,Qf] at hres
  obtain⟨rfl,rfl⟩:=hres
  obtain⟨φ1,a1,ds1,w1,t1,k1,sz1,m1,ar1⟩:=S none [] c (Tr.ofList args) h x e1 h1 hrun N w.heap.size φ (args'.toArray ++ Array.replicate (fn.ntmps - args'.toArray.size) undef) w [] b [] cs hN hF (zqO ha _) hdst hr (by rfl) trivial (Qc _)
  rw[<-henter] at ar1
  have harr:∃td,Steps P (lone (Frame.enter P f args'.toArray .normal) cs w) (lone { At b a1 ds1 td with mode:=.returning } cs w1):=by
   rcases hx with rfl | rfl
   ·exact⟨[],Steps.trans ar1 (.one (by rfl))⟩
   ·obtain⟨k',s⟩:=ar1
    exact⟨.code .ret :: k',Steps.trans s (.one (by rfl))⟩
  obtain⟨td,s1⟩:=harr
  obtain⟨w2,s2,r2,g1,g2,g3,g4,g5⟩:=zgR (P:=P) (φ:=φ1) (h:=h1) (b:=b) (B:=w.heap.size) (a:=a1) (cs:=cs) (td:=td) rfl ds1 w1 m1 t1.rel
  obtain⟨v',hv1,hv2⟩:=zkg r2 k1 hv0
  have t2:Tn P φ h w φ1 h1 w2:=⟨t1.le,t1.new,t1.nle,r2,by rw[g1]; exact t1.size,g2.trans t1.os,g3.trans t1.tape,g4.trans t1.output,
   by grind[Tn.keep],t1.old⟩
  refine⟨φ1,v',w2,_,t2,hv2,s1.trans s2,rfl,rfl,rfl,rfl,fn,hfn,hv1⟩
 grind
theorem zbZ {r:Ex} (G:zdM P) (X:zbK P K) (S:SEx P r):zzo P K r:=by
 intro f args h v h' hs N φ args' w cs hN hF ha hr
 unfold zbJ at hs
 split at hs
 ·rename_i g hk
  obtain⟨h1,h2⟩:=zcn hs
  exact X.sum f g hk args h v h' h2 h1 N φ args' w cs hN hF ha hr
 ·grind
 ·exact zjD G S f args h v h' hs N φ args' w cs hN hF ha hr
theorem zhT {r:Ex} (X:zbK P K) {f:FuncId} {args:List Value} {v:Value} (hs:zbJ P K r f args h=some (v,h')):∃fn c,P.funcs[f]?= some fn/\fn.body=some c:=by
 unfold zbJ at hs
 split at hs
 ·rename_i g hk
  exact X.body f g hk
 all_goals grind[zeU]
end
section
variable {P:Program} {K:Xs} {φ φ' : Fi} {h h' : AH} {w w' : World}
theorem zcK.putAll:∀{ps:List Tmp} {vs vs' : List Value} {e:Env} {a:Array Value},zcK φ e a->AR φ vs vs'->vs.length=ps.length->(∀d∈ps,d < a.size)->
 zcK φ (putAll e ps vs) ((ps.zip vs').foldl (λtmps p=>tmps.setIfInBounds p.1 p.2) a)/\((ps.zip vs').foldl (λtmps p=>tmps.setIfInBounds p.1 p.2) a).size=a.size
 | [],[],[],e,a,k,_,_,_=>⟨k,rfl⟩
 | d :: ps,v :: vs,v' :: vs',e,a,k,r,hl,hd=>by
   simp only[Am.putAll,List.zip_cons_cons,List.foldl_cons]
   have:=zcK.putAll (k.put (hd d (by simp)) r.1) r.2 (by simpa using hl) (by grind)
   grind
 | [],_ :: _,_,_,_,_,_,hl,_=>by grind
 | _ :: _,[],_,_,_,_,_,hl,_=>by grind
 | [],[],_ :: _,_,_,_,r,_,_=>r.elim
 | _ :: _,_ :: _,[],_,_,_,r,_,_=>r.elim
theorem R.loop (r:R P φ h w) {l:Nat} {L:zqw} {rc:Rec} (hb:h.get l=some (.loop L)) (hφ:φ l=some rc):∃L' : Loop,w.heap[rc.blk]?= some (.loop L')/\zcK φ L.env L'.tmps/\L'.params.toList=L.params/\L'.assign=L.assign/\L'.body=L.body/\L'.pending=L.pending/\
 L'.state=(match L.state with | .ready=>.ready | .busy=>.busy | .done=>.done | .over=>.exhausted)/\zaP L'.tmps.size L.assign=true/\zaP L'.tmps.size L.body=true/\(∀d∈L.params,d < L'.tmps.size):=by
 obtain⟨o',ho,hr⟩:=r.obj l _ rc hb hφ
 cases o' <;> simp only[OR] at hr
 grind
theorem zcv {q:Nat} {L' : Loop} (ho:w.heap[q]?= some (.loop L')):(Instr.getLoop q).run P w=.ok L' w:=by
 simp[Instr.getLoop,zbX (P:=P) ho (by simp)]
theorem Tn.setLoop (r:R P φ h w) {l:Nat} {L L2:zqw} {rc:Rec} {L' L2' : Loop} (hb:h.get l=some (.loop L)) (hφ:φ l=some rc) (ho:w.heap[rc.blk]?= some (.loop L')) (hr:OR P φ rc (.loop L2) (.loop L2')):
 (setObj rc.blk (.loop L2')).run P w=.ok () { w with heap:=w.heap.setIfInBounds rc.blk (.loop L2') }/\Tn P φ h w φ (h.set l (.loop L2)) { w with heap:=w.heap.setIfInBounds rc.blk (.loop L2') }:=
 ⟨by grind[zbY],Tn.put r hb hφ rfl hr 0⟩
theorem zm9 {r:Ex} (S:SEx P r) (M:zfk r) {l:Nat} {args args' : List Value} {v:Value} (hs:zc6 r l args h=some (v,h')) {rc:Rec} (hφ:φ l=some rc) (ha:AR φ args args') (hr:R P φ h w) {N:Nat} (hN:h'.next<=N) (hF:zeB φ h.next N) (c:Frame) (cs:List Frame):
 ∃φ' v' w',Tn P φ h w φ' h' w'/\VR φ' v v'/\∃fn tmps assign body,(Instr.yield rc.blk args'.toArray).run P w=.ok (.round rc.blk fn tmps assign body) w/\
  Steps P (lone (Frame.round rc.blk fn tmps assign body .normal) (c :: cs) w) (lone (c.finish v') cs w'):=by
 unfold zc6 at hs
 cases hl:h.get l with
 | none=>grind
 | some ob=>
   rw[hl] at hs
   cases ob with
   | loop L0=>
     simp only at hs
     obtain⟨L',ho,ke,hps,has,hbd,hpe,hst,hd1,hd2,hd3⟩:=hr.loop hl hφ
     by_cases hlen:args.length=L0.params.length
     ·rw[if_pos hlen] at hs
      have hlen' : args'.toArray.size=L'.params.size:=by grind[AR.length]
      have hrun:(Instr.yield rc.blk args'.toArray).run P w=.ok (.round rc.blk L'.fn ((L0.params.zip args').foldl (λtmps p=>tmps.setIfInBounds p.1 p.2) L'.tmps) L0.assign L0.body) w:=by
       have e1:(L'.params.zip args'.toArray).foldl (λtmps (p:Tmp×Value)=>tmps.setIfInBounds p.1 p.2) L'.tmps=(L0.params.zip args').foldl (λtmps p=>tmps.setIfInBounds p.1 p.2) L'.tmps:=by grind[Array.toList_zip]
       simp only[Instr.yield,Sem.run_bind,zcv ho,Result.andThen_ok]
       grind[Sem.run_pure]
      obtain⟨kp,ksz⟩:=zcK.putAll ke ha hlen hd3
      generalize htm:(L0.params.zip args').foldl (λtmps p=>tmps.setIfInBounds p.1 p.2) L'.tmps=tm at hrun kp ksz
      let b:Frame:={ (default:Frame) with fn:=L'.fn,kind:=.normal,roundOf:=some rc.blk }
      have hround:Frame.round rc.blk L'.fn tm L0.assign L0.body .normal=At b tm [] [.code L0.assign,.beginRound,.code L0.body]:=rfl
      cases hr1:r (some l) [] L0.assign (Am.putAll L0.env L0.params args) h with
      | none=>grind
      | some y=>
        obtain⟨x1,e2,h2⟩:=y
        rw[hr1] at hs
        cases x1 with
        | normal=>
          simp only at hs
          cases hl2:h2.get l with
          | none=>grind
          | some ob2=>
            rw[hl2] at hs
            cases ob2 with
            | loop L2=>
              simp only at hs
              by_cases hst2:L2.state=.ready
              ·rw[if_pos hst2] at hs
               cases hr2:r (some l) [] L0.body e2 (h2.set l (.loop { L2 with state:=.busy })) with
               | none=>grind
               | some z=>
                 obtain⟨x,e4,h4⟩:=z
                 rw[hr2] at hs
                 simp only at hs
                 cases hl4:h4.get l with
                 | none=>grind
                 | some ob4=>
                   rw[hl4] at hs
                   cases ob4 with
                   | loop L4=>
                     have hn4:h'.next=h4.next:=by
                      cases x <;> simp only[Qa,Qf] at hs <;> (rw[<-hs.2]; rfl)
                     have m2:=M _ _ _ _ _ _ _ _ hr2
                     simp only[AH.next_set] at m2
                     obtain⟨φ1,a1,ds1,w1,t1,k1,sz1,m1,ar1⟩:=S (some l) [] L0.assign _ h .normal e2 h2 hr1 N w.heap.size φ tm w [] b [.beginRound,.code L0.body] (c :: cs) (by omega) hF kp (by grind) hr ⟨rc,hφ,rfl⟩ trivial (Qc _)
                     have hφ1:=t1.le l rc hφ
                     obtain⟨L2',ho2,ke2,hps2,has2,hbd2,hpe2,hst2',hd21,hd22,hd23⟩:=t1.rel.loop hl2 hφ1
                     obtain⟨hset,tb⟩:=Tn.setLoop (L2:={ L2 with state:=.busy }) (L2':={ L2' with state:=.busy }) t1.rel hl2 hφ1 ho2 ⟨ke2,hps2,has2,hbd2,hpe2,rfl,hd21,hd22,hd23⟩
                     have hbegin:(Instr.beginRound rc.blk).run P w1=.ok () { w1 with heap:=w1.heap.setIfInBounds rc.blk (.loop { L2' with state:=.busy }) }:=by
                      rw[hst2] at hst2'
                      simp only[Instr.beginRound,Sem.run_bind,zcv ho2,Result.andThen_ok,hset,hst2',Sem.run_pure]
                     have hstep:step P (lone (At b a1 ds1 [.beginRound,.code L0.body]) (c :: cs) w1)=.next (lone (At b a1 ds1 [.code L0.body]) (c :: cs) { w1 with heap:=w1.heap.setIfInBounds rc.blk (.loop { L2' with state:=.busy }) }):=
                      step_lone_go (by simp[stepG,stepG.exec,stepG.apply,At,b,hbegin,Frame.finish])
                     have t1b:=t1.trans tb
                     obtain⟨φ3,a3,ds3,w3,t3,k3,sz3,_,ar3⟩:=S (some l) [] L0.body e2 _ x e4 h4 hr2 N w.heap.size φ1 a1 _ ds1 b [] (c :: cs) (by omega) (hF.tn t1b) k1 (by grind) tb.rel ⟨rc,hφ1,rfl⟩ (m1.tn tb) t1b.size
                     have hφ3:=t3.le l rc hφ1
                     obtain⟨L4',ho4,ke4,hps4,has4,hbd4,hpe4,hst4,hd41,hd42,hd43⟩:=t3.rel.loop hl4 hφ3
                     have t13:=t1b.trans t3
                     have sAll:Steps P (lone (Frame.round rc.blk L'.fn tm L0.assign L0.body .normal) (c :: cs) w) (lone (At b a1 ds1 [.code L0.body]) (c :: cs) { w1 with heap:=w1.heap.setIfInBounds rc.blk (.loop { L2' with state:=.busy }) }):=by
                      exact Steps.trans ar1 (.one hstep)
                     have fin:∀(j:Option Code) (todo:List Item),Steps P (lone (At b a1 ds1 [.code L0.body]) (c :: cs) { w1 with heap:=w1.heap.setIfInBounds rc.blk (.loop { L2' with state:=.busy }) }) (lone (At b a3 ds3 todo) (c :: cs) w3)->
                      (∀w4 v4,(Instr.endRound rc.blk j).run P w3=.ok v4 w4->step P (lone (At b a3 ds3 todo) (c :: cs) w3)=.next (lone (c.finish v4) cs w4))->
                      some (Value.bool j.isNone,h4.set l (.loop { L4 with state:=if j.isNone then .ready else .done,pending:=j }))=some (v,h')->
                      ∃φ' v' w',Tn P φ h w φ' h' w'/\VR φ' v v'/\∃fn tmps assign body,(Instr.yield rc.blk args'.toArray).run P w=.ok (.round rc.blk fn tmps assign body) w/\
                       Steps P (lone (Frame.round rc.blk fn tmps assign body .normal) (c :: cs) w) (lone (c.finish v') cs w'):=by
                      intro j todo st hend hres
                      obtain⟨rfl,rfl⟩:=hres
                      obtain⟨hset4,t4⟩:=Tn.setLoop (L2:={ L4 with state:=if j.isNone then .ready else .done,pending:=j }) (L2':={ L4' with state:=if j.isNone then .ready else .done,pending:=j }) t3.rel hl4 hφ3 ho4
                       ⟨ke4,hps4,has4,hbd4,rfl,by grind,hd41,hd42,hd43⟩
                      have hrunE:(Instr.endRound rc.blk j).run P w3=.ok (.bool j.isNone) { w3 with heap:=w3.heap.setIfInBounds rc.blk (.loop { L4' with state:=if j.isNone then .ready else .done,pending:=j }) }:=by
                       simp only[Instr.endRound,Sem.run_bind,zcv ho4,Result.andThen_ok,hset4,Sem.run_pure]
                      exact⟨φ3,_,_,t13.trans t4,.bool _,_,_,_,_,hrun,(by grind[Steps.trans,Steps.one])⟩
                     cases x with
                     | normal=>
                       refine fin none [] ar3 (λw4 v4 he=>?_) hs
                       exact step_lone_go (by simp[stepG,stepG.exec,At,b,he,doReturn])
                     | exit id=>
                       obtain⟨k',s3,hex⟩:=ar3
                       refine fin (some (.exit id)) _ s3 (λw4 v4 he=>?_) hs
                       have hex' : exitTo id k'= none:=by rw[hex]; rfl
                       exact step_lone_go (by simp[stepG,stepG.exec,At,b,he,doReturn,hex'])
                     | ret=>
                       obtain⟨k',s3⟩:=ar3
                       refine fin (some .ret) _ s3 (λw4 v4 he=>?_) hs
                       exact step_lone_go (by simp[stepG,stepG.exec,At,b,he,doReturn])
                   | _=>grind
              grind
            | _=>grind
        | _=>grind
     grind
   | _=>grind
theorem zjE {r:Ex} (G:zdM P) (X:zbK P K) (S:SEx P r) (M:zfk r):SOp P K r:=by
 intro o e h v h' hs N φ a w ds b k cs ops i rest hN hF ke hr ho hw
 unfold runOp at hs
 split at hs
 ·rename_i fo args ats hop
  have hx:=VR.eval ke fo
  have hargs:=AR.map ke args.toList
  unfold zcs at hs
  split at hs
  ·rename_i g first cap hev
   rw[hev] at hx
   obtain⟨fn',first',cap',hv',hfr,hf1,hf2⟩:=hx.funcAR
   cases hfr
   have hall:=(hf1.append hargs).append hf2
   have e1:((first'.toList ++ args.toList.map (rho a)) ++ cap'.toList).toArray=(first' ++ args.map (rho a)) ++ cap':=by simp
   unfold zdQ at hs
   split at hs
   ·rename_i gx hk
    obtain⟨hle,hs⟩:=zcn hs
    obtain⟨φ',v',w',hrun,hvr,t⟩:=X.ext g gx hk φ _ _ h w v h' hs hle (hF.mono hN) hall hr
    have hex:(execOp (rho a) o).run P w=.ok (.value v') w':=by grind[execOp,resolve,Deferred.ofValue,invoke]
    grind[Steps.one,zuW]
   have hcs:=hs
   obtain⟨φ',v',w',fr,t,hvr,st,hfn,hlv⟩:=zbZ (K:=K) G X S g _ h v h' hs N φ _ w (At b a ds (.inRegion ops (i :: rest) :: k) :: cs) hN hF hall hr
   have hen:(execOp (rho a) o).run P w=.ok (.enter g ((first'.toList ++ args.toList.map (rho a)) ++ cap'.toList).toArray) w:=by
    obtain⟨fn,c,hfn',hc⟩:=zhT X hcs
    have hname:=G.name g fn hfn'
    simp only[execOp,hop,resolve,hv',Deferred.ofValue,Sem.run_bind,Sem.run_pure,Result.andThen_ok,invoke,callFunc,run_program,hfn',hname,hc]
    simp
   refine⟨φ',v',w',t,hvr,Steps.head (by grind[ztu]) (st.trans (.one ?_))⟩
   have e2:At b (zm2 a o.dst v') ds (.inRegion ops rest :: k)=(At b a ds (.inRegion ops (i :: rest) :: k)).finish v':=by grind[zdR]
   grind[step_leave_returned]
  ·rename_i l first cap hev
   rw[hev] at hx
   obtain⟨fn',first',cap',hv',hfr,hf1,hf2⟩:=hx.funcAR
   cases hfr with
   | yield hφ=>
     rename_i rc
     obtain⟨φ',v',w',t,hvr,fn,tm,as,bd,hy,st⟩:=zm9 S M hs hφ (hf1.append hargs) hr hN hF (At b a ds (.inRegion ops (i :: rest) :: k)) cs
     have hen:(execOp (rho a) o).run P w=.ok (.round rc.blk fn tm as bd) w:=by
      have e1:(first'.toList ++ args.toList.map (rho a)).toArray=first' ++ args.map (rho a):=by simp
      grind[execOp,resolve,Deferred.ofValue,invoke]
     refine⟨φ',v',w',t,hvr,Steps.head (by grind[ztv]) (st.trans ?_)⟩
     grind[zdR,Steps.refl]
  grind
 ·have hnd:∀c,o.op≠.defer c:=by grind[aOp]
  obtain⟨φ',v',w',hv,hvr,t⟩:=zts G hr hs ke (λhlt=>hF h.next (Qc _) (by omega))
  grind[Steps.one,zuW,zvL]
end
end Go.Am
