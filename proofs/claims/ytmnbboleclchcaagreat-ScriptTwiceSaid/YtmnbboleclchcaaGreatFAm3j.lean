/-
  Texts of this proof, part 10. No condition.
-/
import Derived.Test.YtmnbboleclchcaaGreatFAm3g
import Derived.ChangeSame
set_option linter.unusedVariables false
set_option linter.unusedSimpArgs false
namespace Go.Am
section
variable {P:Program} {K:Xs} {r:Ex} {ops:Array Oper}
theorem zh0 {ord:List Nat} {l:List (Env×AH)} {n:Nat} {O:Nat->Oper} {E:Nat->Env} {H:Nat->AH} {V:Nat->Value}
 (hO:∀p,p < n->∃j,ord[p]?= some j/\ops[j]?= some (O p)) (hl:∀p,p<=n->l[p]?= some (E p,H p)) (hE:∀p,p < n->E (p+1)=putO (E p) (O p).dst (V p))
 {p x:Nat} (hp:p < n) (hx:x<=n) (h:za6 P ops ord l p x=true):Re P ops O E H V p x:=by
 unfold za6 at h
 have e1:(ord[p]?).bind (ops[·]?)=some (O p):=by grind
 rw[e1,hl p (by omega),hl (p+1) (by omega),hl x hx] at h
 simp only at h
 cases hw:zaI ops (O p) (E p) with
 | none=>grind
 | some t=>
   rw[hw] at h
   cases t with
   | false=>exact .inl hw
   | true=>
     cases hd:(O p).dst with
     | none=>grind
     | some d=>
       rw[hd] at h
       cases ha:aOp P (O p) (E p) (H x) with
       | none=>grind
       | some y=>
         obtain⟨v,h''⟩:=y
         rw[ha] at h
         have:=zxq h
         rw[zdH,hE p hp,hd,zfn] at this
         subst this
         exact .inr ⟨h'',ha⟩
theorem zpy {r:Ex} (Op:SOp P K r) (M:zfk r):zxn P K r:=by
 intro id ops e h e' h' hs N φ a w ds b k cs hN hF ke hdst hr
 unfold zcb at hs
 cases hp:zvF P ops with
 | none=>grind
 | some pl=>
   obtain⟨ord,ps⟩:=pl
   rw[hp] at hs
   simp only at hs
   cases hl:zcU P K r ops ord e h with
   | none=>grind
   | some l=>
     rw[hl] at hs
     simp only at hs
     cases hall:ps.all (λp=>za6 P ops ord l p.1 p.2 && za6 P ops ord l p.1 (p.2+1)) with
     | false=>grind
     | true=>
       rw[hall] at hs
       simp only at hs
       unfold zvF at hp
       simp only at hp
       cases hc:(zfb .any ops [] (eagerOrd P ops (Region.before ops)) && zgL ops.size (eagerOrd P ops (Region.before ops)) && zfb .text ops [] (List.range ops.size) &&
        (zfb .gc ops [] (zy4 ops ops.size 0 []) && zgL ops.size (zy4 ops ops.size 0 []))) with
       | false=>grind
       | true=>
         rw[hc] at hp
         simp only[Qd] at hp hc
         obtain⟨⟨⟨c1,c2⟩,c3⟩,c4,c5⟩:=hc
         cases hpa:zfd P ops (Region.before ops) (eagerOrd P ops (Region.before ops)) 0 with
         | none=>grind
         | some ps'=>
           rw[hpa] at hp
           simp only[Qa,Qf] at hp
           obtain⟨rfl,rfl⟩:=hp
           generalize eagerOrd P ops (Region.before ops)=ord at *
           obtain⟨hll,hl0,hlp⟩:=zlE hl
           obtain⟨hnd1,hnd2⟩:=zhZ ord [] c1
           let n:=ord.length
           let J:Nat->Nat:=λp=>ord.getD p 0
           let O:Nat->Oper:=λp=>ops.getD (J p) default
           let E:Nat->Env:=λp=>(l.getD p (e,h)).1
           let H:Nat->AH:=λp=>(l.getD p (e,h)).2
           have hJ:∀p,p < n->ord[p]?= some (J p):=by grind
           have hlE:∀p,p<=n->l[p]?= some (E p,H p):=by grind
           have hat:∀p,p < n->ops[J p]?= some (O p):=λp hp=>by
            have hm:=(hnd1 (J p) (QP (hJ p hp))).2
            simp only[O]
            rw[Jc,Array.getElem?_eq_getElem hm]; rfl
           have hV0:∀p,p < n->∃v,E (p+1)=putO (E p) (O p).dst v/\
            ((zaI ops (O p) (E p)=some true/\runOp P K r (O p) (E p) (H p)=some (v,H (p+1)))\/(zaI ops (O p) (E p)=some false/\v=zdq/\H (p+1)=H p)):=by
            intro p hp
            grind
           obtain⟨V,hV⟩:∃V:Nat->Value,∀p,p < n->E (p+1)=putO (E p) (O p).dst (V p)/\
            ((zaI ops (O p) (E p)=some true/\runOp P K r (O p) (E p) (H p)=some (V p,H (p+1)))\/(zaI ops (O p) (E p)=some false/\V p=zdq/\H (p+1)=H p)):=
            ⟨λp=>if hp:p < n then (hV0 p hp).choose else undef,by grind⟩
           have hre:∀y,y∈ps'->y.1 < n->y.2 < n->Re P ops O E H V y.1 y.2/\Re P ops O E H V y.1 (y.2+1):=by
            intro y hy h1 h2
            simp only[Qz,Qd] at hall
            obtain⟨q1,q2⟩:=hall y hy
            exact⟨zh0 (by grind) hlE (by grind) h1 (by omega) q1,zh0 (by grind) hlE (by grind) h1 (by omega) q2⟩
           have hpair:∀p q,p < q->q < n->zAE P ops J O E H V p q:=by
            intro p q hpq hq
            have hp:p < n:=by omega
            obtain⟨x,hx,hx2⟩:=zfo hpa p q (J p) (J q) hpq (hJ p hp) (hJ q hq)
            unfold zol at hx
            rw[hat p hp,hat q hq,Qq,Qq] at hx
            simp only at hx
            cases hdd:zhC (O p) (O q) with
            | false=>grind
            | true=>
              have hne:∀d,(O p).dst=some d->(O q).dst≠some d:=by
               intro d h1 h2
               unfold zhC at hdd
               rw[h1,h2] at hdd
               simp at hdd
              refine⟨hne,?_⟩
              cases hod:((Region.before ops).getD (J q) 0).testBit (J p) with
              | true=>exact .inl hod
              | false=>
                cases hlk:zhD ops (O p) (O q) with
                | true=>grind
                | false=>
                  rw[hlk] at hx
                  unfold zhD at hlk
                  simp only[Bool.or_eq_false_iff] at hlk
                  obtain⟨k1,k2⟩:=hlk
                  refine .inr ⟨λd hd=>?_,λd hd=>?_,λhq3=>?_,λhp3 hq2=>?_⟩
                  ·grind
                  ·grind
                  ·refine⟨λhp3=>?_,λhp1=>?_,λhp2=>?_⟩
                   ·grind
                   ·grind
                   ·exact hre (p,q) (by grind) hp hq
                  ·exact hre (q,p) (by grind) hq hp
           have T:Txt P K r ops n J O E H V:=by
            refine⟨hat,by grind,λp hp=>(hV p hp).2,λp hp=>?_,λp q hp hq hpq=>?_,hpair⟩
            ·rcases (hV p hp).2 with ⟨_,h1⟩ | ⟨_,_,h1⟩
             ·exact zek M h1
             grind
            ·grind[List.getElem_inj]
           have hH0:H 0=h/\E 0=e:=by grind
           have hHn:H n=h'/\E n=e':=by
            grind
           have hJs:∀i,i < ops.size->∃p,p < n/\J p=i:=by
            intro i hi
            obtain⟨p,hp,he⟩:=Jg (zhY c2 i hi)
            grind
           have hszO:∀p,p < n->∀t,(O p).dst=some t->t < a.size:=by
            simp only[zaP,Qz] at hdst
            grind[Q5]
           let w1:World:={ w with drawn:=w.drawn+1 }
           have hr1:R P φ h w1:=hr.drew 1
           have hcur0:∀b o,Cur P n O H (λp=>(Array.replicate ops.size false).getD (J p) false=true) 0 b o->h.get b=some o:=by
            intro b o hc
            rcases hc with hc | ⟨p,_,hp,hd,_⟩
            ·grind
            ·have:(Array.replicate ops.size false).getD (J p) false=false:=by
              rw[Jc,Array.getElem?_replicate]
              split <;> rfl
             grind
           have hrep:∀i,¬(Array.replicate ops.size false).getD i false=true:=by
            intro i hd
            have:(Array.replicate ops.size false).getD i false=false:=by
             rw[Jc,Array.getElem?_replicate]
             split <;> rfl
            rw[this] at hd
            simp at hd
           have M0:Mid P n O H φ w1 (λp=>(Array.replicate ops.size false).getD (J p) false=true) 0 φ w1:=by
            refine⟨Qg _,by omega,by grind,.inl rfl,λb o rc hc=>hr1.obj b o rc (hcur0 b o hc),by grind[R.inj],
             by rw[hH0.1]; exact hr1.lt,λb hb=>.inl hb,Le.refl _,Qc _,rfl,rfl,rfl,λ_ _ _=>rfl,by grind⟩
           have k0:zhV n O E V (λp=>(Array.replicate ops.size false).getD (J p) false=true) e:=⟨by grind,by grind⟩
           have hFH:zeB φ (H 0).next N:=by rw[hH0.1]; exact hF
           have hNH:(H n).next<=N:=by rw[hHn.1]; exact hN
           have hcl0:zlz ops (λi=>(Array.replicate ops.size false).getD i false=true):=λj o hd=>absurd hd (hrep j)
           have hun0:(unl ops (Array.replicate ops.size false)).length<=ops.size:=by
            have:=List.length_filter_le (λi=>!(Array.replicate ops.size false).getD i true) (List.range ops.size)
            simpa[unl] using this
           have key:∃m' φ' w' e2 a',Mid P n O H φ w1 (λp=>True) m' φ' w'/\zhV n O E V (λp=>True) e2/\zcK φ' e2 a'/\a'.size=a.size/\
            Steps P (lone (At b a ds (.inRegion ops (Region.schedule (P.follows .mixedOrders) ops (w.tape w.drawn (.order b.fn id))) :: k)) cs w1) (lone (At b a' ds (.inRegion ops [] :: k)) cs w'):=by
            have go:∀(md:Region.Mode) (lin:List Nat) (t:Nat),zfb md ops [] lin=true->zgL ops.size lin=true->∃m' φ' w' e2 a',Mid P n O H φ w1 (λp=>True) m' φ' w'/\zhV n O E V (λp=>True) e2/\zcK φ' e2 a'/\a'.size=a.size/\
             Steps P (lone (At b a ds (.inRegion ops (Region.linearise md ops t) :: k)) cs w1) (lone (At b a' ds (.inRegion ops [] :: k)) cs w'):=λmd lin t q1 q2=>
             zlD Op T hFH hNH hJs q1 (zhY q2) ds b k cs a.size hszO ops.size t (Array.replicate ops.size false) 0 φ w1 e a (by simp) hcl0 hun0 M0 k0 ke rfl
            unfold Region.schedule
            split
            ·exact go .any ord _ c1 c2
            ·split
             ·exact go .text (List.range ops.size) _ c3 (by simp[zgL])
             ·exact go .gc _ _ c4 c5
           obtain⟨m',φ',w',e2,a',M',k',ke',sz',st⟩:=key
           have hno:∀p,m'<=p->p < n->zax P (O p).op≠3:=by grind[Mid.high]
           have hrel:=M'.rel T hFH hNH M'.mle (Qc n) hno
           obtain⟨i1,i2,_,_⟩:=M'.seg T hFH hNH n M'.mle (Qc n) hno
           rw[hHn.1] at hrel i1 i2
           have kn:=T.envAt n (Qc n)
           have hee:∀t,e2.get t=e'.get t:=by
            intro t
            rw[<-hHn.2]
            by_cases hex:∃q,q < n/\(O q).dst=some t
            ·obtain⟨q,hq,hd⟩:=hex
             rw[k'.done q hq trivial t hd,kn.done q hq hq t hd]
            ·rw[k'.rest t (by grind),kn.rest t (by grind)]
           refine⟨φ',a',w',⟨M'.le,?_,?_,hrel,M'.size,M'.os,M'.tape,M'.output,?_,?_⟩,λt=>by rw[<-hee t]; exact ke' t,sz',Steps.head zvK (st.trans (.one zuV))⟩
           ·intro b hb
            rcases M'.dom b hb with hb | ⟨p,g1,_,g2,g3⟩
            ·exact .inl hb
            ·refine .inr ⟨?_,?_⟩
             ·rw[<-hH0.1]; exact Qm (T.mono 0 p (by omega) (by omega)) g2
             ·exact by grind[Txt.mono]
           ·rw[<-hH0.1,<-hHn.1]; exact T.mono 0 n (by omega) (by omega)
           ·intro c hc ho
            refine M'.keep c hc ?_
            rw[hH0.1]; exact ho
           ·intro b o rc hb hφ hlt
            have:=M'.old b o rc (by grind) hφ hlt
            rw[hH0.1] at this
            exact this
end
section
variable {P:Program} {K:Xs} {φ φ' : Fi} {h h' : AH} {w w' : World}
theorem zdv {P:Program} {K:Xs} (G:zdM P) (X:zbK P K):∀n,SEx P (ex P K n)
 | 0=>λrd ks c e h x e' h' hs=>by simp[ex] at hs
 | n+1=>by
   have S:=zdv (K:=K) G X n
   have M:=zqJ (P:=P) (K:=K) n
   exact zlv G X S M (zpy (zjE G X S M) M)
def zpz (w w' : World):Prop:=w'.os=w.os/\w'.output=w.output/\w.heap.size<=w'.heap.size/\∀c,c < w.heap.size->w'.heap[c]?= w.heap[c]?
theorem zpz.but (k:zpz w w') (may:MemPlace->Prop):w.keptBut w' may:=by
 obtain⟨h1,h2,h3,h4⟩:=k
 refine⟨h1,h2,λi hi=>?_⟩
 rw[h4 i hi]
 cases w.heap[i]? with
 | none=>rfl
 | some o=>cases o <;> first | rfl | exact⟨rfl,rfl,rfl,λ_ _=>rfl⟩ | exact .inr ⟨rfl,rfl⟩
def ztA (h:AH):Prop:=∀b o,h.get b=some o->o.ro=true
theorem ztB (G:zdM P) (X:zbK P K) {n:Nat} {f:FuncId} {args:List Value} {v:Value} (hs:zbJ P K (ex P K n) f args h=some (v,h')) {args' : Array Value}
 (hr:R P φ h w) (hf:∀b,h.next<=b->φ b=none) (hro:ztA h) (ha:AR φ args args'.toList):
 Calls P f args' w λe w'=>∃φ' v',e=.returned v'/\VR φ' v v'/\R P φ' h' w'/\Le φ φ'/\zpz w w':=by
 intro cs
 obtain⟨φ',v',w',fr,t,hv,st,hfn,hlv⟩:=zbZ (K:=K) G X (zdv G X n) f args h v h' hs h'.next φ args'.toList w cs (Qc _) (λb h1 _=>hf b h1) ha hr
 refine⟨.returned v',w',fr,⟨φ',v',rfl,hv,t.rel,t.le,t.os,t.output,t.size,λc hc=>t.keep c hc ?_⟩,?_,hfn,hlv⟩
 ·rintro⟨b,o,rc,h1,_,_,h4⟩
  rw[hro b o h1] at h4
  simp at h4
 ·exact (show Steps P _ _ by simpa using st)
theorem VR.bool_eq {v' : Value} {b:Bool} (h:VR φ (.bool b) v'):v'= .bool b:=by cases h; rfl
theorem zpA (G:zdM P) (X:zbK P K) {n:Nat} {f:FuncId} {args:List Value} (hs:zbJ P K (ex P K n) f args h=some (.bool true,h')) {args' : Array Value}
 (hr:R P φ h w) (hf:∀b,h.next<=b->φ b=none) (hro:ztA h) (ha:AR φ args args'.toList):
 Calls P f args' w λe w'=>e=.returned (.bool true)/\zpz w w':=
 (ztB G X hs hr hf hro ha).mono λe w' ⟨φ',v',he,hv,_,_,hk⟩=>⟨by rw[he,hv.bool_eq],hk⟩
def Call (P:Program) (K:Xs) (f:FuncId) (args:List Value) (h:AH) (Q:Value->AH->Prop):Prop:=∃n v h',zbJ P K (ex P K n) f args h=some (v,h')/\Q v h'
def W (P:Program) (K:Xs) (rd:Option Nat) (ks:List Tmp) (c:Code) (e:Env) (h:AH) (Q:AX->Env->AH->Prop):Prop:=∃n x e' h',ex P K n rd ks c e h=some (x,e',h')/\Q x e' h'
end
section
variable {P:Program} {K:Xs} {φ φ' : Fi} {h h' : AH} {w w' : World}
def zki (s:ByteArray) (c:Int):Int:=match (List.range s.size).find? λi=>s[i]! == c.toNat.toUInt8 with | some i=>(i:Int) | none=>-1
def zco:List Value->AH->Option (Value×AH)
 | [.string s,.int .u8 c],h=>some (.int .i64 (zki s c),h)
 | _,_=>none
def zh1 (P:Program) (f:FuncId):Prop:=∃fn,P.funcs[f]?= some fn/\fn.body=none/\(fn.name == "runtime.NumGoroutine")=false/\Extern.findNext fn=none/\Extern.find fn=some Extern.BytealgIndexByte.indexByte
theorem zkj {f:FuncId} (hx:zh1 P f):∀φ args args' h w v h',zco args h=some (v,h')->h.next<=h'.next->zeB φ h.next h'.next->AR φ args args'->R P φ h w->
 ∃φ' v' w',(callFunc f args'.toArray).run P w=.ok (.value v') w'/\VR φ' v v'/\Tn P φ h w φ' h' w':=by
 intro φ args args' h w v h' hs _ _ ha hr
 unfold zco at hs
 split at hs
 ·rename_i h0 s c
  simp only[Qa,Qf] at hs
  obtain⟨rfl,rfl⟩:=hs
  obtain⟨x1,x2,rfl,h1,h2⟩:=zy5 ha
  cases h1
  cases h2
  obtain⟨fn,g1,g2,g3,g4,g5⟩:=hx
  refine⟨φ,.int .i64 (zki s c),w,?_,.int _ _,Tn.refl hr⟩
  have hrun:(Extern.BytealgIndexByte.indexByte [Value.string s,Value.int IntKind.u8 c].toArray).run P w=.ok (.int .i64 (zki s c)) w:=by
   show Sem.run P (match (List.range s.size).find? λi=>s[i]! == c.toNat.toUInt8 with | some i=>pure (goInt i) | none=>pure (goInt (-1))) w=_
   unfold zki
   split <;> rfl
  generalize Extern.BytealgIndexByte.indexByte=ee at g5 hrun
  simp only[callFunc,Sem.run_bind,run_program,Result.andThen_ok,g1,g3,g2,Option.isNone_none,g4,g5]
  simp[mark,Sem.run,hrun]
 ·simp at hs
end
section
variable {P:Program} {K:Xs}
theorem zdM.of (hz:P.types.all (λi=>match i.zero with | some z=>zoo z | none=>true)=true)
 (hf:P.funcs.all (λfn=>(match fn.body with | some c=>zaP fn.ntmps c | none=>true) && !(fn.name == "runtime.NumGoroutine"))=true) (hd:Nat.ble 50 P.depth=true):zdM P where
 zero:=λt i z ht hi hz'=>by
  unfold Tables.info? at hi
  rw[if_pos ht] at hi
  have:=Array.all_eq_true_iff_forall_mem.1 hz i (Array.mem_of_getElem? hi)
  rw[hz'] at this
  exact this
 dst:=λf fn c h1 h2=>by
  have:=Array.all_eq_true_iff_forall_mem.1 hf fn (Array.mem_of_getElem? h1)
  rw[h2] at this
  simp only[Qd] at this
  exact this.1
 name:=λf fn h1=>by
  have:=Array.all_eq_true_iff_forall_mem.1 hf fn (Array.mem_of_getElem? h1)
  simp only[Qd] at this
  simpa using this.2
 depth:=Qr hd
def zjh (n:Nat):Xs:=λf=>cond (Nat.beq f n) (some (.ext zco)) none
theorem zpB {n:Nat} (hx:zh1 P n):zbK P (zjh n) where
 ext:=λf g hk=>by
  unfold zjh at hk
  cases hb:Nat.beq f n with
  | true=>
    rw[hb] at hk
    simp only[cond_true,Qa,XF.ext.injEq] at hk
    subst hk
    have:f=n:=Qb hb
    subst this
    exact zkj hx
  | false=>rw[hb] at hk; simp at hk
 body:=λf g hk=>by
  unfold zjh at hk
  cases hb:Nat.beq f n <;> rw[hb] at hk <;> simp at hk
 sum:=λf g hk=>by
  unfold zjh at hk
  cases hb:Nat.beq f n <;> rw[hb] at hk <;> simp at hk
def zlF:Option (Value×AH)->Bool
 | some (.bool true,_)=>true
 | _=>false
theorem zlG {y:Option (Value×AH)} (h:zlF y=true):∃h',y=some (.bool true,h'):=by
 unfold zlF at h
 split at h
 ·exact⟨_,rfl⟩
 ·simp at h
section
open Go.ChangeShapes Go.WideShapes
end
end
section
def Wc (P:Program) (K:Xs) (rd:Option Nat) (c:Code) (e:Env) (h:AH) (Q:AX->Env->AH->Prop):Prop:=∃n x e' h',ex P K n rd [] c e h=some (x,e',h')/\Q x e' h'
def Wf (P:Program) (K:Xs) (f:FuncId) (args:List Value) (h:AH) (Q:Value->AH->Prop):Prop:=∃n v h',zdQ P K (ex P K n) f args h=some (v,h')/\Q v h'
def Wo (P:Program) (K:Xs) (o:Oper) (e:Env) (h:AH) (Q:Value->AH->Prop):Prop:=∃n v h',runOp P K (ex P K n) o e h=some (v,h')/\Q v h'
def Ws (P:Program) (K:Xs) (ops:Array Oper) (os:List Oper) (e:Env) (h:AH) (Q:Env->AH->Prop):Prop:=∃n e' h',zbj P K (ex P K n) [] ops os e h=some (e',h')/\Q e' h'
def Wd (P:Program) (K:Xs) (ops:Array Oper) (e:Env) (h:AH) (Q:Env->AH->Prop):Prop:=∃n e' h',zcb P K (ex P K n) ops e h=some (e',h')/\Q e' h'
variable {P:Program} {K:Xs} {rd:Option Nat} {e:Env} {h:AH} {Q:AX->Env->AH->Prop}
theorem Wc.mono {c:Code} {Q' : AX->Env->AH->Prop} (w:Wc P K rd c e h Q) (hq:∀x e' h',Q x e' h'->Q' x e' h'):Wc P K rd c e h Q':=by
 obtain⟨n,x,e',h',h1,h2⟩:=w
 exact⟨n,x,e',h',h1,hq x e' h' h2⟩
theorem Wf.mono {f:FuncId} {args:List Value} {Q Q' : Value->AH->Prop} (w:Wf P K f args h Q) (hq:∀v h',Q v h'->Q' v h'):Wf P K f args h Q':=by
 obtain⟨n,v,h',h1,h2⟩:=w
 exact⟨n,v,h',h1,hq v h' h2⟩
theorem zbO {c:Code}:Wc P K rd c e h Q↔∃n x e' h',zaK P K (ex P K n) rd [] c e h=some (x,e',h')/\Q x e' h':=by
 constructor
 ·rintro⟨n,x,e',h',h1,h2⟩
  cases n with
  | zero=>grind[ex]
  | succ n=>exact⟨n,x,e',h',h1,h2⟩
 ·rintro⟨n,x,e',h',h1,h2⟩
  exact⟨n+1,x,e',h',h1,h2⟩
theorem znc:Wc P K rd .skip e h Q↔Q .normal e h:=by
 rw[zbO]
 exact⟨by grind[zaK],λhq=>⟨0,_,_,_,rfl,hq⟩⟩
theorem zkk {l:Nat}:Wc P K rd (.label l) e h Q↔Q .normal e h:=by
 rw[zbO]
 exact⟨by grind[zaK],λhq=>⟨0,_,_,_,rfl,hq⟩⟩
theorem Wc_ret:Wc P K rd .ret e h Q↔Q .ret e h:=by
 rw[zbO]
 exact⟨by grind[zaK],λhq=>⟨0,_,_,_,rfl,hq⟩⟩
theorem znd {i:Nat}:Wc P K rd (.exit i) e h Q↔Q (.exit i) e h:=by
 rw[zbO]
 exact⟨by grind[zaK],λhq=>⟨0,_,_,_,rfl,hq⟩⟩
def onN (k:Env->AH->Prop) (Q:AX->Env->AH->Prop):AX->Env->AH->Prop
 | .normal,e,h=>k e h
 | x,e,h=>Q x e h
theorem zpC {k:Env->AH->Prop}:onN k Q .normal e h=k e h:=rfl
theorem zvP {k:Env->AH->Prop}:onN k Q .ret e h=Q .ret e h:=rfl
theorem ztC {k:Env->AH->Prop} {i:Nat}:onN k Q (.exit i) e h=Q (.exit i) e h:=rfl
theorem zuZ {a b:Code}:Wc P K rd (.seq a b) e h Q↔Wc P K rd a e h (onN (λe' h'=>Wc P K rd b e' h' Q) Q):=by
 constructor
 ·rw[zbO]
  rintro⟨n,x,e',h',h1,h2⟩
  simp only[zaK] at h1
  split at h1
  ·rename_i e1 h3 hr
   exact⟨n,_,_,_,hr,n,x,e',h',h1,h2⟩
  ·refine⟨n,x,e',h',h1,?_⟩
   cases x with
   | normal=>grind
   | _=>exact h2
 ·rintro⟨n,x,e',h',h1,h2⟩
  rw[zbO]
  cases x with
  | normal=>
    obtain⟨m,y,e2,h3,h4,h5⟩:=h2
    refine⟨max n m,y,e2,h3,?_,h5⟩
    simp only[zaK]
    rw[zfm (by omega) _ _ _ _ _ _ h1]
    exact zfm (by omega) _ _ _ _ _ _ h4
  | exit i=>exact⟨n,_,e',h',by grind[zaK],h2⟩
  | ret=>exact⟨n,_,e',h',by grind[zaK],h2⟩
theorem zqS {c:Operand} {a b:Code} {t:Bool} (hc:ev e c=.bool t):Wc P K rd (.cond c a b) e h Q↔Wc P K rd (cond t a b) e h Q:=by
 rw[zbO]
 constructor
 ·rintro⟨n,x,e',h',h1,h2⟩
  simp only[zaK,hc] at h1
  exact⟨n,x,e',h',by grind,h2⟩
 ·rintro⟨n,x,e',h',h1,h2⟩
  grind[zaK]
def zji (id:Nat) (Q:AX->Env->AH->Prop):AX->Env->AH->Prop
 | .exit i,e,h=>cond (Nat.beq i id) (Q .normal e h) (Q (.exit i) e h)
 | x,e,h=>Q x e h
theorem zlH {id:Nat}:zji id Q .normal e h=Q .normal e h:=rfl
theorem zqT {id:Nat}:zji id Q .ret e h=Q .ret e h:=rfl
theorem zpD {id:Nat}:zji id Q (.exit id) e h=Q .normal e h:=by simp[zji]
theorem zkl {id:Nat} {c:Code}:Wc P K rd (.block id c) e h Q↔Wc P K rd c e h (zji id Q):=by
 rw[zbO]
 constructor
 ·rintro⟨n,x,e',h',h1,h2⟩
  simp only[zaK] at h1
  split at h1
  ·rename_i i e1 h3 hr
   refine⟨n,_,_,_,hr,?_⟩
   grind[zji]
  ·refine⟨n,x,e',h',h1,?_⟩
   cases x with
   | exit i=>grind
   | _=>exact h2
 ·rintro⟨n,x,e',h',h1,h2⟩
  cases x<;>grind[zji,zaK]
theorem zkm {c:Code}:Wc P K rd (.scope c) e h Q↔Wc P K rd c e h Q:=by
 rw[zbO]
 rfl
theorem zvQ {c:Code}:Wc P K rd (.loop c) e h Q↔Wc P K rd c e h (onN (λe' h'=>Wc P K rd (.loop c) e' h' Q) Q):=by
 constructor
 ·rw[zbO]
  rintro⟨n,x,e',h',h1,h2⟩
  simp only[zaK] at h1
  split at h1
  ·rename_i e1 h3 hr
   exact⟨n,_,_,_,hr,n,x,e',h',h1,h2⟩
  ·refine⟨n,x,e',h',h1,?_⟩
   cases x with
   | normal=>grind
   | _=>exact h2
 ·rintro⟨n,x,e',h',h1,h2⟩
  rw[zbO]
  cases x with
  | normal=>
    obtain⟨m,y,e2,h3,h4,h5⟩:=h2
    refine⟨max n m,y,e2,h3,?_,h5⟩
    simp only[zaK]
    rw[zfm (by omega) _ _ _ _ _ _ h1]
    exact zfm (by omega) _ _ _ _ _ _ h4
  | exit i=>exact⟨n,_,e',h',by grind[zaK],h2⟩
  | ret=>exact⟨n,_,e',h',by grind[zaK],h2⟩
theorem zh2 {c:Code} (I:Nat->Env->AH->Prop) (hI:∀k e h,I k e h->Wc P K rd c e h (onN (λe' h'=>∃j,j < k/\I j e' h') Q)):∀k e h,I k e h->Wc P K rd (.loop c) e h Q:=by
 intro k
 induction k using Nat.strongRecOn with
 | ind k ih=>
   intro e h hi
   rw[zvQ]
   refine (hI k e h hi).mono λx e' h' hq=>?_
   cases x with
   | normal=>obtain⟨j,hj,hi'⟩:=hq; exact ih j hj e' h' hi'
   | exit i=>exact hq
   | ret=>exact hq
theorem zlI {id:Nat} {ops:Array Oper}:Wc P K rd (.region id ops false) e h Q↔Ws P K ops ops.toList e h (λe' h'=>Q .normal e' h'):=by
 rw[zbO]
 constructor
 ·rintro⟨n,x,e',h',h1,h2⟩
  simp only[zaK] at h1
  split at h1
  ·rename_i e1 h3 hr
   obtain⟨rfl,rfl,rfl⟩:=h1
   exact⟨n,_,_,hr,h2⟩
  grind
 ·rintro⟨n,e',h',h1,h2⟩
  grind[zaK]
theorem zqU {id:Nat} {ops:Array Oper}:Wc P K rd (.region id ops true) e h Q↔Wd P K ops e h (λe' h'=>Q .normal e' h'):=by
 rw[zbO]
 constructor
 ·rintro⟨n,x,e',h',h1,h2⟩
  simp only[zaK] at h1
  split at h1
  ·rename_i e1 h3 hr
   obtain⟨rfl,rfl,rfl⟩:=h1
   exact⟨n,_,_,hr,h2⟩
  grind
 ·rintro⟨n,e',h',h1,h2⟩
  grind[zaK]
theorem zqV {ops:Array Oper} {Q:Env->AH->Prop}:Ws P K ops [] e h Q↔Q e h:=
 ⟨λ⟨n,e',h',h1,h2⟩=>by grind[zbj],λhq=>⟨0,_,_,rfl,hq⟩⟩
theorem zh3 (d:Option Tmp):preKill [] d e h=h:=by unfold preKill; grind
theorem zxr {ops:Array Oper} {o:Oper} {os:List Oper} {Q:Env->AH->Prop} (hw:zaI ops o e=some true):Ws P K ops (o :: os) e h Q↔Wo P K o e h (λv h'=>Ws P K ops os (putO e o.dst v) h' Q):=by
 constructor
 ·rintro⟨n,e',h',h1,h2⟩
  simp only[zbj,hw,zh3] at h1
  split at h1
  ·rename_i v h3 hr
   exact⟨n,v,h3,hr,n,e',h',h1,h2⟩
  grind
 ·rintro⟨n,v,h3,h1,m,e',h',h4,h5⟩
  refine⟨max n m,e',h',?_,h5⟩
  simp only[zbj,hw,zh3]
  rw[zhk (by grind[zfm]) h1]
  exact zfl (by grind[zfm]) h4
theorem zqW {ops:Array Oper} {o:Oper} {os:List Oper} {Q:Env->AH->Prop} (hw:zaI ops o e=some false):Ws P K ops (o :: os) e h Q↔Ws P K ops os (putO e o.dst zdq) h Q:=by
 constructor
 ·rintro⟨n,e',h',h1,h2⟩
  simp only[zbj,hw] at h1
  exact⟨n,e',h',h1,h2⟩
 ·rintro⟨n,e',h',h1,h2⟩
  exact⟨n,e',h',by grind[zbj],h2⟩
def zfp:Op->Bool
 | .call { callee:=.value _,.. }=>true
 | _=>false
theorem zdw {r:Ex} {o:Oper} (hc:zfp o.op=false):runOp P K r o e h=aOp P o e h:=by
 obtain⟨d,op,t,p,af,g⟩:=o
 cases op
 case call c=>
  obtain⟨callee,args,ats⟩:=c
  cases callee
  case value f=>grind[zfp]
  all_goals rfl
 all_goals rfl
theorem zkn {o:Oper} {Q:Value->AH->Prop} (hc:zfp o.op=false) {v:Value} {h' : AH} (ha:aOp P o e h=some (v,h')):Wo P K o e h Q↔Q v h':=by
 constructor
 ·rintro⟨n,v1,h1,h2,h3⟩
  grind[zdw]
 ·intro hq
  exact⟨0,v,h',by grind[zdw],hq⟩
theorem zqX {d:Option Tmp} {f:Operand} {args:Array Operand} {ats:Array TypeId} {t:TypeId} {p:String} {af:Array Edge} {gd:Option (Nat×Bool)} {Q:Value->AH->Prop} {g:FuncId} {first cap:Array Value} (hf:ev e f=.func (.func g) first cap):
 Wo P K ⟨d,.call ⟨.value f,args,ats⟩,t,p,af,gd⟩ e h Q↔Wf P K g (first.toList ++ args.toList.map (ev e) ++ cap.toList) h Q:=by grind[Wo,Wf,runOp,zcs]
theorem zel {r:Ex} {f:FuncId} {args:List Value} (hk:K f=none):zdQ P K r f args h=zeU P r f args h:=by grind[zdQ,zbJ]
theorem zot {f:FuncId} {args:List Value} {Q:Value->AH->Prop} {fn:Func} {c:Code} (hk:K f=none) (hf:P.funcs[f]?= some fn) (hc:fn.body=some c):
 Wf P K f args h Q↔Wc P K none c (Tr.ofList args) h (λx e' h'=>(x=.normal\/x=.ret)/\∃v,zb6 P e' h' fn.results.toList=some v/\Q v h'):=by
 constructor
 ·rintro⟨n,v,h',h1,h2⟩
  rw[zel hk] at h1
  unfold zeU at h1
  simp only[hf,hc] at h1
  split at h1
  ·rename_i e1 h3 hr
   split at h1
   ·rename_i v0 hv
    obtain⟨rfl,rfl⟩:=h1
    exact⟨n,_,_,_,hr,.inl rfl,_,hv,h2⟩
   grind
  ·rename_i e1 h3 hr
   split at h1
   ·rename_i v0 hv
    obtain⟨rfl,rfl⟩:=h1
    exact⟨n,_,_,_,hr,.inr rfl,_,hv,h2⟩
   grind
  grind
 ·rintro⟨n,x,e',h',h1,hx,v,h2,h3⟩
  refine⟨n,v,h',?_,h3⟩
  grind[zel,zeU]
theorem ztD (G:zdM P) (X:zbK P K) {f:FuncId} {args:List Value} (hk:K f=none) (w0:Wf P K f args h (λv _=>v=.bool true)) {φ:Fi} {w:World} {args' : Array Value}
 (hr:R P φ h w) (hf:∀b,h.next<=b->φ b=none) (hro:ztA h) (ha:AR φ args args'.toList):
 Calls P f args' w λe w'=>e=.returned (.bool true)/\zpz w w':=by
 obtain⟨n,v,h',h1,rfl⟩:=w0
 rw[zel hk] at h1
 refine zpA (K:=K) (n:=n) (h':=h') G X ?_ hr hf hro ha
 grind[zbJ]
end
end Go.Am
