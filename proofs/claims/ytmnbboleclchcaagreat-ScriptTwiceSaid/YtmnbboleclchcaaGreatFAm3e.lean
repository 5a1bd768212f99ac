/-
  Texts of this proof, part 8. No condition.
-/
import Derived.Test.YtmnbboleclchcaaGreatFAm3b
set_option linter.unusedVariables false
set_option linter.unusedSimpArgs false
namespace Go.Am
section
variable {P:Program} {K:Xs} {φ φ' : Fi} {h h' : AH} {w w' : World}
theorem zpw (r:R P φ h w) (ks:List Tmp) (d:Option Tmp) (e:Env):Tn P φ h w φ (preKill ks d e h) w:=by
 unfold preKill
 grind[Tn.kill,Tn.refl]
theorem zpx {n j:Nat} (hj:j < n):(List.range n).drop j=j :: (List.range n).drop (j+1):=by grind[QU]
theorem zdS {r:Ex} (Op:SOp P K r) (M:zfk r) {ks:List Tmp} {ops:Array Oper} (hd:∀o∈ops.toList,∀t,o.dst=some t->Nat.blt t 0=true\/True):
 ∀(os:List Oper) (j:Nat) (e e' : Env) (h h' : AH),ops.toList.drop j=os->zbj P K r ks ops os e h=some (e',h')->∀(N:Nat) φ a w ds b k cs,
  h'.next<=N->zeB φ h.next N->zcK φ e a->(∀o∈ops.toList,∀t,o.dst=some t->t < a.size)->R P φ h w->
  ∃φ' a' w',Tn P φ h w φ' h' w'/\zcK φ' e' a'/\a'.size=a.size/\Steps P (lone (At b a ds (.inRegion ops ((List.range ops.size).drop j) :: k)) cs w) (lone (At b a' ds (.inRegion ops [] :: k)) cs w')
 | [],j,e,e',h,h',hj,hs,N,φ,a,w,ds,b,k,cs,hN,hF,ke,hdst,hr=>by
   obtain⟨rfl,rfl⟩:=hs
   have hlen:ops.size<=j:=by simp_all
   have:(List.range ops.size).drop j=[]:=by grind[Q6]
   rw[this]
   exact⟨φ,a,w,Tn.refl hr,ke,rfl,Steps.refl P _⟩
 | o :: os,j,e,e',h,h',hj,hs,N,φ,a,w,ds,b,k,cs,hN,hF,ke,hdst,hr=>by
   have hlt:j < ops.size:=by grind[Q6]
   have hoj:ops[j]?= some o:=by
    have:(ops.toList.drop j)[0]?= some o:=by grind
    grind
   have hj' : ops.toList.drop (j+1)=os:=by
    have:(ops.toList.drop j).drop 1=os:=by grind
    grind[QC]
   have hmem:o∈ops.toList:=by grind
   rw[zpx hlt]
   unfold zbj at hs
   split at hs
   ·rename_i hw
    split at hs
    ·rename_i v h1 hr1
     have n1:=zdt M hs
     have n0:=zek M hr1
     have tk:=zpw hr ks o.dst e
     have hF' : zeB φ (preKill ks o.dst e h).next N:=by grind[zgQ]
     obtain⟨φ1,v',w1,t1,hv,st⟩:=Op o e _ v h1 hr1 N φ a w ds b k cs ops j ((List.range ops.size).drop (j+1)) (by omega) hF' ke tk.rel hoj (zfj ke hw)
     have t01:=tk.trans t1
     obtain⟨φ2,a2,w2,t2,k2,sz2,st2⟩:=zdS Op M hd os (j+1) _ e' h1 h' hj' hs N φ1 (zm2 a o.dst v') w1 ds b k cs hN (hF.tn t01) ((ke.mono t1.le).putO (by grind) hv)
      (by grind[zbD]) t1.rel
     grind[Tn.trans,zbD,Steps.trans]
    grind
   ·obtain⟨φ2,a2,w2,t2,k2,sz2,st2⟩:=zdS Op M hd os (j+1) _ e' h h' hj' hs N φ (zm2 a o.dst undef) w ds b k cs hN hF (ke.putO (by grind) (.skip rfl))
     (by grind[zbD]) hr
    exact⟨φ2,a2,w2,t2,k2,by grind[zbD],Steps.head (by grind[zlo,zfj]) st2⟩
   grind
theorem zxo {n:Nat} {id:Nat} {ops:Array Oper} {draw:Bool} (hc:zaP n (.region id ops draw)=true):∀o∈ops.toList,∀t,o.dst=some t->t < n:=by grind[zaP,Q5]
theorem zfZ {m0 m1 m2 m:Machine} (h0:step P m0=.next m2) (h1:step P m1=.next m2) (s:Steps P m0 m) (hne:m≠m0):Steps P m1 m:=by
 obtain⟨n,hn⟩:=s
 cases n with
 | zero=>grind[runN]
 | succ n=>simp only[runN,h0] at hn; exact Steps.head h1 ⟨n,hn⟩
theorem zhU {fr fr' : Frame} {cs:List Frame} {w w' : World} (h:lone fr cs w=lone fr' cs w'):fr.todo=fr'.todo:=by grind[lone]
theorem Arr.loopOn {b:Frame} {a1 a2:Array Value} {ds1 ds2:List Deferred} {k:List Item} {cs:List Frame} {c:Code} {x:AX} {w1 w2:World}
 (ar:Arr P (lone (At b a1 ds1 (.code (.loop c) :: k)) cs w1) b k cs x a2 ds2 w2):Arr P (lone (At b a1 ds1 (.inLoop c :: k)) cs w1) b k cs x a2 ds2 w2:=by
 cases x with
 | normal=>
   refine zfZ zfY zhQ ar (λe=>?_)
   have:=congrArg List.length (zhU e)
   grind[At]
 | exit id=>
   obtain⟨k',s,hx⟩:=ar
   exact⟨k',zfZ zfY zhQ s (λe=>by have:=zhU e; grind[At]),hx⟩
 | ret=>
   obtain⟨k',s⟩:=ar
   exact⟨k',zfZ zfY zhQ s (λe=>by have:=zhU e; grind[At])⟩
theorem Tn.push (r:R P φ h w) (O:Obj):Tn P φ h w φ h { w with heap:=w.heap.push O }:=by
 have hold:∀b o r',h.get b=some o->φ b=some r'->∃o',w.heap[r'.blk]?= some o'/\(w.heap.push O)[r'.blk]?= some o'/\OR P φ r' o o':=by grind[R.obj]
 refine⟨Le.refl _,λ_ e=>.inl e,Qc _,⟨by grind,r.inj,r.lt⟩,by simp,rfl,rfl,rfl,λc hc _=>?_,by grind⟩
 all_goals grind
theorem Tn.sameGet {h2:AH} (t:Tn P φ h w φ' h' w') (hg:∀b,h2.get b=h'.get b) (hn:h2.next=h'.next):Tn P φ h w φ' h2 w':=
 ⟨t.le,by rw[hn]; exact t.new,by rw[hn]; exact t.nle,⟨λb o rc k1=>by rw[hg] at k1; exact t.rel.obj b o rc k1,λb1 b2 o1 o2 r1 r2 k1 k2=>by rw[hg] at k1 k2; exact t.rel.inj b1 b2 o1 o2 r1 r2 k1 k2,λb o k=>by rw[hg] at k; rw[hn]; exact t.rel.lt b o k⟩,
   t.size,t.os,t.tape,t.output,t.keep,by grind[old]⟩
theorem zex.mem {B:Nat}:∀{ds:List Deferred},zex P B φ h w ds->∀d∈ds,∃q,d.target=.collected q/\w.heap[q]?= some (.deferred (some []))
 | d :: ds,⟨⟨q,h1,h2,h3,h4,h5⟩,hr⟩,d',hd=>by
   rcases Qy.1 hd with rfl | hd
   ·grind
   ·exact zex.mem hr d' hd
theorem zna {r:Ex} (G:zdM P) (X:zbK P K) (S:SEx P r) (M:zfk r) {rd:Option Nat} {ks:List Tmp} {f:Operand} {ps:Array Tmp} {as bd:Code} {e e' : Env} {x:AX} (hs:zct P K r ks f ps.toList as bd e h=some (x,e',h')) (haro:zfe rd h=true)
 {N B:Nat} {a:Array Value} {ds:List Deferred} {b:Frame} {k:List Item} {cs:List Frame}
 (hN:h'.next<=N) (hF:zeB φ h.next N) (ke:zcK φ e a) (hdst:zaP a.size (.rangeFunc f ps as bd)=true) (hr:R P φ h w) (hrd:RD φ rd b) (hm:zex P B φ h w ds) (hB:B<=w.heap.size):
 ∃φ' a' ds' w',Tn P φ h w φ' h' w'/\zcK φ' e' a'/\a'.size=a.size/\zex P B φ' h' w' ds'/\Arr P (lone (At b a ds (.code (.rangeFunc f ps as bd) :: k)) cs w) b k cs x a' ds' w':=by
 unfold zct at hs
 simp only[zaP,Qd,Qz,Q5] at hdst
 obtain⟨⟨hd1,hd2⟩,hd3⟩:=hdst
 cases hcall:zbp P K r (ev e f) h.next (h.alloc (.loop { state:=.ready,pending:=none,env:=e,params:=ps.toList,assign:=as,body:=bd,ks })) with
 | none=>grind
 | some y=>
 obtain⟨v0,h2⟩:=y
 rw[hcall] at hs
 simp only at hs
 cases hl2:h2.get h.next with
 | none=>grind
 | some ob=>
 rw[hl2] at hs
 cases ob with
 | loop L=>
   simp only at hs
   have start:∃(mk:List Deferred) (w1:World) (dq:Nat),Tn P φ h w φ h w1/\zex P B φ h w1 (mk ++ ds)/\
    (Instr.enterLoop b.fn a ps as bd b.roundOf).run P w=.ok (w1.heap.size,mk) { w1 with heap:=w1.heap.push (.loop { state:=.ready,pending:=none,fn:=b.fn,tmps:=a,params:=ps,assign:=as,body:=bd,defers:=dq }),drawn:=w1.drawn+0 }:=by
    cases rd with
    | none=>
      have hrd' : b.roundOf=none:=hrd
      let w1:World:={ w with heap:=w.heap.push (.deferred (some [])) }
      have t1:Tn P φ h w φ h w1:=Tn.push hr _
      have hq1:w1.heap[w.heap.size]?= some (.deferred (some [])):=by grind
      have hnm:=t1.rel.nomark hq1
      refine⟨[{ target:=.collected w.heap.size,args:=#[] }],w1,w.heap.size,t1,⟨⟨w.heap.size,rfl,hB,hq1,λ⟨b',o',rc',k1,k2,k3,_⟩=>by grind,λd' hd' e'=>?_⟩,hm.tn t1⟩,?_⟩
      ·obtain⟨q',k1,k2⟩:=hm.mem d' hd'
       grind
      ·rw[hrd']
       rfl
    | some lo=>
      obtain⟨rco,hφo,hro⟩:=hrd
      simp only[zfe] at haro
      split at haro
      rotate_left
      ·grind
      rename_i Lo hgo
      obtain⟨Lo',hoo,_⟩:=hr.loop hgo hφo
      refine⟨[],w,Lo'.defers,Tn.refl hr,hm,?_⟩
      rw[hro]
      simp only[Instr.enterLoop,Sem.run_bind,zcv hoo,run_newObj,Sem.run_pure,Result.andThen_ok]
      simp
   obtain⟨mk,w1,dq,t1,hm0,hent⟩:=start
   let L' : Loop:={ state:=.ready,pending:=none,fn:=b.fn,tmps:=a,params:=ps,assign:=as,body:=bd,defers:=dq }
   let l:=w1.heap.size
   let rc:Rec:=⟨l,0,0,0⟩
   have hn2:h.next+1<=h2.next:=by
    have:=zeD M hcall
    simp_all
   have hn' : h'.next=h2.next:=by
    cases hst:L.state <;> rw[hst] at hs <;> first | (simp at hs; done) | skip
    all_goals
     cases hpe:L.pending with
     | none=>rw[hpe] at hs; simp only[Qa,Qf] at hs; rw[<-hs.2.2]; rfl
     | some c=>
       rw[hpe] at hs
       cases c <;> simp only at hs <;> first | grind | (simp only[Qa,Qf] at hs; rw[<-hs.2.2]; rfl)
   have hfree:φ h.next=none:=hF _ (Qc _) (by omega)
   have t2:=Tn.alloc t1.rel (.loop { state:=.ready,pending:=none,env:=e,params:=ps.toList,assign:=as,body:=bd,ks }) (.loop L') rc hfree (by rfl)
    (λψ hψ _=>⟨ke.mono hψ,rfl,rfl,rfl,rfl,rfl,hd2,hd3,hd1⟩) 0
   have t12:=t1.trans t2
   generalize hφ1:(λb=>if b=h.next then some rc else φ b)=φ1 at t2 t12
   have hφl:φ1 h.next=some rc:=by grind
   generalize hw2:({ w1 with heap:=w1.heap.push (.loop L'),drawn:=w1.drawn+0 }:World)=w2 at t2 t12
   have hm1:zex P B φ1 (h.alloc (.loop { state:=.ready,pending:=none,env:=e,params:=ps.toList,assign:=as,body:=bd,ks })) w2 (mk ++ ds):=hm0.tn t2
   rw[hw2] at hent
   have ke1:zcK φ1 e a:=ke.mono t12.le
   have hx:=VR.eval ke1 f
   unfold zbp at hcall
   split at hcall
   rotate_left
   ·grind
   rename_i g first cap hev
   rw[hev] at hx
   obtain⟨fn',first',cap',hv',hfr,hf1,hf2⟩:=hx.funcAR
   cases hfr
   have hall:AR φ1 (first.toList ++ [Value.func (Fn.yield h.next) #[] #[]] ++ cap.toList) ((first'.toList ++ [Value.func (Fn.yield l) #[] #[]]) ++ cap'.toList):=
    (hf1.append (show AR φ1 [Value.func (Fn.yield h.next) #[] #[]] [Value.func (Fn.yield l) #[] #[]] from ⟨.func (.yield (r:=rc) hφl) rfl rfl (λi v v' hv=>by simp) (λi v v' hv=>by simp),trivial⟩)).append hf2
   have hFr:zeB φ1 (h.next+1) N:=by
    have:=hF.tn t12
    simp_all
   obtain⟨φ3,v3,w3,fr3,t3,hvr3,st3,hfn3,hlv3⟩:=zbZ (K:=K) G X S g _ _ v0 h2 hcall N φ1 _ w2 (At b a (mk ++ ds) (.inRangeFunc l :: k) :: cs) (by omega) (by simp_all) hall t2.rel
   have hargs0:(first'.toList ++ [Value.func (Fn.yield l) #[] #[]] ++ cap'.toList).toArray=(first' ++ #[Value.func (Fn.yield l) #[] #[]]) ++ cap':=by simp
   have hstart:step P (lone (At b a ds (.code (.rangeFunc f ps as bd) :: k)) cs w)=.next (lone (Frame.enter P g (first'.toList ++ [Value.func (Fn.yield l) #[] #[]] ++ cap'.toList).toArray .normal) (At b a (mk ++ ds) (.inRangeFunc l :: k) :: cs) w2):=by
    have hinv:(do let d <-resolve (rho a) { callee:=.value f,args:=#[.const (.func (.yield l) #[] #[])],argTypes:=#[] } 0; invoke d.target d.args:Sem Next).run P w2 =
     .ok (.enter g (first'.toList ++ [Value.func (Fn.yield l) #[] #[]] ++ cap'.toList).toArray) w2:=by
     obtain⟨fn,c,hfn',hc⟩:=zhT X hcall
     have hname:=G.name g fn hfn'
     have hyc:rho a (.const (.func (.yield l) #[] #[]))=.func (.yield l) #[] #[]:=rfl
     simp only[resolve,hv',Deferred.ofValue,Sem.run_bind,Sem.run_pure,Result.andThen_ok,invoke,callFunc,run_program,hfn',hname,hc]
     simp_all
    have hev':=zor b a (mk ++ ds) (.inRangeFunc l :: k)
    simp only[At] at hev'
    refine step_lone_go ?_
    simp only[stepG,stepG.exec,At]
    simp[hent]
    simp[hev',stepG.apply,hinv,l]
   have hfin:(At b a (mk ++ ds) (.inRangeFunc l :: k)).finish v3=At b a (mk ++ ds) (.endRangeFunc l :: k):=by rfl
   have st4:=step_leave_returned hlv3 (c:=At b a (mk ++ ds) (.inRangeFunc l :: k)) (cs:=cs)
   rw[hfin] at st4
   obtain⟨L3,ho3,kel,hps3,has3,hbd3,hpe3,hst3,e1,e2,e3⟩:=t3.rel.loop hl2 (t3.le _ _ hφl)
   obtain⟨hset,t4⟩:=Tn.setLoop (L2:={ L with state:=.over }) (L2':={ L3 with state:=.exhausted }) t3.rel hl2 (t3.le _ _ hφl) ho3 ⟨kel,hps3,has3,hbd3,hpe3,rfl,e1,e2,e3⟩
   have t5:=(t4.trans (Tn.del t4.rel h.next)).sameGet (h2:=h2.del h.next) (by grind[AH.get_del,AH.get_set]) rfl
   generalize hw4:({ w3 with heap:=w3.heap.setIfInBounds rc.blk (.loop { L3 with state:=.exhausted }) }:World)=w4 at hset t4 t5
   have hend:L.state≠.busy->(Instr.endLoop l).run P w3=.ok L.pending w4:=by
    have hgl:(Instr.getLoop l).run P w3=.ok L3 w3:=zcv ho3
    grind[Instr.endLoop,Sem.run_bind,Result.andThen_ok,Sem.run_pure]
   have tAll:=(t12.trans t3).trans t5
   have mAll:=(hm1.tn t3).tn t5
   have keAll:zcK φ3 e a:=ke1.mono t3.le
   have sAll:L.state≠.busy->Steps P (lone (At b a ds (.code (.rangeFunc f ps as bd) :: k)) cs w) (lone (At b a (mk ++ ds) ((L.pending.map Item.code).toList ++ k)) cs w4):=by
    intro hne
    refine Steps.head hstart (Steps.trans st3 (Steps.head st4 (.one ?_)))
    exact step_lone_go (by simp[stepG,stepG.exec,At,hend hne])
   grind[Arr]
 | _=>grind
theorem zlv {r:Ex} (G:zdM P) (X:zbK P K) (S:SEx P r) (M:zfk r) (D:zxn P K r):SEx P (zaK P K r):=by
 intro rd ks c e h x e' h' hs N B φ a w ds b k cs hN hF ke hdst hr hrd hm hB
 have Op:=zjE (K:=K) G X S M
 unfold zaK at hs
 split at hs
 ·obtain⟨rfl,rfl,rfl⟩:=hs
  exact⟨φ,a,ds,w,Tn.refl hr,ke,rfl,hm,.one zvI⟩
 ·obtain⟨rfl,rfl,rfl⟩:=hs
  exact⟨φ,a,ds,w,Tn.refl hr,ke,rfl,hm,.one ztt⟩
 ·rename_i id ops draw
  split at hs
  ·split at hs
   ·rename_i e1 h1 hr1
    simp only[Qa,Qf] at hs
    obtain⟨rfl,rfl,rfl⟩:=hs
    obtain⟨φ2,a2,w2,t2,k2,sz2,st2⟩:=zdS Op M (by simp) ops.toList 0 e e1 h h1 rfl hr1 N φ a w ds b k cs hN hF ke (zxo hdst) hr
    exact⟨φ2,a2,ds,w2,t2,k2,sz2,hm.tn t2,(Steps.head zqG (Steps.trans st2 (.one zuV)):Steps P _ _)⟩
   grind
  ·split at hs
   ·rename_i e1 h1 hr1
    simp only[Qa,Qf] at hs
    obtain⟨rfl,rfl,rfl⟩:=hs
    obtain⟨φ2,a2,w2,t2,k2,sz2,st2⟩:=D id ops e h e1 h1 hr1 N φ a w ds b k cs hN hF ke hdst hr
    exact⟨φ2,a2,ds,w2,t2,k2,sz2,hm.tn t2,st2⟩
   grind
 ·rename_i ca cb
  simp only[zaP,Qd] at hdst
  split at hs
  ·rename_i e1 h1 hr1
   have n1:=M _ _ _ _ _ _ _ _ hs
   obtain⟨φ1,a1,ds1,w1,t1,k1,sz1,m1,ar1⟩:=S rd ks ca e h .normal e1 h1 hr1 N B φ a w ds b (.code cb :: k) cs (by omega) hF ke hdst.1 hr hrd hm hB
   obtain⟨φ2,a2,ds2,w2,t2,k2,sz2,m2,ar2⟩:=S rd ks cb e1 h1 x e' h' hs N B φ1 a1 w1 ds1 b k cs hN (hF.tn t1) k1 (by grind) t1.rel (hrd.mono t1.le) m1 (Qm hB t1.size)
   exact⟨φ2,a2,ds2,w2,t1.trans t2,k2,by omega,m2,Arr.of_steps (Steps.head zqE ar1) ar2⟩
  ·obtain⟨φ1,a1,ds1,w1,t1,k1,sz1,m1,ar1⟩:=S rd ks ca e h x e' h' hs N B φ a w ds b (.code cb :: k) cs hN hF ke hdst.1 hr hrd hm hB
   refine⟨φ1,a1,ds1,w1,t1,k1,sz1,m1,?_⟩
   cases x with
   | normal=>grind
   | exit id=>obtain⟨k',s1,s2⟩:=ar1; exact⟨k',Steps.head zqE s1,by rw[s2]; rfl⟩
   | ret=>obtain⟨k',s1⟩:=ar1; exact⟨k',Steps.head zqE s1⟩
 ·rename_i c ca cb
  simp only[zaP,Qd] at hdst
  have hc:=VR.eval ke c
  split at hs
  ·rename_i t hev
   rw[hev] at hc
   have hrho:rho a c=.bool t:=by
    generalize hq:rho a c=q
    simp only[rho] at hq
    rw[hq] at hc
    cases hc
    rfl
   cases t
   ·obtain⟨φ1,a1,ds1,w1,t1,k1,sz1,m1,ar1⟩:=S rd ks cb e h x e' h' hs N B φ a w ds b k cs hN hF ke hdst.2 hr hrd hm hB
    exact⟨φ1,a1,ds1,w1,t1,k1,sz1,m1,Arr.of_steps (.one (zqF hrho)) (by grind)⟩
   ·obtain⟨φ1,a1,ds1,w1,t1,k1,sz1,m1,ar1⟩:=S rd ks ca e h x e' h' hs N B φ a w ds b k cs hN hF ke hdst.1 hr hrd hm hB
    exact⟨φ1,a1,ds1,w1,t1,k1,sz1,m1,Arr.of_steps (.one (zqF hrho)) (by grind)⟩
  grind
 ·rename_i id c
  split at hs
  ·rename_i id' e1 h1 hr1
   have n1:h'.next=h1.next:=by grind
   obtain⟨φ1,a1,ds1,w1,t1,k1,sz1,m1,ar1⟩:=S rd ks c e h (.exit id') e1 h1 hr1 N B φ a w ds b (.inBlock id :: k) cs (by omega) hF ke hdst hr hrd hm hB
   obtain⟨k',s1,s2⟩:=ar1
   cases hb:Nat.beq id' id with
   | true=>
     rw[hb] at hs
     obtain⟨rfl,rfl,rfl⟩:=hs
     have hid:id'= id:=by simp_all
     refine⟨φ1,a1,ds1,w1,t1,k1,sz1,m1,Steps.head zhh (s1.trans (.one (zvJ ?_)))⟩
     grind[exitTo]
   | false=>
     rw[hb] at hs
     obtain⟨rfl,rfl,rfl⟩:=hs
     refine⟨φ1,a1,ds1,w1,t1,k1,sz1,m1,k',Steps.head zhh s1,?_⟩
     grind[QG,exitTo]
  ·obtain⟨φ1,a1,ds1,w1,t1,k1,sz1,m1,ar1⟩:=S rd ks c e h x e' h' hs N B φ a w ds b (.inBlock id :: k) cs hN hF ke hdst hr hrd hm hB
   refine⟨φ1,a1,ds1,w1,t1,k1,sz1,m1,?_⟩
   cases x with
   | normal=>exact Steps.head zhh (Steps.trans ar1 (.one zpo))
   | exit id'=>grind
   | ret=>obtain⟨k',s1⟩:=ar1; exact⟨k',Steps.head zhh s1⟩
 ·rename_i c
  split at hs
  ·rename_i e1 h1 hr1
   have n1:=M _ _ _ _ _ _ _ _ hs
   obtain⟨φ1,a1,ds1,w1,t1,k1,sz1,m1,ar1⟩:=S rd ks c e h .normal e1 h1 hr1 N B φ a w ds b (.inLoop c :: k) cs (by omega) hF ke hdst hr hrd hm hB
   obtain⟨φ2,a2,ds2,w2,t2,k2,sz2,m2,ar2⟩:=S rd ks (.loop c) e1 h1 x e' h' hs N B φ1 a1 w1 ds1 b k cs hN (hF.tn t1) k1 (by rw[sz1]; exact hdst) t1.rel (hrd.mono t1.le) m1 (Qm hB t1.size)
   exact⟨φ2,a2,ds2,w2,t1.trans t2,k2,by omega,m2,Arr.of_steps (Steps.head zfY ar1) ar2.loopOn⟩
  ·obtain⟨φ1,a1,ds1,w1,t1,k1,sz1,m1,ar1⟩:=S rd ks c e h x e' h' hs N B φ a w ds b (.inLoop c :: k) cs hN hF ke hdst hr hrd hm hB
   refine⟨φ1,a1,ds1,w1,t1,k1,sz1,m1,?_⟩
   cases x with
   | normal=>grind
   | exit id=>obtain⟨k',s1,s2⟩:=ar1; exact⟨k',Steps.head zfY s1,by rw[s2]; rfl⟩
   | ret=>obtain⟨k',s1⟩:=ar1; exact⟨k',Steps.head zfY s1⟩
 ·rename_i c
  obtain⟨φ1,a1,ds1,w1,t1,k1,sz1,m1,ar1⟩:=S rd ks c e h x e' h' hs N B φ a w ds b (.inScope c :: k) cs hN hF ke hdst hr hrd hm hB
  refine⟨φ1,a1,ds1,w1,t1,k1,sz1,m1,?_⟩
  cases x with
  | normal=>exact Steps.head zkd (Steps.trans ar1 (.one zpp))
  | exit id=>obtain⟨k',s1,s2⟩:=ar1; exact⟨k',Steps.head zkd s1,by rw[s2]; rfl⟩
  | ret=>obtain⟨k',s1⟩:=ar1; exact⟨k',Steps.head zkd s1⟩
 ·obtain⟨rfl,rfl,rfl⟩:=hs
  exact⟨φ,a,ds,w,Tn.refl hr,ke,rfl,hm,k,Steps.refl P _,rfl⟩
 ·obtain⟨rfl,rfl,rfl⟩:=hs
  exact⟨φ,a,ds,w,Tn.refl hr,ke,rfl,hm,k,Steps.refl P _⟩
 ·split at hs
  ·grind
  ·rename_i haro
   exact zna G X S M hs haro hN hF ke hdst hr hrd hm hB
 all_goals grind
end
section
noncomputable section
variable {P:Program} {K:Xs} {φ φ' : Fi} {h h' : AH} {w w' : World}
theorem ztx {e e' : Env} {x:Operand} (h:∀t,x=.tmp t->e.get t=e'.get t):ev e x=ev e' x:=by
 cases x with
 | tmp t=>grind[zdH]
 | _=>rfl
theorem zlw {o:Oper} {e e' : Env} (hh:AH) (h:∀x∈o.op.operands,ev e x=ev e' x):aOp P o e hh=aOp P o e' hh:=by
 obtain⟨dst,op,type,pos,after,guard⟩:=o
 have pairs:∀ps:Array (Nat×Operand),(∀x∈ps.map (·.2),ev e x=ev e' x)->
  (ps.map λ(i,x)=>(i,ev e x))=(ps.map λ(i,x)=>(i,ev e' x)):=by grind
 cases op <;> simp only[Op.operands] at h <;> simp only[aOp]
 case build t ps=>rw[pairs ps λx hx=>h x (by simp_all)]
 case buildSlice t n ps=>rw[pairs ps λx hx=>h x (by simp_all)]
 case makeFunc fn first captured=>grind[Array.map_congr_left]
 case call c=>
  obtain⟨callee,args,ats⟩:=c
  cases callee <;> simp only
  grind[QY,Call.operands]
 case slice t x lo hi mx=>cases lo <;> cases hi <;> cases mx <;> simp_all
 case next it st=>cases st <;> first | rfl | grind
 case typeAssert x xt t ok=>grind
 all_goals grind
theorem zdu {r:Ex} {o:Oper} {e e' : Env} (hh:AH) (h:∀x∈o.op.operands,ev e x=ev e' x):runOp P K r o e hh=runOp P K r o e' hh:=by grind[runOp,QY,Op.operands,Call.operands,zlw]
theorem zqP {ops:Array Oper} {o:Oper} {t:Tmp} (ht:.tmp t∈o.op.operands):t∈zld ops o:=
 List.mem_append_left _ (List.mem_filterMap.2 ⟨.tmp t,by grind,rfl⟩)
theorem zty {ops:Array Oper} {o:Oper} {e e' : Env} (h:∀t∈zld ops o,e.get t=e'.get t):∀x∈o.op.operands,ev e x=ev e' x:=by grind[ztx,zqP]
theorem zkh {ops:Array Oper} {o:Oper} {e e' : Env} (h:∀t∈zld ops o,e.get t=e'.get t):zaI ops o e=zaI ops o e':=by
 unfold zaI
 cases hg:o.guard with
 | none=>rfl
 | some g=>
   obtain⟨j,w⟩:=g
   simp only
   cases hd:(ops[j]?).bind (·.dst) with
   | none=>rfl
   | some d=>
     simp only
     rw[h d (List.mem_append_right _ (by grind))]
def zbt (h:AH):Option zca->AH
 | none=>h
 | some o=>h.alloc o
theorem zlx {o:Oper} {e:Env} {v:Value} (hk:zax P o.op=2) (hs:aOp P o e h=some (v,h')):h'= h:=by
 obtain⟨dst,op,type,pos,after,guard⟩:=o
 have hm:∀(x:Option Value),x.map (·,h)=some (v,h')->h'= h:=by grind[Qk]
 cases op
 all_goals try (simp[zax] at hk; done)
 all_goals simp only[zax] at hk
 all_goals simp only[aOp] at hs
 all_goals first
  | exact hm _ hs
  | skip
 case convert s d x=>
  unfold zav at hs
  grind
 case call c=>
  obtain⟨callee,args,ats⟩:=c
  cases callee
  case builtin b=>
   cases b
   case len=>
    unfold zak at hs
    grind
   all_goals grind
  all_goals grind
theorem zda {h:AH} {o o' : zca} (e:h.alloc o=h.alloc o'):o=o':=by
 have:=congrArg (λx=>AH.get x h.next) e
 grind[AH.get_alloc]
theorem ztz {h:AH} {o:zca} (e:h=h.alloc o):False:=by
 have:=congrArg AH.next e
 simp at this
theorem zvN {o:Oper} {e:Env} {v:Value} {ob:zca} (hk:zax P o.op=1) (hs:aOp P o e h=some (v,h')) (hh:h'= h.alloc ob):ob.ro=false:=by
 subst hh
 obtain⟨dst,op,type,pos,after,guard⟩:=o
 cases op
 case alloc t=>
  simp only[aOp] at hs
  split at hs
  ·simp only[zuT,Qa,Qf] at hs
   rw[<-zda hs.2]; rfl
  grind
 case box t x=>
  simp only[aOp] at hs
  split at hs
  ·grind
  ·simp only[zuT,Qa,Qf] at hs
   rw[<-zda hs.2]; rfl
 case buildSlice t n ps=>
  simp only[aOp,zar] at hs
  repeat' (split at hs)
  all_goals first
   | (simp at hs; done)
   | (simp only[Qa,Qf] at hs
      rw[<-zda hs.2]; rfl)
 case makeMap t res=>
  simp only[aOp] at hs
  split at hs
  ·simp only[Qa,Qf] at hs
   rw[<-zda hs.2]; rfl
  grind
 case makeSlice t l c=>
  simp only[aOp,zaX] at hs
  repeat' (split at hs)
  all_goals first
   | (simp at hs; done)
   | (simp only[Qa,Qf] at hs
      rw[<-zda hs.2]; rfl)
 case convert s d x=>
  simp only[aOp,zav] at hs
  repeat' (split at hs)
  all_goals first
   | (simp at hs; done)
   | (simp only[Qa,Qf] at hs
      exact (ztz hs.2).elim)
   | (simp only[Qa,Qf] at hs
      rw[<-zda hs.2]; rfl)
   | (simp[zax, *] at hk; done)
 case call c=>
  obtain⟨callee,args,ats⟩:=c
  cases callee
  case builtin b=>cases b <;> simp[zax] at hk
  all_goals grind[zax]
 all_goals grind[zax]
theorem zjF {o:Oper} {e:Env} {v:Value} (hk:zax P o.op=0\/zax P o.op=1) (hs:aOp P o e h=some (v,h')):
 ∃x:Option zca,h'= zbt h x/\(zax P o.op=0->x=none)/\∀h2:AH,h2.next=h.next->aOp P o e h2=some (v,zbt h2 x):=by
 obtain⟨dst,op,type,pos,after,guard⟩:=o
 have hm:∀(x:Option Value),x.map (·,h)=some (v,h')->h'= h/\∀h2:AH,x.map (·,h2)=some (v,h2):=by grind[Qk]
 have pure0:∀(f:AH->Option Value),(∀a b,f a=f b)->(f h).map (·,h)=some (v,h')->∃x:Option zca,h'= zbt h x/\(x=none)/\∀h2:AH,h2.next=h.next->(f h2).map (·,h2)=some (v,zbt h2 x):=λf hf hq=>by
  obtain⟨rfl,hh⟩:=hm _ hq
  exact⟨none,rfl,rfl,λh2 _=>by rw[hf h2 h']; exact hh h2⟩
 cases op
 all_goals try (exfalso; simp[zax] at hk; done)
 all_goals simp only[zax] at hk ⊢
 all_goals simp only[aOp] at hs ⊢
 all_goals first
  | (obtain⟨rfl,hh⟩:=hm _ hs; exact⟨none,rfl,λ_=>rfl,λh2 _=>hh h2⟩)
  | (obtain⟨rfl,rfl⟩:=hs
     exact⟨none,rfl,λ_=>rfl,λh2 _=>rfl⟩)
  | skip
 case pick c a b=>
  split at hs <;> first | (simp at hs; done) | skip
  obtain⟨rfl,rfl⟩:=hs
  exact⟨none,rfl,λ_=>rfl,λh2 _=>rfl⟩
 case alloc t=>
  split at hs <;> first | (simp at hs; done) | skip
  simp only[zuT,Qa,Qf] at hs ⊢
  obtain⟨rfl,rfl⟩:=hs
  exact⟨some _,rfl,by omega,λh2 h3=>⟨by grind,rfl⟩⟩
 case box t x=>
  split at hs <;> first | grind | skip
  simp only[zuT,Qa,Qf] at hs ⊢
  obtain⟨rfl,rfl⟩:=hs
  exact⟨some _,rfl,by omega,λh2 h3=>⟨by grind,rfl⟩⟩
 case buildSlice t n ps=>
  unfold zar at hs ⊢
  repeat' split at hs
  all_goals first | (simp at hs; done) | skip
  obtain⟨rfl,rfl⟩:=hs
  refine⟨some _,rfl,by omega,λh2 h3=>?_⟩
  grind[zbt]
 case nilCheck x=>
  split at hs <;> first | (simp at hs; done) | skip
  all_goals
   obtain⟨rfl,rfl⟩:=hs
   exact⟨none,rfl,λ_=>rfl,λh2 _=>rfl⟩
 case convert s d x=>
  unfold zav at hs ⊢
  split at hs
  all_goals first | (simp at hs; done) | skip
  all_goals first
   | (obtain⟨rfl,rfl⟩:=hs
      exact⟨none,rfl,λ_=>rfl,λh2 _=>rfl⟩)
   | skip
  all_goals repeat' split at hs
  all_goals first | (simp at hs; done) | skip
  all_goals first
   | (obtain⟨rfl,rfl⟩:=hs
      refine⟨some _,rfl,by grind,λh2 h3=>?_⟩
      grind[zbt])
   | grind
 case makeFunc fn a b=>
  split at hs <;> first | (simp at hs; done) | skip
  obtain⟨rfl,rfl⟩:=hs
  exact⟨none,rfl,λ_=>rfl,λh2 _=>rfl⟩
 case makeMap t r=>
  split at hs <;> first | (simp at hs; done) | skip
  obtain⟨rfl,rfl⟩:=hs
  exact⟨some _,rfl,by omega,by grind[zbt]⟩
 case makeSlice t l c=>
  unfold zaX at hs ⊢
  repeat' split at hs
  all_goals first | (simp at hs; done) | skip
  obtain⟨rfl,rfl⟩:=hs
  refine⟨some _,rfl,by omega,λh2 h3=>?_⟩
  grind[zbt]
 case extract t i=>
  split at hs <;> first | (simp at hs; done) | skip
  obtain⟨hb,hs⟩:=zhE hs
  obtain⟨rfl,hh⟩:=hm _ hs
  exact⟨none,rfl,λ_=>rfl,λh2 _=>by simp only[hb,cond_false]; exact hh h2⟩
 case call c=>grind
theorem zdb {r:Ex} {o:Oper} (e:Env) (hk:zax P o.op≠3):runOp P K r o e h=aOp P o e h:=by
 obtain⟨dst,op,type,pos,after,guard⟩:=o
 cases op
 case call c=>
  obtain⟨callee,args,ats⟩:=c
  cases callee
  case value f=>grind[zax]
  all_goals rfl
 all_goals rfl
theorem zjG (acc:Array Nat) (i:Nat):∀(l:List Edge) (s:Nat),(l.foldl (λs e=>if Region.binds .any e then s ||| 2 ^ e.on ||| acc.getD e.on 0 else s) s).testBit i=true->
 s.testBit i=true\/∃e∈l,Region.binds .any e=true/\(e.on=i\/(acc.getD e.on 0).testBit i=true)
 | [],s,hs=>.inl hs
 | e :: l,s,hs=>by
   rcases zjG acc i l _ hs with hs | ⟨e',he',hb,hq⟩
   all_goals grind
theorem zly (a:Array Nat) (x j:Nat):(a.push x).getD j 0=if j=a.size then x else a.getD j 0:=by
 rw[Jc,Jc,Array.getElem?_push]
 grind
def zqQ (ops:List Oper) (acc:Array Nat):Prop:=∀j i,(acc.getD j 0).testBit i=true->∃o,ops[j]?= some o/\∃e∈o.after,Region.binds .any e=true/\(e.on=i\/(e.on < j/\(acc.getD e.on 0).testBit i=true))
theorem zjH (all:List Oper):∀(l:List Oper) (k:Nat) (acc:Array Nat),all.drop k=l->acc.size=k->zqQ all acc->
 zqQ all (l.foldl (λacc o=>acc.push (o.after.foldl (λs e=>if Region.binds .any e then s ||| 2 ^ e.on ||| acc.getD e.on 0 else s) 0)) acc)
 | [],_,_,_,_,hw=>hw
 | o :: l,k,acc,hl,hk,hw=>by
   refine zjH all l (k+1) _ ?_ (by grind) ?_
   ·have:(all.drop k).drop 1=l:=by grind
    grind[QC]
   ·intro j i hb
    have hget:∀q,q < k->(acc.push (o.after.foldl (λs e=>if Region.binds .any e then s ||| 2 ^ e.on ||| acc.getD e.on 0 else s) 0)).getD q 0=acc.getD q 0:=by grind[zly]
    rcases Nat.lt_trichotomy j k with hj | hj | hj
    ·rw[hget j hj] at hb
     obtain⟨o',ho,e,he,h1,h2⟩:=hw j i hb
     grind
    ·have h0:all[j]?= some o:=by
      have:(all.drop j)[0]?= some o:=by grind
      grind
     have hlast:(acc.push (o.after.foldl (λs e=>if Region.binds .any e then s ||| 2 ^ e.on ||| acc.getD e.on 0 else s) 0)).getD j 0=(o.after.foldl (λs e=>if Region.binds .any e then s ||| 2 ^ e.on ||| acc.getD e.on 0 else s) 0):=by grind[zly]
     rw[hlast,<-Array.foldl_toList] at hb
     rcases zjG acc i o.after.toList 0 hb with hz | ⟨e,he,h1,h2⟩
     all_goals grind
    grind
theorem zjI (ops:Array Oper):zqQ ops.toList (Region.before ops):=by
 unfold Region.before
 rw[<-Array.foldl_toList]
 exact zjH ops.toList ops.toList 0 #[] rfl rfl (λj i hb=>by grind)
def zlz (ops:Array Oper) (D:Nat->Prop):Prop:=∀j o,D j->ops[j]?= some o->∀e∈o.after,Region.binds .any e=true->D e.on
theorem zlz.bit {ops:Array Oper} {D:Nat->Prop} (c:zlz ops D):∀(j i:Nat),D j->((Region.before ops).getD j 0).testBit i=true->D i:=by
 intro j
 induction j using Nat.strongRecOn with
 | ind j ih=>
   intro i hd hb
   obtain⟨o,ho,e,he,h1,h2⟩:=zjI ops j i hb
   have:=c j o hd (by grind) e he h1
   grind
end
end
end Go.Am
