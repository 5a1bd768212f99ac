/-
  The machine's steps in any frame; and that names only grow.
-/
import Derived.Test.YtihmdaifbmchjaaGreatAmB
set_option linter.unusedVariables false
set_option linter.unusedSimpArgs false
namespace Go.Am
section
variable {P:Program} {φ φ' : Fi} {h h' : AH} {w w' : World}
abbrev rho (a:Array Value):Operand→Value:=({ tmps:=a,defers:=[] }:Act).eval
def At (b:Frame) (a:Array Value) (ds:List Deferred) (todo:List Item):Frame:={ b with tmps:=a,defers:=ds,todo:=todo,mode:=.run }
theorem zrU (b:Frame) (a:Array Value) (ds:List Deferred) (todo:List Item) (x:Operand):(At b a ds todo).eval x=rho a x:=by cases x <;> rfl
theorem zpd (b:Frame) (a:Array Value) (ds:List Deferred) (todo:List Item):(At b a ds todo).eval=rho a:=funext (zrU b a ds todo)
def zlJ (a:Array Value) (d:Option Tmp) (v:Value):Array Value:=match d with | some d=>a.setIfInBounds d v | none=>a
theorem zbT (a:Array Value) (d:Option Tmp) (v:Value):(zlJ a d v).size=a.size:=by cases d <;> simp[zlJ]
section
variable {b:Frame} {a:Array Value} {ds:List Deferred} {k:List Item} {cs:List Frame}
theorem zxt:step P (lone (At b a ds (.code .skip :: k)) cs w)=.next (lone (At b a ds k) cs w):=step_lone_go (by simp[stepG,stepG.exec,At])
theorem zuT {l:Nat}:step P (lone (At b a ds (.code (.label l) :: k)) cs w)=.next (lone (At b a ds k) cs w):=step_lone_go (by simp[stepG,stepG.exec,At])
theorem zqx {id:Nat}:step P (lone (At b a ds (.inBlock id :: k)) cs w)=.next (lone (At b a ds k) cs w):=step_lone_go (by simp[stepG,stepG.exec,At])
theorem zqy {c:Code}:step P (lone (At b a ds (.inScope c :: k)) cs w)=.next (lone (At b a ds k) cs w):=step_lone_go (by simp[stepG,stepG.exec,At])
theorem zrV {x y:Code}:step P (lone (At b a ds (.code (.seq x y) :: k)) cs w)=.next (lone (At b a ds (.code x :: .code y :: k)) cs w):=step_lone_go (by simp[stepG,stepG.exec,At])
theorem zrW {c:Operand} {x y:Code} {t:Bool} (hc:rho a c=.bool t):
 step P (lone (At b a ds (.code (.cond c x y) :: k)) cs w)=.next (lone (At b a ds (.code (if t then x else y) :: k)) cs w):=
 step_lone_go (by
  have:=zrU b a ds (.code (.cond c x y) :: k) c
  simp only[At] at this
  simp[stepG,stepG.exec,At,this,hc])
theorem zhk {id:Nat} {c:Code}:step P (lone (At b a ds (.code (.block id c) :: k)) cs w)=.next (lone (At b a ds (.code c :: .inBlock id :: k)) cs w):=step_lone_go (by simp[stepG,stepG.exec,At])
theorem zfV {c:Code}:step P (lone (At b a ds (.code (.loop c) :: k)) cs w)=.next (lone (At b a ds (.code c :: .inLoop c :: k)) cs w):=step_lone_go (by simp[stepG,stepG.exec,At])
theorem zhS {c:Code}:step P (lone (At b a ds (.inLoop c :: k)) cs w)=.next (lone (At b a ds (.code c :: .inLoop c :: k)) cs w):=step_lone_go (by simp[stepG,stepG.exec,At])
theorem zkq {c:Code}:step P (lone (At b a ds (.code (.scope c) :: k)) cs w)=.next (lone (At b a ds (.code c :: .inScope c :: k)) cs w):=step_lone_go (by simp[stepG,stepG.exec,At])
theorem zxu {id:Nat} {k' : List Item} (he:exitTo id k=some k'):step P (lone (At b a ds (.code (.exit id) :: k)) cs w)=.next (lone (At b a ds k') cs w):=
 step_lone_go (by simp[stepG,stepG.exec,At,he])
theorem zrX {id:Nat} {ops:Array Oper}:step P (lone (At b a ds (.code (.region id ops false) :: k)) cs w)=.next (lone (At b a ds (.inRegion ops (List.range ops.size) :: k)) cs w):=
 step_lone_go (by simp[stepG,stepG.exec,At])
theorem zxv {id:Nat} {ops:Array Oper}:step P (lone (At b a ds (.code (.region id ops true) :: k)) cs w) =
 .next (lone (At b a ds (.inRegion ops (Region.schedule (P.follows .mixedOrders) ops (w.tape w.drawn (.order b.fn id))) :: k)) cs { w with drawn:=w.drawn+1 }):=
 step_lone_go (by simp[stepG,stepG.exec,At,choose,Sem.run,Question.forced,Question.cut])
theorem zwG {ops:Array Oper}:step P (lone (At b a ds (.inRegion ops [] :: k)) cs w)=.next (lone (At b a ds k) cs w):=step_lone_go (by simp[stepG,stepG.exec,At])
theorem zdL (b:Frame) (a:Array Value) (ds:List Deferred) (ops:Array Oper) (i:Nat) (rest:List Nat) (k:List Item) (v:Value):
 (At b a ds (.inRegion ops (i :: rest) :: k)).finish v=At b (zlJ a ((ops[i]?).bind (·.dst)) v) ds (.inRegion ops rest :: k):=by
 cases h:(ops[i]?).bind (·.dst) <;> simp[Frame.finish,At,zlJ,h]
theorem zlK {ops:Array Oper} {i:Nat} {rest:List Nat} {o:Oper} (ho:ops[i]?= some o) (hw:Region.wanted o (yielded ops a)=false):
 step P (lone (At b a ds (.inRegion ops (i :: rest) :: k)) cs w)=.next (lone (At b (zlJ a o.dst undef) ds (.inRegion ops rest :: k)) cs w):=by
 have e:At b (zlJ a o.dst undef) ds (.inRegion ops rest :: k)=(At b a ds (.inRegion ops (i :: rest) :: k)).finish undef:=by rw[zdL,ho]; rfl
 rw[e]
 exact step_lone_go (by simp[stepG,stepG.exec,At,ho,hw])
theorem zhl {ops:Array Oper} {i:Nat} {rest:List Nat} {o:Oper} (ho:ops[i]?= some o) (hw:Region.wanted o (yielded ops a)=true) (hnd:∀c,o.op≠.defer c):
 stepG P true { frame:=At b a ds (.inRegion ops (i :: rest) :: k),callers:=cs,status:=.running,dying:=none } w =
  stepG.apply P true (At b a ds (.inRegion ops (i :: rest) :: k)) cs none (execOp (rho a) o) w:=by
 have he:=zpd b a ds (.inRegion ops (i :: rest) :: k)
 simp only[At] at he
 cases hr:b.roundOf with
 | none=>
   simp only[hr] at he
   simp[stepG,stepG.exec,stepG.oper,Frame.oper?,At,ho,hw,he,hr]
 | some l=>
   simp only[hr] at he
   have:(match (some l:Option Nat),o.op with
    | some l,.defer c=>stepG.apply P true { b with tmps:=a,defers:=ds,todo:=.inRegion ops (i :: rest) :: k,mode:=.run } cs none (do Instr.deferInRound l (←resolve (rho a) c o.type); pure .skip) w
    | _,_=>stepG.apply P true { b with tmps:=a,defers:=ds,todo:=.inRegion ops (i :: rest) :: k,mode:=.run } cs none (execOp (rho a) o) w)=stepG.apply P true { b with tmps:=a,defers:=ds,todo:=.inRegion ops (i :: rest) :: k,mode:=.run } cs none (execOp (rho a) o) w:=by
    split
    ·rename_i c hl hc; exact absurd hc (hnd _)
    ·rfl
   simp only[hr] at this
   simp only[stepG,stepG.exec,stepG.oper,Frame.oper?,At,ho,hw,he,hr,Option.map_some,Option.getD_some,if_true]
   exact this
theorem zwH {ops:Array Oper} {i:Nat} {rest:List Nat} {o:Oper} {v:Value} (ho:ops[i]?= some o) (hw:Region.wanted o (yielded ops a)=true) (hnd:∀c,o.op≠.defer c) (hr:(execOp (rho a) o).run P w=.ok (.value v) w'):
 step P (lone (At b a ds (.inRegion ops (i :: rest) :: k)) cs w)=.next (lone (At b (zlJ a o.dst v) ds (.inRegion ops rest :: k)) cs w'):=by
 have e:At b (zlJ a o.dst v) ds (.inRegion ops rest :: k)=(At b a ds (.inRegion ops (i :: rest) :: k)).finish v:=by rw[zdL,ho]; rfl
 rw[e]
 exact step_lone_go (by rw[zhl ho hw hnd]; simp[stepG.apply,hr])
theorem zxw {ops:Array Oper} {i:Nat} {rest:List Nat} {o:Oper} (ho:ops[i]?= some o) (hw:Region.wanted o (yielded ops a)=true) (hnd:∀c,o.op≠.defer c) (hr:(execOp (rho a) o).run P w=.ok .skip w'):
 step P (lone (At b a ds (.inRegion ops (i :: rest) :: k)) cs w)=.next (lone (At b (zlJ a o.dst undef) ds (.inRegion ops rest :: k)) cs w'):=by
 have e:At b (zlJ a o.dst undef) ds (.inRegion ops rest :: k)=(At b a ds (.inRegion ops (i :: rest) :: k)).finish undef:=by rw[zdL,ho]; rfl
 rw[e]
 exact step_lone_go (by rw[zhl ho hw hnd]; simp[stepG.apply,hr])
theorem zuU {ops:Array Oper} {i:Nat} {rest:List Nat} {o:Oper} {f:FuncId} {args:Array Value} (ho:ops[i]?= some o) (hw:Region.wanted o (yielded ops a)=true) (hnd:∀c,o.op≠.defer c) (hr:(execOp (rho a) o).run P w=.ok (.enter f args) w'):
 step P (lone (At b a ds (.inRegion ops (i :: rest) :: k)) cs w)=.next (lone (Frame.enter P f args .normal) (At b a ds (.inRegion ops (i :: rest) :: k) :: cs) w'):=
 step_lone_go (by rw[zhl ho hw hnd]; simp[stepG.apply,hr,At])
theorem zuV {ops:Array Oper} {i:Nat} {rest:List Nat} {o:Oper} {l:Nat} {f:FuncId} {tmps:Array Value} {assign body:Code} (ho:ops[i]?= some o) (hw:Region.wanted o (yielded ops a)=true) (hnd:∀c,o.op≠.defer c)
 (hr:(execOp (rho a) o).run P w=.ok (.round l f tmps assign body) w'):
 step P (lone (At b a ds (.inRegion ops (i :: rest) :: k)) cs w)=.next (lone (Frame.round l f tmps assign body .normal) (At b a ds (.inRegion ops (i :: rest) :: k) :: cs) w'):=
 step_lone_go (by rw[zhl ho hw hnd]; simp[stepG.apply,hr,At])
end
theorem zcM.put {e:Env} {a:Array Value} (k:zcM φ e a) {d:Tmp} {v v' : Value} (hd:d < a.size) (hv:VR φ v v'):zcM φ (e.set d v) (a.setIfInBounds d v'):=by
 intro i
 rw[Tr.get_set]
 by_cases hi:i=d
 ·subst hi
  simp[hd]
  exact hv
 ·rw[if_neg hi]
  have:(a.setIfInBounds d v').getD i undef=a.getD i undef:=by
   simp[Array.getElem?_setIfInBounds_ne (Ne.symm hi)]
  rw[this]
  exact k i
theorem zcM.putO {e:Env} {a:Array Value} (k:zcM φ e a) {d:Option Tmp} {v v' : Value} (hd:∀t,d=some t→t < a.size) (hv:VR φ v v'):zcM φ (putO e d v) (zlJ a d v'):=by
 cases d with
 | none=>exact k
 | some t=>exact k.put (hd t rfl) hv
theorem zfh {ops:Array Oper} {o:Oper} {e:Env} {a:Array Value} {t:Bool} (k:zcM φ e a) (hw:zap ops o e=some t):Region.wanted o (yielded ops a)=t:=by
 unfold zap at hw
 unfold Region.wanted
 split at hw
 ·rename_i hg
  simp only[hg]
  simpa using hw
 ·rename_i j want hg
  simp only[hg]
  split at hw
  ·rename_i d hd
   split at hw
   ·rename_i bb hb
    simp only[Option.some.injEq] at hw
    subst hw
    have hv:=k d
    rw[hb] at hv
    simp only[Option.getD_some] at hv
    have hlt:d < a.size:=by
     rcases Nat.lt_or_ge d a.size with q | q
     ·exact q
     ·rw[show a.getD d undef=undef by simp[Array.getElem?_eq_none q]] at hv
      cases hv
    have hval:a.getD d undef=.bool bb:=by
     generalize a.getD d undef=u at hv
     cases hv
     rfl
    have hget:a[d]?= some (.bool bb):=by
     simp[hlt] at hval ⊢
     exact hval
    have:yielded ops a j=some bb:=by
     unfold yielded
     rw[hd]
     simp only[Option.bind_some,hget]
    rw[this]
    cases bb <;> cases want <;> rfl
   ·rename_i v hnb hb
    cases hsk:isSkip v with
    | false=>rw[hsk] at hw; simp at hw
    | true=>
      rw[hsk] at hw
      simp only[cond_true,Option.some.injEq] at hw
      subst hw
      have hv:=k d
      rw[hb] at hv
      simp only[Option.getD_some] at hv
      have hne:∀bb,a[d]?≠some (.bool bb):=by
       intro bb hab
       have:a.getD d undef=.bool bb:=by simp[hab]
       rw[this] at hv
       cases v with
       | tuple xs=>cases hv; simp[isSkip] at hsk
       | _=>simp[isSkip] at hsk
      have:yielded ops a j=none:=by
       unfold yielded
       rw[hd]
       simp only[Option.bind_some]
       try
        (cases hq:a[d]? with
        | none=>rfl
        | some u=>cases u <;> first | rfl | exact absurd hq (hne _))
      rw[this]
      rfl
   ·simp at hw
  ·simp at hw
theorem zb8 {b off:Nat} {vs:List Value} (hs:zas h b off vs=some h'):h'.next=h.next:=by
 unfold zas at hs
 split at hs
 ·split at hs
  ·simp only[Option.some.injEq] at hs; subst hs; rfl
  ·simp at hs
 ·simp at hs
theorem znJ {st:TypeId} {xi:Bool} {s x v:Value} (hs:zaS P h st xi s x=some (v,h')):h.next≤h'.next:=by
 unfold zaS at hs
 repeat' split at hs
 all_goals first | (simp at hs; done) | skip
 all_goals (simp only[Option.some.injEq,Prod.mk.injEq] at hs; obtain⟨_,rfl⟩:=hs)
 all_goals first
  | exact Nat.le_refl _
  | (simp; done)
  | (exact Nat.le_of_eq (zb8 (by assumption)).symm)
theorem zrY {st:TypeId} {d s v:Value} (hs:zeL P h st d s=some (v,h')):h.next≤h'.next:=by
 unfold zeL at hs
 repeat' split at hs
 all_goals first | (simp at hs; done) | skip
 all_goals (simp only[Option.some.injEq,Prod.mk.injEq] at hs; obtain⟨_,rfl⟩:=hs)
 all_goals first
  | exact Nat.le_refl _
  | (exact Nat.le_of_eq (zb8 (by assumption)).symm)
theorem zqz {t:TypeId} {x v:Value} (hs:zhE P h t x=some (v,h')):h.next≤h'.next:=by
 unfold zhE at hs
 repeat' split at hs
 all_goals first | (simp at hs; done) | skip
 all_goals (simp only[Option.some.injEq,Prod.mk.injEq] at hs; obtain⟨_,rfl⟩:=hs)
 all_goals first
  | exact Nat.le_refl _
  | (exact Nat.le_of_eq (zb8 (by assumption)).symm)
theorem znK {t:TypeId} {m k v:Value} (hs:zeN P h t m k=some (v,h')):h.next≤h'.next:=by
 unfold zeN at hs
 repeat' split at hs
 all_goals first | (simp at hs; done) | skip
 all_goals (simp only[Option.some.injEq,Prod.mk.injEq] at hs; obtain⟨_,rfl⟩:=hs)
 all_goals simp
theorem znL {t:TypeId} {m k v:Value} (hs:zbs P h t m k v=some h'):h.next≤h'.next:=by
 unfold zbs at hs
 repeat' split at hs
 all_goals first | (simp at hs; done) | skip
 all_goals (simp only[Option.some.injEq] at hs; subst hs)
 all_goals simp
theorem zja {t:TypeId} {l c v:Value} (hs:zbg P h t l c=some (v,h')):h.next≤h'.next:=by
 unfold zbg at hs
 repeat' split at hs
 all_goals first | (simp at hs; done) | skip
 all_goals (simp only[Option.some.injEq,Prod.mk.injEq] at hs; obtain⟨_,rfl⟩:=hs)
 all_goals simp
theorem zhT {t:TypeId} {n:Nat} {ps:Array (Nat×Value)} {v:Value} (hs:zay P h t n ps=some (v,h')):h.next≤h'.next:=by
 unfold zay at hs
 repeat' split at hs
 all_goals first | (simp at hs; done) | skip
 all_goals (simp only[Option.some.injEq,Prod.mk.injEq] at hs; obtain⟨_,rfl⟩:=hs)
 all_goals simp
theorem zlL {s d:TypeId} {x v:Value} (hs:zaH P h s d x=some (v,h')):h.next≤h'.next:=by
 unfold zaH at hs
 repeat' split at hs
 all_goals first | (simp at hs; done) | skip
 all_goals (simp only[Option.some.injEq,Prod.mk.injEq] at hs; obtain⟨_,rfl⟩:=hs)
 all_goals simp
theorem zqA {t:TypeId} {a v:Value} (hs:zcc P h t a v=some h'):h.next≤h'.next:=by
 unfold zcc at hs
 repeat' split at hs
 all_goals first | (simp at hs; done) | (exact Nat.le_of_eq (zb8 hs).symm)
theorem zlM {b:Builtin} {ats:Array TypeId} {args:List Value} {v:Value} (hs:zal P h b ats args=some (v,h')):h.next≤h'.next:=by
 unfold zal at hs
 split at hs
 ·obtain⟨_,_,hq⟩:=Option.map_eq_some_iff.1 hs
  cases hq; exact Nat.le_refl _
 ·obtain⟨_,_,hq⟩:=Option.map_eq_some_iff.1 hs
  cases hq; exact Nat.le_refl _
 ·split at hs
  ·unfold zdm at hs
   repeat' split at hs
   all_goals first | (simp at hs; done) | (simp only[Option.some.injEq,Prod.mk.injEq] at hs; obtain⟨_,rfl⟩:=hs; simp; done)
  ·exact znJ hs
 ·exact zrY hs
 ·exact zqz hs
 ·exact znK hs
 ·obtain⟨_,_,hq⟩:=Option.map_eq_some_iff.1 hs
  cases hq; exact Nat.le_refl _
 ·obtain⟨_,_,hq⟩:=Option.map_eq_some_iff.1 hs
  cases hq; exact Nat.le_refl _
 ·simp at hs
theorem zxx {o:Oper} {e:Env} {v:Value} (hs:aOp P o e h=some (v,h')):h.next≤h'.next:=by
 obtain⟨dst,op,type,pos,after,guard⟩:=o
 cases op <;> simp only[aOp] at hs
 case typeAssert x xt t ok=>
  cases ok with
  | true=>simp at hs
  | false=>
    simp only at hs
    repeat' split at hs
    all_goals first | (simp at hs; done) | (simp only[Option.some.injEq,Prod.mk.injEq] at hs; obtain⟨_,rfl⟩:=hs; exact Nat.le_refl _)
 case makeInterface t x=>
  repeat' split at hs
  all_goals first | (simp at hs; done) | (simp only[Option.some.injEq,Prod.mk.injEq] at hs; obtain⟨_,rfl⟩:=hs; exact Nat.le_refl _)
 all_goals first
  | (simp at hs; done)
  | (obtain⟨_,_,hq⟩:=Option.map_eq_some_iff.1 hs; cases hq; exact Nat.le_refl _)
  | (simp only[Option.some.injEq,Prod.mk.injEq] at hs; obtain⟨_,rfl⟩:=hs; exact Nat.le_refl _)
  | exact zja hs
  | exact zhT hs
  | exact zlL hs
  | (obtain⟨h2,hst,hq⟩:=Option.map_eq_some_iff.1 hs; cases hq; exact zqA hst)
  | (obtain⟨h2,hst,hq⟩:=Option.map_eq_some_iff.1 hs; cases hq; exact znL hst)
  | skip
 case call c=>
  obtain⟨callee,args,ats⟩:=c
  cases callee <;> simp only at hs <;> first | (simp at hs; done) | exact zlM hs
 case next it st=>
  cases st <;> simp only at hs
  ·simp at hs
  ·repeat' split at hs
   all_goals first
    | (simp at hs; done)
    | (simp only[Option.some.injEq,Prod.mk.injEq] at hs; obtain⟨_,rfl⟩:=hs; simp; done)
 all_goals
  repeat' split at hs
 all_goals first
  | (simp at hs; done)
  | (simp only[zo6,Option.some.injEq,Prod.mk.injEq] at hs; obtain⟨_,rfl⟩:=hs; simp; done)
  | (obtain⟨_,_,hq⟩:=Option.map_eq_some_iff.1 hs; cases hq; exact Nat.le_refl _)
  | (obtain⟨_,hs⟩:=zhH hs; obtain⟨_,_,hq⟩:=Option.map_eq_some_iff.1 hs; cases hq; exact Nat.le_refl _)
theorem zrZ (v:Value):(zrN h v).next=h.next:=by unfold zrN; split <;> rfl
theorem zdM (ks:List Tmp) (d:Option Tmp) (e:Env):(zc0 ks d e h).next=h.next:=by
 unfold zc0
 split
 ·split
  ·exact zrZ _
  ·rfl
 ·rfl
end
section
variable {P:Program} {K:Xs} {φ φ' : Fi} {h h' : AH} {w w' : World}
def zfi (r:Ex):Prop:=∀rd ks c e h x e' h',r rd ks c e h=some (x,e',h')→h.next≤h'.next
section
variable {r:Ex} (M:zfi r)
include M
theorem zqB {f:FuncId} {args:List Value} {v:Value} (hs:zeO P r f args h=some (v,h')):h.next≤h'.next:=by
 unfold zeO at hs
 split at hs
 rotate_left
 ·simp at hs
 split at hs
 rotate_left
 ·simp at hs
 split at hs
 ·rename_i hr
  split at hs
  ·simp only[Option.some.injEq,Prod.mk.injEq] at hs
   obtain⟨_,rfl⟩:=hs
   exact M _ _ _ _ _ _ _ _ hr
  ·simp at hs
 ·rename_i hr
  split at hs
  ·simp only[Option.some.injEq,Prod.mk.injEq] at hs
   obtain⟨_,rfl⟩:=hs
   exact M _ _ _ _ _ _ _ _ hr
  ·simp at hs
 ·simp at hs
omit M in
theorem zef {y:Option (Value×AH)} {v:Value} (hs:grown h y=some (v,h')):h.next≤h'.next∧y=some (v,h'):=by
 unfold grown at hs
 split at hs
 ·split at hs
  ·rename_i hb
   simp only[Option.some.injEq,Prod.mk.injEq] at hs
   obtain⟨rfl,rfl⟩:=hs
   exact⟨Nat.le_of_ble_eq_true hb,rfl⟩
  ·simp at hs
 ·simp at hs
theorem zjz {f:FuncId} {args:List Value} {v:Value} (hs:zce P K r f args h=some (v,h')):h.next≤h'.next:=by
 unfold zce at hs
 split at hs
 ·exact (zef hs).1
 ·simp at hs
 ·exact zqB M hs
theorem zqC {f:FuncId} {args:List Value} {v:Value} (hs:zfa P K r f args h=some (v,h')):h.next≤h'.next:=by
 unfold zfa at hs
 split at hs
 ·exact (zef hs).1
 ·exact zjz M hs
theorem znM {l:Nat} {args:List Value} {v:Value} (hs:zc4 r l args h=some (v,h')):h.next≤h'.next:=by
 unfold zc4 at hs
 split at hs
 rotate_left
 ·simp at hs
 split at hs
 rotate_left
 ·simp at hs
 split at hs
 rotate_left
 ·simp at hs
 rename_i h1
 split at hs
 rotate_left
 ·simp at hs
 split at hs
 rotate_left
 ·simp at hs
 split at hs
 rotate_left
 ·simp at hs
 rename_i h2
 split at hs
 rotate_left
 ·simp at hs
 have a1:=M _ _ _ _ _ _ _ _ h1
 have a2:=M _ _ _ _ _ _ _ _ h2
 simp only[AH.next_set] at a2
 split at hs <;>
 ·simp only[Option.some.injEq,Prod.mk.injEq] at hs
  obtain⟨_,rfl⟩:=hs
  exact Nat.le_trans a1 a2
theorem zlN {f:Value} {args:List Value} {v:Value} (hs:zcC P K r f args h=some (v,h')):h.next≤h'.next:=by
 unfold zcC at hs
 split at hs
 ·exact zqC M hs
 ·exact znM M hs
 ·simp at hs
theorem zeg {o:Oper} {e:Env} {v:Value} (hs:zbS P K r o e h=some (v,h')):h.next≤h'.next:=by
 unfold zbS at hs
 split at hs
 ·exact zlN M hs
 ·exact zxx hs
theorem zdq {ks:List Tmp} {ops:Array Oper}:∀{os:List Oper} {e e' : Env} {h h' : AH},zbh P K r ks ops os e h=some (e',h')→h.next≤h'.next
 | [],e,e',h,h',hs=>by
   simp only[zbh,Option.some.injEq,Prod.mk.injEq] at hs
   obtain⟨_,rfl⟩:=hs
   exact Nat.le_refl _
 | o :: os,e,e',h,h',hs=>by
   unfold zbh at hs
   split at hs
   ·split at hs
    ·rename_i hr
     have a1:=zeg M hr
     rw[zdM] at a1
     exact Nat.le_trans a1 (zdq hs)
    ·simp at hs
   ·exact zdq hs
   ·simp at hs
theorem zhU {ops:Array Oper}:∀{os:List Nat} {e:Env} {h:AH} {l:List (Env×AH)},zc5 P K r ops os e h=some l→∀y,l.getLast?= some y→h.next≤y.2.next
 | [],e,h,l,hr,y,hy=>by
   simp only[zc5,Option.some.injEq] at hr
   subst hr
   simp at hy
   subst hy
   exact Nat.le_refl _
 | j :: js,e,h,l,hr,y,hy=>by
   have ne:∀{os:List Nat} {e:Env} {h:AH} {l:List (Env×AH)},zc5 P K r ops os e h=some l→l≠[]:=by
    intro os e h l hq
    cases os with
    | nil=>simp[zc5] at hq; rw[←hq]; simp
    | cons a os=>
      unfold zc5 at hq
      repeat' split at hq
      all_goals first | (simp at hq; done) | (simp only[Option.some.injEq] at hq; subst hq; simp)
   unfold zc5 at hr
   split at hr
   rotate_left
   ·simp at hr
   split at hr
   ·split at hr
    ·rename_i v h1 hr1
     have n1:=zeg M hr1
     split at hr
     ·rename_i l2 hl2
      simp only[Option.some.injEq] at hr
      subst hr
      rw[List.getLast?_cons_of_ne_nil (ne hl2)] at hy
      exact Nat.le_trans n1 (zhU hl2 y hy)
     ·simp at hr
    ·simp at hr
   ·split at hr
    ·rename_i l2 hl2
     simp only[Option.some.injEq] at hr
     subst hr
     rw[List.getLast?_cons_of_ne_nil (ne hl2)] at hy
     exact zhU hl2 y hy
    ·simp at hr
   ·simp at hr
theorem znN {ops:Array Oper} {e e' : Env} (hs:zcr P K r ops e h=some (e',h')):h.next≤h'.next:=by
 unfold zcr at hs
 split at hs
 rotate_left
 ·simp at hs
 split at hs
 rotate_left
 ·simp at hs
 rename_i hl
 split at hs
 rotate_left
 ·simp at hs
 exact zhU M hl _ hs
theorem zeE {f:Value} {l:Nat} {v:Value} (hs:zbr P K r f l h=some (v,h')):h.next≤h'.next:=by
 unfold zbr at hs
 split at hs
 ·exact zjz M hs
 ·simp at hs
theorem zlO {ks:List Tmp} {f:Operand} {ps:List Tmp} {as bd:Code} {e e' : Env} {x:AX} (hs:zcq P K r ks f ps as bd e h=some (x,e',h')):h.next≤h'.next:=by
 unfold zcq at hs
 split at hs
 rotate_left
 ·simp at hs
 rename_i hi
 have a1:=zeE M hi
 simp only[AH.next_alloc] at a1
 split at hs
 rotate_left
 ·simp at hs
 split at hs
 ·simp at hs
 split at hs
 all_goals first | (simp at hs; done) | skip
 all_goals
  (simp only[Option.some.injEq,Prod.mk.injEq] at hs
   obtain⟨_,_,rfl⟩:=hs
   simp only[AH.next_del]
   omega)
theorem znO:zfi (zaz P K r):=by
 intro rd ks c e h x e' h' hs
 unfold zaz at hs
 split at hs
 ·simp only[Option.some.injEq,Prod.mk.injEq] at hs
  obtain⟨_,_,rfl⟩:=hs
  exact Nat.le_refl _
 ·simp only[Option.some.injEq,Prod.mk.injEq] at hs
  obtain⟨_,_,rfl⟩:=hs
  exact Nat.le_refl _
 ·split at hs
  ·split at hs
   ·rename_i hr
    simp only[Option.some.injEq,Prod.mk.injEq] at hs
    obtain⟨_,_,rfl⟩:=hs
    exact zdq M hr
   ·simp at hs
  ·split at hs
   ·rename_i hr
    simp only[Option.some.injEq,Prod.mk.injEq] at hs
    obtain⟨_,_,rfl⟩:=hs
    exact znN M hr
   ·simp at hs
 ·split at hs
  ·rename_i hr
   exact Nat.le_trans (M _ _ _ _ _ _ _ _ hr) (M _ _ _ _ _ _ _ _ hs)
  ·exact M _ _ _ _ _ _ _ _ hs
 ·split at hs
  ·rename_i t _
   cases t
   ·exact M _ _ _ _ _ _ _ _ hs
   ·exact M _ _ _ _ _ _ _ _ hs
  ·simp at hs
 ·split at hs
  ·rename_i id' _ _ hr
   have:=M _ _ _ _ _ _ _ _ hr
   cases hb:Nat.beq id' _ <;> rw[hb] at hs <;>
   ·simp only[cond_true,cond_false,Option.some.injEq,Prod.mk.injEq] at hs
    obtain⟨_,_,rfl⟩:=hs
    exact this
  ·exact M _ _ _ _ _ _ _ _ hs
 ·split at hs
  ·rename_i hr
   exact Nat.le_trans (M _ _ _ _ _ _ _ _ hr) (M _ _ _ _ _ _ _ _ hs)
  ·exact M _ _ _ _ _ _ _ _ hs
 ·exact M _ _ _ _ _ _ _ _ hs
 ·simp only[Option.some.injEq,Prod.mk.injEq] at hs
  obtain⟨_,_,rfl⟩:=hs
  exact Nat.le_refl _
 ·simp only[Option.some.injEq,Prod.mk.injEq] at hs
  obtain⟨_,_,rfl⟩:=hs
  exact Nat.le_refl _
 ·split at hs
  ·simp at hs
  ·exact zlO M hs
 ·simp at hs
 ·simp at hs
end
theorem zr0:∀n,zfi (ex P K n)
 | 0=>fun _ _ _ _ _ _ _ _ hs=>by simp[ex] at hs
 | n+1=>znO (zr0 n)
def zAK (r s:Ex):Prop:=∀rd ks c e h x,r rd ks c e h=some x→s rd ks c e h=some x
section
variable {r s:Ex} (L:zAK r s)
include L
theorem zuW {f:FuncId} {args:List Value} {x:Value×AH} (hs:zeO P r f args h=some x):zeO P s f args h=some x:=by
 unfold zeO at hs ⊢
 split at hs
 rotate_left
 ·simp at hs
 split at hs
 rotate_left
 ·simp at hs
 split at hs
 ·rename_i hr
  rw[L _ _ _ _ _ _ hr]
  exact hs
 ·rename_i hr
  rw[L _ _ _ _ _ _ hr]
  exact hs
 ·simp at hs
theorem zpe {f:FuncId} {args:List Value} {x:Value×AH} (hs:zce P K r f args h=some x):zce P K s f args h=some x:=by
 unfold zce at hs ⊢
 split at hs
 ·exact hs
 ·exact hs
 ·exact zuW L hs
theorem zuX {f:FuncId} {args:List Value} {x:Value×AH} (hs:zfa P K r f args h=some x):zfa P K s f args h=some x:=by
 unfold zfa at hs ⊢
 split at hs
 ·exact hs
 ·exact zpe L hs
theorem zr1 {l:Nat} {args:List Value} {x:Value×AH} (hs:zc4 r l args h=some x):zc4 s l args h=some x:=by
 unfold zc4 at hs ⊢
 cases hl:h.get l with
 | none=>rw[hl] at hs; simp at hs
 | some ob=>
   rw[hl] at hs
   cases ob with
   | loop L0=>
     simp only at hs ⊢
     by_cases hlen:args.length=L0.params.length
     ·rw[if_pos hlen] at hs ⊢
      cases hr1:r (some l) [] L0.assign (putAll L0.env L0.params args) h with
      | none=>rw[hr1] at hs; simp at hs
      | some y=>
        obtain⟨x1,e2,h2⟩:=y
        rw[L _ _ _ _ _ _ hr1]
        rw[hr1] at hs
        cases x1 with
        | normal=>
          simp only at hs ⊢
          cases hl2:h2.get l with
          | none=>rw[hl2] at hs; simp at hs
          | some ob2=>
            rw[hl2] at hs
            cases ob2 with
            | loop L2=>
              simp only at hs ⊢
              by_cases hst:L2.state=.ready
              ·rw[if_pos hst] at hs ⊢
               cases hr2:r (some l) [] L0.body e2 (h2.set l (.loop { L2 with state:=.busy })) with
               | none=>rw[hr2] at hs; simp at hs
               | some z=>
                 rw[L _ _ _ _ _ _ hr2]
                 rw[hr2] at hs
                 exact hs
              ·rw[if_neg hst] at hs; simp at hs
            | _=>simp at hs
        | _=>simp at hs
     ·rw[if_neg hlen] at hs; simp at hs
   | _=>simp at hs
theorem zqD {f:Value} {args:List Value} {x:Value×AH} (hs:zcC P K r f args h=some x):zcC P K s f args h=some x:=by
 unfold zcC at hs ⊢
 split at hs
 ·exact zuX L hs
 ·exact zr1 L hs
 ·simp at hs
theorem zhm {o:Oper} {e:Env} {x:Value×AH} (hs:zbS P K r o e h=some x):zbS P K s o e h=some x:=by
 unfold zbS at hs ⊢
 split at hs
 ·exact zqD L hs
 ·exact hs
theorem zfj {ks:List Tmp} {ops:Array Oper}:∀{os:List Oper} {e:Env} {h:AH} {x:Env×AH},zbh P K r ks ops os e h=some x→zbh P K s ks ops os e h=some x
 | [],e,h,x,hs=>by simpa[zbh] using hs
 | o :: os,e,h,x,hs=>by
   unfold zbh at hs ⊢
   split at hs
   ·split at hs
    ·rename_i hr
     rw[zhm L hr]
     exact zfj hs
    ·simp at hs
   ·exact zfj hs
   ·simp at hs
theorem zkr {ops:Array Oper}:∀{os:List Nat} {e:Env} {h:AH} {x:List (Env×AH)},zc5 P K r ops os e h=some x→zc5 P K s ops os e h=some x
 | [],e,h,x,hs=>by simpa[zc5] using hs
 | j :: js,e,h,x,hs=>by
   unfold zc5 at hs ⊢
   split at hs
   rotate_left
   ·simp at hs
   rename_i ho
   try rw[ho]
   try simp only
   split at hs
   ·rename_i hw
    split at hs
    ·rename_i v h1 hr1
     rw[zhm L hr1]
     split at hs
     ·rename_i l2 hl2
      try rw[hw]
      simp only[zkr hl2]
      exact hs
     ·simp at hs
    ·simp at hs
   ·rename_i hw
    try rw[hw]
    split at hs
    ·rename_i l2 hl2
     simp only[zkr hl2]
     exact hs
    ·simp at hs
   ·simp at hs
theorem zr2 {ops:Array Oper} {e:Env} {y:Env×AH} (hd:zcr P K r ops e h=some y):zcr P K s ops e h=some y:=by
 unfold zcr at hd ⊢
 split at hd
 rotate_left
 ·simp at hd
 rename_i hp
 try rw[hp]
 try simp only
 split at hd
 rotate_left
 ·simp at hd
 rename_i hr2
 rw[zkr L hr2]
 exact hd
theorem zlP {f:Value} {l:Nat} {x:Value×AH} (hs:zbr P K r f l h=some x):zbr P K s f l h=some x:=by
 unfold zbr at hs ⊢
 split at hs
 ·exact zpe L hs
 ·simp at hs
theorem zr3:zAK (zaz P K r) (zaz P K s):=by
 intro rd ks c e h x hs
 unfold zaz at hs ⊢
 split at hs
 ·exact hs
 ·exact hs
 ·split at hs
  ·split at hs
   ·rename_i hr
    rw[zfj L hr]
    exact hs
   ·simp at hs
  ·split at hs
   ·rename_i hr
    rw[zr2 L hr]
    exact hs
   ·simp at hs
 ·split at hs
  ·rename_i hr
   rw[L _ _ _ _ _ _ hr]
   exact L _ _ _ _ _ _ hs
  ·rename_i hne
   rw[L _ _ _ _ _ _ hs]
   split
   ·rename_i q
    simp only[Option.some.injEq] at q
    subst q
    exact absurd hs (hne _ _)
   ·rfl
 ·split at hs
  ·rename_i t _
   cases t
   ·exact L _ _ _ _ _ _ hs
   ·exact L _ _ _ _ _ _ hs
  ·simp at hs
 ·split at hs
  ·rename_i hr
   rw[L _ _ _ _ _ _ hr]
   exact hs
  ·rename_i hne
   rw[L _ _ _ _ _ _ hs]
   split
   ·rename_i q
    simp only[Option.some.injEq] at q
    subst q
    exact absurd hs (hne _ _ _)
   ·rfl
 ·split at hs
  ·rename_i hr
   rw[L _ _ _ _ _ _ hr]
   exact L _ _ _ _ _ _ hs
  ·rename_i hne
   rw[L _ _ _ _ _ _ hs]
   split
   ·rename_i q
    simp only[Option.some.injEq] at q
    subst q
    exact absurd hs (hne _ _)
   ·rfl
 ·exact L _ _ _ _ _ _ hs
 ·exact hs
 ·exact hs
 ·split at hs
  ·simp at hs
  ·unfold zcq at hs ⊢
   split at hs
   rotate_left
   ·simp at hs
   rename_i hi
   rw[zlP L hi]
   exact hs
 ·simp at hs
 ·simp at hs
end
theorem zr4:∀n,zAK (ex P K n) (ex P K (n+1))
 | 0=>fun _ _ _ _ _ _ hs=>by simp[ex] at hs
 | n+1=>zr3 (zr4 n)
theorem zjb {n m:Nat} (hnm:n≤m):zAK (ex P K n) (ex P K m):=by
 induction hnm with
 | refl=>exact fun _ _ _ _ _ _ h=>h
 | step _ ih=>exact fun _ _ _ _ _ _ h=>zr4 _ _ _ _ _ _ _ (ih _ _ _ _ _ _ h)
end
section
variable {P:Program} {K:Xs} {φ φ' : Fi} {h h' : AH} {w w' : World}
def Arr (P:Program) (m:Machine) (b:Frame) (k:List Item) (cs:List Frame):AX→Array Value→List Deferred→World→Prop
 | .normal,a,ds,w=>Steps P m (lone (At b a ds k) cs w)
 | .exit id,a,ds,w=>∃k',Steps P m (lone (At b a ds (.code (.exit id) :: k')) cs w)∧exitTo id k'= exitTo id k
 | .ret,a,ds,w=>∃k',Steps P m (lone (At b a ds (.code .ret :: k')) cs w)
theorem Arr.of_steps {m m1:Machine} {b:Frame} {k:List Item} {cs:List Frame} {x:AX} {a:Array Value} {ds:List Deferred} (s:Steps P m m1) (r:Arr P m1 b k cs x a ds w):Arr P m b k cs x a ds w:=by
 cases x with
 | normal=>exact s.trans r
 | exit id=>obtain⟨k',h1,h2⟩:=r; exact⟨k',s.trans h1,h2⟩
 | ret=>obtain⟨k',h1⟩:=r; exact⟨k',s.trans h1⟩
def zdN (P:Program) (B:Nat) (φ:Fi) (h:AH) (w:World):List Deferred→Prop
 | []=>True
 | d :: ds=>(∃q,d.target=.collected q∧B≤q∧w.heap[q]?= some (.deferred (some []))∧¬Own φ h q∧∀d'∈ds,d'.target≠.collected q)∧zdN P B φ h w ds
theorem zdN.tn {B:Nat} (t:Tn P φ h w φ' h' w'):∀{ds:List Deferred},zdN P B φ h w ds→zdN P B φ' h' w' ds
 | [],_=>trivial
 | d :: ds,⟨⟨q,h1,h2,h3,h4,h5⟩,hr⟩=>by
   have hlt:q < w.heap.size:=(Array.getElem?_eq_some_iff.1 h3).1
   exact⟨⟨q,h1,h2,by rw[t.keep q hlt h4]; exact h3,fun k=>h4 (t.own q hlt k),h5⟩,zdN.tn t hr⟩
def RD (φ:Fi) (rd:Option Nat) (b:Frame):Prop:=match rd with | none=>b.roundOf=none | some l=>∃rc,φ l=some rc∧b.roundOf=some rc.blk
theorem RD.mono {φ φ' : Fi} {rd:Option Nat} {b:Frame} (k:RD φ rd b) (l:Le φ φ'):RD φ' rd b:=by
 cases rd with
 | none=>exact k
 | some x=>obtain⟨rc,h1,h2⟩:=k; exact⟨rc,l _ _ h1,h2⟩
def SEx (P:Program) (r:Ex):Prop:=∀rd ks c e h x e' h',r rd ks c e h=some (x,e',h')→∀(N B:Nat) φ a w ds b k cs,
 h'.next≤N→zdH φ h.next N→zcM φ e a→codeDst a.size c=true→R P φ h w→RD φ rd b→zdN P B φ h w ds→B≤w.heap.size→
 ∃φ' a' ds' w',Tn P φ h w φ' h' w'∧zcM φ' e' a'∧a'.size=a.size∧zdN P B φ' h' w' ds'∧Arr P (lone (At b a ds (.code c :: k)) cs w) b k cs x a' ds' w'
def zBl (P:Program) (K:Xs) (r:Ex):Prop:=∀f args h v h',zce P K r f args h=some (v,h')→∀(N:Nat) φ args' w cs,
 h'.next≤N→zdH φ h.next N→AR φ args args'→R P φ h w→
 ∃φ' v' w' fr,Tn P φ h w φ' h' w'∧VR φ' v v'∧Steps P (lone (Frame.enter P f args'.toArray .normal) cs w) (lone fr cs w')∧fr.fn=f∧fr.leaving P w' (.returned v')
def SOp (P:Program) (K:Xs) (r:Ex):Prop:=∀o e h v h',zbS P K r o e h=some (v,h')→∀(N:Nat) φ a w ds b k cs (ops:Array Oper) i rest,
 h'.next≤N→zdH φ h.next N→zcM φ e a→R P φ h w→ops[i]?= some o→Region.wanted o (yielded ops a)=true→
 ∃φ' v' w',Tn P φ h w φ' h' w'∧VR φ' v v'∧Steps P (lone (At b a ds (.inRegion ops (i :: rest) :: k)) cs w) (lone (At b (zlJ a o.dst v') ds (.inRegion ops rest :: k)) cs w')
def zzf (P:Program) (K:Xs) (r:Ex):Prop:=∀(id:Nat) ops e h e' h',zcr P K r ops e h=some (e',h')→∀(N:Nat) φ a w ds b k cs,
 h'.next≤N→zdH φ h.next N→zcM φ e a→codeDst a.size (.region id ops true)=true→R P φ h w→
 ∃φ' a' w',Tn P φ h w φ' h' w'∧zcM φ' e' a'∧a'.size=a.size∧Steps P (lone (At b a ds (.code (.region id ops true) :: k)) cs w) (lone (At b a' ds k) cs w')
theorem R.nomark (r:R P φ h w) {q:Nat} (hq:w.heap[q]?= some (.deferred (some []))):∀b o rc,h.get b=some o→φ b=some rc→rc.blk≠q:=by
 intro b o rc h1 h2 e
 obtain⟨o',ho,hr⟩:=r.obj b o rc h1 h2
 rw[e,hq] at ho
 cases ho
 cases o <;> simp[OR] at hr
theorem zgJ {b:Frame} {B:Nat} {a:Array Value} {cs:List Frame} {td:List Item} (hk:b.kind=.normal):∀(ds:List Deferred) (w:World),zdN P B φ h w ds→R P φ h w→
 ∃w',Steps P (lone { At b a ds td with mode:=.returning } cs w) (lone { At b a [] td with mode:=.returning } cs w')∧R P φ h w'∧w'.heap.size=w.heap.size∧w'.os=w.os∧w'.tape=w.tape∧w'.output=w.output∧
  (∀c,c < B→w'.heap[c]?= w.heap[c]?)
 | [],w,_,r=>⟨w,Steps.refl P _,r,rfl,rfl,rfl,rfl,fun _ _=>rfl⟩
 | d :: ds,w,⟨⟨q,h1,h2,h3,h4,h5⟩,hm⟩,r=>by
   have hlt:q < w.heap.size:=(Array.getElem?_eq_some_iff.1 h3).1
   have hnm:=r.nomark h3
   let w1:World:={ w with heap:=w.heap.setIfInBounds q (.deferred none) }
   have hother:∀c,c≠q→w1.heap[c]?= w.heap[c]?:=fun c hc=>by simp only[w1,Array.getElem?_setIfInBounds_ne (Ne.symm hc)]
   have r1:R P φ h w1:=⟨fun b o rc g1 g2=>by
    obtain⟨o',ho,hr⟩:=r.obj b o rc g1 g2
    exact⟨o',by rw[hother _ (hnm b o rc g1 g2)]; exact ho,hr⟩,r.inj,r.lt⟩
   have hm1:zdN P B φ h w1 ds:=by
    clear r1
    have hne:=h5
    induction ds with
    | nil=>trivial
    | cons d2 ds ih=>
      obtain⟨⟨q2,g1,g2,g3,g4,g5⟩,gm⟩:=hm
      have:q2≠q:=fun e=>hne d2 (by simp) (by rw[g1,e])
      exact⟨⟨q2,g1,g2,by rw[hother q2 this]; exact g3,g4,g5⟩,ih (fun x hx=>h5 x (by simp[hx])) gm (fun x hx=>hne x (by simp[hx]))⟩
   obtain⟨w',s,r',g1,g2,g3,g4,g5⟩:=zgJ hk ds w1 hm1 r1
   refine⟨w',Steps.head ?_ s,r',by rw[g1]; simp[w1],g2,g3,g4,fun c hc=>by rw[g5 c hc,hother c (by omega)]⟩
   have hg:(getObj q).run P w=.ok (.deferred (some [])) w:=zcf h3 (by intro _ _ _ e; cases e)
   have hset:(setObj q (.deferred none)).run P w=.ok () w1:=zcg h3 (by intro _ _ _ e; cases e)
   have htake:(Instr.takeDeferred q).run P w=.ok [] w1:=by
    simp[Instr.takeDeferred,hg,hset]
   obtain⟨tg,ar⟩:=d
   simp only at h1
   subst h1
   refine step_lone_go ?_
   simp[stepG,unwind,At,htake]
structure zbL (P:Program) (K:Xs):Prop where
 ext:∀f g,K f=some (.ext g)→∀φ args args' h w v h',g args h=some (v,h')→h.next≤h'.next→zdH φ h.next h'.next→AR φ args args'→R P φ h w→
  ∃φ' v' w',(callFunc f args'.toArray).run P w=.ok (.value v') w'∧VR φ' v v'∧Tn P φ h w φ' h' w'
 body:∀f g,K f=some (.sum g)→∃fn c,P.funcs[f]?= some fn∧fn.body=some c
 sum:∀f g,K f=some (.sum g)→∀args h v h',g args h=some (v,h')→h.next≤h'.next→∀(N:Nat) φ args' w cs,h'.next≤N→zdH φ h.next N→AR φ args args'→R P φ h w→
  ∃φ' v' w' fr,Tn P φ h w φ' h' w'∧VR φ' v v'∧Steps P (lone (Frame.enter P f args'.toArray .normal) cs w) (lone fr cs w')∧fr.fn=f∧fr.leaving P w' (.returned v')
theorem zlQ {n m:Nat} (hnm:n≤m):∀(c:Code),codeDst n c=true→codeDst m c=true:=by
 have hb:∀d,Nat.blt d n=true→Nat.blt d m=true:=fun d hd=>by
  simp only[Nat.blt_eq] at hd ⊢; omega
 intro c
 induction c with
 | region id ops draw=>
   intro hc
   simp only[codeDst,List.all_eq_true] at hc ⊢
   intro o ho
   have:=hc o ho
   split at this <;> first | rfl | exact hb _ this
 | seq a b iha ihb=>intro hc; simp only[codeDst,Bool.and_eq_true] at hc ⊢; exact⟨iha hc.1,ihb hc.2⟩
 | cond _ a b iha ihb=>intro hc; simp only[codeDst,Bool.and_eq_true] at hc ⊢; exact⟨iha hc.1,ihb hc.2⟩
 | block _ c ih=>exact ih
 | loop c ih=>exact ih
 | scope c ih=>exact ih
 | rangeFunc f ps a b iha ihb=>
   intro hc
   simp only[codeDst,Bool.and_eq_true,List.all_eq_true] at hc ⊢
   exact⟨⟨fun d hd=>hb d (hc.1.1 d hd),iha hc.1.2⟩,ihb hc.2⟩
 | _=>intro _; rfl
theorem zr5 {args args' : List Value} (ha:AR φ args args') (n:Nat):zcM φ (Tr.ofList args) (args'.toArray ++ Array.replicate n undef):=by
 intro i
 rw[Tr.get_ofList]
 by_cases hi:i < args.length
 ·obtain⟨v',hv',hr⟩:=ha.at i args[i] (by simp[hi])
  have hi' : i < args'.length:=by rw[←ha.length]; exact hi
  have:(args'.toArray ++ Array.replicate n undef).getD i undef=v':=by
   rw[List.getElem?_eq_getElem hi'] at hv'
   simp only[Option.some.injEq] at hv'
   simp[Array.getElem?_append,hi',hv']
  rw[this]
  simp[hi]
  exact hr
 ·rw[List.getElem?_eq_none (by omega)]
  exact .junk _
def zpf (a:Array Value):ResultVar→Sem Value
 | .tmp t=>pure (a.getD t undef)
 | .cell p t=>do loadVar t (←asAddr (a.getD p undef))
theorem zqE (r:R P φ h w) {e:Env} {a:Array Value} (k:zcM φ e a) {rv:ResultVar} {v:Value} (hs:zbt P e h rv=some v):
 ∃v',(zpf a rv).run P w=.ok v' w∧VR φ v v':=by
 cases rv with
 | tmp t=>
   simp only[zbt,Option.some.injEq] at hs
   subst hs
   exact⟨a.getD t undef,rfl,k t⟩
 | cell p t=>
   simp only[zbt] at hs
   obtain⟨u',h1,h2⟩:=zjv r hs (k p)
   refine⟨u',?_,h2⟩
   unfold zfQ at hs
   have hv:=k p
   split at hs
   ·rename_i b off hev
    rw[zeC] at hev
    rw[hev] at hv
    show ((do loadVar t (←asAddr (a.getD p undef)):Sem Value)).run P w=.ok u' w
    generalize a.getD p undef=x at hv h1 ⊢
    cases hv
    simpa[Instr.loadAt,Instr.sureAddr,asAddr] using h1
   ·simp at hs
theorem zks (r:R P φ h w) {e:Env} {a:Array Value} (k:zcM φ e a) {fn:Func} {v:Value} (hs:zbn P e h fn.results.toList=some v):
 ∃v',(results fn a).run P w=.ok v' w∧VR φ v v':=by
 have key:∀(l:List ResultVar) (vs:List Value),l.mapM (zbt P e h)=some vs→∃vs',(l.mapM (zpf a)).run P w=.ok vs' w∧AR φ vs vs':=by
  intro l
  induction l with
  | nil=>
    intro vs hv
    simp at hv
    subst hv
    exact⟨[],by simp,trivial⟩
  | cons rv l ih=>
    intro vs hv
    rw[List.mapM_cons] at hv
    simp only[bind,Option.bind_eq_some_iff,pure,Option.some.injEq] at hv
    obtain⟨v1,h1,vs1,h2,rfl⟩:=hv
    obtain⟨v1',g1,g2⟩:=zqE r k h1
    obtain⟨vs1',g3,g4⟩:=ih vs1 h2
    exact⟨v1' :: vs1',by rw[List.mapM_cons]; simp only[Sem.run_bind,g1,Result.andThen_ok,g3,Sem.run_pure],g2,g4⟩
 unfold zbn at hs
 cases hm:fn.results.toList.mapM (zbt P e h) with
 | none=>simp[hm] at hs
 | some vs=>
   obtain⟨vs',g1,g2⟩:=key _ _ hm
   have hrun:(fn.results.mapM (zpf a)).run P w=.ok vs'.toArray w:=by
    rw[Array.mapM_eq_mapM_toList,Sem.run_map,g1]
    rfl
   have hlen:=g2.length
   rw[hm] at hs
   have hres:results fn a=(fn.results.mapM (zpf a)).bind fun vs=>pure (if h:vs.size=1 then vs[0] else .tuple vs):=rfl
   have hr0:(results fn a).run P w=.ok (if h:vs'.toArray.size=1 then vs'.toArray[0] else .tuple vs'.toArray) w:=by
    rw[hres,Sem.run_bind',hrun]
    rfl
   match vs,vs',hs,g2,hlen,hr0 with
   | [u],[u'],hs,g2,_,hr0=>
     simp only[Option.some.injEq] at hs
     subst hs
     exact⟨u',by rw[hr0]; simp,g2.1⟩
   | [],[],hs,g2,_,hr0=>
     simp only[Option.some.injEq] at hs
     subst hs
     exact⟨.tuple #[],by rw[hr0]; simp,AR.tuple trivial⟩
   | x :: y :: l,x' :: y' :: l',hs,g2,_,hr0=>
     simp only[Option.some.injEq] at hs
     subst hs
     exact⟨.tuple (x' :: y' :: l').toArray,by rw[hr0]; simp,AR.tuple (by simpa using g2)⟩
def zBm (P:Program) (r:Ex):Prop:=∀f args h v h',zeO P r f args h=some (v,h')→∀(N:Nat) φ args' w cs,
 h'.next≤N→zdH φ h.next N→AR φ args args'→R P φ h w→
 ∃φ' v' w' fr,Tn P φ h w φ' h' w'∧VR φ' v v'∧Steps P (lone (Frame.enter P f args'.toArray .normal) cs w) (lone fr cs w')∧fr.fn=f∧fr.leaving P w' (.returned v')
theorem zjA {r:Ex} (G:zeD P) (S:SEx P r):zBm P r:=by
 intro f args h v h' hs N φ args' w cs hN hF ha hr
 unfold zeO at hs
 split at hs
 rotate_left
 ·simp at hs
 rename_i fn hfn
 split at hs
 rotate_left
 ·simp at hs
 rename_i c hc
 let b:Frame:={ (default:Frame) with fn:=f,kind:=.normal,roundOf:=none }
 have henter:Frame.enter P f args'.toArray .normal=At b (args'.toArray ++ Array.replicate (fn.ntmps - args'.toArray.size) undef) [] [.code c]:=by
  simp[Frame.enter,At,hfn,hc,b]
 have hdst:codeDst (args'.toArray ++ Array.replicate (fn.ntmps - args'.toArray.size) undef).size c=true:=zlQ (by simp; omega) c (G.dst f fn c hfn hc)
 have fin:∀(x:AX) e1 h1,(x=.normal∨x=.ret)→r none [] c (Tr.ofList args) h=some (x,e1,h1)→(match zbn P e1 h1 fn.results.toList with | some v=>some (v,h1) | none=>none)=some (v,h')→
  ∃φ' v' w' fr,Tn P φ h w φ' h' w'∧VR φ' v v'∧Steps P (lone (Frame.enter P f args'.toArray .normal) cs w) (lone fr cs w')∧fr.fn=f∧fr.leaving P w' (.returned v'):=by
  intro x e1 h1 hx hrun hres
  split at hres
  rotate_left
  ·simp at hres
  rename_i v0 hv0
  simp only[Option.some.injEq,Prod.mk.injEq] at hres
  obtain⟨rfl,rfl⟩:=hres
  obtain⟨φ1,a1,ds1,w1,t1,k1,sz1,m1,ar1⟩:=S none [] c (Tr.ofList args) h x e1 h1 hrun N w.heap.size φ (args'.toArray ++ Array.replicate (fn.ntmps - args'.toArray.size) undef) w [] b [] cs hN hF (zr5 ha _) hdst hr (rfl:RD φ none b) trivial (Nat.le_refl _)
  rw[←henter] at ar1
  have harr:∃td,Steps P (lone (Frame.enter P f args'.toArray .normal) cs w) (lone { At b a1 ds1 td with mode:=.returning } cs w1):=by
   rcases hx with rfl | rfl
   ·exact⟨[],Steps.trans ar1 (.one (step_lone_go (by simp[stepG,stepG.exec,At,b])))⟩
   ·obtain⟨k',s⟩:=ar1
    exact⟨.code .ret :: k',Steps.trans s (.one (step_lone_go (by simp[stepG,stepG.exec,At,b])))⟩
  obtain⟨td,s1⟩:=harr
  obtain⟨w2,s2,r2,g1,g2,g3,g4,g5⟩:=zgJ (P:=P) (φ:=φ1) (h:=h1) (b:=b) (B:=w.heap.size) (a:=a1) (cs:=cs) (td:=td) rfl ds1 w1 m1 t1.rel
  obtain⟨v',hv1,hv2⟩:=zks r2 k1 hv0
  have t2:Tn P φ h w φ1 h1 w2:=⟨t1.le,t1.new,t1.nle,r2,by rw[g1]; exact t1.size,g2.trans t1.os,g3.trans t1.tape,g4.trans t1.output,
   fun c hc ho=>by rw[g5 c hc]; exact t1.keep c hc ho,t1.old⟩
  refine⟨φ1,v',w2,_,t2,hv2,s1.trans s2,rfl,rfl,rfl,rfl,fn,hfn,hv1⟩
 split at hs
 ·rename_i e1 h1 hrun
  exact fin .normal e1 h1 (.inl rfl) hrun hs
 ·rename_i e1 h1 hrun
  exact fin .ret e1 h1 (.inr rfl) hrun hs
 ·simp at hs
theorem zc8 {r:Ex} (G:zeD P) (X:zbL P K) (S:SEx P r):zBl P K r:=by
 intro f args h v h' hs N φ args' w cs hN hF ha hr
 unfold zce at hs
 split at hs
 ·rename_i g hk
  obtain⟨h1,h2⟩:=zef hs
  exact X.sum f g hk args h v h' h2 h1 N φ args' w cs hN hF ha hr
 ·simp at hs
 ·exact zjA G S f args h v h' hs N φ args' w cs hN hF ha hr
theorem zhV {r:Ex} (X:zbL P K) {f:FuncId} {args:List Value} {v:Value} (hs:zce P K r f args h=some (v,h')):∃fn c,P.funcs[f]?= some fn∧fn.body=some c:=by
 unfold zce at hs
 split at hs
 ·rename_i g hk
  exact X.body f g hk
 ·simp at hs
 ·unfold zeO at hs
  split at hs
  ·rename_i fn hfn
   split at hs
   ·rename_i c hc
    exact⟨fn,c,hfn,hc⟩
   ·simp at hs
  ·simp at hs
end
section
variable {P:Program} {K:Xs} {φ φ' : Fi} {h h' : AH} {w w' : World}
theorem zcM.putAll:∀{ps:List Tmp} {vs vs' : List Value} {e:Env} {a:Array Value},zcM φ e a→AR φ vs vs'→vs.length=ps.length→(∀d∈ps,d < a.size)→
 zcM φ (putAll e ps vs) ((ps.zip vs').foldl (fun tmps p=>tmps.setIfInBounds p.1 p.2) a)∧((ps.zip vs').foldl (fun tmps p=>tmps.setIfInBounds p.1 p.2) a).size=a.size
 | [],[],[],e,a,k,_,_,_=>⟨k,rfl⟩
 | d :: ps,v :: vs,v' :: vs',e,a,k,r,hl,hd=>by
   simp only[Am.putAll,List.zip_cons_cons,List.foldl_cons]
   have:=zcM.putAll (k.put (hd d (by simp)) r.1) r.2 (by simpa using hl) (fun x hx=>by simpa using hd x (by simp[hx]))
   exact⟨this.1,by simpa using this.2⟩
 | [],_ :: _,_,_,_,_,_,hl,_=>by simp at hl
 | _ :: _,[],_,_,_,_,_,hl,_=>by simp at hl
 | [],[],_ :: _,_,_,_,r,_,_=>r.elim
 | _ :: _,_ :: _,[],_,_,_,r,_,_=>r.elim
theorem R.loop (r:R P φ h w) {l:Nat} {L:znA} {rc:Rec} (hb:h.get l=some (.loop L)) (hφ:φ l=some rc):∃L' : Loop,w.heap[rc.blk]?= some (.loop L')∧zcM φ L.env L'.tmps∧L'.params.toList=L.params∧L'.assign=L.assign∧L'.body=L.body∧L'.pending=L.pending∧
 L'.state=(match L.state with | .ready=>.ready | .busy=>.busy | .done=>.done | .over=>.exhausted)∧codeDst L'.tmps.size L.assign=true∧codeDst L'.tmps.size L.body=true∧(∀d∈L.params,d < L'.tmps.size):=by
 obtain⟨o',ho,hr⟩:=r.obj l _ rc hb hφ
 cases o' <;> simp only[OR] at hr
 exact⟨_,ho,hr⟩
theorem zcE {q:Nat} {L' : Loop} (ho:w.heap[q]?= some (.loop L')):(Instr.getLoop q).run P w=.ok L' w:=by
 simp[Instr.getLoop,zcf (P:=P) ho (by intro _ _ _ e; cases e)]
theorem Tn.setLoop (r:R P φ h w) {l:Nat} {L L2:znA} {rc:Rec} {L' L2' : Loop} (hb:h.get l=some (.loop L)) (hφ:φ l=some rc) (ho:w.heap[rc.blk]?= some (.loop L')) (hr:OR P φ rc (.loop L2) (.loop L2')):
 (setObj rc.blk (.loop L2')).run P w=.ok () { w with heap:=w.heap.setIfInBounds rc.blk (.loop L2') }∧Tn P φ h w φ (h.set l (.loop L2)) { w with heap:=w.heap.setIfInBounds rc.blk (.loop L2') }:=
 ⟨zcg ho (by intro _ _ _ e; cases e),Tn.put r hb hφ rfl hr 0⟩
theorem znP {r:Ex} (S:SEx P r) (M:zfi r) {l:Nat} {args args' : List Value} {v:Value} (hs:zc4 r l args h=some (v,h')) {rc:Rec} (hφ:φ l=some rc) (ha:AR φ args args') (hr:R P φ h w) {N:Nat} (hN:h'.next≤N) (hF:zdH φ h.next N) (c:Frame) (cs:List Frame):
 ∃φ' v' w',Tn P φ h w φ' h' w'∧VR φ' v v'∧∃fn tmps assign body,(Instr.yield rc.blk args'.toArray).run P w=.ok (.round rc.blk fn tmps assign body) w∧
  Steps P (lone (Frame.round rc.blk fn tmps assign body .normal) (c :: cs) w) (lone (c.finish v') cs w'):=by
 unfold zc4 at hs
 cases hl:h.get l with
 | none=>rw[hl] at hs; simp at hs
 | some ob=>
   rw[hl] at hs
   cases ob with
   | loop L0=>
     simp only at hs
     obtain⟨L',ho,ke,hps,has,hbd,hpe,hst,hd1,hd2,hd3⟩:=hr.loop hl hφ
     by_cases hlen:args.length=L0.params.length
     ·rw[if_pos hlen] at hs
      have hlen' : args'.toArray.size=L'.params.size:=by rw[←Array.length_toList,←Array.length_toList,hps,←hlen]; simpa using ha.length.symm
      have hrun:(Instr.yield rc.blk args'.toArray).run P w=.ok (.round rc.blk L'.fn ((L0.params.zip args').foldl (fun tmps p=>tmps.setIfInBounds p.1 p.2) L'.tmps) L0.assign L0.body) w:=by
       have e1:(L'.params.zip args'.toArray).foldl (fun tmps (p:Tmp×Value)=>tmps.setIfInBounds p.1 p.2) L'.tmps=(L0.params.zip args').foldl (fun tmps p=>tmps.setIfInBounds p.1 p.2) L'.tmps:=by
        rw[←Array.foldl_toList,Array.toList_zip,hps]
       simp only[Instr.yield,Sem.run_bind,zcE ho,Result.andThen_ok]
       rw[if_neg (by simpa using hlen')]
       simp only[Sem.run_pure]
       rw[←has,←hbd]
       congr 2
      obtain⟨kp,ksz⟩:=zcM.putAll ke ha hlen hd3
      generalize htm:(L0.params.zip args').foldl (fun tmps p=>tmps.setIfInBounds p.1 p.2) L'.tmps=tm at hrun kp ksz
      let b:Frame:={ (default:Frame) with fn:=L'.fn,kind:=.normal,roundOf:=some rc.blk }
      have hround:Frame.round rc.blk L'.fn tm L0.assign L0.body .normal=At b tm [] [.code L0.assign,.beginRound,.code L0.body]:=rfl
      cases hr1:r (some l) [] L0.assign (Am.putAll L0.env L0.params args) h with
      | none=>rw[hr1] at hs; simp at hs
      | some y=>
        obtain⟨x1,e2,h2⟩:=y
        rw[hr1] at hs
        cases x1 with
        | normal=>
          simp only at hs
          cases hl2:h2.get l with
          | none=>rw[hl2] at hs; simp at hs
          | some ob2=>
            rw[hl2] at hs
            cases ob2 with
            | loop L2=>
              simp only at hs
              by_cases hst2:L2.state=.ready
              ·rw[if_pos hst2] at hs
               cases hr2:r (some l) [] L0.body e2 (h2.set l (.loop { L2 with state:=.busy })) with
               | none=>rw[hr2] at hs; simp at hs
               | some z=>
                 obtain⟨x,e4,h4⟩:=z
                 rw[hr2] at hs
                 simp only at hs
                 cases hl4:h4.get l with
                 | none=>rw[hl4] at hs; simp at hs
                 | some ob4=>
                   rw[hl4] at hs
                   cases ob4 with
                   | loop L4=>
                     simp only at hs
                     have hn4:h'.next=h4.next:=by
                      cases x <;> simp only[Option.some.injEq,Prod.mk.injEq] at hs <;> (rw[←hs.2]; rfl)
                     have m2:=M _ _ _ _ _ _ _ _ hr2
                     simp only[AH.next_set] at m2
                     obtain⟨φ1,a1,ds1,w1,t1,k1,sz1,m1,ar1⟩:=S (some l) [] L0.assign _ h .normal e2 h2 hr1 N w.heap.size φ tm w [] b [.beginRound,.code L0.body] (c :: cs) (by omega) hF kp (by rw[ksz]; exact hd1) hr ⟨rc,hφ,rfl⟩ trivial (Nat.le_refl _)
                     have hφ1:=t1.le l rc hφ
                     obtain⟨L2',ho2,ke2,hps2,has2,hbd2,hpe2,hst2',hd21,hd22,hd23⟩:=t1.rel.loop hl2 hφ1
                     obtain⟨hset,tb⟩:=Tn.setLoop (L2:={ L2 with state:=.busy }) (L2':={ L2' with state:=.busy }) t1.rel hl2 hφ1 ho2 ⟨ke2,hps2,has2,hbd2,hpe2,rfl,hd21,hd22,hd23⟩
                     have hbegin:(Instr.beginRound rc.blk).run P w1=.ok () { w1 with heap:=w1.heap.setIfInBounds rc.blk (.loop { L2' with state:=.busy }) }:=by
                      rw[hst2] at hst2'
                      simp only[Instr.beginRound,Sem.run_bind,zcE ho2,Result.andThen_ok,hset,hst2',Sem.run_pure]
                     have hstep:step P (lone (At b a1 ds1 [.beginRound,.code L0.body]) (c :: cs) w1)=.next (lone (At b a1 ds1 [.code L0.body]) (c :: cs) { w1 with heap:=w1.heap.setIfInBounds rc.blk (.loop { L2' with state:=.busy }) }):=
                      step_lone_go (by simp[stepG,stepG.exec,stepG.apply,At,b,hbegin,Frame.finish])
                     have t1b:=t1.trans tb
                     obtain⟨φ3,a3,ds3,w3,t3,k3,sz3,_,ar3⟩:=S (some l) [] L0.body e2 _ x e4 h4 hr2 N w.heap.size φ1 a1 _ ds1 b [] (c :: cs) (by omega) (hF.tn t1b) k1 (by rw[sz1,ksz]; exact hd2) tb.rel ⟨rc,hφ1,rfl⟩ (m1.tn tb) t1b.size
                     have hφ3:=t3.le l rc hφ1
                     obtain⟨L4',ho4,ke4,hps4,has4,hbd4,hpe4,hst4,hd41,hd42,hd43⟩:=t3.rel.loop hl4 hφ3
                     have t13:=t1b.trans t3
                     have sAll:Steps P (lone (Frame.round rc.blk L'.fn tm L0.assign L0.body .normal) (c :: cs) w) (lone (At b a1 ds1 [.code L0.body]) (c :: cs) { w1 with heap:=w1.heap.setIfInBounds rc.blk (.loop { L2' with state:=.busy }) }):=by
                      rw[hround]
                      exact Steps.trans ar1 (.one hstep)
                     have fin:∀(j:Option Code) (todo:List Item),Steps P (lone (At b a1 ds1 [.code L0.body]) (c :: cs) { w1 with heap:=w1.heap.setIfInBounds rc.blk (.loop { L2' with state:=.busy }) }) (lone (At b a3 ds3 todo) (c :: cs) w3)→
                      (∀w4 v4,(Instr.endRound rc.blk j).run P w3=.ok v4 w4→step P (lone (At b a3 ds3 todo) (c :: cs) w3)=.next (lone (c.finish v4) cs w4))→
                      some (Value.bool j.isNone,h4.set l (.loop { L4 with state:=if j.isNone then .ready else .done,pending:=j }))=some (v,h')→
                      ∃φ' v' w',Tn P φ h w φ' h' w'∧VR φ' v v'∧∃fn tmps assign body,(Instr.yield rc.blk args'.toArray).run P w=.ok (.round rc.blk fn tmps assign body) w∧
                       Steps P (lone (Frame.round rc.blk fn tmps assign body .normal) (c :: cs) w) (lone (c.finish v') cs w'):=by
                      intro j todo st hend hres
                      simp only[Option.some.injEq,Prod.mk.injEq] at hres
                      obtain⟨rfl,rfl⟩:=hres
                      obtain⟨hset4,t4⟩:=Tn.setLoop (L2:={ L4 with state:=if j.isNone then .ready else .done,pending:=j }) (L2':={ L4' with state:=if j.isNone then .ready else .done,pending:=j }) t3.rel hl4 hφ3 ho4
                       ⟨ke4,hps4,has4,hbd4,rfl,by cases j <;> rfl,hd41,hd42,hd43⟩
                      have hrunE:(Instr.endRound rc.blk j).run P w3=.ok (.bool j.isNone) { w3 with heap:=w3.heap.setIfInBounds rc.blk (.loop { L4' with state:=if j.isNone then .ready else .done,pending:=j }) }:=by
                       simp only[Instr.endRound,Sem.run_bind,zcE ho4,Result.andThen_ok,hset4,Sem.run_pure]
                      exact⟨φ3,_,_,t13.trans t4,.bool _,_,_,_,_,hrun,(sAll.trans st).trans (.one (hend _ _ hrunE))⟩
                     cases x with
                     | normal=>
                       refine fin none [] ar3 (fun w4 v4 he=>?_) hs
                       exact step_lone_go (by simp[stepG,stepG.exec,At,b,he,doReturn])
                     | exit id=>
                       obtain⟨k',s3,hex⟩:=ar3
                       refine fin (some (.exit id)) _ s3 (fun w4 v4 he=>?_) hs
                       have hex' : exitTo id k'= none:=by rw[hex]; rfl
                       exact step_lone_go (by simp[stepG,stepG.exec,At,b,he,doReturn,hex'])
                     | ret=>
                       obtain⟨k',s3⟩:=ar3
                       refine fin (some .ret) _ s3 (fun w4 v4 he=>?_) hs
                       exact step_lone_go (by simp[stepG,stepG.exec,At,b,he,doReturn])
                   | _=>simp at hs
              ·rw[if_neg hst2] at hs; simp at hs
            | _=>simp at hs
        | _=>simp at hs
     ·rw[if_neg hlen] at hs; simp at hs
   | _=>simp at hs
theorem zjB {r:Ex} (G:zeD P) (X:zbL P K) (S:SEx P r) (M:zfi r):SOp P K r:=by
 intro o e h v h' hs N φ a w ds b k cs ops i rest hN hF ke hr ho hw
 unfold zbS at hs
 split at hs
 ·rename_i fo args ats hop
  have hnd:∀c,o.op≠.defer c:=fun c e=>by rw[hop] at e; cases e
  have hx:=VR.eval ke fo
  have hargs:=AR.map ke args.toList
  unfold zcC at hs
  split at hs
  ·rename_i g first cap hev
   rw[hev] at hx
   obtain⟨fn',first',cap',hv',hfr,hf1,hf2⟩:=hx.funcAR
   cases hfr
   have hall:=(hf1.append hargs).append hf2
   have e1:((first'.toList ++ args.toList.map (rho a)) ++ cap'.toList).toArray=(first' ++ args.map (rho a)) ++ cap':=Array.ext' (by simp)
   unfold zfa at hs
   split at hs
   ·rename_i gx hk
    obtain⟨hle,hs⟩:=zef hs
    obtain⟨φ',v',w',hrun,hvr,t⟩:=X.ext g gx hk φ _ _ h w v h' hs hle (hF.mono hN) hall hr
    have hex:(execOp (rho a) o).run P w=.ok (.value v') w':=by
     rw[e1] at hrun
     simp only[execOp,hop,resolve,hv',Deferred.ofValue,Sem.run_bind,Sem.run_pure,Result.andThen_ok,invoke]
     exact hrun
    exact⟨φ',v',w',t,hvr,.one (zwH ho hw hnd hex)⟩
   have hcs:=hs
   obtain⟨φ',v',w',fr,t,hvr,st,hfn,hlv⟩:=zc8 (K:=K) G X S g _ h v h' hs N φ _ w (At b a ds (.inRegion ops (i :: rest) :: k) :: cs) hN hF hall hr
   have hen:(execOp (rho a) o).run P w=.ok (.enter g ((first'.toList ++ args.toList.map (rho a)) ++ cap'.toList).toArray) w:=by
    obtain⟨fn,c,hfn',hc⟩:=zhV X hcs
    have hname:=G.name g fn hfn'
    rw[e1]
    simp only[execOp,hop,resolve,hv',Deferred.ofValue,Sem.run_bind,Sem.run_pure,Result.andThen_ok,invoke,callFunc,run_program,hfn',hname,hc]
    simp
   refine⟨φ',v',w',t,hvr,Steps.head (zuU ho hw hnd hen) (st.trans (.one ?_))⟩
   have e2:At b (zlJ a o.dst v') ds (.inRegion ops rest :: k)=(At b a ds (.inRegion ops (i :: rest) :: k)).finish v':=by rw[zdL,ho]; rfl
   rw[e2]
   exact step_leave_returned hlv
  ·rename_i l first cap hev
   rw[hev] at hx
   obtain⟨fn',first',cap',hv',hfr,hf1,hf2⟩:=hx.funcAR
   cases hfr with
   | yield hφ=>
     rename_i rc
     obtain⟨φ',v',w',t,hvr,fn,tm,as,bd,hy,st⟩:=znP S M hs hφ (hf1.append hargs) hr hN hF (At b a ds (.inRegion ops (i :: rest) :: k)) cs
     have hen:(execOp (rho a) o).run P w=.ok (.round rc.blk fn tm as bd) w:=by
      have e1:(first'.toList ++ args.toList.map (rho a)).toArray=first' ++ args.map (rho a):=Array.ext' (by simp)
      rw[e1] at hy
      simp only[execOp,hop,resolve,hv',Deferred.ofValue,Sem.run_bind,Sem.run_pure,Result.andThen_ok,invoke]
      exact hy
     refine⟨φ',v',w',t,hvr,Steps.head (zuV ho hw hnd hen) (st.trans ?_)⟩
     have e2:At b (zlJ a o.dst v') ds (.inRegion ops rest :: k)=(At b a ds (.inRegion ops (i :: rest) :: k)).finish v':=by rw[zdL,ho]; rfl
     rw[e2]
     exact Steps.refl P _
  ·simp at hs
 ·have hnd:∀c,o.op≠.defer c:=fun c e=>by simp[aOp,e] at hs
  obtain⟨φ',v',w',hv,hvr,t⟩:=zuS G hr hs ke (fun hlt=>hF h.next (Nat.le_refl _) (by omega))
  rcases hv with hv | ⟨hv,rfl⟩
  ·exact⟨φ',v',w',t,hvr,.one (zwH ho hw hnd hv)⟩
  ·exact⟨φ',undef,w',t,hvr,.one (zxw ho hw hnd hv)⟩
end
section
variable {P:Program} {K:Xs} {φ φ' : Fi} {h h' : AH} {w w' : World}
theorem zqF (r:R P φ h w) (ks:List Tmp) (d:Option Tmp) (e:Env):Tn P φ h w φ (zc0 ks d e h) w:=by
 unfold zc0
 split
 ·split
  ·exact Tn.kill r _
  ·exact Tn.refl r
 ·exact Tn.refl r
theorem zqG {n j:Nat} (hj:j < n):(List.range n).drop j=j :: (List.range n).drop (j+1):=by
 rw[List.drop_eq_getElem_cons (by simpa using hj)]
 simp
theorem zdO {r:Ex} (Op:SOp P K r) (M:zfi r) {ks:List Tmp} {ops:Array Oper} (hd:∀o∈ops.toList,∀t,o.dst=some t→Nat.blt t 0=true∨True):
 ∀(os:List Oper) (j:Nat) (e e' : Env) (h h' : AH),ops.toList.drop j=os→zbh P K r ks ops os e h=some (e',h')→∀(N:Nat) φ a w ds b k cs,
  h'.next≤N→zdH φ h.next N→zcM φ e a→(∀o∈ops.toList,∀t,o.dst=some t→t < a.size)→R P φ h w→
  ∃φ' a' w',Tn P φ h w φ' h' w'∧zcM φ' e' a'∧a'.size=a.size∧Steps P (lone (At b a ds (.inRegion ops ((List.range ops.size).drop j) :: k)) cs w) (lone (At b a' ds (.inRegion ops [] :: k)) cs w')
 | [],j,e,e',h,h',hj,hs,N,φ,a,w,ds,b,k,cs,hN,hF,ke,hdst,hr=>by
   simp only[zbh,Option.some.injEq,Prod.mk.injEq] at hs
   obtain⟨rfl,rfl⟩:=hs
   have hlen:ops.size≤j:=by
    have:=congrArg List.length hj
    simp at this
    omega
   have:(List.range ops.size).drop j=[]:=List.drop_of_length_le (by simpa using hlen)
   rw[this]
   exact⟨φ,a,w,Tn.refl hr,ke,rfl,Steps.refl P _⟩
 | o :: os,j,e,e',h,h',hj,hs,N,φ,a,w,ds,b,k,cs,hN,hF,ke,hdst,hr=>by
   have hlt:j < ops.size:=by
    rcases Nat.lt_or_ge j ops.size with q | q
    ·exact q
    ·rw[List.drop_of_length_le (by simpa using q)] at hj; simp at hj
   have hoj:ops[j]?= some o:=by
    have:(ops.toList.drop j)[0]?= some o:=by rw[hj]; rfl
    simpa using this
   have hj' : ops.toList.drop (j+1)=os:=by
    have:(ops.toList.drop j).drop 1=os:=by rw[hj]; rfl
    simpa[List.drop_drop] using this
   have hmem:o∈ops.toList:=by
    have:=List.mem_of_getElem? (by simpa using hoj:ops.toList[j]?= some o)
    exact this
   rw[zqG hlt]
   unfold zbh at hs
   split at hs
   ·rename_i hw
    split at hs
    ·rename_i v h1 hr1
     have n1:=zdq M hs
     have n0:=zeg M hr1
     rw[zdM] at n0
     have tk:=zqF hr ks o.dst e
     have hF' : zdH φ (zc0 ks o.dst e h).next N:=by rw[zdM]; exact hF
     obtain⟨φ1,v',w1,t1,hv,st⟩:=Op o e _ v h1 hr1 N φ a w ds b k cs ops j ((List.range ops.size).drop (j+1)) (by omega) hF' ke tk.rel hoj (zfh ke hw)
     have t01:=tk.trans t1
     obtain⟨φ2,a2,w2,t2,k2,sz2,st2⟩:=zdO Op M hd os (j+1) _ e' h1 h' hj' hs N φ1 (zlJ a o.dst v') w1 ds b k cs hN (hF.tn t01) ((ke.mono t1.le).putO (fun t ht=>hdst o hmem t ht) hv)
      (fun o ho t ht=>by rw[zbT]; exact hdst o ho t ht) t1.rel
     exact⟨φ2,a2,w2,t01.trans t2,k2,by rw[sz2,zbT],st.trans st2⟩
    ·simp at hs
   ·rename_i hw
    obtain⟨φ2,a2,w2,t2,k2,sz2,st2⟩:=zdO Op M hd os (j+1) _ e' h h' hj' hs N φ (zlJ a o.dst undef) w ds b k cs hN hF (ke.putO (fun t ht=>hdst o hmem t ht) (.skip rfl))
     (fun o ho t ht=>by rw[zbT]; exact hdst o ho t ht) hr
    exact⟨φ2,a2,w2,t2,k2,by rw[sz2,zbT],Steps.head (zlK hoj (zfh ke hw)) st2⟩
   ·simp at hs
theorem zzg {n:Nat} {id:Nat} {ops:Array Oper} {draw:Bool} (hc:codeDst n (.region id ops draw)=true):∀o∈ops.toList,∀t,o.dst=some t→t < n:=by
 intro o ho t ht
 simp only[codeDst,List.all_eq_true] at hc
 have:=hc o ho
 rw[ht] at this
 simpa[Nat.blt_eq] using this
theorem zfW {m0 m1 m2 m:Machine} (h0:step P m0=.next m2) (h1:step P m1=.next m2) (s:Steps P m0 m) (hne:m≠m0):Steps P m1 m:=by
 obtain⟨n,hn⟩:=s
 cases n with
 | zero=>simp only[runN,Stepped.next.injEq] at hn; exact absurd hn.symm hne
 | succ n=>simp only[runN,h0] at hn; exact Steps.head h1 ⟨n,hn⟩
theorem zhW {fr fr' : Frame} {cs:List Frame} {w w' : World} (h:lone fr cs w=lone fr' cs w'):fr.todo=fr'.todo:=by
 simp[lone] at h
 rw[h.2]
theorem Arr.loopOn {b:Frame} {a1 a2:Array Value} {ds1 ds2:List Deferred} {k:List Item} {cs:List Frame} {c:Code} {x:AX} {w1 w2:World}
 (ar:Arr P (lone (At b a1 ds1 (.code (.loop c) :: k)) cs w1) b k cs x a2 ds2 w2):Arr P (lone (At b a1 ds1 (.inLoop c :: k)) cs w1) b k cs x a2 ds2 w2:=by
 cases x with
 | normal=>
   refine zfW zfV zhS ar (fun e=>?_)
   have:=congrArg List.length (zhW e)
   simp[At] at this
 | exit id=>
   obtain⟨k',s,hx⟩:=ar
   exact⟨k',zfW zfV zhS s (fun e=>by have:=zhW e; simp[At] at this),hx⟩
 | ret=>
   obtain⟨k',s⟩:=ar
   exact⟨k',zfW zfV zhS s (fun e=>by have:=zhW e; simp[At] at this)⟩
theorem Tn.push (r:R P φ h w) (O:Obj):Tn P φ h w φ h { w with heap:=w.heap.push O }:=by
 have hold:∀b o r',h.get b=some o→φ b=some r'→∃o',w.heap[r'.blk]?= some o'∧(w.heap.push O)[r'.blk]?= some o'∧OR P φ r' o o':=by
  intro b o r' h1 h2
  obtain⟨O',hO,hr⟩:=r.obj b o r' h1 h2
  have:=(Array.getElem?_eq_some_iff.1 hO).1
  exact⟨O',hO,by rw[Array.getElem?_push,if_neg (by omega)]; exact hO,hr⟩
 refine⟨Le.refl _,fun _ e=>.inl e,Nat.le_refl _,⟨fun b o r' h1 h2=>?_,r.inj,r.lt⟩,by simp,rfl,rfl,rfl,fun c hc _=>?_,fun b o rc h1 h2 _=>⟨b,o,rc,h1,h2,rfl,id⟩⟩
 ·obtain⟨O',_,h3,h4⟩:=hold b o r' h1 h2
  exact⟨O',h3,h4⟩
 ·simp only[Array.getElem?_push]
  rw[if_neg (by omega)]
theorem Tn.sameGet {h2:AH} (t:Tn P φ h w φ' h' w') (hg:∀b,h2.get b=h'.get b) (hn:h2.next=h'.next):Tn P φ h w φ' h2 w':=
 ⟨t.le,by rw[hn]; exact t.new,by rw[hn]; exact t.nle,⟨fun b o rc k1=>by rw[hg] at k1; exact t.rel.obj b o rc k1,fun b1 b2 o1 o2 r1 r2 k1 k2=>by rw[hg] at k1 k2; exact t.rel.inj b1 b2 o1 o2 r1 r2 k1 k2,fun b o k=>by rw[hg] at k; rw[hn]; exact t.rel.lt b o k⟩,
   t.size,t.os,t.tape,t.output,t.keep,fun b o rc k1=>by rw[hg] at k1; exact t.old b o rc k1⟩
theorem zdN.mem {B:Nat}:∀{ds:List Deferred},zdN P B φ h w ds→∀d∈ds,∃q,d.target=.collected q∧w.heap[q]?= some (.deferred (some []))
 | d :: ds,⟨⟨q,h1,h2,h3,h4,h5⟩,hr⟩,d',hd=>by
   rcases List.mem_cons.1 hd with rfl | hd
   ·exact⟨q,h1,h3⟩
   ·exact zdN.mem hr d' hd
theorem znQ {r:Ex} (G:zeD P) (X:zbL P K) (S:SEx P r) (M:zfi r) {rd:Option Nat} {ks:List Tmp} {f:Operand} {ps:Array Tmp} {as bd:Code} {e e' : Env} {x:AX} (hs:zcq P K r ks f ps.toList as bd e h=some (x,e',h')) (haro:zdn rd h=true)
 {N B:Nat} {a:Array Value} {ds:List Deferred} {b:Frame} {k:List Item} {cs:List Frame}
 (hN:h'.next≤N) (hF:zdH φ h.next N) (ke:zcM φ e a) (hdst:codeDst a.size (.rangeFunc f ps as bd)=true) (hr:R P φ h w) (hrd:RD φ rd b) (hm:zdN P B φ h w ds) (hB:B≤w.heap.size):
 ∃φ' a' ds' w',Tn P φ h w φ' h' w'∧zcM φ' e' a'∧a'.size=a.size∧zdN P B φ' h' w' ds'∧Arr P (lone (At b a ds (.code (.rangeFunc f ps as bd) :: k)) cs w) b k cs x a' ds' w':=by
 unfold zcq at hs
 simp only[codeDst,Bool.and_eq_true,List.all_eq_true,Nat.blt_eq] at hdst
 obtain⟨⟨hd1,hd2⟩,hd3⟩:=hdst
 cases hcall:zbr P K r (ev e f) h.next (h.alloc (.loop { state:=.ready,pending:=none,env:=e,params:=ps.toList,assign:=as,body:=bd,ks })) with
 | none=>rw[hcall] at hs; simp at hs
 | some y=>
 obtain⟨v0,h2⟩:=y
 rw[hcall] at hs
 simp only at hs
 cases hl2:h2.get h.next with
 | none=>rw[hl2] at hs; simp at hs
 | some ob=>
 rw[hl2] at hs
 cases ob with
 | loop L=>
   simp only at hs
   have start:∃(mk:List Deferred) (w1:World) (dq:Nat),Tn P φ h w φ h w1∧zdN P B φ h w1 (mk ++ ds)∧
    (Instr.enterLoop b.fn a ps as bd b.roundOf).run P w=.ok (w1.heap.size,mk) { w1 with heap:=w1.heap.push (.loop { state:=.ready,pending:=none,fn:=b.fn,tmps:=a,params:=ps,assign:=as,body:=bd,defers:=dq }),drawn:=w1.drawn+0 }:=by
    cases rd with
    | none=>
      have hrd' : b.roundOf=none:=hrd
      let w1:World:={ w with heap:=w.heap.push (.deferred (some [])) }
      have t1:Tn P φ h w φ h w1:=Tn.push hr _
      have hq1:w1.heap[w.heap.size]?= some (.deferred (some [])):=by simp[w1]
      have hnm:=t1.rel.nomark hq1
      refine⟨[{ target:=.collected w.heap.size,args:=#[] }],w1,w.heap.size,t1,⟨⟨w.heap.size,rfl,hB,hq1,fun ⟨b',o',rc',k1,k2,k3,_⟩=>hnm b' o' rc' k1 k2 k3,fun d' hd' e'=>?_⟩,hm.tn t1⟩,?_⟩
      ·obtain⟨q',k1,k2⟩:=hm.mem d' hd'
       rw[k1] at e'
       simp only[Target.collected.injEq] at e'
       have:=(Array.getElem?_eq_some_iff.1 k2).1
       omega
      ·rw[hrd']
       simp only[Instr.enterLoop,Sem.run_bind,run_newObj,Sem.run_pure,Result.andThen_ok]
       simp[w1]
    | some lo=>
      obtain⟨rco,hφo,hro⟩:=hrd
      simp only[zdn] at haro
      split at haro
      rotate_left
      ·simp at haro
      rename_i Lo hgo
      obtain⟨Lo',hoo,_⟩:=hr.loop hgo hφo
      refine⟨[],w,Lo'.defers,Tn.refl hr,hm,?_⟩
      rw[hro]
      simp only[Instr.enterLoop,Sem.run_bind,zcE hoo,run_newObj,Sem.run_pure,Result.andThen_ok]
      simp
   obtain⟨mk,w1,dq,t1,hm0,hent⟩:=start
   let L' : Loop:={ state:=.ready,pending:=none,fn:=b.fn,tmps:=a,params:=ps,assign:=as,body:=bd,defers:=dq }
   let l:=w1.heap.size
   let rc:Rec:=⟨l,0,0,0⟩
   have hn2:h.next+1≤h2.next:=by
    have:=zeE M hcall
    simpa using this
   have hn' : h'.next=h2.next:=by
    cases hst:L.state <;> rw[hst] at hs <;> first | (simp at hs; done) | skip
    all_goals
     cases hpe:L.pending with
     | none=>rw[hpe] at hs; simp only[Option.some.injEq,Prod.mk.injEq] at hs; rw[←hs.2.2]; rfl
     | some c=>
       rw[hpe] at hs
       cases c <;> simp only at hs <;> first | (simp at hs; done) | (simp only[Option.some.injEq,Prod.mk.injEq] at hs; rw[←hs.2.2]; rfl)
   have hfree:φ h.next=none:=hF _ (Nat.le_refl _) (by omega)
   have t2:=Tn.alloc t1.rel (.loop { state:=.ready,pending:=none,env:=e,params:=ps.toList,assign:=as,body:=bd,ks }) (.loop L') rc hfree (by simp[rc,l])
    (fun ψ hψ _=>⟨ke.mono hψ,rfl,rfl,rfl,rfl,rfl,hd2,hd3,hd1⟩) 0
   have t12:=t1.trans t2
   generalize hφ1:(fun b=>if b=h.next then some rc else φ b)=φ1 at t2 t12
   have hφl:φ1 h.next=some rc:=by rw[←hφ1]; simp
   generalize hw2:({ w1 with heap:=w1.heap.push (.loop L'),drawn:=w1.drawn+0 }:World)=w2 at t2 t12
   have hm1:zdN P B φ1 (h.alloc (.loop { state:=.ready,pending:=none,env:=e,params:=ps.toList,assign:=as,body:=bd,ks })) w2 (mk ++ ds):=hm0.tn t2
   rw[hw2] at hent
   have ke1:zcM φ1 e a:=ke.mono t12.le
   have hx:=VR.eval ke1 f
   unfold zbr at hcall
   split at hcall
   rotate_left
   ·simp at hcall
   rename_i g first cap hev
   rw[hev] at hx
   obtain⟨fn',first',cap',hv',hfr,hf1,hf2⟩:=hx.funcAR
   cases hfr
   have hall:AR φ1 (first.toList ++ [Value.func (Fn.yield h.next) #[] #[]] ++ cap.toList) ((first'.toList ++ [Value.func (Fn.yield l) #[] #[]]) ++ cap'.toList):=
    (hf1.append (show AR φ1 [Value.func (Fn.yield h.next) #[] #[]] [Value.func (Fn.yield l) #[] #[]] from ⟨.func (.yield (r:=rc) hφl) rfl rfl (fun i v v' hv=>by simp at hv) (fun i v v' hv=>by simp at hv),trivial⟩)).append hf2
   have hFr:zdH φ1 (h.next+1) N:=by
    have:=hF.tn t12
    simpa using this
   obtain⟨φ3,v3,w3,fr3,t3,hvr3,st3,hfn3,hlv3⟩:=zc8 (K:=K) G X S g _ _ v0 h2 hcall N φ1 _ w2 (At b a (mk ++ ds) (.inRangeFunc l :: k) :: cs) (by omega) (by simpa using hFr) hall t2.rel
   have hargs0:(first'.toList ++ [Value.func (Fn.yield l) #[] #[]] ++ cap'.toList).toArray=(first' ++ #[Value.func (Fn.yield l) #[] #[]]) ++ cap':=Array.ext' (by simp)
   have hstart:step P (lone (At b a ds (.code (.rangeFunc f ps as bd) :: k)) cs w)=.next (lone (Frame.enter P g (first'.toList ++ [Value.func (Fn.yield l) #[] #[]] ++ cap'.toList).toArray .normal) (At b a (mk ++ ds) (.inRangeFunc l :: k) :: cs) w2):=by
    have hinv:(do let d ←resolve (rho a) { callee:=.value f,args:=#[.const (.func (.yield l) #[] #[])],argTypes:=#[] } 0; invoke d.target d.args:Sem Next).run P w2 =
     .ok (.enter g (first'.toList ++ [Value.func (Fn.yield l) #[] #[]] ++ cap'.toList).toArray) w2:=by
     obtain⟨fn,c,hfn',hc⟩:=zhV X hcall
     have hname:=G.name g fn hfn'
     have hyc:rho a (.const (.func (.yield l) #[] #[]))=.func (.yield l) #[] #[]:=rfl
     rw[hargs0]
     simp only[resolve,hv',Deferred.ofValue,Sem.run_bind,Sem.run_pure,Result.andThen_ok,invoke,callFunc,run_program,hfn',hname,hc]
     simp[hyc]
    have hev':=zpd b a (mk ++ ds) (.inRangeFunc l :: k)
    simp only[At] at hev'
    refine step_lone_go ?_
    simp only[stepG,stepG.exec,At]
    simp[hent]
    simp[l] at hev' hinv
    simp[hev',stepG.apply,hinv,l]
   have hfin:(At b a (mk ++ ds) (.inRangeFunc l :: k)).finish v3=At b a (mk ++ ds) (.endRangeFunc l :: k):=by simp[Frame.finish,At]
   have st4:=step_leave_returned hlv3 (c:=At b a (mk ++ ds) (.inRangeFunc l :: k)) (cs:=cs)
   rw[hfin] at st4
   obtain⟨L3,ho3,kel,hps3,has3,hbd3,hpe3,hst3,e1,e2,e3⟩:=t3.rel.loop hl2 (t3.le _ _ hφl)
   obtain⟨hset,t4⟩:=Tn.setLoop (L2:={ L with state:=.over }) (L2':={ L3 with state:=.exhausted }) t3.rel hl2 (t3.le _ _ hφl) ho3 ⟨kel,hps3,has3,hbd3,hpe3,rfl,e1,e2,e3⟩
   have t5:=(t4.trans (Tn.del t4.rel h.next)).sameGet (h2:=h2.del h.next) (fun c=>by
    rw[AH.get_del,AH.get_del,AH.get_set]
    split <;> rfl) rfl
   generalize hw4:({ w3 with heap:=w3.heap.setIfInBounds rc.blk (.loop { L3 with state:=.exhausted }) }:World)=w4 at hset t4 t5
   have hend:L.state≠.busy→(Instr.endLoop l).run P w3=.ok L.pending w4:=by
    intro hne
    have hnb:(L3.state == LoopState.busy)=false:=by
     rw[hst3]
     cases hh:L.state <;> first | rfl | exact absurd hh hne
    have hgl:(Instr.getLoop l).run P w3=.ok L3 w3:=zcE ho3
    have hsl:(setObj l (.loop { L3 with state:=.exhausted })).run P w3=.ok () w4:=hset
    simp only[Instr.endLoop,Sem.run_bind,hgl,Result.andThen_ok,hnb,Bool.false_eq_true,if_false,hsl,Sem.run_pure]
    rw[hpe3]
   have tAll:=(t12.trans t3).trans t5
   have mAll:=(hm1.tn t3).tn t5
   have keAll:zcM φ3 e a:=ke1.mono t3.le
   have sAll:L.state≠.busy→Steps P (lone (At b a ds (.code (.rangeFunc f ps as bd) :: k)) cs w) (lone (At b a (mk ++ ds) ((L.pending.map Item.code).toList ++ k)) cs w4):=by
    intro hne
    refine Steps.head hstart (Steps.trans st3 (Steps.head st4 (.one ?_)))
    exact step_lone_go (by simp[stepG,stepG.exec,At,hend hne])
   have fin:L.state≠.busy→(match L.pending with
    | none=>some (AX.normal,e,h2.del h.next)
    | some (.exit id)=>some (.exit id,e,h2.del h.next)
    | some .ret=>some (.ret,e,h2.del h.next)
    | _=>none)=some (x,e',h')→∃φ' a' ds' w',Tn P φ h w φ' h' w'∧zcM φ' e' a'∧a'.size=a.size∧zdN P B φ' h' w' ds'∧Arr P (lone (At b a ds (.code (.rangeFunc f ps as bd) :: k)) cs w) b k cs x a' ds' w':=by
    intro hne hq
    have hst:=sAll hne
    cases hpe:L.pending with
    | none=>
      rw[hpe] at hq hst
      simp only[Option.some.injEq,Prod.mk.injEq] at hq
      obtain⟨rfl,rfl,rfl⟩:=hq
      exact⟨φ3,a,mk ++ ds,w4,tAll,keAll,rfl,mAll,hst⟩
    | some c=>
      rw[hpe] at hq hst
      cases c with
      | exit id=>
        simp only[Option.some.injEq,Prod.mk.injEq] at hq
        obtain⟨rfl,rfl,rfl⟩:=hq
        exact⟨φ3,a,mk ++ ds,w4,tAll,keAll,rfl,mAll,k,hst,rfl⟩
      | ret=>
        simp only[Option.some.injEq,Prod.mk.injEq] at hq
        obtain⟨rfl,rfl,rfl⟩:=hq
        exact⟨φ3,a,mk ++ ds,w4,tAll,keAll,rfl,mAll,k,hst⟩
      | _=>simp at hq
   cases hst:L.state with
   | busy=>rw[hst] at hs; simp at hs
   | ready=>rw[hst] at hs fin; exact fin (by simp) hs
   | done=>rw[hst] at hs fin; exact fin (by simp) hs
   | over=>rw[hst] at hs fin; exact fin (by simp) hs
 | _=>simp at hs
theorem zlR {r:Ex} (G:zeD P) (X:zbL P K) (S:SEx P r) (M:zfi r) (D:zzf P K r):SEx P (zaz P K r):=by
 intro rd ks c e h x e' h' hs N B φ a w ds b k cs hN hF ke hdst hr hrd hm hB
 have Op:=zjB (K:=K) G X S M
 unfold zaz at hs
 split at hs
 ·simp only[Option.some.injEq,Prod.mk.injEq] at hs
  obtain⟨rfl,rfl,rfl⟩:=hs
  exact⟨φ,a,ds,w,Tn.refl hr,ke,rfl,hm,.one zxt⟩
 ·simp only[Option.some.injEq,Prod.mk.injEq] at hs
  obtain⟨rfl,rfl,rfl⟩:=hs
  exact⟨φ,a,ds,w,Tn.refl hr,ke,rfl,hm,.one zuT⟩
 ·rename_i id ops draw
  split at hs
  ·split at hs
   ·rename_i e1 h1 hr1
    simp only[Option.some.injEq,Prod.mk.injEq] at hs
    obtain⟨rfl,rfl,rfl⟩:=hs
    obtain⟨φ2,a2,w2,t2,k2,sz2,st2⟩:=zdO Op M (fun _ _ _ _=>.inr trivial) ops.toList 0 e e1 h h1 rfl hr1 N φ a w ds b k cs hN hF ke (zzg hdst) hr
    exact⟨φ2,a2,ds,w2,t2,k2,sz2,hm.tn t2,(Steps.head zrX (Steps.trans st2 (.one zwG)):Steps P _ _)⟩
   ·simp at hs
  ·split at hs
   ·rename_i e1 h1 hr1
    simp only[Option.some.injEq,Prod.mk.injEq] at hs
    obtain⟨rfl,rfl,rfl⟩:=hs
    obtain⟨φ2,a2,w2,t2,k2,sz2,st2⟩:=D id ops e h e1 h1 hr1 N φ a w ds b k cs hN hF ke hdst hr
    exact⟨φ2,a2,ds,w2,t2,k2,sz2,hm.tn t2,st2⟩
   ·simp at hs
 ·rename_i ca cb
  simp only[codeDst,Bool.and_eq_true] at hdst
  split at hs
  ·rename_i e1 h1 hr1
   have n1:=M _ _ _ _ _ _ _ _ hs
   obtain⟨φ1,a1,ds1,w1,t1,k1,sz1,m1,ar1⟩:=S rd ks ca e h .normal e1 h1 hr1 N B φ a w ds b (.code cb :: k) cs (by omega) hF ke hdst.1 hr hrd hm hB
   obtain⟨φ2,a2,ds2,w2,t2,k2,sz2,m2,ar2⟩:=S rd ks cb e1 h1 x e' h' hs N B φ1 a1 w1 ds1 b k cs hN (hF.tn t1) k1 (by rw[sz1]; exact hdst.2) t1.rel (hrd.mono t1.le) m1 (Nat.le_trans hB t1.size)
   exact⟨φ2,a2,ds2,w2,t1.trans t2,k2,by rw[sz2,sz1],m2,Arr.of_steps (Steps.head zrV ar1) ar2⟩
  ·rename_i hne
   obtain⟨φ1,a1,ds1,w1,t1,k1,sz1,m1,ar1⟩:=S rd ks ca e h x e' h' hs N B φ a w ds b (.code cb :: k) cs hN hF ke hdst.1 hr hrd hm hB
   refine⟨φ1,a1,ds1,w1,t1,k1,sz1,m1,?_⟩
   cases x with
   | normal=>exact absurd hs (hne _ _)
   | exit id=>obtain⟨k',s1,s2⟩:=ar1; exact⟨k',Steps.head zrV s1,by rw[s2]; rfl⟩
   | ret=>obtain⟨k',s1⟩:=ar1; exact⟨k',Steps.head zrV s1⟩
 ·rename_i c ca cb
  simp only[codeDst,Bool.and_eq_true] at hdst
  have hc:=VR.eval ke c
  split at hs
  ·rename_i t hev
   rw[hev] at hc
   have hrho:rho a c=.bool t:=by
    generalize hq:rho a c=q
    simp only[rho] at hq
    rw[hq] at hc
    cases hc
    rfl
   cases t
   ·simp only[cond_false] at hs
    obtain⟨φ1,a1,ds1,w1,t1,k1,sz1,m1,ar1⟩:=S rd ks cb e h x e' h' hs N B φ a w ds b k cs hN hF ke hdst.2 hr hrd hm hB
    exact⟨φ1,a1,ds1,w1,t1,k1,sz1,m1,Arr.of_steps (.one (zrW hrho)) (by simpa using ar1)⟩
   ·simp only[cond_true] at hs
    obtain⟨φ1,a1,ds1,w1,t1,k1,sz1,m1,ar1⟩:=S rd ks ca e h x e' h' hs N B φ a w ds b k cs hN hF ke hdst.1 hr hrd hm hB
    exact⟨φ1,a1,ds1,w1,t1,k1,sz1,m1,Arr.of_steps (.one (zrW hrho)) (by simpa using ar1)⟩
  ·simp at hs
 ·rename_i id c
  simp only[codeDst] at hdst
  split at hs
  ·rename_i id' e1 h1 hr1
   have n1:h'.next=h1.next:=by
    cases hb:Nat.beq id' id <;> rw[hb] at hs <;> simp only[cond_true,cond_false,Option.some.injEq,Prod.mk.injEq] at hs <;> rw[←hs.2.2]
   obtain⟨φ1,a1,ds1,w1,t1,k1,sz1,m1,ar1⟩:=S rd ks c e h (.exit id') e1 h1 hr1 N B φ a w ds b (.inBlock id :: k) cs (by omega) hF ke hdst hr hrd hm hB
   obtain⟨k',s1,s2⟩:=ar1
   cases hb:Nat.beq id' id with
   | true=>
     rw[hb] at hs
     simp only[cond_true,Option.some.injEq,Prod.mk.injEq] at hs
     obtain⟨rfl,rfl,rfl⟩:=hs
     have hid:id'= id:=Nat.eq_of_beq_eq_true hb
     subst hid
     refine⟨φ1,a1,ds1,w1,t1,k1,sz1,m1,Steps.head zhk (s1.trans (.one (zxu ?_)))⟩
     rw[s2]
     simp[exitTo]
   | false=>
     rw[hb] at hs
     simp only[cond_false,Option.some.injEq,Prod.mk.injEq] at hs
     obtain⟨rfl,rfl,rfl⟩:=hs
     refine⟨φ1,a1,ds1,w1,t1,k1,sz1,m1,k',Steps.head zhk s1,?_⟩
     rw[s2]
     have:(id == id')=false:=by
      simp
      intro q
      subst q
      rw[Nat.beq_refl] at hb
      simp at hb
     simp[exitTo,this]
  ·rename_i hne
   obtain⟨φ1,a1,ds1,w1,t1,k1,sz1,m1,ar1⟩:=S rd ks c e h x e' h' hs N B φ a w ds b (.inBlock id :: k) cs hN hF ke hdst hr hrd hm hB
   refine⟨φ1,a1,ds1,w1,t1,k1,sz1,m1,?_⟩
   cases x with
   | normal=>exact Steps.head zhk (Steps.trans ar1 (.one zqx))
   | exit id'=>exact absurd hs (hne _ _ _)
   | ret=>obtain⟨k',s1⟩:=ar1; exact⟨k',Steps.head zhk s1⟩
 ·rename_i c
  simp only[codeDst] at hdst
  split at hs
  ·rename_i e1 h1 hr1
   have n1:=M _ _ _ _ _ _ _ _ hs
   obtain⟨φ1,a1,ds1,w1,t1,k1,sz1,m1,ar1⟩:=S rd ks c e h .normal e1 h1 hr1 N B φ a w ds b (.inLoop c :: k) cs (by omega) hF ke hdst hr hrd hm hB
   obtain⟨φ2,a2,ds2,w2,t2,k2,sz2,m2,ar2⟩:=S rd ks (.loop c) e1 h1 x e' h' hs N B φ1 a1 w1 ds1 b k cs hN (hF.tn t1) k1 (by rw[sz1]; exact hdst) t1.rel (hrd.mono t1.le) m1 (Nat.le_trans hB t1.size)
   exact⟨φ2,a2,ds2,w2,t1.trans t2,k2,by rw[sz2,sz1],m2,Arr.of_steps (Steps.head zfV ar1) ar2.loopOn⟩
  ·rename_i hne
   obtain⟨φ1,a1,ds1,w1,t1,k1,sz1,m1,ar1⟩:=S rd ks c e h x e' h' hs N B φ a w ds b (.inLoop c :: k) cs hN hF ke hdst hr hrd hm hB
   refine⟨φ1,a1,ds1,w1,t1,k1,sz1,m1,?_⟩
   cases x with
   | normal=>exact absurd hs (hne _ _)
   | exit id=>obtain⟨k',s1,s2⟩:=ar1; exact⟨k',Steps.head zfV s1,by rw[s2]; rfl⟩
   | ret=>obtain⟨k',s1⟩:=ar1; exact⟨k',Steps.head zfV s1⟩
 ·rename_i c
  simp only[codeDst] at hdst
  obtain⟨φ1,a1,ds1,w1,t1,k1,sz1,m1,ar1⟩:=S rd ks c e h x e' h' hs N B φ a w ds b (.inScope c :: k) cs hN hF ke hdst hr hrd hm hB
  refine⟨φ1,a1,ds1,w1,t1,k1,sz1,m1,?_⟩
  cases x with
  | normal=>exact Steps.head zkq (Steps.trans ar1 (.one zqy))
  | exit id=>obtain⟨k',s1,s2⟩:=ar1; exact⟨k',Steps.head zkq s1,by rw[s2]; rfl⟩
  | ret=>obtain⟨k',s1⟩:=ar1; exact⟨k',Steps.head zkq s1⟩
 ·rename_i id
  simp only[Option.some.injEq,Prod.mk.injEq] at hs
  obtain⟨rfl,rfl,rfl⟩:=hs
  exact⟨φ,a,ds,w,Tn.refl hr,ke,rfl,hm,k,Steps.refl P _,rfl⟩
 ·simp only[Option.some.injEq,Prod.mk.injEq] at hs
  obtain⟨rfl,rfl,rfl⟩:=hs
  exact⟨φ,a,ds,w,Tn.refl hr,ke,rfl,hm,k,Steps.refl P _⟩
 ·rename_i f ps as bd
  split at hs
  ·simp at hs
  ·rename_i haro
   exact znQ G X S M hs haro hN hF ke hdst hr hrd hm hB
 ·simp at hs
 ·simp at hs
end
section
variable {P:Program} {K:Xs} {φ φ' : Fi} {h h' : AH} {w w' : World}
theorem zuY {e e' : Env} {x:Operand} (h:∀t,x=.tmp t→e.get t=e'.get t):ev e x=ev e' x:=by
 cases x with
 | tmp t=>rw[zeC,zeC,h t rfl]
 | _=>rfl
theorem zhX {o:Oper} {e e' : Env} (hh:AH) (h:∀x∈o.op.operands,ev e x=ev e' x):aOp P o e hh=aOp P o e' hh:=by
 obtain⟨dst,op,type,pos,after,guard⟩:=o
 have pairs:∀ps:Array (Nat×Operand),(∀x∈ps.map (·.2),ev e x=ev e' x)→
  (ps.map fun (i,x)=>(i,ev e x))=(ps.map fun (i,x)=>(i,ev e' x)):=fun ps hp=>
  Array.map_congr_left fun p hm=>by
   obtain⟨i,x⟩:=p
   simp only[hp x (Array.mem_map.2 ⟨(i,x),hm,rfl⟩)]
 cases op <;> simp only[Op.operands] at h <;> simp only[aOp]
 case build t ps=>rw[pairs ps fun x hx=>h x (by simpa using hx)]
 case buildSlice t n ps=>rw[pairs ps fun x hx=>h x (by simpa using hx)]
 case makeFunc fn first captured=>
  rw[Array.map_congr_left (xs:=first) fun x hx=>h x (by simp[hx]),Array.map_congr_left (xs:=captured) fun x hx=>h x (by simp[hx])]
 case call c=>
  obtain⟨callee,args,ats⟩:=c
  cases callee <;> simp only
  rw[List.map_congr_left (l:=args.toList) fun x hx=>h x (by simp[Call.operands]; simpa using hx)]
 case slice t x lo hi mx=>cases lo <;> cases hi <;> cases mx <;> simp_all
 case next it st=>cases st <;> first | rfl | (simp_all; done)
 case typeAssert x xt t ok=>cases ok <;> first | rfl | (simp only[h x (by simp)]; done) | (rw[h x (by simp)]; done)
 all_goals (first | rfl | (simp_all; done))
theorem zdr {r:Ex} {o:Oper} {e e' : Env} (hh:AH) (h:∀x∈o.op.operands,ev e x=ev e' x):zbS P K r o e hh=zbS P K r o e' hh:=by
 obtain⟨dst,op,type,pos,after,guard⟩:=o
 cases op
 case call c=>
  obtain⟨callee,args,ats⟩:=c
  cases callee
  case value f=>
   simp only[zbS]
   rw[List.map_congr_left (l:=args.toList) fun x hx=>h x (by simp[Op.operands,Call.operands]; exact .inr (by simpa using hx)),h f (by simp[Op.operands,Call.operands])]
  all_goals (simp only[zbS]; exact zhX hh h)
 all_goals (simp only[zbS]; exact zhX hh h)
theorem zr6 {ops:Array Oper} {o:Oper} {t:Tmp} (ht:.tmp t∈o.op.operands):t∈zlA ops o:=
 List.mem_append_left _ (List.mem_filterMap.2 ⟨.tmp t,by simpa using ht,rfl⟩)
theorem zuZ {ops:Array Oper} {o:Oper} {e e' : Env} (h:∀t∈zlA ops o,e.get t=e'.get t):∀x∈o.op.operands,ev e x=ev e' x:=fun x hx=>
 zuY fun t ht=>h t (zr6 (by rw[←ht]; exact hx))
theorem zkt {ops:Array Oper} {o:Oper} {e e' : Env} (h:∀t∈zlA ops o,e.get t=e'.get t):zap ops o e=zap ops o e':=by
 unfold zap
 cases hg:o.guard with
 | none=>rfl
 | some g=>
   obtain⟨j,w⟩:=g
   simp only
   cases hd:(ops[j]?).bind (·.dst) with
   | none=>rfl
   | some d=>
     simp only
     rw[h d (List.mem_append_right _ (by simp[hg,hd]))]
def za3 (h:AH):Option zb7→AH
 | none=>h
 | some o=>h.alloc o
theorem zlS {o:Oper} {e:Env} {v:Value} (hk:zat P o.op=2) (hs:aOp P o e h=some (v,h')):h'= h:=by
 obtain⟨dst,op,type,pos,after,guard⟩:=o
 have hm:∀(x:Option Value),x.map (·,h)=some (v,h')→h'= h:=fun x hq=>by
  obtain⟨_,_,hq⟩:=Option.map_eq_some_iff.1 hq; cases hq; rfl
 cases op
 all_goals try (exfalso; simp[zat] at hk; done)
 all_goals simp only[zat] at hk
 all_goals simp only[aOp] at hs
 all_goals first
  | exact hm _ hs
  | skip
 case convert s d x=>
  unfold zaH at hs
  repeat' split at hs
  all_goals first
   | (simp at hs; done)
   | (simp only[Option.some.injEq,Prod.mk.injEq] at hs; exact hs.2.symm)
   | (exfalso; simp_all; done)
 case call c=>
  obtain⟨callee,args,ats⟩:=c
  cases callee
  case builtin b=>
   cases b
   case len=>
    dsimp only at hs
    generalize hb:Builtin.len=b at hs
    unfold zal at hs
    split at hs
    all_goals first
     | (simp at hs; done)
     | exact hm _ hs
     | (cases hb; done)
   all_goals simp at hk
  all_goals simp at hk
theorem zc9 {h:AH} {o o' : zb7} (e:h.alloc o=h.alloc o'):o=o':=by
 have:=congrArg (fun x=>AH.get x h.next) e
 simp only[AH.get_alloc,if_true,Option.some.injEq] at this
 exact this
theorem zu0 {h:AH} {o:zb7} (e:h=h.alloc o):False:=by
 have:=congrArg AH.next e
 simp at this
theorem zxy {o:Oper} {e:Env} {v:Value} {ob:zb7} (hk:zat P o.op=1) (hs:aOp P o e h=some (v,h')) (hh:h'= h.alloc ob):ob.ro=false:=by
 subst hh
 obtain⟨dst,op,type,pos,after,guard⟩:=o
 cases op
 case alloc t=>
  simp only[aOp] at hs
  split at hs
  ·simp only[zo6,Option.some.injEq,Prod.mk.injEq] at hs
   rw[←zc9 hs.2]; rfl
  ·simp at hs
 case box t x=>
  simp only[aOp] at hs
  split at hs
  ·simp at hs
  ·simp only[zo6,Option.some.injEq,Prod.mk.injEq] at hs
   rw[←zc9 hs.2]; rfl
 case buildSlice t n ps=>
  simp only[aOp,zay] at hs
  repeat' (split at hs)
  all_goals first
   | (simp at hs; done)
   | (simp only[Option.some.injEq,Prod.mk.injEq] at hs
      rw[←zc9 hs.2]; rfl)
 case makeMap t res=>
  simp only[aOp] at hs
  split at hs
  ·simp only[Option.some.injEq,Prod.mk.injEq] at hs
   rw[←zc9 hs.2]; rfl
  ·simp at hs
 case makeSlice t l c=>
  simp only[aOp,zbg] at hs
  repeat' (split at hs)
  all_goals first
   | (simp at hs; done)
   | (simp only[Option.some.injEq,Prod.mk.injEq] at hs
      rw[←zc9 hs.2]; rfl)
 case convert s d x=>
  simp only[aOp,zaH] at hs
  repeat' (split at hs)
  all_goals first
   | (simp at hs; done)
   | (simp only[Option.some.injEq,Prod.mk.injEq] at hs
      exact (zu0 hs.2).elim)
   | (simp only[Option.some.injEq,Prod.mk.injEq] at hs
      rw[←zc9 hs.2]; rfl)
   | (simp[zat, *] at hk; done)
 case call c=>
  obtain⟨callee,args,ats⟩:=c
  cases callee
  case builtin b=>cases b <;> simp[zat] at hk
  all_goals simp[zat] at hk
 all_goals simp[zat] at hk
theorem zjC {o:Oper} {e:Env} {v:Value} (hk:zat P o.op=0∨zat P o.op=1) (hs:aOp P o e h=some (v,h')):
 ∃x:Option zb7,h'= za3 h x∧(zat P o.op=0→x=none)∧∀h2:AH,h2.next=h.next→aOp P o e h2=some (v,za3 h2 x):=by
 obtain⟨dst,op,type,pos,after,guard⟩:=o
 have hm:∀(x:Option Value),x.map (·,h)=some (v,h')→h'= h∧∀h2:AH,x.map (·,h2)=some (v,h2):=fun x hq=>by
  obtain⟨y,hy,hq⟩:=Option.map_eq_some_iff.1 hq
  cases hq
  exact⟨rfl,fun h2=>by rw[hy]; rfl⟩
 have pure0:∀(f:AH→Option Value),(∀a b,f a=f b)→(f h).map (·,h)=some (v,h')→∃x:Option zb7,h'= za3 h x∧(x=none)∧∀h2:AH,h2.next=h.next→(f h2).map (·,h2)=some (v,za3 h2 x):=fun f hf hq=>by
  obtain⟨rfl,hh⟩:=hm _ hq
  exact⟨none,rfl,rfl,fun h2 _=>by rw[hf h2 h']; exact hh h2⟩
 cases op
 all_goals try (exfalso; simp[zat] at hk; done)
 all_goals simp only[zat] at hk ⊢
 all_goals simp only[aOp] at hs ⊢
 all_goals first
  | (obtain⟨rfl,hh⟩:=hm _ hs; exact⟨none,rfl,fun _=>rfl,fun h2 _=>hh h2⟩)
  | (simp only[Option.some.injEq,Prod.mk.injEq] at hs
     obtain⟨rfl,rfl⟩:=hs
     exact⟨none,rfl,fun _=>rfl,fun h2 _=>rfl⟩)
  | skip
 case pick c a b=>
  split at hs <;> first | (simp at hs; done) | skip
  simp only[Option.some.injEq,Prod.mk.injEq] at hs
  obtain⟨rfl,rfl⟩:=hs
  exact⟨none,rfl,fun _=>rfl,fun h2 _=>rfl⟩
 case alloc t=>
  split at hs <;> first | (simp at hs; done) | skip
  rename_i z hz
  simp only[zo6,Option.some.injEq,Prod.mk.injEq] at hs ⊢
  obtain⟨rfl,rfl⟩:=hs
  exact⟨some _,rfl,by simp[zat],fun h2 h3=>⟨by rw[h3],rfl⟩⟩
 case box t x=>
  split at hs <;> first | (simp at hs; done) | skip
  simp only[zo6,Option.some.injEq,Prod.mk.injEq] at hs ⊢
  obtain⟨rfl,rfl⟩:=hs
  exact⟨some _,rfl,by simp[zat],fun h2 h3=>⟨by rw[h3],rfl⟩⟩
 case buildSlice t n ps=>
  clear hm pure0
  unfold zay at hs ⊢
  repeat' split at hs
  all_goals first | (simp at hs; done) | skip
  simp only[Option.some.injEq,Prod.mk.injEq] at hs
  obtain⟨rfl,rfl⟩:=hs
  refine⟨some _,rfl,by simp[zat],fun h2 h3=>?_⟩
  first | (simp[za3,h3]; done) | (rw[if_pos (by assumption)]; simp[za3,h3]; done) | (rw[if_neg (by assumption)]; simp[za3,h3]; done) | (rw[if_neg (by assumption),if_pos (by assumption)]; simp[za3,h3]; done)
 case nilCheck x=>
  split at hs <;> first | (simp at hs; done) | skip
  all_goals
   simp only[Option.some.injEq,Prod.mk.injEq] at hs
   obtain⟨rfl,rfl⟩:=hs
   exact⟨none,rfl,fun _=>rfl,fun h2 _=>rfl⟩
 case convert s d x=>
  clear hm pure0
  unfold zaH at hs ⊢
  split at hs
  all_goals first | (simp at hs; done) | skip
  all_goals first
   | (simp only[Option.some.injEq,Prod.mk.injEq] at hs
      obtain⟨rfl,rfl⟩:=hs
      exact⟨none,rfl,fun _=>rfl,fun h2 _=>rfl⟩)
   | skip
  all_goals repeat' split at hs
  all_goals first | (simp at hs; done) | skip
  all_goals first
   | (simp only[Option.some.injEq,Prod.mk.injEq] at hs
      obtain⟨rfl,rfl⟩:=hs
      refine⟨some _,rfl,by simp[*],fun h2 h3=>?_⟩
      first | (simp[za3,h3]; done) | (rw[if_pos (by assumption)]; simp[za3,h3]; done) | (simp[za3,h3, *]; done))
   | (exfalso; simp_all; done)
 case makeFunc fn a b=>
  split at hs <;> first | (simp at hs; done) | skip
  simp only[Option.some.injEq,Prod.mk.injEq] at hs
  obtain⟨rfl,rfl⟩:=hs
  exact⟨none,rfl,fun _=>rfl,fun h2 _=>rfl⟩
 case makeMap t r=>
  split at hs <;> first | (simp at hs; done) | skip
  simp only[Option.some.injEq,Prod.mk.injEq] at hs
  obtain⟨rfl,rfl⟩:=hs
  exact⟨some _,rfl,by simp[zat],fun h2 h3=>by simp[h3,za3]⟩
 case makeSlice t l c=>
  clear hm pure0
  unfold zbg at hs ⊢
  repeat' split at hs
  all_goals first | (simp at hs; done) | skip
  simp only[Option.some.injEq,Prod.mk.injEq] at hs
  obtain⟨rfl,rfl⟩:=hs
  refine⟨some _,rfl,by simp[zat],fun h2 h3=>?_⟩
  first | (simp[za3,h3]; done) | (rw[if_pos (by assumption)]; simp[za3,h3]; done) | (simp[za3,h3, *]; done)
 case extract t i=>
  split at hs <;> first | (simp at hs; done) | skip
  obtain⟨hb,hs⟩:=zhH hs
  obtain⟨rfl,hh⟩:=hm _ hs
  exact⟨none,rfl,fun _=>rfl,fun h2 _=>by simp only[hb,cond_false]; exact hh h2⟩
 case call c=>
  obtain⟨callee,args,ats⟩:=c
  cases callee
  case builtin b=>cases b <;> simp at hk
  all_goals simp at hk
theorem zda {r:Ex} {o:Oper} (e:Env) (hk:zat P o.op≠3):zbS P K r o e h=aOp P o e h:=by
 obtain⟨dst,op,type,pos,after,guard⟩:=o
 cases op
 case call c=>
  obtain⟨callee,args,ats⟩:=c
  cases callee
  case value f=>simp[zat] at hk
  all_goals rfl
 all_goals rfl
theorem zjD (acc:Array Nat) (i:Nat):∀(l:List Edge) (s:Nat),(l.foldl (fun s e=>if Region.binds .any e then s ||| 2 ^ e.on ||| acc.getD e.on 0 else s) s).testBit i=true→
 s.testBit i=true∨∃e∈l,Region.binds .any e=true∧(e.on=i∨(acc.getD e.on 0).testBit i=true)
 | [],s,hs=>.inl hs
 | e :: l,s,hs=>by
   simp only[List.foldl_cons] at hs
   rcases zjD acc i l _ hs with hs | ⟨e',he',hb,hq⟩
   ·by_cases hb:Region.binds .any e=true
    ·rw[if_pos hb,Nat.testBit_or,Nat.testBit_or,Bool.or_eq_true,Bool.or_eq_true] at hs
     rcases hs with (hs | hs) | hs
     ·exact .inl hs
     ·rw[Nat.testBit_two_pow] at hs
      exact .inr ⟨e,by simp,hb,.inl (by simpa using hs)⟩
     ·exact .inr ⟨e,by simp,hb,.inr hs⟩
    ·rw[if_neg hb] at hs
     exact .inl hs
   ·exact .inr ⟨e',by simp[he'],hb,hq⟩
theorem zhY (a:Array Nat) (x j:Nat):(a.push x).getD j 0=if j=a.size then x else a.getD j 0:=by
 rw[Array.getD_eq_getD_getElem?,Array.getD_eq_getD_getElem?,Array.getElem?_push]
 split <;> rfl
def zr7 (ops:List Oper) (acc:Array Nat):Prop:=∀j i,(acc.getD j 0).testBit i=true→∃o,ops[j]?= some o∧∃e∈o.after,Region.binds .any e=true∧(e.on=i∨(e.on < j∧(acc.getD e.on 0).testBit i=true))
theorem zjE (all:List Oper):∀(l:List Oper) (k:Nat) (acc:Array Nat),all.drop k=l→acc.size=k→zr7 all acc→
 zr7 all (l.foldl (fun acc o=>acc.push (o.after.foldl (fun s e=>if Region.binds .any e then s ||| 2 ^ e.on ||| acc.getD e.on 0 else s) 0)) acc)
 | [],_,_,_,_,hw=>hw
 | o :: l,k,acc,hl,hk,hw=>by
   simp only[List.foldl_cons]
   refine zjE all l (k+1) _ ?_ (by simp[hk]) ?_
   ·have:(all.drop k).drop 1=l:=by rw[hl]; rfl
    simpa[List.drop_drop] using this
   ·intro j i hb
    have hget:∀q,q < k→(acc.push (o.after.foldl (fun s e=>if Region.binds .any e then s ||| 2 ^ e.on ||| acc.getD e.on 0 else s) 0)).getD q 0=acc.getD q 0:=by
     intro q hq
     rw[zhY,if_neg (by omega)]
    rcases Nat.lt_trichotomy j k with hj | hj | hj
    ·rw[hget j hj] at hb
     obtain⟨o',ho,e,he,h1,h2⟩:=hw j i hb
     refine⟨o',ho,e,he,h1,h2.imp id fun ⟨h3,h4⟩=>⟨h3,?_⟩⟩
     rw[hget e.on (by omega)]
     exact h4
    ·subst hj
     have h0:all[j]?= some o:=by
      have:(all.drop j)[0]?= some o:=by rw[hl]; rfl
      simpa using this
     have hlast:(acc.push (o.after.foldl (fun s e=>if Region.binds .any e then s ||| 2 ^ e.on ||| acc.getD e.on 0 else s) 0)).getD j 0=(o.after.foldl (fun s e=>if Region.binds .any e then s ||| 2 ^ e.on ||| acc.getD e.on 0 else s) 0):=by
      rw[zhY,if_pos hk.symm]
     rw[hlast,←Array.foldl_toList] at hb
     rcases zjD acc i o.after.toList 0 hb with hz | ⟨e,he,h1,h2⟩
     ·simp at hz
     ·refine⟨o,h0,e,by simpa using he,h1,h2.imp id fun h3=>?_⟩
      have hlt:e.on < j:=by
       rcases Nat.lt_or_ge e.on j with q | q
       ·exact q
       ·rw[show acc.getD e.on 0=0 by simp[Array.getElem?_eq_none (show acc.size≤e.on by omega)]] at h3
        simp at h3
      exact⟨hlt,by rw[hget e.on hlt]; exact h3⟩
    ·have:(acc.push (o.after.foldl (fun s e=>if Region.binds .any e then s ||| 2 ^ e.on ||| acc.getD e.on 0 else s) 0)).getD j 0=0:=by
      rw[zhY,if_neg (by omega),Array.getD_eq_getD_getElem?,Array.getElem?_eq_none (by omega)]
      rfl
     rw[this] at hb
     simp at hb
theorem zjF (ops:Array Oper):zr7 ops.toList (Region.before ops):=by
 unfold Region.before
 rw[←Array.foldl_toList]
 exact zjE ops.toList ops.toList 0 #[] rfl rfl (fun j i hb=>by simp at hb)
def zlT (ops:Array Oper) (D:Nat→Prop):Prop:=∀j o,D j→ops[j]?= some o→∀e∈o.after,Region.binds .any e=true→D e.on
theorem zlT.bit {ops:Array Oper} {D:Nat→Prop} (c:zlT ops D):∀(j i:Nat),D j→((Region.before ops).getD j 0).testBit i=true→D i:=by
 intro j
 induction j using Nat.strongRecOn with
 | ind j ih=>
   intro i hd hb
   obtain⟨o,ho,e,he,h1,h2⟩:=zjF ops j i hb
   have:=c j o hd (by simpa using ho) e he h1
   rcases h2 with rfl | ⟨h3,h4⟩
   ·exact this
   ·exact ih e.on h3 i this h4
end
theorem zlU (P:Program) (o:Op):zat P o≤3:=by
 unfold zat
 repeat' split
 all_goals omega
section
variable (P:Program) (K:Xs) (r:Ex) (ops:Array Oper) (n:Nat) (J:Nat→Nat) (O:Nat→Oper) (E:Nat→Env) (H:Nat→AH) (V:Nat→Value)
def Re (p x:Nat):Prop:=zap ops (O p) (E p)=some false∨∃h'',aOp P (O p) (E p) (H x)=some (V p,h'')
def Bf (q p:Nat):Prop:=((Region.before ops).getD (J q) 0).testBit (J p)=true
def zCW (p q:Nat):Prop:=
 (∀d,(O p).dst=some d→(O q).dst≠some d)∧
 (Bf ops J q p∨((∀d,(O p).dst=some d→d∉zlA ops (O q))∧(∀d,(O q).dst=some d→d∉zlA ops (O p))∧
   (zat P (O q).op=3→zat P (O p).op≠3∧zat P (O p).op≠1∧(zat P (O p).op=2→Re P ops O E H V p q∧Re P ops O E H V p (q+1)))∧
   (zat P (O p).op=3→zat P (O q).op=2→Re P ops O E H V q p∧Re P ops O E H V q (p+1))))
structure Txt:Prop where
 at_:∀p,p < n→ops[J p]?= some (O p)
 env:∀p,p < n→E (p+1)=putO (E p) (O p).dst (V p)
 run:∀p,p < n→(zap ops (O p) (E p)=some true∧zbS P K r (O p) (E p) (H p)=some (V p,H (p+1)))∨(zap ops (O p) (E p)=some false∧V p=zct∧H (p+1)=H p)
 next:∀p,p < n→(H p).next≤(H (p+1)).next
 inj:∀p q,p < n→q < n→J p=J q→p=q
 pair:∀p q,p < q→q < n→zCW P ops J O E H V p q
def Cur (D:Nat→Prop) (m b:Nat) (o:zb7):Prop:=
 (H m).get b=some o∨∃p,m≤p∧p < n∧D p∧zat P (O p).op=1∧b=(H p).next∧H (p+1)=(H p).alloc o
structure Mid (φ0:Fi) (w0:World) (D:Nat→Prop) (m:Nat) (φ:Fi) (w:World):Prop where
 mle:m≤n
 low:∀p,p < m→(zat P (O p).op=1∨zat P (O p).op=3)→D p
 high:∀p,m≤p→p < n→zat P (O p).op=3→¬D p
 last:m=0∨(zat P (O (m - 1)).op=3∧D (m - 1))
 obj:∀b o rc,Cur P n O H D m b o→φ b=some rc→∃o',w.heap[rc.blk]?= some o'∧OR P φ rc o o'
 inj:∀b1 b2 o1 o2 r1 r2,Cur P n O H D m b1 o1→Cur P n O H D m b2 o2→φ b1=some r1→φ b2=some r2→r1.blk=r2.blk→b1=b2∨(o1.ro=true∧o2.ro=true)
 lt:∀b o,(H m).get b=some o→b < (H m).next
 dom:∀b,φ b≠none→φ0 b≠none∨∃p,p < n∧D p∧(H p).next≤b∧b < (H (p+1)).next
 le:Le φ0 φ
 size:w0.heap.size≤w.heap.size
 os:w.os=w0.os
 tape:w.tape=w0.tape
 output:w.output=w0.output
 keep:∀c,c < w0.heap.size→¬Own φ0 (H 0) c→w.heap[c]?= w0.heap[c]?
 old:∀b o rc,Cur P n O H D m b o→φ b=some rc→rc.blk < w0.heap.size→∃b0 o0 r0,(H 0).get b0=some o0∧φ0 b0=some r0∧r0.blk=rc.blk∧(o.ro=false→o0.ro=false)
end
section
variable {P:Program} {K:Xs} {r:Ex} {ops:Array Oper} {n:Nat} {J:Nat→Nat} {O:Nat→Oper} {E:Nat→Env} {H:Nat→AH} {V:Nat→Value}
variable {φ0 φ φ' : Fi} {w0 w w' : World} {D:Nat→Prop} {m:Nat}
theorem Txt.mono (T:Txt P K r ops n J O E H V):∀(p q:Nat),p≤q→q≤n→(H p).next≤(H q).next:=by
 intro p q hpq hq
 induction q with
 | zero=>simp at hpq; subst hpq; exact Nat.le_refl _
 | succ q ih=>
   rcases Nat.lt_or_ge q p with h | h
   ·have:p=q+1:=by omega
    subst this; exact Nat.le_refl _
   ·exact Nat.le_trans (ih h (by omega)) (T.next q (by omega))
theorem Txt.disjoint (T:Txt P K r ops n J O E H V) {p q b:Nat} (hp:p < n) (hq:q < n) (h1:(H p).next≤b) (h2:b < (H (p+1)).next) (h3:(H q).next≤b) (h4:b < (H (q+1)).next):p=q:=by
 rcases Nat.lt_trichotomy p q with h | h | h
 ·have:=T.mono (p+1) q (by omega) (by omega); omega
 ·exact h
 ·have:=T.mono (q+1) p (by omega) (by omega); omega
theorem Txt.made (T:Txt P K r ops n J O E H V) {p:Nat} (hp:p < n) (hk:zat P (O p).op=1) {o:zb7} (ho:H (p+1)=(H p).alloc o):o.ro=false:=by
 rcases T.run p hp with ⟨_,hr⟩ | ⟨_,_,hr⟩
 ·rw[zda _ (by omega)] at hr
  exact zxy hk hr ho
 ·rw[hr] at ho
  have:=congrArg AH.next ho
  simp at this
theorem Txt.grow (T:Txt P K r ops n J O E H V) {p:Nat} (hp:p < n) (hk:zat P (O p).op≠3):∃x,H (p+1)=za3 (H p) x∧(zat P (O p).op≠1→x=none):=by
 rcases T.run p hp with ⟨_,hr⟩ | ⟨_,_,hr⟩
 ·rw[zda _ hk] at hr
  by_cases h2:zat P (O p).op=2
  ·exact⟨none,zlS h2 hr,fun _=>rfl⟩
  ·have:=zlU P (O p).op
   obtain⟨x,h3,h4,_⟩:=zjC (by omega) hr
   exact⟨x,h3,fun h5=>h4 (by omega)⟩
 ·exact⟨none,hr,fun _=>rfl⟩
theorem Mid.seg (T:Txt P K r ops n J O E H V) {N:Nat} (hF:zdH φ0 (H 0).next N) (hN:(H n).next≤N) (M:Mid P n O H φ0 w0 D m φ w):∀(q:Nat),m≤q→q≤n→(∀p,m≤p→p < q→zat P (O p).op≠3)→
 (∀b o,(H q).get b=some o→b < (H q).next)∧(∀b o,(H q).get b=some o→φ b≠none→Cur P n O H D m b o)∧(∀b o,(H m).get b=some o→(H q).get b=some o)∧
 (∀p o,m≤p→p < q→zat P (O p).op=1→H (p+1)=(H p).alloc o→(H q).get (H p).next=some o):=by
 intro q
 induction q with
 | zero=>
   intro h1 h2 h3
   have:m=0:=by omega
   subst this
   exact⟨M.lt,fun b o hb _=>.inl hb,fun _ _ hb=>hb,fun p o _ hp=>by omega⟩
 | succ q ih=>
   intro h1 h2 h3
   rcases Nat.lt_or_ge q m with hqm | hqm
   ·have:m=q+1:=by omega
    subst this
    exact⟨M.lt,fun b o hb _=>.inl hb,fun _ _ hb=>hb,fun p o _ hp=>by omega⟩
   obtain⟨i1,i2,i3,i4⟩:=ih hqm (by omega) (fun p hp hp2=>h3 p hp (by omega))
   obtain⟨x,hx,hx1⟩:=T.grow (show q < n by omega) (h3 q hqm (by omega))
   cases x with
   | none=>
     simp only[za3] at hx
     rw[hx]
     refine⟨i1,i2,i3,fun p o hp hp2 hk ha=>?_⟩
     rcases Nat.lt_or_ge p q with hlt | hge
     ·exact i4 p o hp hlt hk ha
     ·have:p=q:=by omega
      subst this
      rw[hx] at ha
      have:=congrArg AH.next ha
      simp at this
   | some ob=>
     simp only[za3] at hx
     have hk1:zat P (O q).op=1:=by
      by_cases hq:zat P (O q).op=1
      ·exact hq
      ·exact absurd (hx1 hq) (by simp)
     have hget:∀b o,(H (q+1)).get b=some o→(b=(H q).next∧o=ob)∨(b≠(H q).next∧(H q).get b=some o):=by
      intro b o hb
      rw[hx,AH.get_alloc] at hb
      by_cases hbn:b=(H q).next
      ·simp[hbn] at hb; exact .inl ⟨hbn,hb.symm⟩
      ·rw[if_neg hbn] at hb; exact .inr ⟨hbn,hb⟩
     have hkeep:∀b o,(H q).get b=some o→(H (q+1)).get b=some o:=by
      intro b o hb
      have:=i1 b o hb
      rw[hx,AH.get_alloc,if_neg (by omega)]
      exact hb
     have hnx:(H (q+1)).next=(H q).next+1:=by rw[hx]; simp
     refine⟨fun b o hb=>?_,fun b o hb hφ=>?_,fun b o hb=>hkeep b o (i3 b o hb),fun p o hp hp2 hk ha=>?_⟩
     ·rcases hget b o hb with ⟨rfl,_⟩ | ⟨_,hb⟩
      ·omega
      ·have:=i1 b o hb; omega
     ·rcases hget b o hb with ⟨rfl,rfl⟩ | ⟨_,hb⟩
      ·refine .inr ⟨q,hqm,by omega,?_,hk1,rfl,hx⟩
       rcases M.dom _ hφ with hφ0 | ⟨p,hp,hd,g1,g2⟩
       ·exfalso
        have e1:=T.mono 0 q (by omega) (by omega)
        have e2:=T.mono (q+1) n (by omega) (by omega)
        exact hφ0 (hF _ e1 (by omega))
       ·have:=T.disjoint hp (show q < n by omega) g1 g2 (Nat.le_refl _) (by omega)
        rw[←this]; exact hd
      ·exact i2 b o hb hφ
     ·rcases Nat.lt_or_ge p q with hlt | hge
      ·exact hkeep _ _ (i4 p o hp hlt hk ha)
      ·have:p=q:=by omega
       subst this
       rw[ha,AH.get_alloc]
       simp
theorem Mid.rel (T:Txt P K r ops n J O E H V) {N:Nat} (hF:zdH φ0 (H 0).next N) (hN:(H n).next≤N) (M:Mid P n O H φ0 w0 D m φ w) {q:Nat} (h1:m≤q) (h2:q≤n) (h3:∀p,m≤p→p < q→zat P (O p).op≠3):
 R P φ (H q) w:=by
 obtain⟨i1,i2,_,_⟩:=M.seg T hF hN q h1 h2 h3
 exact⟨fun b o rc hb hφ=>M.obj b o rc (i2 b o hb (by simp[hφ])) hφ,
  fun b1 b2 o1 o2 r1 r2 g1 g2 k1 k2 e=>M.inj b1 b2 o1 o2 r1 r2 (i2 b1 o1 g1 (by simp[k1])) (i2 b2 o2 g2 (by simp[k2])) k1 k2 e,i1⟩
def Nx (P:Program) (n:Nat) (O:Nat→Oper) (H:Nat→AH) (D:Nat→Prop) (q:Nat) (h2:AH) (b:Nat) (o:zb7):Prop:=
 h2.get b=some o∨∃p,q≤p∧p < n∧D p∧zat P (O p).op=1∧b=(H p).next∧H (p+1)=(H p).alloc o∧h2.next≤b
theorem Mid.stepOn (T:Txt P K r ops n J O E H V) {N:Nat} (hF:zdH φ0 (H 0).next N) (hN:(H n).next≤N) (M:Mid P n O H φ0 w0 D m φ w) {q:Nat} (h1:m≤q) (h2:q≤n) (h3:∀p,m≤p→p < q→zat P (O p).op≠3)
 {hh:AH} (t:Tn P φ (H q) w φ' hh w'):
 (∀b o rc,Nx P n O H D q hh b o→φ' b=some rc→∃o',w'.heap[rc.blk]?= some o'∧OR P φ' rc o o')∧
 (∀b1 b2 o1 o2 r1 r2,Nx P n O H D q hh b1 o1→Nx P n O H D q hh b2 o2→φ' b1=some r1→φ' b2=some r2→r1.blk=r2.blk→b1=b2∨(o1.ro=true∧o2.ro=true))∧
 (∀b o rc,Nx P n O H D q hh b o→φ' b=some rc→rc.blk < w0.heap.size→∃b0 o0 r0,(H 0).get b0=some o0∧φ0 b0=some r0∧r0.blk=rc.blk∧(o.ro=false→o0.ro=false)):=by
 obtain⟨i1,i2,_,_⟩:=M.seg T hF hN q h1 h2 h3
 have later:∀b o rc p,q≤p→p < n→D p→zat P (O p).op=1→b=(H p).next→H (p+1)=(H p).alloc o→hh.next≤b→φ' b=some rc→
  φ b=some rc∧Cur P n O H D m b o∧∃o',w.heap[rc.blk]?= some o'∧OR P φ rc o o':=by
  intro b o rc p g1 g2 g3 g4 g5 g6 g7 hφ'
  have hc:Cur P n O H D m b o:=.inr ⟨p,by omega,g2,g3,g4,g5,g6⟩
  have hφ:φ b=some rc:=by
   rcases t.new b (by simp[hφ']) with hq | hq
   ·cases hb:φ b with
    | none=>exact absurd hb hq
    | some r2=>have:=t.le b r2 hb; rw[hφ'] at this; exact this.symm
   ·omega
  exact⟨hφ,hc,M.obj b o rc hc hφ⟩
 have apart:∀b o rc,b≥hh.next→o.ro=false→Cur P n O H D m b o→φ b=some rc→∀b' o' r',(H q).get b'= some o'→φ b'= some r'→r'.blk≠rc.blk:=by
  intro b o rc hb hno hc hφ b' o' r' hb' hφ' e
  have l1:=i1 b' o' hb'
  have l2:=t.nle
  rcases M.inj b' b o' o r' rc (i2 b' o' hb' (by simp[hφ'])) hc hφ' hφ e with this | this
  ·omega
  ·rw[hno] at this; exact Bool.noConfusion this.2
 refine⟨?_,?_,?_⟩
 ·intro b o rc hn hφ'
  rcases hn with hb | ⟨p,g1,g2,g3,g4,g5,g6,g7⟩
  ·exact t.rel.obj b o rc hb hφ'
  ·obtain⟨hφ,hc,o',ho',hr⟩:=later b o rc p g1 g2 g3 g4 g5 g6 g7 hφ'
   refine⟨o',?_,hr.mono t.le⟩
   rw[t.keep rc.blk (Array.getElem?_eq_some_iff.1 ho').1 ?_]
   ·exact ho'
   ·rintro⟨b',o2,r2,k1,k2,k3,_⟩
    exact apart b o rc g7 (T.made g2 g4 g6) hc hφ b' o2 r2 k1 k2 k3
 ·have mixed:∀b1 b2 o1 o2 r1 r2,hh.get b1=some o1→(∃p,q≤p∧p < n∧D p∧zat P (O p).op=1∧b2=(H p).next∧H (p+1)=(H p).alloc o2∧hh.next≤b2)→φ' b1=some r1→φ' b2=some r2→r1.blk=r2.blk→False:=by
   intro b1 b2 o1 o2 r1 r2 hb ⟨p,g1,g2,g3,g4,g5,g6,g7⟩ k1 k2 e
   obtain⟨hφ,hc,o',ho',hr⟩:=later b2 o2 r2 p g1 g2 g3 g4 g5 g6 g7 k2
   obtain⟨b0,o0,r0,l1,l2,l3,_⟩:=t.old b1 o1 r1 hb k1 (by rw[e]; exact (Array.getElem?_eq_some_iff.1 ho').1)
   exact apart b2 o2 r2 g7 (T.made g2 g4 g6) hc hφ b0 o0 r0 l1 l2 (by rw[l3,e])
  intro b1 b2 o1 o2 r1 r2 hn1 hn2 k1 k2 e
  rcases hn1 with hb1 | hp1 <;> rcases hn2 with hb2 | hp2
  ·exact t.rel.inj b1 b2 o1 o2 r1 r2 hb1 hb2 k1 k2 e
  ·exact (mixed b1 b2 o1 o2 r1 r2 hb1 hp2 k1 k2 e).elim
  ·exact (mixed b2 b1 o2 o1 r2 r1 hb2 hp1 k2 k1 e.symm).elim
  ·obtain⟨p,g1,g2,g3,g4,g5,g6,g7⟩:=hp1
   obtain⟨p',g1',g2',g3',g4',g5',g6',g7'⟩:=hp2
   obtain⟨f1,c1,_⟩:=later b1 o1 r1 p g1 g2 g3 g4 g5 g6 g7 k1
   obtain⟨f2,c2,_⟩:=later b2 o2 r2 p' g1' g2' g3' g4' g5' g6' g7' k2
   exact M.inj b1 b2 o1 o2 r1 r2 c1 c2 f1 f2 e
 ·intro b o rc hn hφ' hlt
  rcases hn with hb | ⟨p,g1,g2,g3,g4,g5,g6,g7⟩
  ·obtain⟨b1,o1,r1,l1,l2,l3,l4⟩:=t.old b o rc hb hφ' (Nat.lt_of_lt_of_le hlt M.size)
   obtain⟨b0,o0,r0,k1,k2,k3,k4⟩:=M.old b1 o1 r1 (i2 b1 o1 l1 (by simp[l2])) l2 (by rw[l3]; exact hlt)
   exact⟨b0,o0,r0,k1,k2,k3.trans l3,fun hq=>k4 (l4 hq)⟩
  ·obtain⟨hφ,hc,_⟩:=later b o rc p g1 g2 g3 g4 g5 g6 g7 hφ'
   exact M.old b o rc hc hφ hlt
theorem Mid.keepOn (T:Txt P K r ops n J O E H V) {N:Nat} (hF:zdH φ0 (H 0).next N) (hN:(H n).next≤N) (M:Mid P n O H φ0 w0 D m φ w) {q:Nat} (h1:m≤q) (h2:q≤n) (h3:∀p,m≤p→p < q→zat P (O p).op≠3)
 {hh:AH} (t:Tn P φ (H q) w φ' hh w'):∀c,c < w0.heap.size→¬Own φ0 (H 0) c→w'.heap[c]?= w0.heap[c]?:=by
 obtain⟨i1,i2,_,_⟩:=M.seg T hF hN q h1 h2 h3
 intro c hc ho
 rw[t.keep c (Nat.lt_of_lt_of_le hc M.size),M.keep c hc ho]
 rintro⟨b,o,rc,k1,k2,k3,k4⟩
 obtain⟨b0,o0,r0,l1,l2,l3,l4⟩:=M.old b o rc (i2 b o k1 (by simp[k2])) k2 (by rw[k3]; exact hc)
 exact ho ⟨b0,o0,r0,l1,l2,by rw[l3,k3],l4 k4⟩
theorem Mid.write (T:Txt P K r ops n J O E H V) {N:Nat} (hF:zdH φ0 (H 0).next N) (hN:(H n).next≤N) (M:Mid P n O H φ0 w0 D m φ w) {q:Nat} (hq:q < n) (h1:m≤q) (h3:∀p,m≤p→p < q→zat P (O p).op≠3)
 (hk:zat P (O q).op=3) (hlow:∀p,p < q→zat P (O p).op=1→D p) (t:Tn P φ (H q) w φ' (H (q+1)) w'):Mid P n O H φ0 w0 (fun p=>p=q∨D p) (q+1) φ' w':=by
 obtain⟨s1,s2,s3⟩:=M.stepOn T hF hN h1 (by omega) h3 t
 have cur:∀b o,Cur P n O H (fun p=>p=q∨D p) (q+1) b o→Nx P n O H D q (H (q+1)) b o:=by
  intro b o hc
  rcases hc with hc | ⟨p,g1,g2,g3,g4,g5,g6⟩
  ·exact .inl hc
  ·refine .inr ⟨p,by omega,g2,g3.resolve_left (by omega),g4,g5,g6,?_⟩
   rw[g5]
   exact T.mono (q+1) p g1 (by omega)
 refine⟨by omega,?_,?_,.inr ⟨by simpa using hk,.inl (by omega)⟩,fun b o rc hc=>s1 b o rc (cur b o hc),fun b1 b2 o1 o2 r1 r2 c1 c2=>s2 b1 b2 o1 o2 r1 r2 (cur _ _ c1) (cur _ _ c2),t.rel.lt,?_,
  M.le.trans t.le,Nat.le_trans M.size t.size,t.os.trans M.os,t.tape.trans M.tape,t.output.trans M.output,M.keepOn T hF hN h1 (by omega) h3 t,fun b o rc hc=>s3 b o rc (cur b o hc)⟩
 ·intro p hp hkp
  rcases Nat.lt_or_ge p q with hlt | hge
  ·rcases hkp with hkp | hkp
   ·exact .inr (hlow p hlt hkp)
   ·rcases Nat.lt_or_ge p m with hpm | hpm
    ·exact .inr (M.low p hpm (.inr hkp))
    ·exact absurd hkp (h3 p hpm hlt)
  ·exact .inl (by omega)
 ·intro p hp hpn hkp hd
  rcases hd with hd | hd
  ·omega
  ·exact M.high p (by omega) hpn hkp hd
 ·intro b hb
  rcases t.new b hb with hb | hb
  ·rcases M.dom b hb with hb | ⟨p,g1,g2,g3⟩
   ·exact .inl hb
   ·exact .inr ⟨p,g1,.inr g2,g3⟩
  ·exact .inr ⟨q,hq,.inl rfl,hb⟩
theorem Mid.read (T:Txt P K r ops n J O E H V) {N:Nat} (hF:zdH φ0 (H 0).next N) (hN:(H n).next≤N) (M:Mid P n O H φ0 w0 D m φ w) {p q:Nat} (hp:p < n) (hk:zat P (O p).op=2) (h1:m≤q) (h2:q≤n) (h3:∀p,m≤p→p < q→zat P (O p).op≠3)
 (t:Tn P φ (H q) w φ' (H q) w'):Mid P n O H φ0 w0 (fun x=>x=p∨D x) m φ' w':=by
 obtain⟨s1,s2,s3⟩:=M.stepOn T hF hN h1 h2 h3 t
 obtain⟨i1,i2,i3,i4⟩:=M.seg T hF hN q h1 h2 h3
 have cur:∀b o,Cur P n O H (fun x=>x=p∨D x) m b o→Nx P n O H D q (H q) b o:=by
  intro b o hc
  rcases hc with hc | ⟨p2,g1,g2,g3,g4,g5,g6⟩
  ·exact .inl (i3 b o hc)
  ·have hd:D p2:=g3.resolve_left (fun e=>by subst e; omega)
   rcases Nat.lt_or_ge p2 q with hlt | hge
   ·exact .inl (by rw[g5]; exact i4 p2 o g1 hlt g4 g6)
   ·exact .inr ⟨p2,hge,g2,hd,g4,g5,g6,by rw[g5]; exact T.mono q p2 hge (by omega)⟩
 refine⟨M.mle,fun x hx hkx=>.inr (M.low x hx hkx),?_,M.last.imp id fun hl=>⟨hl.1,.inr hl.2⟩,fun b o rc hc=>s1 b o rc (cur b o hc),fun b1 b2 o1 o2 r1 r2 c1 c2=>s2 b1 b2 o1 o2 r1 r2 (cur _ _ c1) (cur _ _ c2),M.lt,?_,
  M.le.trans t.le,Nat.le_trans M.size t.size,t.os.trans M.os,t.tape.trans M.tape,t.output.trans M.output,M.keepOn T hF hN h1 h2 h3 t,fun b o rc hc=>s3 b o rc (cur b o hc)⟩
 ·intro x hx hxn hkx hd
  rcases hd with rfl | hd
  ·omega
  ·exact M.high x hx hxn hkx hd
 ·intro b hb
  rcases t.new b hb with hb | hb
  ·rcases M.dom b hb with hb | ⟨p,g1,g2,g3⟩
   ·exact .inl hb
   ·exact .inr ⟨p,g1,.inr g2,g3⟩
  ·omega
theorem Mid.make (T:Txt P K r ops n J O E H V) {N:Nat} (hF:zdH φ0 (H 0).next N) (hN:(H n).next≤N) (M:Mid P n O H φ0 w0 D m φ w) {p:Nat} (hp:p < n) (hk:zat P (O p).op=0∨zat P (O p).op=1) (hnd:¬D p)
 {x:Option zb7} (hx:H (p+1)=za3 (H p) x) (hx0:zat P (O p).op=0→x=none) (t:Tn P φ ⟨.nil,(H p).next⟩ w φ' (za3 ⟨.nil,(H p).next⟩ x) w'):Mid P n O H φ0 w0 (fun y=>y=p∨D y) m φ' w':=by
 have hget0:∀b,(AH.mk .nil (H p).next).get b=none:=fun b=>rfl
 have nOwn:∀c,¬Own φ ⟨.nil,(H p).next⟩ c:=fun c ⟨b,o,rc,k1,_⟩=>by rw[hget0] at k1; simp at k1
 have hold:∀b o rc,Cur P n O H D m b o→φ' b=some rc→φ b=some rc:=by
  intro b o rc hc hφ'
  rcases t.new b (by simp[hφ']) with hq | hq
  ·cases hb:φ b with
   | none=>exact absurd hb hq
   | some r2=>have:=t.le b r2 hb; rw[hφ'] at this; exact this.symm
  ·exfalso
   cases x with
   | none=>simp only[za3] at hq; omega
   | some ob=>
     have hk1:zat P (O p).op=1:=by
      rcases hk with hk | hk
      ·exact absurd (hx0 hk) (by simp)
      ·exact hk
     have hpm:m≤p:=by
      rcases Nat.lt_or_ge p m with h | h
      ·exact absurd (M.low p h (.inl hk1)) hnd
      ·exact h
     simp only[za3,AH.next_alloc] at hq
     rcases hc with hc | ⟨p2,g1,g2,g3,g4,g5,g6⟩
     ·have:=M.lt b o hc
      have:=T.mono m p hpm (by omega)
      omega
     ·have hne:p2≠p:=fun e=>hnd (e▸g3)
      have n2:(H (p2+1)).next=(H p2).next+1:=by rw[g6]; simp
      have n1:(H (p+1)).next=(H p).next+1:=by rw[hx]; simp[za3]
      exact hne (T.disjoint (b:=b) g2 hp (by omega) (by omega) (by omega) (by omega))
 have split:∀b o,Cur P n O H (fun y=>y=p∨D y) m b o→Cur P n O H D m b o∨(x=some o∧b=(H p).next):=by
  intro b o hc
  rcases hc with hc | ⟨p2,g1,g2,g3,g4,g5,g6⟩
  ·exact .inl (.inl hc)
  ·rcases g3 with rfl | g3
   ·cases x with
    | none=>
      simp only[za3] at hx
      rw[hx] at g6
      have:=congrArg AH.next g6
      simp at this
    | some ob=>
      simp only[za3] at hx
      rw[hx] at g6
      have e1:((H p2).alloc ob).get (H p2).next=((H p2).alloc o).get (H p2).next:=by rw[g6]
      rw[AH.get_alloc,AH.get_alloc] at e1
      simp at e1
      exact .inr ⟨by rw[e1],g5⟩
   ·exact .inl (.inr ⟨p2,g1,g2,g3,g4,g5,g6⟩)
 have oldObj:∀b o rc,Cur P n O H D m b o→φ' b=some rc→∃o',w'.heap[rc.blk]?= some o'∧w.heap[rc.blk]?= some o'∧OR P φ' rc o o':=by
  intro b o rc hc hφ'
  obtain⟨o',ho,hr⟩:=M.obj b o rc hc (hold b o rc hc hφ')
  exact⟨o',by rw[t.keep rc.blk (Array.getElem?_eq_some_iff.1 ho).1 (nOwn _)]; exact ho,ho,hr.mono t.le⟩
 have newGet:∀o,x=some o→(za3 (AH.mk .nil (H p).next) x).get (H p).next=some o:=by
  intro o e
  subst e
  simp only[za3]
  rw[AH.get_alloc]
  simp
 have newBlk:∀o rc,x=some o→φ' (H p).next=some rc→w.heap.size≤rc.blk:=by
  intro o rc e hφ'
  rcases Nat.lt_or_ge rc.blk w.heap.size with hlt | hge
  ·obtain⟨b0,o0,r0,l1,_⟩:=t.old _ o rc (newGet o e) hφ' hlt
   rw[hget0] at l1
   simp at l1
  ·exact hge
 refine⟨M.mle,fun y hy hky=>.inr (M.low y hy hky),?_,M.last.imp id fun hl=>⟨hl.1,.inr hl.2⟩,?_,?_,M.lt,?_,M.le.trans t.le,Nat.le_trans M.size t.size,t.os.trans M.os,t.tape.trans M.tape,t.output.trans M.output,?_,?_⟩
 ·intro y hy hyn hky hd
  rcases hd with rfl | hd
  ·omega
  ·exact M.high y hy hyn hky hd
 ·intro b o rc hc hφ'
  rcases split b o hc with hc | ⟨e,rfl⟩
  ·obtain⟨o',h1,_,h2⟩:=oldObj b o rc hc hφ'
   exact⟨o',h1,h2⟩
  ·exact t.rel.obj _ o rc (newGet o e) hφ'
 ·intro b1 b2 o1 o2 r1 r2 c1 c2 k1 k2 e
  rcases split b1 o1 c1 with c1 | ⟨e1,rfl⟩ <;> rcases split b2 o2 c2 with c2 | ⟨e2,rfl⟩
  ·exact M.inj b1 b2 o1 o2 r1 r2 c1 c2 (hold _ _ _ c1 k1) (hold _ _ _ c2 k2) e
  ·obtain⟨o',_,h1,_⟩:=oldObj b1 o1 r1 c1 k1
   have:=(Array.getElem?_eq_some_iff.1 h1).1
   have:=newBlk o2 r2 e2 k2
   omega
  ·obtain⟨o',_,h1,_⟩:=oldObj b2 o2 r2 c2 k2
   have:=(Array.getElem?_eq_some_iff.1 h1).1
   have:=newBlk o1 r1 e1 k1
   omega
  ·exact .inl rfl
 ·intro b hb
  rcases t.new b hb with hb | hb
  ·rcases M.dom b hb with hb | ⟨p,g1,g2,g3⟩
   ·exact .inl hb
   ·exact .inr ⟨p,g1,.inr g2,g3⟩
  ·refine .inr ⟨p,hp,.inl rfl,hb.1,?_⟩
   rw[hx]
   cases x with
   | none=>simp only[za3] at hb; omega
   | some ob=>simpa[za3] using hb.2
 ·intro c hc ho
  rw[t.keep c (Nat.lt_of_lt_of_le hc M.size) (nOwn c),M.keep c hc ho]
 ·intro b o rc hc hφ' hlt
  rcases split b o hc with hc | ⟨e,rfl⟩
  ·exact M.old b o rc hc (hold b o rc hc hφ') hlt
  ·have:=newBlk o rc e hφ'
   have:=M.size
   omega
end
end Go.Am
