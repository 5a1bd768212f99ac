/-
  THE ABSTRACT MACHINE IS SOUND: regions that are drawn. One operation more.
-/
import Derived.Test.YtkapnilnhoiooaaGreatAmC
import Derived.Orders
import Derived.ChangeSame
set_option linter.unusedVariables false
set_option linter.unusedSimpArgs false
namespace Go.Am
section
variable {P:Program} {K:Xs} {r:Ex} {ops:Array Oper} {n:Nat} {J:Nat→Nat} {O:Nat→Oper} {E:Nat→Env} {H:Nat→AH} {V:Nat→Value}
variable {φ0 φ φ' : Fi} {w0 w w' : World} {D:Nat→Prop} {m:Nat}
theorem zgD (e:Env) (d:Tmp) (v:Value):(putO e (some d) v).get d=some v:=by simp[putO,Tr.get_set]
theorem ziA (e:Env) (x:Option Tmp) (d:Tmp) (v:Value) (h:x≠some d):(putO e x v).get d=e.get d:=by
 cases x with
 | none=>rfl
 | some t=>simp only[putO,Tr.get_set]; rw[if_neg (fun q=>h (by rw[q]))]
structure zkB (n:Nat) (O:Nat→Oper) (E:Nat→Env) (V:Nat→Value) (D:Nat→Prop) (e:Env):Prop where
 done:∀p,p < n→D p→∀d,(O p).dst=some d→e.get d=some (V p)
 rest:∀d,(∀p,p < n→D p→(O p).dst≠some d)→e.get d=(E 0).get d
theorem Txt.unlike (T:Txt P K r ops n J O E H V) {p q:Nat} (hp:p < n) (hq:q < n) (h:p≠q) {d:Tmp} (hd:(O p).dst=some d):(O q).dst≠some d:=by
 rcases Nat.lt_or_ge p q with h1 | h1
 ·exact (T.pair p q h1 hq).1 d hd
 ·intro h2
  exact (T.pair q p (by omega) hp).1 d h2 hd
theorem zkB.put (T:Txt P K r ops n J O E H V) {e:Env} (k:zkB n O E V D e) {p:Nat} (hp:p < n) (hnd:¬D p):zkB n O E V (fun x=>x=p∨D x) (putO e (O p).dst (V p)):=by
 refine⟨fun q hq hd d hdst=>?_,fun d hd=>?_⟩
 ·by_cases hqp:q=p
  ·subst hqp
   rw[hdst]
   exact zgD _ _ _
  ·rw[ziA _ _ _ _ (T.unlike hq hp hqp hdst)]
   exact k.done q hq (hd.resolve_left hqp) d hdst
 ·rw[ziA _ _ _ _ (hd p hp (.inl rfl))]
  exact k.rest d (fun q hq hdq=>hd q hq (.inr hdq))
theorem zkB.congr {D' : Nat→Prop} {e:Env} (k:zkB n O E V D e) (h:∀p,p < n→(D p↔D' p)):zkB n O E V D' e:=
 ⟨fun p hp hd=>k.done p hp ((h p hp).2 hd),fun d hd=>k.rest d (fun p hp hdp=>hd p hp ((h p hp).1 hdp))⟩
theorem Txt.envAt (T:Txt P K r ops n J O E H V):∀p,p≤n→zkB n O E V (·< p) (E p):=by
 intro p
 induction p with
 | zero=>exact fun _=>⟨fun p _ h=>absurd h (Nat.not_lt_zero _),fun _ _=>rfl⟩
 | succ p ih=>
   intro hp
   rw[T.env p (by omega)]
   exact (zkB.put T (ih (by omega)) (by omega) (Nat.lt_irrefl p)).congr fun q _=>⟨fun h=>by omega,fun h=>by omega⟩
theorem Txt.looksEq (T:Txt P K r ops n J O E H V) {e:Env} (k:zkB n O E V D e) {p:Nat} (hp:p < n) (hnd:¬D p) (hC:∀p q,p < n→q < n→D q→Bf ops J q p→D p) (hR:∀q,q < n→Bf ops J p q→D q):
 ∀t∈zlE ops (O p),e.get t=(E p).get t:=by
 intro t ht
 have kp:=T.envAt p (by omega)
 by_cases hex:∃q,q < n∧(O q).dst=some t
 ·obtain⟨q,hq,hdst⟩:=hex
  rcases Nat.lt_trichotomy q p with hlt | heq | hgt
  ·rcases (T.pair q p hlt hp).2 with hb | ⟨hb,_⟩
   ·rw[k.done q hq (hR q hq hb) t hdst,kp.done q hq hlt t hdst]
   ·exact absurd ht (hb t hdst)
  ·subst heq
   rw[k.rest t (fun x hx hdx=>T.unlike hq hx (fun e=>hnd (e▸hdx)) hdst),kp.rest t (fun x hx hdx=>T.unlike hq hx (fun e=>by subst e; exact Nat.lt_irrefl _ hdx) hdst)]
  ·rcases (T.pair p q hgt hq).2 with hb | ⟨_,hb,_⟩
   ·have hnq:¬D q:=fun hd=>hnd (hC p q hp hq hd hb)
    rw[k.rest t (fun x hx hdx=>T.unlike hq hx (fun e=>hnq (e▸hdx)) hdst),kp.rest t (fun x hx hdx=>T.unlike hq hx (fun e=>by subst e; have:q < p:=hdx; omega) hdst)]
   ·exact absurd ht (hb t hdst)
 ·have hno:∀q,q < n→(O q).dst≠some t:=fun q hq hd=>hex ⟨q,hq,hd⟩
  rw[k.rest t (fun x hx _=>hno x hx),kp.rest t (fun x hx _=>hno x hx)]
theorem ziB (O:Nat→Oper) (P:Program) (m:Nat):∀k,(∀p,m≤p→p < m+k→zau P (O p).op≠3)∨∃q,m≤q∧q < m+k∧zau P (O q).op=3∧∀p,m≤p→p < q→zau P (O p).op≠3
 | 0=>.inl fun p h1 h2=>by omega
 | k+1=>by
   rcases ziB O P m k with h | ⟨q,h1,h2,h3,h4⟩
   ·by_cases hk:zau P (O (m+k)).op=3
    ·exact .inr ⟨m+k,by omega,by omega,hk,h⟩
    ·refine .inl fun p h1 h2=>?_
     rcases Nat.lt_or_ge p (m+k) with hlt | hge
     ·exact h p h1 hlt
     ·have:p=m+k:=by omega
      subst this
      exact hk
   ·exact .inr ⟨q,h1,by omega,h3,h4⟩
theorem R.empty (x:Nat):R P φ ⟨.nil,x⟩ w:=⟨fun b o rc h=>by simp[AH.get,Tr.get_nil] at h,fun b1 b2 o1 o2 r1 r2 h=>by simp[AH.get,Tr.get_nil] at h,fun b o h=>by simp[AH.get,Tr.get_nil] at h⟩
theorem Mid.freeAt (T:Txt P K r ops n J O E H V) {N:Nat} (hF:zep φ0 (H 0).next N) (hN:(H n).next≤N) (M:Mid P n O H φ0 w0 D m φ w) {p:Nat} (hp:p < n) (hnd:¬D p):zep φ (H p).next (H (p+1)).next:=by
 intro b h1 h2
 cases hb:φ b with
 | none=>rfl
 | some rc=>
   exfalso
   rcases M.dom b (by simp[hb]) with hq | ⟨q,hq,hd,g1,g2⟩
   ·have e1:=T.mono 0 p (by omega) (by omega)
    have e2:=T.mono (p+1) n (by omega) (by omega)
    exact hq (hF b (by omega) (by omega))
   ·have:=T.disjoint hp hq h1 h2 g1 g2
    exact hnd (this▸hd)
theorem Mid.doOp (Op:SOp P K r) (T:Txt P K r ops n J O E H V) {N:Nat} (hF:zep φ0 (H 0).next N) (hN:(H n).next≤N) (M:Mid P n O H φ0 w0 D m φ w) {e:Env} {a:Array Value} (k:zkB n O E V D e) (ke:zci φ e a)
 {p:Nat} (hp:p < n) (hnd:¬D p) (hC:∀p q,p < n→q < n→D q→Bf ops J q p→D p) (hR:∀q,q < n→Bf ops J p q→D q) (hsz:∀t,(O p).dst=some t→t < a.size)
 (ds:List Deferred) (b:Frame) (todo:List Item) (cs:List Frame) (rest:List Nat):
 ∃m' φ' a' w' e',Mid P n O H φ0 w0 (fun x=>x=p∨D x) m' φ' w'∧zkB n O E V (fun x=>x=p∨D x) e'∧zci φ' e' a'∧a'.size=a.size∧
  Steps P (lone (At b a ds (.inRegion ops (J p :: rest) :: todo)) cs w) (lone (At b a' ds (.inRegion ops rest :: todo)) cs w'):=by
 have hl:=T.looksEq k hp hnd hC hR
 have hw:=zkA (ops:=ops) (o:=O p) hl
 have hev:=zsA hl
 have hkd:=zkB.put T k hp hnd
 have hle3:=zlY P (O p).op
 have wr:zau P (O p).op=3→m≤p∧(∀q,m≤q→q < p→zau P (O q).op≠3)∧(∀q,q < p→zau P (O q).op=1→D q):=by
  intro hk
  refine⟨?_,?_,?_⟩
  ·rcases Nat.lt_or_ge p m with h | h
   ·exact absurd (M.low p h (.inr hk)) hnd
   ·exact h
  ·intro q h1 h2 h3
   rcases (T.pair q p h2 hp).2 with hb | ⟨_,_,hb,_⟩
   ·exact M.high q h1 (by omega) h3 (hR q (by omega) hb)
   ·exact (hb hk).1 h3
  ·intro q h2 h3
   rcases (T.pair q p h2 hp).2 with hb | ⟨_,_,hb,_⟩
   ·exact hR q (by omega) hb
   ·exact absurd h3 (hb hk).2.1
 rcases T.run p hp with ⟨hwt,hrun⟩ | ⟨hwf,hv,hsame⟩
 ·rw[←hw] at hwt
  have hwanted:=zcV ke hwt
  by_cases hk3:zau P (O p).op=3
  ·obtain⟨g1,g2,g3⟩:=wr hk3
   have hr:=M.rel T hF hN g1 (by omega) g2
   have hrun' : zb3 P K r (O p) e (H p)=some (V p,H (p+1)):=by rw[zd9 _ hev]; exact hrun
   obtain⟨φ',v',w',t,hvr,st⟩:=Op (O p) e (H p) (V p) (H (p+1)) hrun' (H (p+1)).next φ a w ds b todo cs ops (J p) rest (Nat.le_refl _) (M.freeAt T hF hN hp hnd) ke hr (T.at_ p hp) hwanted
   exact⟨p+1,φ',_,w',_,M.write T hF hN hp g1 g2 hk3 g3 t,hkd,(ke.mono t.le).putO hsz hvr,zaO _ _ _,st⟩
  ·by_cases hk2:zau P (O p).op=2
   ·
    have hq:∃q,m≤q∧q≤n∧(∀x,m≤x→x < q→zau P (O x).op≠3)∧∃h'',aOp P (O p) (E p) (H q)=some (V p,h''):=by
     have hre:∀x,Re P ops O E H V p x→∃h'',aOp P (O p) (E p) (H x)=some (V p,h''):=by
      intro x hx
      rcases hx with hx | hx
      ·rw[hw,hx] at hwt; simp at hwt
      ·exact hx
     rcases Nat.lt_or_ge p m with hpm | hpm
     ·rcases M.last with hl0 | ⟨hl1,hl2⟩
      ·omega
      ·have hne:p≠m - 1:=fun e=>by subst e; omega
       have hmle:=M.mle
       refine⟨m,Nat.le_refl _,M.mle,fun x h1 h2=>by omega,?_⟩
       rcases (T.pair p (m - 1) (by omega) (by omega)).2 with hb | ⟨_,_,hb,_⟩
       ·exact absurd (hC p (m - 1) hp (by omega) hl2 hb) hnd
       ·have:=hre _ ((hb hl1).2.2 hk2).2
        rwa [show m - 1+1=m by omega] at this
     ·rcases ziB O P m (p - m) with hf | ⟨q,g1,g2,g3,g4⟩
      ·refine⟨p,hpm,by omega,fun x h1 h2=>hf x h1 (by omega),?_⟩
       rw[zdE _ hk3] at hrun
       exact⟨_,hrun⟩
      ·refine⟨q,g1,by omega,g4,?_⟩
       rcases (T.pair q p (by omega) hp).2 with hb | ⟨_,_,_,hb⟩
       ·exact absurd (hR q (by omega) hb) (M.high q g1 (by omega) g3)
       ·exact hre _ (hb g3 hk2).1
    obtain⟨q,g1,g2,g3,h'',hq⟩:=hq
    have:=zlW hk2 hq
    subst this
    have hr:=M.rel T hF hN g1 g2 g3
    have hrun' : zb3 P K r (O p) e (H q)=some (V p,H q):=by rw[zd9 _ hev,zdE _ hk3]; exact hq
    obtain⟨φ',v',w',t,hvr,st⟩:=Op (O p) e (H q) (V p) (H q) hrun' (H q).next φ a w ds b todo cs ops (J p) rest (Nat.le_refl _) (fun x h1 h2=>by omega) ke hr (T.at_ p hp) hwanted
    exact⟨m,φ',_,w',_,M.read T hF hN hp hk2 g1 g2 g3 t,hkd,(ke.mono t.le).putO hsz hvr,zaO _ _ _,st⟩
   ·have hk01:zau P (O p).op=0∨zau P (O p).op=1:=by omega
    rw[zdE _ hk3] at hrun
    obtain⟨x,hx1,hx2,hx3⟩:=zjZ hk01 hrun
    have hrun' : zb3 P K r (O p) e ⟨.nil,(H p).next⟩=some (V p,za4 ⟨.nil,(H p).next⟩ x):=by rw[zd9 _ hev,zdE _ hk3]; exact hx3 _ rfl
    have hnx:(za4 (AH.mk .nil (H p).next) x).next=(H (p+1)).next:=by rw[hx1]; cases x <;> simp[za4]
    obtain⟨φ',v',w',t,hvr,st⟩:=Op (O p) e _ (V p) _ hrun' (H (p+1)).next φ a w ds b todo cs ops (J p) rest (by rw[hnx]; exact Nat.le_refl _) (M.freeAt T hF hN hp hnd) ke (R.empty _) (T.at_ p hp) hwanted
    exact⟨m,φ',_,w',_,M.make T hF hN hp hk01 hnd hx1 hx2 t,hkd,(ke.mono t.le).putO hsz hvr,zaO _ _ _,st⟩
 ·rw[←hw] at hwf
  have hwanted:=zcV ke hwf
  have st:=zit (P:=P) (w:=w) (b:=b) (a:=a) (ds:=ds) (k:=todo) (cs:=cs) (rest:=rest) (T.at_ p hp) hwanted
  have kv:zci φ (putO e (O p).dst (V p)) (zgs a (O p).dst undef):=ke.putO hsz (by rw[hv]; exact .skip rfl)
  by_cases hk3:zau P (O p).op=3
  ·obtain⟨g1,g2,g3⟩:=wr hk3
   have hr:=M.rel T hF hN g1 (by omega) g2
   exact⟨p+1,φ,_,w,_,M.write T hF hN hp g1 g2 hk3 g3 (by rw[hsame]; exact Tn.refl hr),hkd,kv,zaO _ _ _,.one st⟩
  ·by_cases hk2:zau P (O p).op=2
   ·have hr:=M.rel T hF hN (Nat.le_refl m) M.mle (fun x h1 h2=>by omega)
    exact⟨m,φ,_,w,_,M.read T hF hN hp hk2 (Nat.le_refl m) M.mle (fun x h1 h2=>by omega) (Tn.refl hr),hkd,kv,zaO _ _ _,.one st⟩
   ·have hk01:zau P (O p).op=0∨zau P (O p).op=1:=by omega
    exact⟨m,φ,_,w,_,M.make (x:=none) T hF hN hp hk01 hnd hsame (fun _=>rfl) (Tn.refl (R.empty _)),hkd,kv,zaO _ _ _,.one st⟩
end
section
variable {P:Program} {K:Xs} {r:Ex} {ops:Array Oper} {n:Nat} {J:Nat→Nat} {O:Nat→Oper} {E:Nat→Env} {H:Nat→AH} {V:Nat→Value}
variable {φ0 φ φ' : Fi} {w0 w w' : World} {D:Nat→Prop} {m:Nat}
theorem zlZ {md:Region.Mode} {e:Edge} (h:Region.binds .any e=true):Region.binds md e=true:=by
 unfold Region.binds at h ⊢
 cases hg:e.ground <;> rw[hg] at h <;> first | rfl | (simp at h; done) | (simp at h ⊢; done)
def unl (ops:Array Oper) (listed:Array Bool):List Nat:=(List.range ops.size).filter fun i=>!listed.getD i true
theorem zl0 {p q:Nat→Bool}:∀{l:List Nat},(∀x∈l,p x=true→q x=true)→(∃x∈l,q x=true∧p x=false)→(l.filter p).length < (l.filter q).length
 | [],_,⟨x,hx,_⟩=>by simp at hx
 | a :: l,h1,⟨x,hx,h2,h3⟩=>by
   have hle:∀(l:List Nat),(∀x∈l,p x=true→q x=true)→(l.filter p).length≤(l.filter q).length:=by
    intro l
    induction l with
    | nil=>intro _; simp
    | cons a l ih=>
      intro h
      have:=ih (fun x hx=>h x (by simp[hx]))
      simp only[List.filter_cons]
      cases hpa:p a with
      | true=>rw[h a (by simp) hpa]; simp; exact this
      | false=>cases q a <;> simp <;> omega
   simp only[List.filter_cons]
   by_cases hxa:x=a
   ·subst hxa
    rw[h2,h3]
    have:=hle l (fun x hx=>h1 x (by simp[hx]))
    simp
    omega
   ·have ih:=zl0 (l:=l) (fun x hx=>h1 x (by simp[hx])) ⟨x,by simpa[hxa] using hx,h2,h3⟩
    cases hpa:p a with
    | true=>rw[h1 a (by simp) hpa]; simp; exact ih
    | false=>cases q a <;> simp <;> omega
theorem zuz {listed:Array Bool} {i:Nat} (hi:i < ops.size) (hl:listed.getD i true=false) (hs:listed.size=ops.size):(unl ops (listed.setIfInBounds i true)).length < (unl ops listed).length:=by
 refine zl0 (fun x hx hp=>?_) ⟨i,by simpa using hi,by rw[hl]; rfl,?_⟩
 ·by_cases hxi:i=x
  ·subst hxi
   rw[hl]; rfl
  ·rw[getD_set_ne true hxi] at hp; exact hp
 ·have:(listed.setIfInBounds i true).getD i true=true:=by simp[hs,hi]
  rw[this]; rfl
theorem ziC {md:Region.Mode} {listed:Array Bool} (hs:listed.size=ops.size):∀(l seen:List Nat),zgu md ops seen l=true→(∀x∈seen,listed.getD x false=true)→(∃j∈l,listed.getD j false=false)→
 ∃j,j∈Region.ready md ops listed
 | [],_,_,_,⟨j,hj,_⟩=>by simp at hj
 | j :: l,seen,hlin,hsn,⟨x,hx,hxl⟩=>by
   simp only[zgu,Bool.and_eq_true] at hlin
   obtain⟨⟨h1,_⟩,h3⟩:=hlin
   by_cases hj:listed.getD j false=true
   ·refine ziC hs l (j :: seen) h3 (fun y hy=>?_) ⟨x,?_,hxl⟩
    ·rcases List.mem_cons.1 hy with rfl | hy
     ·exact hj
     ·exact hsn y hy
    ·rcases List.mem_cons.1 hx with rfl | hx
     ·rw[hj] at hxl; simp at hxl
     ·exact hx
   ·cases ho:ops[j]? with
    | none=>rw[ho] at h1; simp at h1
    | some o=>
      rw[ho] at h1
      simp only[List.all_eq_true] at h1
      have hlt:j < listed.size:=by rw[hs]; exact (Array.getElem?_eq_some_iff.1 ho).1
      refine⟨j,mem_ready.2 ⟨?_,o,ho,fun e he hb=>?_⟩⟩
      ·simp[hlt] at hj ⊢
       exact hj
      ·have:=h1 e (by simpa using he)
       rw[hb] at this
       exact hsn _ (by simpa using this)
theorem zqr {md:Region.Mode} {listed:Array Bool} (hs:listed.size=ops.size) {l:List Nat} (hlin:zgu md ops [] l=true) (hcov:∀i,i < ops.size→i∈l) (hr:Region.ready md ops listed=[]):∀i,i < ops.size→listed.getD i false=true:=by
 intro i hi
 cases hb:listed.getD i false with
 | true=>rfl
 | false=>
   obtain⟨j,hj⟩:=ziC hs l [] hlin (fun _ h=>by simp at h) ⟨i,hcov i hi,hb⟩
   rw[hr] at hj
   simp at hj
theorem Mid.congr {D' : Nat→Prop} (M:Mid P n O H φ0 w0 D m φ w) (h:∀p,p < n→(D p↔D' p)):Mid P n O H φ0 w0 D' m φ w:=by
 have hc:∀b o,Cur P n O H D' m b o→Cur P n O H D m b o:=fun b o hc=>hc.imp id fun ⟨p,g1,g2,g3,g4⟩=>⟨p,g1,g2,(h p g2).2 g3,g4⟩
 refine⟨M.mle,fun p hp hk=>(h p (Nat.lt_of_lt_of_le hp M.mle)).1 (M.low p hp hk),fun p h1 h2 hk hd=>M.high p h1 h2 hk ((h p h2).2 hd),?_,fun b o rc k=>M.obj b o rc (hc b o k),fun b1 b2 o1 o2 r1 r2 k1 k2=>M.inj b1 b2 o1 o2 r1 r2 (hc _ _ k1) (hc _ _ k2),
  M.lt,fun b hb=>(M.dom b hb).imp id fun ⟨p,g1,g2,g3⟩=>⟨p,g1,(h p g1).1 g2,g3⟩,M.le,M.size,M.os,M.tape,M.output,M.keep,fun b o rc k=>M.old b o rc (hc b o k)⟩
 rcases M.last with hl | ⟨h1,h2⟩
 ·exact .inl hl
 ·rcases Nat.eq_zero_or_pos m with h0 | h0
  ·exact .inl h0
  ·have:=M.mle
   exact .inr ⟨h1,(h (m - 1) (by omega)).1 h2⟩
theorem zl1 (Op:SOp P K r) (T:Txt P K r ops n J O E H V) {N:Nat} (hF:zep φ0 (H 0).next N) (hN:(H n).next≤N) (hJ:∀i,i < ops.size→∃p,p < n∧J p=i)
 {md:Region.Mode} {lin:List Nat} (hlin:zgu md ops [] lin=true) (hcov:∀i,i < ops.size→i∈lin) (ds:List Deferred) (b:Frame) (todo:List Item) (cs:List Frame) (sz:Nat) (hsz:∀p,p < n→∀t,(O p).dst=some t→t < sz):
 ∀(fuel t:Nat) (listed:Array Bool) (m:Nat) (φ:Fi) (w:World) (e:Env) (a:Array Value),listed.size=ops.size→zlX ops (fun i=>listed.getD i false=true)→(unl ops listed).length≤fuel→
  Mid P n O H φ0 w0 (fun p=>listed.getD (J p) false=true) m φ w→zkB n O E V (fun p=>listed.getD (J p) false=true) e→zci φ e a→a.size=sz→
  ∃m' φ' w' e' a',Mid P n O H φ0 w0 (fun p=>True) m' φ' w'∧zkB n O E V (fun p=>True) e'∧zci φ' e' a'∧a'.size=sz∧
   Steps P (lone (At b a ds (.inRegion ops (Region.linearise.go md ops fuel t listed []) :: todo)) cs w) (lone (At b a' ds (.inRegion ops [] :: todo)) cs w'):=by
 have atEnd:∀(listed:Array Bool) (m:Nat) (φ:Fi) (w:World) (e:Env) (a:Array Value),(∀i,i < ops.size→listed.getD i false=true)→
  Mid P n O H φ0 w0 (fun p=>listed.getD (J p) false=true) m φ w→zkB n O E V (fun p=>listed.getD (J p) false=true) e→zci φ e a→a.size=sz→
  ∃m' φ' w' e' a',Mid P n O H φ0 w0 (fun p=>True) m' φ' w'∧zkB n O E V (fun p=>True) e'∧zci φ' e' a'∧a'.size=sz∧
   Steps P (lone (At b a ds (.inRegion ops [] :: todo)) cs w) (lone (At b a' ds (.inRegion ops [] :: todo)) cs w'):=by
  intro listed m φ w e a hall M k ke has
  have hi:∀p,p < n→(listed.getD (J p) false=true↔True):=fun p hp=>⟨fun _=>trivial,fun _=>hall _ (Array.getElem?_eq_some_iff.1 (T.at_ p hp)).1⟩
  exact⟨m,φ,w,e,a,M.congr hi,k.congr hi,ke,has,Steps.refl P _⟩
 intro fuel
 induction fuel with
 | zero=>
   intro t listed m φ w e a hls hcl hun M k ke has
   refine atEnd listed m φ w e a (fun i hi=>?_) M k ke has
   have hnil:unl ops listed=[]:=List.length_eq_zero_iff.1 (by omega)
   cases hb:listed.getD i false with
   | true=>rfl
   | false=>
     have hlt:i < listed.size:=by omega
     have hm:i∈unl ops listed:=by
      simp only[unl,List.mem_filter,List.mem_range]
      refine⟨hi,?_⟩
      simp[hlt] at hb ⊢
      exact hb
     rw[hnil] at hm
     simp at hm
 | succ fuel ih=>
   intro t listed m φ w e a hls hcl hun M k ke has
   simp only[Region.linearise.go]
   change ∃m' φ' w' e' a',_∧_∧_∧_∧Steps P (lone (At b a ds (.inRegion ops (match (Region.ready md ops listed)[t % (Region.ready md ops listed).length]? with
    | some i=>Region.linearise.go md ops fuel (t / (Region.ready md ops listed).length) (listed.setIfInBounds i true) [i]
    | none=>[].reverse) :: todo)) cs w) _
   cases hi:(Region.ready md ops listed)[t % (Region.ready md ops listed).length]? with
   | none=>
     have hnil:Region.ready md ops listed=[]:=by
      cases hr:Region.ready md ops listed with
      | nil=>rfl
      | cons x xs=>
        rw[hr] at hi
        have hlt:t % (x :: xs).length < (x :: xs).length:=Nat.mod_lt _ (by simp)
        simp at hi
        simp at hlt
        omega
     exact atEnd listed m φ w e a (zqr hls hlin hcov hnil) M k ke has
   | some i=>
     simp only[]
     rw[linearise_go_acc,List.reverse_singleton,List.singleton_append]
     have hrd:=List.mem_of_getElem? hi
     obtain⟨hun0,o,ho,hedge⟩:=mem_ready.1 hrd
     have hio:=(Array.getElem?_eq_some_iff.1 ho).1
     obtain⟨p,hp,rfl⟩:=hJ i hio
     have hnl:¬listed.getD (J p) false=true:=by
      have hlt:J p < listed.size:=by omega
      intro hq
      simp[hlt] at hq hun0
      rw[hq] at hun0
      simp at hun0
     have hC:∀x y,x < n→y < n→listed.getD (J y) false=true→Bf ops J y x→listed.getD (J x) false=true:=fun x y _ _ hd hb=>hcl.bit (J y) (J x) hd hb
     have hR:∀q,q < n→Bf ops J p q→listed.getD (J q) false=true:=by
      intro q hq hb
      obtain⟨o',ho',e',he',h1,h2⟩:=zj2 ops (J p) (J q) hb
      have hoo:o'= o:=by
       have:ops[J p]?= some o':=by simpa using ho'
       rw[ho] at this
       simpa using this.symm
      subst hoo
      have hon:=hedge e' he' (zlZ h1)
      rcases h2 with h2 | ⟨_,h2⟩
      ·rw[←h2]; exact hon
      ·exact hcl.bit e'.on (J q) hon h2
     obtain⟨m1,φ1,a1,w1,e1,M1,k1,ke1,hs1,st1⟩:=M.doOp Op T hF hN k ke hp hnl hC hR (fun t ht=>by rw[has]; exact hsz p hp t ht) ds b todo cs (Region.linearise.go md ops fuel (t / (Region.ready md ops listed).length) (listed.setIfInBounds (J p) true) [])
     have hiff:∀x,x < n→((x=p∨listed.getD (J x) false=true)↔(listed.setIfInBounds (J p) true).getD (J x) false=true):=by
      intro x hx
      by_cases hxp:x=p
      ·subst hxp
       simp[hls,hio]
      ·have hne:J p≠J x:=fun e=>hxp (T.inj p x hp hx e).symm
       rw[getD_set_ne false hne]
       simp[hxp]
     have hcl1:zlX ops (fun i=>(listed.setIfInBounds (J p) true).getD i false=true):=by
      intro j o2 hj ho2 e2 he2 hb2
      by_cases hjp:J p=j
      ·subst hjp
       rw[ho] at ho2
       cases ho2
       exact getD_set_true (hedge e2 he2 (zlZ hb2))
      ·rw[getD_set_ne false hjp] at hj
       exact getD_set_true (hcl j o2 hj ho2 e2 he2 hb2)
     have hu:=zuz hio hun0 hls
     obtain⟨m',φ',w',e',a',g1,g2,g3,g4,g5⟩:=ih (t / (Region.ready md ops listed).length) (listed.setIfInBounds (J p) true) m1 φ1 w1 e1 a1 (by simp[hls]) hcl1 (by omega) (M1.congr hiff) (k1.congr hiff) ke1 (by rw[hs1,has])
     exact⟨m',φ',w',e',a',g1,g2,g3,g4,st1.trans g5⟩
theorem zvz {a b:ByteArray} (h:(a == b)=true):a=b:=by
 cases a; cases b
 have:(_:Array UInt8) == _:=h
 simpa using this
theorem ztZ {a b:Value} (h:eqS a b=true):a=b:=by
 unfold eqS at h
 split at h
 ·simp at h; simp[h]
 ·simp at h; simp[h]
 ·rw[zvz h]
 ·simp at h; simp[h]
 ·simp at h; simp[h]
 ·simp at h; simp[h]
 all_goals first | rfl | (simp at h; done)
theorem zqs:∀{a b:List Value},eqL a b=true→a=b
 | [],[],_=>rfl
 | x :: a,y :: b,h=>by
   simp only[eqL,Bool.and_eq_true] at h
   rw[ztZ h.1,zqs h.2]
 | [],_ :: _,h=>by simp[eqL] at h
 | _ :: _,[],h=>by simp[eqL] at h
theorem zvA {a b:Value} (h:eqV a b=true):a=b:=by
 unfold eqV at h
 split at h
 ·rw[Array.ext' (zqs h)]
 ·rw[Array.ext' (zqs h)]
 ·exact ztZ h
theorem zl2 {r:Ex}:∀{os:List Nat} {e:Env} {h:AH} {l:List (Env×AH)},zeB P K r ops os e h=some l→l.length=os.length+1∧l[0]?= some (e,h)∧
 ∀p j,os[p]?= some j→∃o ep hp v h1,ops[j]?= some o∧l[p]?= some (ep,hp)∧l[p+1]?= some (putO ep o.dst v,h1)∧
  ((zaJ ops o ep=some true∧zb3 P K r o ep hp=some (v,h1))∨(zaJ ops o ep=some false∧v=zd2∧h1=hp))
 | [],e,h,l,hs=>by
   simp only[zeB,Option.some.injEq] at hs
   subst hs
   exact⟨rfl,rfl,fun p j hp=>by simp at hp⟩
 | j0 :: os,e,h,l,hs=>by
   unfold zeB at hs
   cases ho:ops[j0]? with
   | none=>rw[ho] at hs; simp at hs
   | some o=>
     rw[ho] at hs
     simp only at hs
     have fin:∀v h1 l2,zeB P K r ops os (putO e o.dst v) h1=some l2→l=(e,h) :: l2→((zaJ ops o e=some true∧zb3 P K r o e h=some (v,h1))∨(zaJ ops o e=some false∧v=zd2∧h1=h))→
      l.length=(j0 :: os).length+1∧l[0]?= some (e,h)∧
      ∀p j,(j0 :: os)[p]?= some j→∃o ep hp v h1,ops[j]?= some o∧l[p]?= some (ep,hp)∧l[p+1]?= some (putO ep o.dst v,h1)∧
       ((zaJ ops o ep=some true∧zb3 P K r o ep hp=some (v,h1))∨(zaJ ops o ep=some false∧v=zd2∧h1=hp)):=by
      intro v h1 l2 hl2 hl hwt
      subst hl
      obtain⟨g1,g2,g3⟩:=zl2 hl2
      refine⟨by simp[g1],rfl,fun p j hp=>?_⟩
      cases p with
      | zero=>
        simp only[List.getElem?_cons_zero,Option.some.injEq] at hp
        subst hp
        exact⟨o,e,h,v,h1,ho,rfl,by simpa using g2,hwt⟩
      | succ p=>
        obtain⟨o',ep,hp',v',h1',k1,k2,k3,k4⟩:=g3 p j (by simpa using hp)
        exact⟨o',ep,hp',v',h1',k1,by simpa using k2,by simpa using k3,k4⟩
     cases hw:zaJ ops o e with
     | none=>rw[hw] at hs; simp at hs
     | some t=>
       rw[hw] at hs
       cases t with
       | true=>
         simp only at hs
         cases hr:zb3 P K r o e h with
         | none=>rw[hr] at hs; simp at hs
         | some y=>
           obtain⟨v,h1⟩:=y
           rw[hr] at hs
           simp only at hs
           cases hl:zeB P K r ops os (putO e o.dst v) h1 with
           | none=>rw[hl] at hs; simp at hs
           | some l2=>
             rw[hl] at hs
             simp only[Option.some.injEq] at hs
             exact fin v h1 l2 hl hs.symm (.inl ⟨hw,hr⟩)
       | false=>
         simp only at hs
         cases hl:zeB P K r ops os (putO e o.dst zd2) h with
         | none=>rw[hl] at hs; simp at hs
         | some l2=>
           rw[hl] at hs
           simp only[Option.some.injEq] at hs
           exact fin zd2 h l2 hl hs.symm (.inr ⟨hw,rfl,rfl⟩)
theorem zfN {bf:Array Nat} {ia pa:Nat}:∀{l:List Nat} {pb:Nat} {ps:List (Nat×Nat)},zgv P ops bf ia pa l pb=some ps→∀i ib,l[i]?= some ib→∃x,zok P ops bf ia ib pa (pb+i)=some x∧∀y∈x,y∈ps
 | [],_,_,_,i,ib,hi=>by simp at hi
 | b :: l,pb,ps,hs,i,ib,hi=>by
   unfold zgv at hs
   split at hs
   ·rename_i x y hx hy
    simp only[Option.some.injEq] at hs
    subst hs
    cases i with
    | zero=>
      simp only[List.getElem?_cons_zero,Option.some.injEq] at hi
      subst hi
      exact⟨x,hx,fun y hy=>by simp[hy]⟩
    | succ i=>
      obtain⟨z,hz,hz2⟩:=zfN hy i ib (by simpa using hi)
      exact⟨z,by rw[←hz]; congr 1; omega,fun q hq=>by simp[hz2 q hq]⟩
   ·simp at hs
theorem zgE {bf:Array Nat}:∀{l:List Nat} {pa:Nat} {ps:List (Nat×Nat)},zgw P ops bf l pa=some ps→∀i j ia ib,i < j→l[i]?= some ia→l[j]?= some ib→∃x,zok P ops bf ia ib (pa+i) (pa+j)=some x∧∀y∈x,y∈ps
 | [],_,_,_,i,j,ia,ib,_,hi,_=>by simp at hi
 | a :: l,pa,ps,hs,i,j,ia,ib,hij,hi,hj=>by
   unfold zgw at hs
   split at hs
   ·rename_i x y hx hy
    simp only[Option.some.injEq] at hs
    subst hs
    obtain⟨j',rfl⟩:∃j',j=j'+ 1:=⟨j - 1,by omega⟩
    cases i with
    | zero=>
      simp only[List.getElem?_cons_zero,Option.some.injEq] at hi
      subst hi
      obtain⟨z,hz,hz2⟩:=zfN hx j' ib (by simpa using hj)
      exact⟨z,by rw[←hz]; congr 1; omega,fun q hq=>by simp[hz2 q hq]⟩
    | succ i=>
      obtain⟨z,hz,hz2⟩:=zgE hy i j' ia ib (by omega) (by simpa using hi) (by simpa using hj)
      exact⟨z,by rw[←hz]; congr 1 <;> omega,fun q hq=>by simp[hz2 q hq]⟩
   ·simp at hs
theorem ziD {l:List Nat} (h:zhn n l=true):∀i,i < n→i∈l:=by
 intro i hi
 simp only[zhn,List.all_eq_true,List.mem_range] at h
 simpa using h i hi
theorem ziE {md:Region.Mode}:∀(l seen:List Nat),zgu md ops seen l=true→(∀x∈l,x∉seen∧x < ops.size)∧l.Nodup
 | [],_,_=>⟨fun x h=>by simp at h,List.nodup_nil⟩
 | j :: l,seen,h=>by
   simp only[zgu,Bool.and_eq_true] at h
   obtain⟨⟨h1,h2⟩,h3⟩:=h
   obtain⟨g1,g2⟩:=ziE l (j :: seen) h3
   have hj:j < ops.size:=by
    cases ho:ops[j]? with
    | none=>rw[ho] at h1; simp at h1
    | some o=>exact (Array.getElem?_eq_some_iff.1 ho).1
   refine⟨fun x hx=>?_,List.nodup_cons.2 ⟨fun hm=>(g1 j hm).1 (by simp),g2⟩⟩
   rcases List.mem_cons.1 hx with rfl | hx
   ·exact⟨by simpa using h2,hj⟩
   ·exact⟨fun hs=>(g1 x hx).1 (by simp[hs]),(g1 x hx).2⟩
end
section
variable {P:Program} {K:Xs} {r:Ex} {ops:Array Oper}
theorem ziF {ord:List Nat} {l:List (Env×AH)} {n:Nat} {O:Nat→Oper} {E:Nat→Env} {H:Nat→AH} {V:Nat→Value}
 (hO:∀p,p < n→∃j,ord[p]?= some j∧ops[j]?= some (O p)) (hl:∀p,p≤n→l[p]?= some (E p,H p)) (hE:∀p,p < n→E (p+1)=putO (E p) (O p).dst (V p))
 {p x:Nat} (hp:p < n) (hx:x≤n) (h:zbU P ops ord l p x=true):Re P ops O E H V p x:=by
 unfold zbU at h
 obtain⟨j,h1,h2⟩:=hO p hp
 have e1:(ord[p]?).bind (ops[·]?)=some (O p):=by rw[h1]; exact h2
 rw[e1,hl p (by omega),hl (p+1) (by omega),hl x hx] at h
 simp only at h
 cases hw:zaJ ops (O p) (E p) with
 | none=>rw[hw] at h; simp at h
 | some t=>
   rw[hw] at h
   cases t with
   | false=>exact .inl hw
   | true=>
     simp only at h
     cases hd:(O p).dst with
     | none=>rw[hd] at h; simp at h
     | some d=>
       rw[hd] at h
       cases ha:aOp P (O p) (E p) (H x) with
       | none=>rw[ha] at h; simp at h
       | some y=>
         obtain⟨v,h''⟩:=y
         rw[ha] at h
         simp only at h
         have:=zvA h
         rw[zfK,hE p hp,hd,zgD] at this
         simp only[Option.getD_some] at this
         subst this
         exact .inr ⟨h'',ha⟩
theorem zps {r:Ex} (Op:SOp P K r) (M:zfL r):zvy P K r:=by
 intro id ops e h e' h' hs N φ a w ds b k cs hN hF ke hdst hr
 unfold zdz at hs
 cases hp:zvw P ops with
 | none=>rw[hp] at hs; simp at hs
 | some pl=>
   obtain⟨ord,ps⟩:=pl
   rw[hp] at hs
   simp only at hs
   cases hl:zeB P K r ops ord e h with
   | none=>rw[hl] at hs; simp at hs
   | some l=>
     rw[hl] at hs
     simp only at hs
     cases hall:ps.all (fun p=>zbU P ops ord l p.1 p.2 && zbU P ops ord l p.1 (p.2+1)) with
     | false=>rw[hall] at hs; simp at hs
     | true=>
       rw[hall] at hs
       simp only at hs
       unfold zvw at hp
       simp only at hp
       cases hc:(zgu .any ops [] (lazyOrd P ops (Region.before ops)) && zhn ops.size (lazyOrd P ops (Region.before ops)) && zgu .text ops [] (List.range ops.size) &&
        (zgu .gc ops [] (Region.linearise .gc ops 0) && zhn ops.size (Region.linearise .gc ops 0))) with
       | false=>rw[hc] at hp; simp at hp
       | true=>
         rw[hc] at hp
         simp only[Bool.and_eq_true] at hp hc
         obtain⟨⟨⟨c1,c2⟩,c3⟩,c4,c5⟩:=hc
         cases hpa:zgw P ops (Region.before ops) (lazyOrd P ops (Region.before ops)) 0 with
         | none=>rw[hpa] at hp; simp at hp
         | some ps'=>
           rw[hpa] at hp
           simp only[Option.some.injEq,Prod.mk.injEq] at hp
           obtain⟨rfl,rfl⟩:=hp
           generalize lazyOrd P ops (Region.before ops)=ord at *
           obtain⟨hll,hl0,hlp⟩:=zl2 hl
           obtain⟨hnd1,hnd2⟩:=ziE ord [] c1
           let n:=ord.length
           let J:Nat→Nat:=fun p=>ord.getD p 0
           let O:Nat→Oper:=fun p=>ops.getD (J p) default
           let E:Nat→Env:=fun p=>(l.getD p (e,h)).1
           let H:Nat→AH:=fun p=>(l.getD p (e,h)).2
           have hJ:∀p,p < n→ord[p]?= some (J p):=fun p hp=>by simp only[J]; rw[List.getD_eq_getElem?_getD,List.getElem?_eq_getElem hp]; rfl
           have hlE:∀p,p≤n→l[p]?= some (E p,H p):=fun p hp=>by
            have hlt:p < l.length:=by rw[hll]; omega
            simp only[E,H]
            rw[List.getD_eq_getElem?_getD,List.getElem?_eq_getElem hlt]; rfl
           have hat:∀p,p < n→ops[J p]?= some (O p):=fun p hp=>by
            have hm:=(hnd1 (J p) (List.mem_of_getElem? (hJ p hp))).2
            simp only[O]
            rw[Array.getD_eq_getD_getElem?,Array.getElem?_eq_getElem hm]; rfl
           have hV0:∀p,p < n→∃v,E (p+1)=putO (E p) (O p).dst v∧
            ((zaJ ops (O p) (E p)=some true∧zb3 P K r (O p) (E p) (H p)=some (v,H (p+1)))∨(zaJ ops (O p) (E p)=some false∧v=zd2∧H (p+1)=H p)):=by
            intro p hp
            obtain⟨o,ep,hq,v,h1,g1,g2,g3,g4⟩:=hlp p (J p) (hJ p hp)
            rw[hat p hp] at g1
            cases g1
            rw[hlE p (by omega)] at g2
            rw[hlE (p+1) (by omega)] at g3
            simp only[Option.some.injEq,Prod.mk.injEq] at g2 g3
            obtain⟨e1,e2⟩:=g2
            obtain⟨e3,e4⟩:=g3
            rw[←e1,←e2,←e4] at g4
            rw[←e1] at e3
            exact⟨v,e3,g4⟩
           obtain⟨V,hV⟩:∃V:Nat→Value,∀p,p < n→E (p+1)=putO (E p) (O p).dst (V p)∧
            ((zaJ ops (O p) (E p)=some true∧zb3 P K r (O p) (E p) (H p)=some (V p,H (p+1)))∨(zaJ ops (O p) (E p)=some false∧V p=zd2∧H (p+1)=H p)):=
            ⟨fun p=>if hp:p < n then (hV0 p hp).choose else undef,fun p hp=>by simp only[hp,dif_pos]; exact (hV0 p hp).choose_spec⟩
           have hre:∀y,y∈ps'→y.1 < n→y.2 < n→Re P ops O E H V y.1 y.2∧Re P ops O E H V y.1 (y.2+1):=by
            intro y hy h1 h2
            simp only[List.all_eq_true,Bool.and_eq_true] at hall
            obtain⟨q1,q2⟩:=hall y hy
            exact⟨ziF (fun p hp=>⟨J p,hJ p hp,hat p hp⟩) hlE (fun p hp=>(hV p hp).1) h1 (by omega) q1,ziF (fun p hp=>⟨J p,hJ p hp,hat p hp⟩) hlE (fun p hp=>(hV p hp).1) h1 (by omega) q2⟩
           have hpair:∀p q,p < q→q < n→zxh P ops J O E H V p q:=by
            intro p q hpq hq
            have hp:p < n:=by omega
            obtain⟨x,hx,hx2⟩:=zgE hpa p q (J p) (J q) hpq (hJ p hp) (hJ q hq)
            unfold zok at hx
            rw[hat p hp,hat q hq,Nat.zero_add,Nat.zero_add] at hx
            simp only at hx
            cases hdd:zif (O p) (O q) with
            | false=>rw[hdd] at hx; simp at hx
            | true=>
              rw[hdd] at hx
              have hne:∀d,(O p).dst=some d→(O q).dst≠some d:=by
               intro d h1 h2
               unfold zif at hdd
               rw[h1,h2] at hdd
               simp at hdd
              refine⟨hne,?_⟩
              cases hod:((Region.before ops).getD (J q) 0).testBit (J p) with
              | true=>exact .inl hod
              | false=>
                rw[hod] at hx
                cases hlk:zig ops (O p) (O q) with
                | true=>rw[hlk] at hx; simp at hx
                | false=>
                  rw[hlk] at hx
                  unfold zig at hlk
                  simp only[Bool.or_eq_false_iff] at hlk
                  obtain⟨k1,k2⟩:=hlk
                  refine .inr ⟨fun d hd=>?_,fun d hd=>?_,fun hq3=>?_,fun hp3 hq2=>?_⟩
                  ·rw[hd] at k1; simpa using k1
                  ·rw[hd] at k2; simpa using k2
                  ·rw[hq3] at hx
                   refine⟨fun hp3=>?_,fun hp1=>?_,fun hp2=>?_⟩
                   ·rw[hp3] at hx; simp at hx
                   ·rw[hp1] at hx; simp at hx
                   ·rw[hp2] at hx
                    simp only[Option.some.injEq] at hx
                    exact hre (p,q) (hx2 (p,q) (by rw[←hx]; simp)) hp hq
                  ·rw[hp3,hq2] at hx
                   simp only[Option.some.injEq] at hx
                   exact hre (q,p) (hx2 (q,p) (by rw[←hx]; simp)) hq hp
           have T:Txt P K r ops n J O E H V:=by
            refine⟨hat,fun p hp=>(hV p hp).1,fun p hp=>(hV p hp).2,fun p hp=>?_,fun p q hp hq hpq=>?_,hpair⟩
            ·rcases (hV p hp).2 with ⟨_,h1⟩ | ⟨_,_,h1⟩
             ·exact zdC M h1
             ·rw[h1]; exact Nat.le_refl _
            ·have h1:=hJ p hp
             have h2:=hJ q hq
             rw[hpq] at h1
             have e1:=List.getElem?_eq_some_iff.1 h1
             have e2:=List.getElem?_eq_some_iff.1 h2
             obtain⟨g1,g2⟩:=e1
             obtain⟨g3,g4⟩:=e2
             exact (List.getElem_inj hnd2).1 (g2.trans g4.symm)
           have hH0:H 0=h∧E 0=e:=by
            have:=hlE 0 (by omega)
            rw[hl0] at this
            simp only[Option.some.injEq,Prod.mk.injEq] at this
            exact⟨this.2.symm,this.1.symm⟩
           have hHn:H n=h'∧E n=e':=by
            have h1:=hlE n (Nat.le_refl _)
            rw[List.getLast?_eq_getElem?,hll] at hs
            simp only[Nat.add_sub_cancel] at hs
            rw[hs] at h1
            simp only[Option.some.injEq,Prod.mk.injEq] at h1
            exact⟨h1.2.symm,h1.1.symm⟩
           have hJs:∀i,i < ops.size→∃p,p < n∧J p=i:=by
            intro i hi
            obtain⟨p,hp,he⟩:=List.getElem_of_mem (ziD c2 i hi)
            refine⟨p,hp,?_⟩
            have:=hJ p hp
            rw[List.getElem?_eq_getElem hp,he] at this
            simpa using this.symm
           have hszO:∀p,p < n→∀t,(O p).dst=some t→t < a.size:=by
            intro p hp t ht
            simp only[codeDst,List.all_eq_true] at hdst
            have:=hdst (O p) (by have:=List.mem_of_getElem? (by simpa using hat p hp:ops.toList[J p]?= some (O p)); exact this)
            rw[ht] at this
            simpa[Nat.blt_eq] using this
           let w1:World:={ w with drawn:=w.drawn+1 }
           have hr1:R P φ h w1:=hr.drew 1
           have hcur0:∀b o,Cur P n O H (fun p=>(Array.replicate ops.size false).getD (J p) false=true) 0 b o→h.get b=some o:=by
            intro b o hc
            rcases hc with hc | ⟨p,_,hp,hd,_⟩
            ·rw[hH0.1] at hc; exact hc
            ·exfalso
             have:(Array.replicate ops.size false).getD (J p) false=false:=by
              rw[Array.getD_eq_getD_getElem?,Array.getElem?_replicate]
              split <;> rfl
             rw[this] at hd
             simp at hd
           have hrep:∀i,¬(Array.replicate ops.size false).getD i false=true:=by
            intro i hd
            have:(Array.replicate ops.size false).getD i false=false:=by
             rw[Array.getD_eq_getD_getElem?,Array.getElem?_replicate]
             split <;> rfl
            rw[this] at hd
            simp at hd
           have M0:Mid P n O H φ w1 (fun p=>(Array.replicate ops.size false).getD (J p) false=true) 0 φ w1:=by
            refine⟨Nat.zero_le _,fun p hp=>absurd hp (Nat.not_lt_zero _),fun p _ _ _ hd=>hrep _ hd,.inl rfl,fun b o rc hc=>hr1.obj b o rc (hcur0 b o hc),fun b1 b2 o1 o2 r1 r2 k1 k2=>hr1.inj b1 b2 o1 o2 r1 r2 (hcur0 _ _ k1) (hcur0 _ _ k2),
             by rw[hH0.1]; exact hr1.lt,fun b hb=>.inl hb,Le.refl _,Nat.le_refl _,rfl,rfl,rfl,fun _ _ _=>rfl,fun b o rc hc hφ _=>⟨b,o,rc,by rw[hH0.1]; exact hcur0 b o hc,hφ,rfl,fun z=>z⟩⟩
           have k0:zkB n O E V (fun p=>(Array.replicate ops.size false).getD (J p) false=true) e:=⟨fun p _ hd=>absurd hd (hrep _),fun d _=>by rw[hH0.2]⟩
           have hFH:zep φ (H 0).next N:=by rw[hH0.1]; exact hF
           have hNH:(H n).next≤N:=by rw[hHn.1]; exact hN
           have hcl0:zlX ops (fun i=>(Array.replicate ops.size false).getD i false=true):=fun j o hd=>absurd hd (hrep j)
           have hun0:(unl ops (Array.replicate ops.size false)).length≤ops.size:=by
            have:=List.length_filter_le (fun i=>!(Array.replicate ops.size false).getD i true) (List.range ops.size)
            simpa[unl] using this
           have key:∃m' φ' w' e2 a',Mid P n O H φ w1 (fun p=>True) m' φ' w'∧zkB n O E V (fun p=>True) e2∧zci φ' e2 a'∧a'.size=a.size∧
            Steps P (lone (At b a ds (.inRegion ops (Region.schedule (P.follows .mixedOrders) ops (w.tape w.drawn (.order b.fn id))) :: k)) cs w1) (lone (At b a' ds (.inRegion ops [] :: k)) cs w'):=by
            have go:∀(md:Region.Mode) (lin:List Nat) (t:Nat),zgu md ops [] lin=true→zhn ops.size lin=true→∃m' φ' w' e2 a',Mid P n O H φ w1 (fun p=>True) m' φ' w'∧zkB n O E V (fun p=>True) e2∧zci φ' e2 a'∧a'.size=a.size∧
             Steps P (lone (At b a ds (.inRegion ops (Region.linearise md ops t) :: k)) cs w1) (lone (At b a' ds (.inRegion ops [] :: k)) cs w'):=fun md lin t q1 q2=>
             zl1 Op T hFH hNH hJs q1 (ziD q2) ds b k cs a.size hszO ops.size t (Array.replicate ops.size false) 0 φ w1 e a (by simp) hcl0 hun0 M0 k0 ke rfl
            unfold Region.schedule
            split
            ·exact go .any ord _ c1 c2
            ·split
             ·exact go .text (List.range ops.size) _ c3 (by simp[zhn])
             ·exact go .gc _ _ c4 c5
           obtain⟨m',φ',w',e2,a',M',k',ke',sz',st⟩:=key
           have hno:∀p,m'≤p→p < n→zau P (O p).op≠3:=fun p h1 h2 h3=>M'.high p h1 h2 h3 trivial
           have hrel:=M'.rel T hFH hNH M'.mle (Nat.le_refl n) hno
           obtain⟨i1,i2,_,_⟩:=M'.seg T hFH hNH n M'.mle (Nat.le_refl n) hno
           rw[hHn.1] at hrel i1 i2
           have kn:=T.envAt n (Nat.le_refl n)
           have hee:∀t,e2.get t=e'.get t:=by
            intro t
            rw[←hHn.2]
            by_cases hex:∃q,q < n∧(O q).dst=some t
            ·obtain⟨q,hq,hd⟩:=hex
             rw[k'.done q hq trivial t hd,kn.done q hq hq t hd]
            ·rw[k'.rest t (fun p hp _ hd=>hex ⟨p,hp,hd⟩),kn.rest t (fun p hp _ hd=>hex ⟨p,hp,hd⟩)]
           refine⟨φ',a',w',⟨M'.le,?_,?_,hrel,M'.size,M'.os,M'.tape,M'.output,?_,?_⟩,fun t=>by rw[←hee t]; exact ke' t,sz',Steps.head zuv (st.trans (.one zlO))⟩
           ·intro b hb
            rcases M'.dom b hb with hb | ⟨p,g1,_,g2,g3⟩
            ·exact .inl hb
            ·refine .inr ⟨?_,?_⟩
             ·rw[←hH0.1]; exact Nat.le_trans (T.mono 0 p (by omega) (by omega)) g2
             ·rw[←hHn.1]; exact Nat.lt_of_lt_of_le g3 (T.mono (p+1) n (by omega) (by omega))
           ·rw[←hH0.1,←hHn.1]; exact T.mono 0 n (by omega) (by omega)
           ·intro c hc ho
            refine M'.keep c hc ?_
            rw[hH0.1]; exact ho
           ·intro b o rc hb hφ hlt
            have:=M'.old b o rc (i2 b o hb (by simp[hφ])) hφ hlt
            rw[hH0.1] at this
            exact this
end
section
variable {P:Program} {K:Xs} {φ φ' : Fi} {h h' : AH} {w w' : World}
theorem zfh {P:Program} {K:Xs} (G:zd7 P) (X:zb5 P K):∀n,SEx P (ex P K n)
 | 0=>fun rd ks c e h x e' h' hs=>by simp[ex] at hs
 | n+1=>by
   have S:=zfh (K:=K) G X n
   have M:=zg5 (P:=P) (K:=K) n
   exact zlV G X S M (zps (zff G X S M) M)
def zp6 (w w' : World):Prop:=w'.os=w.os∧w'.output=w.output∧w.heap.size≤w'.heap.size∧∀c,c < w.heap.size→w'.heap[c]?= w.heap[c]?
theorem zp6.but (k:zp6 w w') (may:MemPlace→Prop):w.keptBut w' may:=by
 obtain⟨h1,h2,h3,h4⟩:=k
 refine⟨h1,h2,fun i hi=>?_⟩
 rw[h4 i hi]
 cases w.heap[i]? with
 | none=>rfl
 | some o=>cases o <;> first | rfl | exact⟨rfl,rfl,rfl,fun _ _=>rfl⟩ | exact .inr ⟨rfl,rfl⟩
theorem zp6.frozen (k:zp6 w w') (a:Addr) (ha:a.block < w.heap.size):w'.frozen? a=w.frozen? a:=by
 unfold World.frozen?
 rw[k.2.2.2 _ ha]
def zsC (h:AH):Prop:=∀b o,h.get b=some o→o.ro=true
theorem zsD (G:zd7 P) (X:zb5 P K) {n:Nat} {f:FuncId} {args:List Value} {v:Value} (hs:zdn P K (ex P K n) f args h=some (v,h')) {args' : Array Value}
 (hr:R P φ h w) (hf:∀b,h.next≤b→φ b=none) (hro:zsC h) (ha:AR φ args args'.toList):
 Calls P f args' w fun e w'=>∃φ' v',e=.returned v'∧VR φ' v v'∧R P φ' h' w'∧Le φ φ'∧zp6 w w':=by
 intro cs
 obtain⟨φ',v',w',fr,t,hv,st,hfn,hlv⟩:=zfe (K:=K) G X (zfh G X n) f args h v h' hs h'.next φ args'.toList w cs (Nat.le_refl _) (fun b h1 _=>hf b h1) ha hr
 refine⟨.returned v',w',fr,⟨φ',v',rfl,hv,t.rel,t.le,t.os,t.output,t.size,fun c hc=>t.keep c hc ?_⟩,?_,hfn,hlv⟩
 ·rintro⟨b,o,rc,h1,_,_,h4⟩
  rw[hro b o h1] at h4
  simp at h4
 ·exact (show Steps P _ _ by simpa using st)
theorem VR.bool_eq {v' : Value} {b:Bool} (h:VR φ (.bool b) v'):v'= .bool b:=by cases h; rfl
theorem zpt (G:zd7 P) (X:zb5 P K) {n:Nat} {f:FuncId} {args:List Value} (hs:zdn P K (ex P K n) f args h=some (.bool true,h')) {args' : Array Value}
 (hr:R P φ h w) (hf:∀b,h.next≤b→φ b=none) (hro:zsC h) (ha:AR φ args args'.toList):
 Calls P f args' w fun e w'=>e=.returned (.bool true)∧zp6 w w':=
 (zsD G X hs hr hf hro ha).mono fun e w' ⟨φ',v',he,hv,_,_,hk⟩=>⟨by rw[he,hv.bool_eq],hk⟩
def Call (P:Program) (K:Xs) (f:FuncId) (args:List Value) (h:AH) (Q:Value→AH→Prop):Prop:=∃n v h',zdn P K (ex P K n) f args h=some (v,h')∧Q v h'
def W (P:Program) (K:Xs) (rd:Option Nat) (ks:List Tmp) (c:Code) (e:Env) (h:AH) (Q:AX→Env→AH→Prop):Prop:=∃n x e' h',ex P K n rd ks c e h=some (x,e',h')∧Q x e' h'
end
section
variable {P:Program} {K:Xs} {φ φ' : Fi} {h h' : AH} {w w' : World}
def zjB (s:ByteArray) (c:Int):Int:=match (List.range s.size).find? fun i=>s[i]! == c.toNat.toUInt8 with | some i=>(i:Int) | none=>-1
def zfi:List Value→AH→Option (Value×AH)
 | [.string s,.int .u8 c],h=>some (.int .i64 (zjB s c),h)
 | _,_=>none
def ziG (P:Program) (f:FuncId):Prop:=∃fn,P.funcs[f]?= some fn∧fn.body=none∧(fn.name == "runtime.NumGoroutine")=false∧Extern.findNext fn=none∧Extern.find fn=some Extern.BytealgIndexByte.indexByte
theorem zkC {f:FuncId} (hx:ziG P f):∀φ args args' h w v h',zfi args h=some (v,h')→h.next≤h'.next→zep φ h.next h'.next→AR φ args args'→R P φ h w→
 ∃φ' v' w',(callFunc f args'.toArray).run P w=.ok (.value v') w'∧VR φ' v v'∧Tn P φ h w φ' h' w':=by
 intro φ args args' h w v h' hs _ _ ha hr
 unfold zfi at hs
 split at hs
 ·rename_i h0 s c
  simp only[Option.some.injEq,Prod.mk.injEq] at hs
  obtain⟨rfl,rfl⟩:=hs
  obtain⟨x1,x2,rfl,h1,h2⟩:=zwm ha
  cases h1
  cases h2
  obtain⟨fn,g1,g2,g3,g4,g5⟩:=hx
  refine⟨φ,.int .i64 (zjB s c),w,?_,.int _ _,Tn.refl hr⟩
  have hrun:(Extern.BytealgIndexByte.indexByte [Value.string s,Value.int IntKind.u8 c].toArray).run P w=.ok (.int .i64 (zjB s c)) w:=by
   show Sem.run P (match (List.range s.size).find? fun i=>s[i]! == c.toNat.toUInt8 with | some i=>pure (goInt i) | none=>pure (goInt (-1))) w=_
   unfold zjB
   split <;> rfl
  generalize Extern.BytealgIndexByte.indexByte=ee at g5 hrun
  simp only[callFunc,Sem.run_bind,run_program,Result.andThen_ok,g1,g3,g2,Option.isNone_none,g4,g5]
  simp[mark,Sem.run,hrun]
 ·simp at hs
end
section
variable {P:Program} {K:Xs}
theorem zd7.of (hz:P.types.all (fun i=>match i.zero with | some z=>zon z | none=>true)=true)
 (hf:P.funcs.all (fun fn=>(match fn.body with | some c=>codeDst fn.ntmps c | none=>true) && !(fn.name == "runtime.NumGoroutine"))=true) (hd:Nat.ble 50 P.depth=true):zd7 P where
 zero:=fun t i z ht hi hz'=>by
  unfold Tables.info? at hi
  rw[if_pos ht] at hi
  have:=Array.all_eq_true_iff_forall_mem.1 hz i (Array.mem_of_getElem? hi)
  rw[hz'] at this
  exact this
 dst:=fun f fn c h1 h2=>by
  have:=Array.all_eq_true_iff_forall_mem.1 hf fn (Array.mem_of_getElem? h1)
  rw[h2] at this
  simp only[Bool.and_eq_true] at this
  exact this.1
 name:=fun f fn h1=>by
  have:=Array.all_eq_true_iff_forall_mem.1 hf fn (Array.mem_of_getElem? h1)
  simp only[Bool.and_eq_true] at this
  simpa using this.2
 depth:=Nat.le_of_ble_eq_true hd
def zqt (n:Nat):Xs:=fun f=>cond (Nat.beq f n) (some (.ext zfi)) none
theorem zpu {n:Nat} (hx:ziG P n):zb5 P (zqt n) where
 ext:=fun f g hk=>by
  unfold zqt at hk
  cases hb:Nat.beq f n with
  | true=>
    rw[hb] at hk
    simp only[cond_true,Option.some.injEq,XF.ext.injEq] at hk
    subst hk
    have:f=n:=Nat.eq_of_beq_eq_true hb
    subst this
    exact zkC hx
  | false=>rw[hb] at hk; simp at hk
 body:=fun f g hk=>by
  unfold zqt at hk
  cases hb:Nat.beq f n <;> rw[hb] at hk <;> simp at hk
 sum:=fun f g hk=>by
  unfold zqt at hk
  cases hb:Nat.beq f n <;> rw[hb] at hk <;> simp at hk
def zl3:Option (Value×AH)→Bool
 | some (.bool true,_)=>true
 | _=>false
theorem zl4 {y:Option (Value×AH)} (h:zl3 y=true):∃h',y=some (.bool true,h'):=by
 unfold zl3 at h
 split at h
 ·exact⟨_,rfl⟩
 ·simp at h
section
open Go.ChangeShapes Go.WideShapes
theorem zqu {H:Type} {enc:TypeId×Value→H} {f:Func} {s:ChangeSpec} {apart fresh handsOn again:Bool} {W W' : World} {args:Array Value} {v:Value} {ds gs:List (DataW H)} {before pa pv:List MemPlace}
 (hW:DataW.Whole enc P f.params.toList s.vars apart W args.toList ds gs before)
 (hres:∀(b:Nat) (sp:Nat→Bool) (hd:Bool),DataW.TrodAll enc P W' b sp hd f.resultTypes.toList (v.resultList f.resultTypes.size) (s.fn H (ds ++ gs)).results [])
 (hargs:∀sp:Nat→Bool,(∀p∈before,sp p.block=true)→DataW.TrodAll enc P W' 0 sp true f.params.toList args.toList (s.fn H (ds ++ gs)).args pa)
 (hvars:∀sp:Nat→Bool,(∀p∈before,sp p.block=true)→DataW.TrodVars enc P W' sp s.vars (s.fn H (ds ++ gs)).vars pv)
 (hps:before=pa ++ pv) (hk:zp6 W W')
 (hok:∀(j:Nat) (t:TypeId) (r:Value),f.resultTypes[j]?= some t→(v.resultList f.resultTypes.size)[j]?= some r→Value.okWide P W' .any 0 t r):
 s.post enc P f apart fresh handsOn again W args v W':=by
 have hlt:=hW.lt
 have hold:∀p∈before,(fun b=>decide (b < W.heap.size)) p.block=true:=fun p hp=>by simpa using hlt p hp
 refine⟨ds,gs,before,[],pa,pv,hW,hres _ _ _,hargs _ hold,hvars _ hold,World.keptBut_mono (fun p hp=>⟨hp,?_⟩) (hk.but (·∈before)),fun _=>?_⟩
 ·rw[hps,List.mem_append] at hp
  exact Or.inr hp
 ·obtain⟨_,_,_,_,_,hz,hn⟩:=hW
  refine⟨hok,_,_,([] ++ pa) ++ pv,⟨[] ++ pa,pv,trodAll_append (hargs _ (fun _ _=>rfl)) (hres _ _ _),hvars _ (fun _ _=>rfl),rfl,?_,?_⟩,?_⟩
  ·intro b off hp
   have hp' : MemPlace.cell b off∈before:=by rw[hps]; simpa using hp
   rw[hk.frozen _ (hlt _ hp')]
   exact hz b off hp'
  ·intro ha
   have:=hn ha
   rw[hps] at this
   simpa using this
  ·intro p hp _
   rw[hps]
   simpa using hp
end
end
section
def Wc (P:Program) (K:Xs) (rd:Option Nat) (c:Code) (e:Env) (h:AH) (Q:AX→Env→AH→Prop):Prop:=∃n x e' h',ex P K n rd [] c e h=some (x,e',h')∧Q x e' h'
def Wf (P:Program) (K:Xs) (f:FuncId) (args:List Value) (h:AH) (Q:Value→AH→Prop):Prop:=∃n v h',zg2 P K (ex P K n) f args h=some (v,h')∧Q v h'
def Wo (P:Program) (K:Xs) (o:Oper) (e:Env) (h:AH) (Q:Value→AH→Prop):Prop:=∃n v h',zb3 P K (ex P K n) o e h=some (v,h')∧Q v h'
def Ws (P:Program) (K:Xs) (ops:Array Oper) (os:List Oper) (e:Env) (h:AH) (Q:Env→AH→Prop):Prop:=∃n e' h',zbd P K (ex P K n) [] ops os e h=some (e',h')∧Q e' h'
def Wd (P:Program) (K:Xs) (ops:Array Oper) (e:Env) (h:AH) (Q:Env→AH→Prop):Prop:=∃n e' h',zdz P K (ex P K n) ops e h=some (e',h')∧Q e' h'
variable {P:Program} {K:Xs} {rd:Option Nat} {e:Env} {h:AH} {Q:AX→Env→AH→Prop}
theorem Wc.mono {c:Code} {Q' : AX→Env→AH→Prop} (w:Wc P K rd c e h Q) (hq:∀x e' h',Q x e' h'→Q' x e' h'):Wc P K rd c e h Q':=by
 obtain⟨n,x,e',h',h1,h2⟩:=w
 exact⟨n,x,e',h',h1,hq x e' h' h2⟩
theorem Wf.mono {f:FuncId} {args:List Value} {Q Q' : Value→AH→Prop} (w:Wf P K f args h Q) (hq:∀v h',Q v h'→Q' v h'):Wf P K f args h Q':=by
 obtain⟨n,v,h',h1,h2⟩:=w
 exact⟨n,v,h',h1,hq v h' h2⟩
theorem zb6 {c:Code}:Wc P K rd c e h Q↔∃n x e' h',zaG P K (ex P K n) rd [] c e h=some (x,e',h')∧Q x e' h':=by
 constructor
 ·rintro⟨n,x,e',h',h1,h2⟩
  cases n with
  | zero=>simp[ex] at h1
  | succ n=>exact⟨n,x,e',h',h1,h2⟩
 ·rintro⟨n,x,e',h',h1,h2⟩
  exact⟨n+1,x,e',h',h1,h2⟩
theorem znx:Wc P K rd .skip e h Q↔Q .normal e h:=by
 rw[zb6]
 exact⟨fun ⟨n,x,e',h',h1,h2⟩=>by simp[zaG] at h1; obtain⟨rfl,rfl,rfl⟩:=h1; exact h2,fun hq=>⟨0,_,_,_,rfl,hq⟩⟩
theorem zou {l:Nat}:Wc P K rd (.label l) e h Q↔Q .normal e h:=by
 rw[zb6]
 exact⟨fun ⟨n,x,e',h',h1,h2⟩=>by simp[zaG] at h1; obtain⟨rfl,rfl,rfl⟩:=h1; exact h2,fun hq=>⟨0,_,_,_,rfl,hq⟩⟩
theorem Wc_ret:Wc P K rd .ret e h Q↔Q .ret e h:=by
 rw[zb6]
 exact⟨fun ⟨n,x,e',h',h1,h2⟩=>by simp[zaG] at h1; obtain⟨rfl,rfl,rfl⟩:=h1; exact h2,fun hq=>⟨0,_,_,_,rfl,hq⟩⟩
theorem zny {i:Nat}:Wc P K rd (.exit i) e h Q↔Q (.exit i) e h:=by
 rw[zb6]
 exact⟨fun ⟨n,x,e',h',h1,h2⟩=>by simp[zaG] at h1; obtain⟨rfl,rfl,rfl⟩:=h1; exact h2,fun hq=>⟨0,_,_,_,rfl,hq⟩⟩
def onN (k:Env→AH→Prop) (Q:AX→Env→AH→Prop):AX→Env→AH→Prop
 | .normal,e,h=>k e h
 | x,e,h=>Q x e h
theorem zpv {k:Env→AH→Prop}:onN k Q .normal e h=k e h:=rfl
theorem zuA {k:Env→AH→Prop}:onN k Q .ret e h=Q .ret e h:=rfl
theorem zsE {k:Env→AH→Prop} {i:Nat}:onN k Q (.exit i) e h=Q (.exit i) e h:=rfl
theorem zvB {a b:Code}:Wc P K rd (.seq a b) e h Q↔Wc P K rd a e h (onN (fun e' h'=>Wc P K rd b e' h' Q) Q):=by
 constructor
 ·rw[zb6]
  rintro⟨n,x,e',h',h1,h2⟩
  simp only[zaG] at h1
  split at h1
  ·rename_i e1 h3 hr
   exact⟨n,_,_,_,hr,n,x,e',h',h1,h2⟩
  ·rename_i hne
   refine⟨n,x,e',h',h1,?_⟩
   cases x with
   | normal=>exact absurd h1 (hne _ _)
   | _=>exact h2
 ·rintro⟨n,x,e',h',h1,h2⟩
  rw[zb6]
  cases x with
  | normal=>
    obtain⟨m,y,e2,h3,h4,h5⟩:=h2
    refine⟨max n m,y,e2,h3,?_,h5⟩
    simp only[zaG]
    rw[zjA (Nat.le_max_left n m) _ _ _ _ _ _ h1]
    exact zjA (Nat.le_max_right n m) _ _ _ _ _ _ h4
  | exit i=>exact⟨n,_,e',h',by simp only[zaG,h1],h2⟩
  | ret=>exact⟨n,_,e',h',by simp only[zaG,h1],h2⟩
theorem zuB {c:Operand} {a b:Code} {t:Bool} (hc:ev e c=.bool t):Wc P K rd (.cond c a b) e h Q↔Wc P K rd (cond t a b) e h Q:=by
 rw[zb6]
 constructor
 ·rintro⟨n,x,e',h',h1,h2⟩
  simp only[zaG,hc] at h1
  exact⟨n,x,e',h',by cases t <;> exact h1,h2⟩
 ·rintro⟨n,x,e',h',h1,h2⟩
  refine⟨n,x,e',h',?_,h2⟩
  simp only[zaG,hc]
  cases t <;> exact h1
def zkD (id:Nat) (Q:AX→Env→AH→Prop):AX→Env→AH→Prop
 | .exit i,e,h=>cond (Nat.beq i id) (Q .normal e h) (Q (.exit i) e h)
 | x,e,h=>Q x e h
theorem zl5 {id:Nat}:zkD id Q .normal e h=Q .normal e h:=rfl
theorem zqv {id:Nat}:zkD id Q .ret e h=Q .ret e h:=rfl
theorem zpw {id:Nat}:zkD id Q (.exit id) e h=Q .normal e h:=by simp[zkD]
theorem zov {id:Nat} {c:Code}:Wc P K rd (.block id c) e h Q↔Wc P K rd c e h (zkD id Q):=by
 rw[zb6]
 constructor
 ·rintro⟨n,x,e',h',h1,h2⟩
  simp only[zaG] at h1
  split at h1
  ·rename_i i e1 h3 hr
   refine⟨n,_,_,_,hr,?_⟩
   cases hb:Nat.beq i id <;> rw[hb] at h1 <;> simp only[cond_true,cond_false,Option.some.injEq,Prod.mk.injEq] at h1 <;> obtain⟨rfl,rfl,rfl⟩:=h1 <;> simp only[zkD,hb,cond_true,cond_false] <;> exact h2
  ·rename_i hne
   refine⟨n,x,e',h',h1,?_⟩
   cases x with
   | exit i=>exact absurd h1 (hne _ _ _)
   | _=>exact h2
 ·rintro⟨n,x,e',h',h1,h2⟩
  cases x with
  | exit i=>
    simp only[zkD] at h2
    cases hb:Nat.beq i id with
    | true=>rw[hb] at h2; exact⟨n,.normal,e',h',by simp only[zaG,h1,hb,cond_true],h2⟩
    | false=>rw[hb] at h2; exact⟨n,.exit i,e',h',by simp only[zaG,h1,hb,cond_false],h2⟩
  | normal=>exact⟨n,_,e',h',by simp only[zaG,h1],h2⟩
  | ret=>exact⟨n,_,e',h',by simp only[zaG,h1],h2⟩
theorem zow {c:Code}:Wc P K rd (.scope c) e h Q↔Wc P K rd c e h Q:=by
 rw[zb6]
 exact⟨fun ⟨n,x,e',h',h1,h2⟩=>⟨n,x,e',h',h1,h2⟩,fun ⟨n,x,e',h',h1,h2⟩=>⟨n,x,e',h',h1,h2⟩⟩
theorem zuC {c:Code}:Wc P K rd (.loop c) e h Q↔Wc P K rd c e h (onN (fun e' h'=>Wc P K rd (.loop c) e' h' Q) Q):=by
 constructor
 ·rw[zb6]
  rintro⟨n,x,e',h',h1,h2⟩
  simp only[zaG] at h1
  split at h1
  ·rename_i e1 h3 hr
   exact⟨n,_,_,_,hr,n,x,e',h',h1,h2⟩
  ·rename_i hne
   refine⟨n,x,e',h',h1,?_⟩
   cases x with
   | normal=>exact absurd h1 (hne _ _)
   | _=>exact h2
 ·rintro⟨n,x,e',h',h1,h2⟩
  rw[zb6]
  cases x with
  | normal=>
    obtain⟨m,y,e2,h3,h4,h5⟩:=h2
    refine⟨max n m,y,e2,h3,?_,h5⟩
    simp only[zaG]
    rw[zjA (Nat.le_max_left n m) _ _ _ _ _ _ h1]
    exact zjA (Nat.le_max_right n m) _ _ _ _ _ _ h4
  | exit i=>exact⟨n,_,e',h',by simp only[zaG,h1],h2⟩
  | ret=>exact⟨n,_,e',h',by simp only[zaG,h1],h2⟩
theorem znz {c:Code} (I:Nat→Env→AH→Prop) (hI:∀k e h,I k e h→Wc P K rd c e h (onN (fun e' h'=>∃j,j < k∧I j e' h') Q)):∀k e h,I k e h→Wc P K rd (.loop c) e h Q:=by
 intro k
 induction k using Nat.strongRecOn with
 | ind k ih=>
   intro e h hi
   rw[zuC]
   refine (hI k e h hi).mono fun x e' h' hq=>?_
   cases x with
   | normal=>obtain⟨j,hj,hi'⟩:=hq; exact ih j hj e' h' hi'
   | exit i=>exact hq
   | ret=>exact hq
theorem zqw {id:Nat} {ops:Array Oper}:Wc P K rd (.region id ops false) e h Q↔Ws P K ops ops.toList e h (fun e' h'=>Q .normal e' h'):=by
 rw[zb6]
 constructor
 ·rintro⟨n,x,e',h',h1,h2⟩
  simp only[zaG] at h1
  split at h1
  ·rename_i e1 h3 hr
   simp only[Option.some.injEq,Prod.mk.injEq] at h1
   obtain⟨rfl,rfl,rfl⟩:=h1
   exact⟨n,_,_,hr,h2⟩
  ·simp at h1
 ·rintro⟨n,e',h',h1,h2⟩
  exact⟨n,.normal,e',h',by simp only[zaG,h1],h2⟩
theorem zuD {id:Nat} {ops:Array Oper}:Wc P K rd (.region id ops true) e h Q↔Wd P K ops e h (fun e' h'=>Q .normal e' h'):=by
 rw[zb6]
 constructor
 ·rintro⟨n,x,e',h',h1,h2⟩
  simp only[zaG] at h1
  split at h1
  ·rename_i e1 h3 hr
   simp only[Option.some.injEq,Prod.mk.injEq] at h1
   obtain⟨rfl,rfl,rfl⟩:=h1
   exact⟨n,_,_,hr,h2⟩
  ·simp at h1
 ·rintro⟨n,e',h',h1,h2⟩
  exact⟨n,.normal,e',h',by simp only[zaG,h1],h2⟩
theorem zt0 {ops:Array Oper} {Q:Env→AH→Prop}:Ws P K ops [] e h Q↔Q e h:=
 ⟨fun ⟨n,e',h',h1,h2⟩=>by simp[zbd] at h1; obtain⟨rfl,rfl⟩:=h1; exact h2,fun hq=>⟨0,_,_,rfl,hq⟩⟩
theorem ziH (d:Option Tmp):zd3 [] d e h=h:=by unfold zd3; cases d <;> rfl
theorem zwx {ops:Array Oper} {o:Oper} {os:List Oper} {Q:Env→AH→Prop} (hw:zaJ ops o e=some true):Ws P K ops (o :: os) e h Q↔Wo P K o e h (fun v h'=>Ws P K ops os (putO e o.dst v) h' Q):=by
 constructor
 ·rintro⟨n,e',h',h1,h2⟩
  simp only[zbd,hw,ziH] at h1
  split at h1
  ·rename_i v h3 hr
   exact⟨n,v,h3,hr,n,e',h',h1,h2⟩
  ·simp at h1
 ·rintro⟨n,v,h3,h1,m,e',h',h4,h5⟩
  refine⟨max n m,e',h',?_,h5⟩
  simp only[zbd,hw,ziH]
  rw[zhT (zjA (Nat.le_max_left n m)) h1]
  exact zgB (zjA (Nat.le_max_right n m)) h4
theorem zuE {ops:Array Oper} {o:Oper} {os:List Oper} {Q:Env→AH→Prop} (hw:zaJ ops o e=some false):Ws P K ops (o :: os) e h Q↔Ws P K ops os (putO e o.dst zd2) h Q:=by
 constructor
 ·rintro⟨n,e',h',h1,h2⟩
  simp only[zbd,hw] at h1
  exact⟨n,e',h',h1,h2⟩
 ·rintro⟨n,e',h',h1,h2⟩
  exact⟨n,e',h',by simp only[zbd,hw]; exact h1,h2⟩
def zj3:Op→Bool
 | .call { callee:=.value _,.. }=>true
 | _=>false
theorem zfX {r:Ex} {o:Oper} (hc:zj3 o.op=false):zb3 P K r o e h=aOp P o e h:=by
 obtain⟨d,op,t,p,af,g⟩:=o
 cases op
 case call c=>
  obtain⟨callee,args,ats⟩:=c
  cases callee
  case value f=>simp[zj3] at hc
  all_goals rfl
 all_goals rfl
theorem zox {o:Oper} {Q:Value→AH→Prop} (hc:zj3 o.op=false) {v:Value} {h' : AH} (ha:aOp P o e h=some (v,h')):Wo P K o e h Q↔Q v h':=by
 constructor
 ·rintro⟨n,v1,h1,h2,h3⟩
  rw[zfX hc,ha] at h2
  simp only[Option.some.injEq,Prod.mk.injEq] at h2
  obtain⟨rfl,rfl⟩:=h2
  exact h3
 ·intro hq
  exact⟨0,v,h',by rw[zfX hc,ha],hq⟩
theorem zuF {d:Option Tmp} {f:Operand} {args:Array Operand} {ats:Array TypeId} {t:TypeId} {p:String} {af:Array Edge} {gd:Option (Nat×Bool)} {Q:Value→AH→Prop} {g:FuncId} {first cap:Array Value} (hf:ev e f=.func (.func g) first cap):
 Wo P K ⟨d,.call ⟨.value f,args,ats⟩,t,p,af,gd⟩ e h Q↔Wf P K g (first.toList ++ args.toList.map (ev e) ++ cap.toList) h Q:=by
 unfold Wo Wf
 simp only[zb3,zd4,hf]
theorem zg7 {r:Ex} {f:FuncId} {args:List Value} (hk:K f=none):zg2 P K r f args h=zhE P r f args h:=by
 unfold zg2 zdn
 rw[hk]
theorem zsF {f:FuncId} {args:List Value} {Q:Value→AH→Prop} {fn:Func} {c:Code} (hk:K f=none) (hf:P.funcs[f]?= some fn) (hc:fn.body=some c):
 Wf P K f args h Q↔Wc P K none c (Tr.ofList args) h (fun x e' h'=>(x=.normal∨x=.ret)∧∃v,zcJ P e' h' fn.results.toList=some v∧Q v h'):=by
 constructor
 ·rintro⟨n,v,h',h1,h2⟩
  rw[zg7 hk] at h1
  unfold zhE at h1
  simp only[hf,hc] at h1
  split at h1
  ·rename_i e1 h3 hr
   split at h1
   ·rename_i v0 hv
    simp only[Option.some.injEq,Prod.mk.injEq] at h1
    obtain⟨rfl,rfl⟩:=h1
    exact⟨n,_,_,_,hr,.inl rfl,_,hv,h2⟩
   ·simp at h1
  ·rename_i e1 h3 hr
   split at h1
   ·rename_i v0 hv
    simp only[Option.some.injEq,Prod.mk.injEq] at h1
    obtain⟨rfl,rfl⟩:=h1
    exact⟨n,_,_,_,hr,.inr rfl,_,hv,h2⟩
   ·simp at h1
  ·simp at h1
 ·rintro⟨n,x,e',h',h1,hx,v,h2,h3⟩
  refine⟨n,v,h',?_,h3⟩
  rw[zg7 hk]
  unfold zhE
  simp only[hf,hc]
  rcases hx with rfl | rfl
  ·rw[h1]; simp only[h2]
  ·rw[h1]; simp only[h2]
theorem zvC {f:FuncId} {args:List Value} {Q:Value→AH→Prop} {g:List Value→AH→Option (Value×AH)} (hk:K f=some (.ext g)) {v:Value} {h' : AH} (hg:g args h=some (v,h')) (hn:h.next≤h'.next) (hq:Q v h'):
 Wf P K f args h Q:=by
 refine⟨0,v,h',?_,hq⟩
 unfold zg2 grown
 rw[hk]
 simp only[hg]
 have:Nat.ble h.next h'.next=true:=Nat.ble_eq_true_of_le hn
 simp only[this]
theorem zsG (G:zd7 P) (X:zb5 P K) {f:FuncId} {args:List Value} (hk:K f=none) (w0:Wf P K f args h (fun v _=>v=.bool true)) {φ:Fi} {w:World} {args' : Array Value}
 (hr:R P φ h w) (hf:∀b,h.next≤b→φ b=none) (hro:zsC h) (ha:AR φ args args'.toList):
 Calls P f args' w fun e w'=>e=.returned (.bool true)∧zp6 w w':=by
 obtain⟨n,v,h',h1,rfl⟩:=w0
 rw[zg7 hk] at h1
 refine zpt (K:=K) (n:=n) (h':=h') G X ?_ hr hf hro ha
 unfold zdn
 rw[hk]
 exact h1
end
section
variable {P:Program} {K:Xs} {e:Env} {h:AH}
def onS (y:Option (Value×AH)) (Q:Value→AH→Prop):Prop:=match y with | some z=>Q z.1 z.2 | none=>False
def ks (P:Program) (K:Xs) (ops:Array Oper) (os:List Oper) (d:Option Tmp) (e:Env) (Q:Env→AH→Prop):Value→AH→Prop:=fun v h'=>Ws P K ops os (putO e d v) h' Q
def kc (P:Program) (K:Xs) (rd:Option Nat) (b:Code) (Q:AX→Env→AH→Prop):Env→AH→Prop:=fun e h=>Wc P K rd b e h Q
def kn (Q:AX→Env→AH→Prop):Env→AH→Prop:=fun e h=>Q .normal e h
theorem zco {o:Oper} {Q:Value→AH→Prop} (hc:zj3 o.op=false):Wo P K o e h Q=onS (aOp P o e h) Q:=by
 cases ha:aOp P o e h with
 | none=>
   refine propext ⟨?_,fun hq=>hq.elim⟩
   rintro⟨n,v1,h1,h2,h3⟩
   rw[zfX hc,ha] at h2
   simp at h2
 | some y=>exact propext (zox hc ha)
theorem zuG {dst:Option Tmp} (x:Operand) {t:TypeId} {p:String} {af:Array Edge} {gd:Option (Nat×Bool)} {Q:Value→AH→Prop}:Wo P K ⟨dst,.move x,t,p,af,gd⟩ e h Q=onS (aOp P ⟨dst,.move x,t,p,af,gd⟩ e h) Q:=zco rfl
theorem zqx {dst:Option Tmp} (x:Operand) {t:TypeId} {p:String} {af:Array Edge} {gd:Option (Nat×Bool)} {Q:Value→AH→Prop}:Wo P K ⟨dst,.assign x,t,p,af,gd⟩ e h Q=onS (aOp P ⟨dst,.assign x,t,p,af,gd⟩ e h) Q:=zco rfl
theorem zuH {dst:Option Tmp} (c a b:Operand) {t:TypeId} {p:String} {af:Array Edge} {gd:Option (Nat×Bool)} {Q:Value→AH→Prop}:Wo P K ⟨dst,.pick c a b,t,p,af,gd⟩ e h Q=onS (aOp P ⟨dst,.pick c a b,t,p,af,gd⟩ e h) Q:=zco rfl
theorem zsH {dst:Option Tmp} (ty:TypeId) {t:TypeId} {p:String} {af:Array Edge} {gd:Option (Nat×Bool)} {Q:Value→AH→Prop}:Wo P K ⟨dst,.alloc ty,t,p,af,gd⟩ e h Q=onS (aOp P ⟨dst,.alloc ty,t,p,af,gd⟩ e h) Q:=zco rfl
theorem zvD {dst:Option Tmp} (ty:TypeId) (x:Operand) {t:TypeId} {p:String} {af:Array Edge} {gd:Option (Nat×Bool)} {Q:Value→AH→Prop}:Wo P K ⟨dst,.box ty x,t,p,af,gd⟩ e h Q=onS (aOp P ⟨dst,.box ty x,t,p,af,gd⟩ e h) Q:=zco rfl
theorem zsI {dst:Option Tmp} (ty:TypeId) (ps:Array (Nat×Operand)) {t:TypeId} {p:String} {af:Array Edge} {gd:Option (Nat×Bool)} {Q:Value→AH→Prop}:Wo P K ⟨dst,.build ty ps,t,p,af,gd⟩ e h Q=onS (aOp P ⟨dst,.build ty ps,t,p,af,gd⟩ e h) Q:=zco rfl
theorem zkE {dst:Option Tmp} (ty:TypeId) (n:Nat) (ps:Array (Nat×Operand)) {t:TypeId} {p:String} {af:Array Edge} {gd:Option (Nat×Bool)} {Q:Value→AH→Prop}:Wo P K ⟨dst,.buildSlice ty n ps,t,p,af,gd⟩ e h Q=onS (aOp P ⟨dst,.buildSlice ty n ps,t,p,af,gd⟩ e h) Q:=zco rfl
theorem zuI {dst:Option Tmp} (ty:TypeId) (x:Operand) {t:TypeId} {p:String} {af:Array Edge} {gd:Option (Nat×Bool)} {Q:Value→AH→Prop}:Wo P K ⟨dst,.load ty x,t,p,af,gd⟩ e h Q=onS (aOp P ⟨dst,.load ty x,t,p,af,gd⟩ e h) Q:=zco rfl
theorem zsJ {dst:Option Tmp} (ty:TypeId) (x y:Operand) {t:TypeId} {p:String} {af:Array Edge} {gd:Option (Nat×Bool)} {Q:Value→AH→Prop}:Wo P K ⟨dst,.store ty x y,t,p,af,gd⟩ e h Q=onS (aOp P ⟨dst,.store ty x y,t,p,af,gd⟩ e h) Q:=zco rfl
theorem znA {dst:Option Tmp} (x:Operand) {t:TypeId} {p:String} {af:Array Edge} {gd:Option (Nat×Bool)} {Q:Value→AH→Prop}:Wo P K ⟨dst,.nilCheck x,t,p,af,gd⟩ e h Q=onS (aOp P ⟨dst,.nilCheck x,t,p,af,gd⟩ e h) Q:=zco rfl
theorem zsK {dst:Option Tmp} (op:BinOp) (ty:TypeId) (x y:Operand) (yt:TypeId) {t:TypeId} {p:String} {af:Array Edge} {gd:Option (Nat×Bool)} {Q:Value→AH→Prop}:Wo P K ⟨dst,.binOp op ty x y yt,t,p,af,gd⟩ e h Q=onS (aOp P ⟨dst,.binOp op ty x y yt,t,p,af,gd⟩ e h) Q:=zco rfl
theorem zuJ {dst:Option Tmp} (op:UnOp) (ty:TypeId) (x:Operand) {t:TypeId} {p:String} {af:Array Edge} {gd:Option (Nat×Bool)} {Q:Value→AH→Prop}:Wo P K ⟨dst,.unOp op ty x,t,p,af,gd⟩ e h Q=onS (aOp P ⟨dst,.unOp op ty x,t,p,af,gd⟩ e h) Q:=zco rfl
theorem zpx {dst:Option Tmp} (s d:TypeId) (x:Operand) {t:TypeId} {p:String} {af:Array Edge} {gd:Option (Nat×Bool)} {Q:Value→AH→Prop}:Wo P K ⟨dst,.convert s d x,t,p,af,gd⟩ e h Q=onS (aOp P ⟨dst,.convert s d x,t,p,af,gd⟩ e h) Q:=zco rfl
theorem znB {dst:Option Tmp} (fn:Fn) (a b:Array Operand) {t:TypeId} {p:String} {af:Array Edge} {gd:Option (Nat×Bool)} {Q:Value→AH→Prop}:Wo P K ⟨dst,.makeFunc fn a b,t,p,af,gd⟩ e h Q=onS (aOp P ⟨dst,.makeFunc fn a b,t,p,af,gd⟩ e h) Q:=zco rfl
theorem zpy {dst:Option Tmp} (ty:TypeId) (r:Option Operand) {t:TypeId} {p:String} {af:Array Edge} {gd:Option (Nat×Bool)} {Q:Value→AH→Prop}:Wo P K ⟨dst,.makeMap ty r,t,p,af,gd⟩ e h Q=onS (aOp P ⟨dst,.makeMap ty r,t,p,af,gd⟩ e h) Q:=zco rfl
theorem zl6 {dst:Option Tmp} (ty:TypeId) (l c:Operand) {t:TypeId} {p:String} {af:Array Edge} {gd:Option (Nat×Bool)} {Q:Value→AH→Prop}:Wo P K ⟨dst,.makeSlice ty l c,t,p,af,gd⟩ e h Q=onS (aOp P ⟨dst,.makeSlice ty l c,t,p,af,gd⟩ e h) Q:=zco rfl
theorem zsL {dst:Option Tmp} (ty:TypeId) (x:Operand) (lo hi mx:Option Operand) {t:TypeId} {p:String} {af:Array Edge} {gd:Option (Nat×Bool)} {Q:Value→AH→Prop}:Wo P K ⟨dst,.slice ty x lo hi mx,t,p,af,gd⟩ e h Q=onS (aOp P ⟨dst,.slice ty x lo hi mx,t,p,af,gd⟩ e h) Q:=zco rfl
theorem zl7 {dst:Option Tmp} (ty:TypeId) (x:Operand) (f:Nat) {t:TypeId} {p:String} {af:Array Edge} {gd:Option (Nat×Bool)} {Q:Value→AH→Prop}:Wo P K ⟨dst,.fieldAddr ty x f,t,p,af,gd⟩ e h Q=onS (aOp P ⟨dst,.fieldAddr ty x f,t,p,af,gd⟩ e h) Q:=zco rfl
theorem zsM {dst:Option Tmp} (ty:TypeId) (x:Operand) (f:Nat) {t:TypeId} {p:String} {af:Array Edge} {gd:Option (Nat×Bool)} {Q:Value→AH→Prop}:Wo P K ⟨dst,.field ty x f,t,p,af,gd⟩ e h Q=onS (aOp P ⟨dst,.field ty x f,t,p,af,gd⟩ e h) Q:=zco rfl
theorem zl8 {dst:Option Tmp} (ty:TypeId) (x i:Operand) {t:TypeId} {p:String} {af:Array Edge} {gd:Option (Nat×Bool)} {Q:Value→AH→Prop}:Wo P K ⟨dst,.indexAddr ty x i,t,p,af,gd⟩ e h Q=onS (aOp P ⟨dst,.indexAddr ty x i,t,p,af,gd⟩ e h) Q:=zco rfl
theorem zsN {dst:Option Tmp} (ty:TypeId) (x i:Operand) {t:TypeId} {p:String} {af:Array Edge} {gd:Option (Nat×Bool)} {Q:Value→AH→Prop}:Wo P K ⟨dst,.index ty x i,t,p,af,gd⟩ e h Q=onS (aOp P ⟨dst,.index ty x i,t,p,af,gd⟩ e h) Q:=zco rfl
theorem zqy {dst:Option Tmp} (ty:TypeId) (x i:Operand) (ok:Bool) {t:TypeId} {p:String} {af:Array Edge} {gd:Option (Nat×Bool)} {Q:Value→AH→Prop}:Wo P K ⟨dst,.lookup ty x i ok,t,p,af,gd⟩ e h Q=onS (aOp P ⟨dst,.lookup ty x i ok,t,p,af,gd⟩ e h) Q:=zco rfl
theorem zl9 {dst:Option Tmp} (ty:TypeId) (m k v:Operand) {t:TypeId} {p:String} {af:Array Edge} {gd:Option (Nat×Bool)} {Q:Value→AH→Prop}:Wo P K ⟨dst,.mapUpdate ty m k v,t,p,af,gd⟩ e h Q=onS (aOp P ⟨dst,.mapUpdate ty m k v,t,p,af,gd⟩ e h) Q:=zco rfl
theorem zsO {dst:Option Tmp} (ty:TypeId) (x:Operand) {t:TypeId} {p:String} {af:Array Edge} {gd:Option (Nat×Bool)} {Q:Value→AH→Prop}:Wo P K ⟨dst,.range ty x,t,p,af,gd⟩ e h Q=onS (aOp P ⟨dst,.range ty x,t,p,af,gd⟩ e h) Q:=zco rfl
theorem zuK {dst:Option Tmp} (x:Operand) (s:Bool) {t:TypeId} {p:String} {af:Array Edge} {gd:Option (Nat×Bool)} {Q:Value→AH→Prop}:Wo P K ⟨dst,.next x s,t,p,af,gd⟩ e h Q=onS (aOp P ⟨dst,.next x s,t,p,af,gd⟩ e h) Q:=zco rfl
theorem zpz {dst:Option Tmp} (x:Operand) (i:Nat) {t:TypeId} {p:String} {af:Array Edge} {gd:Option (Nat×Bool)} {Q:Value→AH→Prop}:Wo P K ⟨dst,.extract x i,t,p,af,gd⟩ e h Q=onS (aOp P ⟨dst,.extract x i,t,p,af,gd⟩ e h) Q:=zco rfl
theorem zpA {dst:Option Tmp} {bi:Builtin} {args:Array Operand} {ats:Array TypeId} {t:TypeId} {p:String} {af:Array Edge} {gd:Option (Nat×Bool)} {Q:Value→AH→Prop}:Wo P K ⟨dst,.call ⟨.builtin bi,args,ats⟩,t,p,af,gd⟩ e h Q=onS (aOp P ⟨dst,.call ⟨.builtin bi,args,ats⟩,t,p,af,gd⟩ e h) Q:=zco rfl
attribute [simp ↓] znx zou Wc_ret zny zov zow zt0 zuG zqx zuH zsH zvD zsI zkE zuI zsJ znA zsK zuJ zpx znB zpy zl6 zsL zl7 zsM zl8 zsN zqy zl9 zsO zuK zpz zpA
attribute [simp] zpv zuA zsE zl5 zqv zpw
def onG (g:Option Bool) (A B:Prop):Prop:=match g with | some true=>A | some false=>B | none=>False
def Wl (P:Program) (K:Xs) (ops:Array Oper) (os:List Nat) (e:Env) (h:AH) (Q:List (Env×AH)→Prop):Prop:=∃n l,zeB P K (ex P K n) ops os e h=some l∧Q l
@[simp ↓] theorem zvE {ops:Array Oper} {Q:List (Env×AH)→Prop}:Wl P K ops [] e h Q=Q [(e,h)]:=
  propext ⟨fun ⟨n,l,h1,h2⟩=>by simp[zeB] at h1; subst h1; exact h2,fun hq=>⟨0,_,rfl,hq⟩⟩
def onO (o:Option Oper) (k:Oper→Prop):Prop:=match o with | some o=>k o | none=>False
@[simp ↓] theorem zsP {o:Oper} {k:Oper→Prop}:onO (some o) k=k o:=rfl
def kl (P:Program) (K:Xs) (ops:Array Oper) (js:List Nat) (d:Option Tmp) (e:Env) (Q:List (Env×AH)→Prop):Value→AH→Prop:=fun v h'=>Wl P K ops js (putO e d v) h' Q
def kp (e:Env) (h:AH) (Q:List (Env×AH)→Prop):List (Env×AH)→Prop:=fun l=>Q ((e,h) :: l)
@[simp ↓] theorem zwy {ops:Array Oper} {js:List Nat} {d:Option Tmp} {Q:List (Env×AH)→Prop} {v:Value}:kl P K ops js d e Q v h=Wl P K ops js (putO e d v) h Q:=rfl
@[simp ↓] theorem zvF {Q:List (Env×AH)→Prop} {l:List (Env×AH)}:kp e h Q l=Q ((e,h) :: l):=rfl
def ko (P:Program) (K:Xs) (ops:Array Oper) (js:List Nat) (e:Env) (h:AH) (Q:List (Env×AH)→Prop):Oper→Prop:=fun o=>onG (zaJ ops o e) (Wo P K o e h (kl P K ops js o.dst e (kp e h Q))) (Wl P K ops js (putO e o.dst zd2) h (kp e h Q))
@[simp ↓] theorem zvG {ops:Array Oper} {js:List Nat} {Q:List (Env×AH)→Prop} {o:Oper}:ko P K ops js e h Q o=onG (zaJ ops o e) (Wo P K o e h (kl P K ops js o.dst e (kp e h Q))) (Wl P K ops js (putO e o.dst zd2) h (kp e h Q)):=rfl
def kd (Q:Env→AH→Prop):List (Env×AH)→Prop:=fun l=>∃y,l.getLast?= some y∧Q y.1 y.2
theorem zqz {ops:Array Oper} {j:Nat} {js:List Nat} {Q:List (Env×AH)→Prop}:Wl P K ops (j :: js) e h Q =
 onO ops[j]? (ko P K ops js e h Q):=by
 cases ho:ops[j]? with
 | none=>
   refine propext ⟨?_,fun hq=>hq.elim⟩
   rintro⟨n,l,h1,h2⟩
   simp[zeB,ho] at h1
 | some o=>
   simp only[onO,zvG]
   cases hw:zaJ ops o e with
   | none=>
     refine propext ⟨?_,fun hq=>hq.elim⟩
     rintro⟨n,l,h1,h2⟩
     simp[zeB,ho,hw] at h1
   | some b=>
     cases b with
     | true=>
       simp only[onG]
       refine propext ⟨?_,?_⟩
       ·rintro⟨n,l,h1,h2⟩
        simp only[zeB,ho,hw] at h1
        split at h1
        ·rename_i v h3 hr
         split at h1
         ·rename_i l2 hl2
          simp only[Option.some.injEq] at h1
          subst h1
          exact⟨n,v,h3,hr,n,l2,hl2,h2⟩
         ·simp at h1
        ·simp at h1
       ·rintro⟨n,v,h3,h1,m,l,h4,h5⟩
        refine⟨max n m,(e,h) :: l,?_,h5⟩
        simp only[zeB,ho,hw]
        rw[zhT (zjA (Nat.le_max_left n m)) h1]
        simp only
        rw[zkz (zjA (Nat.le_max_right n m)) h4]
     | false=>
       simp only[onG]
       refine propext ⟨?_,?_⟩
       ·rintro⟨n,l,h1,h2⟩
        simp only[zeB,ho,hw] at h1
        split at h1
        ·rename_i l2 hl2
         simp only[Option.some.injEq] at h1
         subst h1
         exact⟨n,l2,hl2,h2⟩
        ·simp at h1
       ·rintro⟨n,l,h4,h5⟩
        exact⟨n,(e,h) :: l,by simp only[zeB,ho,hw,h4],h5⟩
theorem zuL {ops:Array Oper} {Q:Env→AH→Prop} {ord:List Nat} {ps:List (Nat×Nat)} (hp:zvw P ops=some (ord,ps)):
 Wd P K ops e h Q=Wl P K ops ord e h (fun l=>ps.all (fun p=>zbU P ops ord l p.1 p.2 && zbU P ops ord l p.1 (p.2+1))=true∧∃y,l.getLast?= some y∧Q y.1 y.2):=by
 refine propext ⟨?_,?_⟩
 ·rintro⟨n,e',h',h1,h2⟩
  unfold zdz at h1
  rw[hp] at h1
  simp only at h1
  split at h1
  ·rename_i l hl
   split at h1
   ·rename_i hall
    exact⟨n,l,hl,hall,(e',h'),h1,h2⟩
   ·simp at h1
  ·simp at h1
 ·rintro⟨n,l,hl,hall,y,h1,h2⟩
  refine⟨n,y.1,y.2,?_,h2⟩
  unfold zdz
  rw[hp]
  simp only[hl,hall,h1]
attribute [simp ↓] zqz
theorem zuM {r:Ex} {ops:Array Oper}:∀{os:List Nat} {e:Env} {h:AH} {l:List (Env×AH)},zeB P K r ops os e h=some l→l≠[]
 | [],e,h,l,hr=>by
   simp only[zeB,Option.some.injEq] at hr
   rw[←hr]
   simp
 | j :: js,e,h,l,hr=>by
   unfold zeB at hr
   split at hr
   ·split at hr
    ·split at hr
     ·split at hr
      ·simp only[Option.some.injEq] at hr
       rw[←hr]
       simp
      ·simp at hr
     ·simp at hr
    ·split at hr
     ·simp only[Option.some.injEq] at hr
      rw[←hr]
      simp
     ·simp at hr
    ·simp at hr
   ·simp at hr
def Wj (P:Program) (K:Xs) (ops:Array Oper) (os:List Nat) (e:Env) (h:AH) (Q:Env→AH→Prop):Prop:=Wl P K ops os e h (kd Q)
def kj (P:Program) (K:Xs) (ops:Array Oper) (js:List Nat) (d:Option Tmp) (e:Env) (Q:Env→AH→Prop):Value→AH→Prop:=fun v h'=>Wj P K ops js (putO e d v) h' Q
attribute [simp] zfK
@[simp] theorem ziI {d:Tmp} {v:Value}:putO e (some d) v=e.set d v:=rfl
attribute [simp] Tr.get_set Tr.get_ofList AH.get_set AH.get_alloc AH.get_del
attribute [simp] zh9
end
section
variable {P:Program} {K:Xs} {e:Env} {h:AH}
theorem zkF {α:Type} (l:List α) (i:Nat) (v:α) (hi:i < l.length):l.take i ++ [v] ++ l.drop (i+1)=l.set i v:=by
 rw[List.set_eq_take_append_cons_drop,if_pos hi]
 simp
def zvH:Value→Bool
 | .agg _ | .tuple _=>false
 | _=>true
theorem zpB {v:Value} (hv:zvH v=true):v.cells=#[v]:=by cases v <;> first | rfl | (simp[zvH] at hv)
def zuN (y:Option AObj) (off:Nat):Option Value:=match y with | some (.cells cs _ _)=>cs[off]? | _=>none
def zuO (y:Option AObj) (off n:Nat):Option Value:=match y with | some (.cells cs _ _)=>if off+n≤cs.length then some (.agg ((cs.drop off).take n).toArray) else none | _=>none
@[simp] theorem zqA {t:TypeId} {b off:Nat} (ht:zpg P t=some false):zia P h t (.pointer (some ⟨b,off,none⟩))=zuN (h.get b) off:=by
  simp only[zia,zuN]
  cases hb:h.get b with
  | none=>rfl
  | some o=>cases o <;> simp[ht]
@[simp] theorem zqB {t:TypeId} {b off:Nat} (ht:zpg P t=some true):zia P h t (.pointer (some ⟨b,off,none⟩))=zuO (h.get b) off (P.cellsOf t):=by
  simp only[zia,zuO]
  cases hb:h.get b with
  | none=>rfl
  | some o=>cases o <;> simp[ht]
def zma (h:AH) (b off:Nat) (v:Value) (y:Option AObj):Option AH:=match y with | some (.cells cs e false)=>if off < cs.length then some (h.set b (.cells (cs.set off v) e false)) else none | _=>none
theorem zpC {t:TypeId} {b off:Nat} {v:Value} (h1:P.cellsOf t=1) (h2:(P.info? t).isSome=true) (hv:zvH v=true):zex P h t (.pointer (some ⟨b,off,none⟩)) v=zma h b off v (h.get b):=by
 have hc:=zpB hv
 have key:zay h b off [v]=zma h b off v (h.get b):=by
  simp only[zay,zma]
  cases hb:h.get b with
  | none=>rfl
  | some o=>
    cases o with
    | cells cs e ro=>
      cases ro with
      | true=>rfl
      | false=>
        simp only[List.length_singleton]
        by_cases hl:off < cs.length
        ·rw[if_pos hl,if_pos (by omega),zkF _ _ _ hl]
        ·rw[if_neg hl,if_neg (by omega)]
    | _=>rfl
 unfold zex
 cases v <;> first | (simp[zvH] at hv; done) | (simp[hc,h1,h2]; exact key)
def zmb (h:AH) (b off:Nat) (vs:List Value) (y:Option AObj):Option AH:=match y with | some (.cells cs e false)=>if off+vs.length≤cs.length then some (h.set b (.cells (cs.take off ++ vs ++ cs.drop (off+vs.length)) e false)) else none | _=>none
theorem zjC {b off:Nat} {vs:List Value}:zay h b off vs=zmb h b off vs (h.get b):=by
 simp only[zay,zmb]
 cases hb:h.get b with
 | none=>rfl
 | some o=>cases o <;> first | rfl | (rename_i ro; cases ro <;> rfl)
@[simp] theorem zpD {t:TypeId} {b off:Nat} {vs:Array Value} (h2:(P.info? t).isSome=true):zex P h t (.pointer (some ⟨b,off,none⟩)) (.agg vs)=if vs.size=P.cellsOf t then zmb h b off vs.toList (h.get b) else none:=by
  simp[zex,zjC,h2,Value.cells]
@[simp] theorem zb7 {st xt:TypeId} {s x:Value} {elem:TypeId} (hx:P.underlying xt=some (.slice elem)):zan P h .append #[st,xt] [s,x]=zcS P h st false s x:=by simp[zan,hx]
theorem zsQ {x:Int} (h1:-9223372036854775808≤x) (h2:x≤9223372036854775807):IntKind.i64.wrap x=x:=by
 simp[IntKind.wrap,IntKind.bits,IntKind.signed]
 omega
theorem zsR {x:Int} (h1:0≤x) (h2:x≤18446744073709551615):IntKind.u64.wrap x=x:=by
 simp[IntKind.wrap,IntKind.bits,IntKind.signed]
 omega
end
end Go.Am
