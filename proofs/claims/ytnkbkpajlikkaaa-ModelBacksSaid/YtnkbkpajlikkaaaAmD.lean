/-
  THE ABSTRACT MACHINE IS SOUND: regions that are drawn. One operation more.
-/
import Derived.Test.YtnkbkpajlikkaaaAmC
import Derived.Orders
import Derived.ChangeSame
set_option linter.unusedVariables false
set_option linter.unusedSimpArgs false
namespace Go.Am
section
variable {P:Program} {K:Xs} {r:Ex} {ops:Array Oper} {n:Nat} {J:Nat→Nat} {O:Nat→Oper} {E:Nat→Env} {H:Nat→AH} {V:Nat→Value}
variable {φ0 φ φ' : Fi} {w0 w w' : World} {D:Nat→Prop} {m:Nat}

theorem get_putO_self (e:Env) (d:Tmp) (v:Value):(putO e (some d) v).get d=some v:=by simp[putO,Tr.get_set]
theorem get_putO_ne (e:Env) (x:Option Tmp) (d:Tmp) (v:Value) (h:x≠some d):(putO e x v).get d=e.get d:=by
 cases x with
 | none=>rfl
 | some t=>simp only[putO,Tr.get_set]; rw[if_neg (fun q=>h (by rw[q]))]
structure EnvD (n:Nat) (O:Nat→Oper) (E:Nat→Env) (V:Nat→Value) (D:Nat→Prop) (e:Env):Prop where
 done:∀p,p < n→D p→∀d,(O p).dst=some d→e.get d=some (V p)
 rest:∀d,(∀p,p < n→D p→(O p).dst≠some d)→e.get d=(E 0).get d
theorem Txt.unlike (T:Txt P K r ops n J O E H V) {p q:Nat} (hp:p < n) (hq:q < n) (h:p≠q) {d:Tmp} (hd:(O p).dst=some d):(O q).dst≠some d:=by
 rcases Nat.lt_or_ge p q with h1 | h1
 ·exact (T.pair p q h1 hq).1 d hd
 ·intro h2
  exact (T.pair q p (by omega) hp).1 d h2 hd
theorem EnvD.put (T:Txt P K r ops n J O E H V) {e:Env} (k:EnvD n O E V D e) {p:Nat} (hp:p < n) (hnd:¬D p):EnvD n O E V (fun x=>x=p∨D x) (putO e (O p).dst (V p)):=by
 refine⟨fun q hq hd d hdst=>?_,fun d hd=>?_⟩
 ·by_cases hqp:q=p
  ·subst hqp
   rw[hdst]
   exact get_putO_self _ _ _
  ·rw[get_putO_ne _ _ _ _ (T.unlike hq hp hqp hdst)]
   exact k.done q hq (hd.resolve_left hqp) d hdst
 ·rw[get_putO_ne _ _ _ _ (hd p hp (.inl rfl))]
  exact k.rest d (fun q hq hdq=>hd q hq (.inr hdq))
theorem EnvD.congr {D' : Nat→Prop} {e:Env} (k:EnvD n O E V D e) (h:∀p,p < n→(D p↔D' p)):EnvD n O E V D' e:=
 ⟨fun p hp hd=>k.done p hp ((h p hp).2 hd),fun d hd=>k.rest d (fun p hp hdp=>hd p hp ((h p hp).1 hdp))⟩
theorem Txt.envAt (T:Txt P K r ops n J O E H V):∀p,p≤n→EnvD n O E V (·< p) (E p):=by
 intro p
 induction p with
 | zero=>exact fun _=>⟨fun p _ h=>absurd h (Nat.not_lt_zero _),fun _ _=>rfl⟩
 | succ p ih=>
   intro hp
   rw[T.env p (by omega)]
   exact (EnvD.put T (ih (by omega)) (by omega) (Nat.lt_irrefl p)).congr fun q _=>⟨fun h=>by omega,fun h=>by omega⟩
theorem Txt.looksEq (T:Txt P K r ops n J O E H V) {e:Env} (k:EnvD n O E V D e) {p:Nat} (hp:p < n) (hnd:¬D p) (hC:∀p q,p < n→q < n→D q→Bf ops J q p→D p) (hR:∀q,q < n→Bf ops J p q→D q):
 ∀t∈looks ops (O p),e.get t=(E p).get t:=by
 intro t ht
 have kp:=T.envAt p (by omega)
 by_cases hex:∃q,q < n∧(O q).dst=some t
 ·obtain⟨q,hq,hdst⟩:=hex
  rcases Nat.lt_trichotomy q p with hlt | heq | hgt
  ·rcases (T.pair q p hlt hp).2 with hb | ⟨hb,_⟩
   ·rw[k.done q hq (hR q hq hb) t hdst,kp.done q hq hlt t hdst]
   ·exact absurd ht (hb t hdst)
  ·subst heq
   rw[k.rest t (fun x hx hdx=>T.unlike hq hx (fun e=>hnd (e▸hdx)) hdst),kp.rest t (fun x hx hdx=>T.unlike hq hx (fun e=>by subst e; exact Nat.lt_irrefl _ hdx) hdst)]
  ·rcases (T.pair p q hgt hq).2 with hb | ⟨_,hb,_⟩
   ·have hnq:¬D q:=fun hd=>hnd (hC p q hp hq hd hb)
    rw[k.rest t (fun x hx hdx=>T.unlike hq hx (fun e=>hnq (e▸hdx)) hdst),kp.rest t (fun x hx hdx=>T.unlike hq hx (fun e=>by subst e; have:q < p:=hdx; omega) hdst)]
   ·exact absurd ht (hb t hdst)
 ·have hno:∀q,q < n→(O q).dst≠some t:=fun q hq hd=>hex ⟨q,hq,hd⟩
  rw[k.rest t (fun x hx _=>hno x hx),kp.rest t (fun x hx _=>hno x hx)]
theorem first_write (O:Nat→Oper) (P:Program) (m:Nat):∀k,(∀p,m≤p→p < m+k→opKind P (O p).op≠3)∨∃q,m≤q∧q < m+k∧opKind P (O q).op=3∧∀p,m≤p→p < q→opKind P (O p).op≠3
 | 0=>.inl fun p h1 h2=>by omega
 | k+1=>by
   rcases first_write O P m k with h | ⟨q,h1,h2,h3,h4⟩
   ·by_cases hk:opKind P (O (m+k)).op=3
    ·exact .inr ⟨m+k,by omega,by omega,hk,h⟩
    ·refine .inl fun p h1 h2=>?_
     rcases Nat.lt_or_ge p (m+k) with hlt | hge
     ·exact h p h1 hlt
     ·have:p=m+k:=by omega
      subst this
      exact hk
   ·exact .inr ⟨q,h1,by omega,h3,h4⟩
theorem R.empty (x:Nat):R P φ ⟨.nil,x⟩ w:=⟨fun b o rc h=>by simp[AH.get,Tr.get_nil] at h,fun b1 b2 o1 o2 r1 r2 h=>by simp[AH.get,Tr.get_nil] at h,fun b o h=>by simp[AH.get,Tr.get_nil] at h⟩
theorem Mid.freeAt (T:Txt P K r ops n J O E H V) {N:Nat} (hF:Free φ0 (H 0).next N) (hN:(H n).next≤N) (M:Mid P n O H φ0 w0 D m φ w) {p:Nat} (hp:p < n) (hnd:¬D p):Free φ (H p).next (H (p+1)).next:=by
 intro b h1 h2
 cases hb:φ b with
 | none=>rfl
 | some rc=>
   exfalso
   rcases M.dom b (by simp[hb]) with hq | ⟨q,hq,hd,g1,g2⟩
   ·have e1:=T.mono 0 p (by omega) (by omega)
    have e2:=T.mono (p+1) n (by omega) (by omega)
    exact hq (hF b (by omega) (by omega))
   ·have:=T.disjoint hp hq h1 h2 g1 g2
    exact hnd (this▸hd)
theorem Mid.doOp (Op:SOp P K r) (T:Txt P K r ops n J O E H V) {N:Nat} (hF:Free φ0 (H 0).next N) (hN:(H n).next≤N) (M:Mid P n O H φ0 w0 D m φ w) {e:Env} {a:Array Value} (k:EnvD n O E V D e) (ke:EnvR φ e a)
 {p:Nat} (hp:p < n) (hnd:¬D p) (hC:∀p q,p < n→q < n→D q→Bf ops J q p→D p) (hR:∀q,q < n→Bf ops J p q→D q) (hsz:∀t,(O p).dst=some t→t < a.size)
 (ds:List Deferred) (b:Frame) (todo:List Item) (cs:List Frame) (rest:List Nat):
 ∃m' φ' a' w' e',Mid P n O H φ0 w0 (fun x=>x=p∨D x) m' φ' w'∧EnvD n O E V (fun x=>x=p∨D x) e'∧EnvR φ' e' a'∧a'.size=a.size∧
  Steps P (lone (At b a ds (.inRegion ops (J p :: rest) :: todo)) cs w) (lone (At b a' ds (.inRegion ops rest :: todo)) cs w'):=by
 have hl:=T.looksEq k hp hnd hC hR
 have hw:=wantedA_congr (ops:=ops) (o:=O p) hl
 have hev:=looks_ev hl
 have hkd:=EnvD.put T k hp hnd
 have hle3:=opKind_le P (O p).op
 have wr:opKind P (O p).op=3→m≤p∧(∀q,m≤q→q < p→opKind P (O q).op≠3)∧(∀q,q < p→opKind P (O q).op=1→D q):=by
  intro hk
  refine⟨?_,?_,?_⟩
  ·rcases Nat.lt_or_ge p m with h | h
   ·exact absurd (M.low p h (.inr hk)) hnd
   ·exact h
  ·intro q h1 h2 h3
   rcases (T.pair q p h2 hp).2 with hb | ⟨_,_,hb,_⟩
   ·exact M.high q h1 (by omega) h3 (hR q (by omega) hb)
   ·exact (hb hk).1 h3
  ·intro q h2 h3
   rcases (T.pair q p h2 hp).2 with hb | ⟨_,_,hb,_⟩
   ·exact hR q (by omega) hb
   ·exact absurd h3 (hb hk).2.1
 rcases T.run p hp with ⟨hwt,hrun⟩ | ⟨hwf,hv,hsame⟩
 ·rw[←hw] at hwt
  have hwanted:=wanted_of ke hwt
  by_cases hk3:opKind P (O p).op=3
  ·obtain⟨g1,g2,g3⟩:=wr hk3
   have hr:=M.rel T hF hN g1 (by omega) g2
   have hrun' : runOp P K r (O p) e (H p)=some (V p,H (p+1)):=by rw[runOp_congr _ hev]; exact hrun
   obtain⟨φ',v',w',t,hvr,st⟩:=Op (O p) e (H p) (V p) (H (p+1)) hrun' (H (p+1)).next φ a w ds b todo cs ops (J p) rest (Nat.le_refl _) (M.freeAt T hF hN hp hnd) ke hr (T.at_ p hp) hwanted
   exact⟨p+1,φ',_,w',_,M.write T hF hN hp g1 g2 hk3 g3 t,hkd,(ke.mono t.le).putO hsz hvr,size_putT _ _ _,st⟩
  ·by_cases hk2:opKind P (O p).op=2
   ·
    have hq:∃q,m≤q∧q≤n∧(∀x,m≤x→x < q→opKind P (O x).op≠3)∧∃h'',aOp P (O p) (E p) (H q)=some (V p,h''):=by
     have hre:∀x,Re P ops O E H V p x→∃h'',aOp P (O p) (E p) (H x)=some (V p,h''):=by
      intro x hx
      rcases hx with hx | hx
      ·rw[hw,hx] at hwt; simp at hwt
      ·exact hx
     rcases Nat.lt_or_ge p m with hpm | hpm
     ·rcases M.last with hl0 | ⟨hl1,hl2⟩
      ·omega
      ·have hne:p≠m - 1:=fun e=>by subst e; omega
       have hmle:=M.mle
       refine⟨m,Nat.le_refl _,M.mle,fun x h1 h2=>by omega,?_⟩
       rcases (T.pair p (m - 1) (by omega) (by omega)).2 with hb | ⟨_,_,hb,_⟩
       ·exact absurd (hC p (m - 1) hp (by omega) hl2 hb) hnd
       ·have:=hre _ ((hb hl1).2.2 hk2).2
        rwa [show m - 1+1=m by omega] at this
     ·rcases first_write O P m (p - m) with hf | ⟨q,g1,g2,g3,g4⟩
      ·refine⟨p,hpm,by omega,fun x h1 h2=>hf x h1 (by omega),?_⟩
       rw[runOp_aOp _ hk3] at hrun
       exact⟨_,hrun⟩
      ·refine⟨q,g1,by omega,g4,?_⟩
       rcases (T.pair q p (by omega) hp).2 with hb | ⟨_,_,_,hb⟩
       ·exact absurd (hR q (by omega) hb) (M.high q g1 (by omega) g3)
       ·exact hre _ (hb g3 hk2).1
    obtain⟨q,g1,g2,g3,h'',hq⟩:=hq
    have:=kind_read hk2 hq
    subst this
    have hr:=M.rel T hF hN g1 g2 g3
    have hrun' : runOp P K r (O p) e (H q)=some (V p,H q):=by rw[runOp_congr _ hev,runOp_aOp _ hk3]; exact hq
    obtain⟨φ',v',w',t,hvr,st⟩:=Op (O p) e (H q) (V p) (H q) hrun' (H q).next φ a w ds b todo cs ops (J p) rest (Nat.le_refl _) (fun x h1 h2=>by omega) ke hr (T.at_ p hp) hwanted
    exact⟨m,φ',_,w',_,M.read T hF hN hp hk2 g1 g2 g3 t,hkd,(ke.mono t.le).putO hsz hvr,size_putT _ _ _,st⟩
   ·have hk01:opKind P (O p).op=0∨opKind P (O p).op=1:=by omega
    rw[runOp_aOp _ hk3] at hrun
    obtain⟨x,hx1,hx2,hx3⟩:=kind_local hk01 hrun
    have hrun' : runOp P K r (O p) e ⟨.nil,(H p).next⟩=some (V p,allocO ⟨.nil,(H p).next⟩ x):=by rw[runOp_congr _ hev,runOp_aOp _ hk3]; exact hx3 _ rfl
    have hnx:(allocO (AH.mk .nil (H p).next) x).next=(H (p+1)).next:=by rw[hx1]; cases x <;> simp[allocO]
    obtain⟨φ',v',w',t,hvr,st⟩:=Op (O p) e _ (V p) _ hrun' (H (p+1)).next φ a w ds b todo cs ops (J p) rest (by rw[hnx]; exact Nat.le_refl _) (M.freeAt T hF hN hp hnd) ke (R.empty _) (T.at_ p hp) hwanted
    exact⟨m,φ',_,w',_,M.make T hF hN hp hk01 hnd hx1 hx2 t,hkd,(ke.mono t.le).putO hsz hvr,size_putT _ _ _,st⟩
 ·rw[←hw] at hwf
  have hwanted:=wanted_of ke hwf
  have st:=at_opSkip (P:=P) (w:=w) (b:=b) (a:=a) (ds:=ds) (k:=todo) (cs:=cs) (rest:=rest) (T.at_ p hp) hwanted
  have kv:EnvR φ (putO e (O p).dst (V p)) (putT a (O p).dst undef):=ke.putO hsz (by rw[hv]; exact .skip rfl)
  by_cases hk3:opKind P (O p).op=3
  ·obtain⟨g1,g2,g3⟩:=wr hk3
   have hr:=M.rel T hF hN g1 (by omega) g2
   exact⟨p+1,φ,_,w,_,M.write T hF hN hp g1 g2 hk3 g3 (by rw[hsame]; exact Tn.refl hr),hkd,kv,size_putT _ _ _,.one st⟩
  ·by_cases hk2:opKind P (O p).op=2
   ·have hr:=M.rel T hF hN (Nat.le_refl m) M.mle (fun x h1 h2=>by omega)
    exact⟨m,φ,_,w,_,M.read T hF hN hp hk2 (Nat.le_refl m) M.mle (fun x h1 h2=>by omega) (Tn.refl hr),hkd,kv,size_putT _ _ _,.one st⟩
   ·have hk01:opKind P (O p).op=0∨opKind P (O p).op=1:=by omega
    exact⟨m,φ,_,w,_,M.make (x:=none) T hF hN hp hk01 hnd hsame (fun _=>rfl) (Tn.refl (R.empty _)),hkd,kv,size_putT _ _ _,.one st⟩
end
end Go.Am
/-
 THE ABSTRACT MACHINE IS SOUND:regions that are drawn. The plan,the schedule.
-/
set_option linter.unusedVariables false
set_option linter.unusedSimpArgs false
namespace Go.Am
section
variable {P:Program} {K:Xs} {r:Ex} {ops:Array Oper} {n:Nat} {J:Nat→Nat} {O:Nat→Oper} {E:Nat→Env} {H:Nat→AH} {V:Nat→Value}
variable {φ0 φ φ' : Fi} {w0 w w' : World} {D:Nat→Prop} {m:Nat}

/-! ## The schedule -/
theorem binds_any {md:Region.Mode} {e:Edge} (h:Region.binds .any e=true):Region.binds md e=true:=by
 unfold Region.binds at h ⊢
 cases hg:e.ground <;> rw[hg] at h <;> first | rfl | (simp at h; done) | (simp at h ⊢; done)
def unl (ops:Array Oper) (listed:Array Bool):List Nat:=(List.range ops.size).filter fun i=>!listed.getD i true
theorem filter_lt {p q:Nat→Bool}:∀{l:List Nat},(∀x∈l,p x=true→q x=true)→(∃x∈l,q x=true∧p x=false)→(l.filter p).length < (l.filter q).length
 | [],_,⟨x,hx,_⟩=>by simp at hx
 | a :: l,h1,⟨x,hx,h2,h3⟩=>by
   have hle:∀(l:List Nat),(∀x∈l,p x=true→q x=true)→(l.filter p).length≤(l.filter q).length:=by
    intro l
    induction l with
    | nil=>intro _; simp
    | cons a l ih=>
      intro h
      have:=ih (fun x hx=>h x (by simp[hx]))
      simp only[List.filter_cons]
      cases hpa:p a with
      | true=>rw[h a (by simp) hpa]; simp; exact this
      | false=>cases q a <;> simp <;> omega
   simp only[List.filter_cons]
   by_cases hxa:x=a
   ·subst hxa
    rw[h2,h3]
    have:=hle l (fun x hx=>h1 x (by simp[hx]))
    simp
    omega
   ·have ih:=filter_lt (l:=l) (fun x hx=>h1 x (by simp[hx])) ⟨x,by simpa[hxa] using hx,h2,h3⟩
    cases hpa:p a with
    | true=>rw[h1 a (by simp) hpa]; simp; exact ih
    | false=>cases q a <;> simp <;> omega
theorem unl_set {listed:Array Bool} {i:Nat} (hi:i < ops.size) (hl:listed.getD i true=false) (hs:listed.size=ops.size):(unl ops (listed.setIfInBounds i true)).length < (unl ops listed).length:=by
 refine filter_lt (fun x hx hp=>?_) ⟨i,by simpa using hi,by rw[hl]; rfl,?_⟩
 ·by_cases hxi:i=x
  ·subst hxi
   rw[hl]; rfl
  ·rw[getD_set_ne true hxi] at hp; exact hp
 ·have:(listed.setIfInBounds i true).getD i true=true:=by simp[hs,hi]
  rw[this]; rfl
theorem isLin_ready {md:Region.Mode} {listed:Array Bool} (hs:listed.size=ops.size):∀(l seen:List Nat),isLin md ops seen l=true→(∀x∈seen,listed.getD x false=true)→(∃j∈l,listed.getD j false=false)→
 ∃j,j∈Region.ready md ops listed
 | [],_,_,_,⟨j,hj,_⟩=>by simp at hj
 | j :: l,seen,hlin,hsn,⟨x,hx,hxl⟩=>by
   simp only[isLin,Bool.and_eq_true] at hlin
   obtain⟨⟨h1,_⟩,h3⟩:=hlin
   by_cases hj:listed.getD j false=true
   ·refine isLin_ready hs l (j :: seen) h3 (fun y hy=>?_) ⟨x,?_,hxl⟩
    ·rcases List.mem_cons.1 hy with rfl | hy
     ·exact hj
     ·exact hsn y hy
    ·rcases List.mem_cons.1 hx with rfl | hx
     ·rw[hj] at hxl; simp at hxl
     ·exact hx
   ·cases ho:ops[j]? with
    | none=>rw[ho] at h1; simp at h1
    | some o=>
      rw[ho] at h1
      simp only[List.all_eq_true] at h1
      have hlt:j < listed.size:=by rw[hs]; exact (Array.getElem?_eq_some_iff.1 ho).1
      refine⟨j,mem_ready.2 ⟨?_,o,ho,fun e he hb=>?_⟩⟩
      ·simp[hlt] at hj ⊢
       exact hj
      ·have:=h1 e (by simpa using he)
       rw[hb] at this
       exact hsn _ (by simpa using this)
theorem not_ready {md:Region.Mode} {listed:Array Bool} (hs:listed.size=ops.size) {l:List Nat} (hlin:isLin md ops [] l=true) (hcov:∀i,i < ops.size→i∈l) (hr:Region.ready md ops listed=[]):∀i,i < ops.size→listed.getD i false=true:=by
 intro i hi
 cases hb:listed.getD i false with
 | true=>rfl
 | false=>
   obtain⟨j,hj⟩:=isLin_ready hs l [] hlin (fun _ h=>by simp at h) ⟨i,hcov i hi,hb⟩
   rw[hr] at hj
   simp at hj

theorem Mid.congr {D' : Nat→Prop} (M:Mid P n O H φ0 w0 D m φ w) (h:∀p,p < n→(D p↔D' p)):Mid P n O H φ0 w0 D' m φ w:=by
 have hc:∀b o,Cur P n O H D' m b o→Cur P n O H D m b o:=fun b o hc=>hc.imp id fun ⟨p,g1,g2,g3,g4⟩=>⟨p,g1,g2,(h p g2).2 g3,g4⟩
 refine⟨M.mle,fun p hp hk=>(h p (Nat.lt_of_lt_of_le hp M.mle)).1 (M.low p hp hk),fun p h1 h2 hk hd=>M.high p h1 h2 hk ((h p h2).2 hd),?_,fun b o rc k=>M.obj b o rc (hc b o k),fun b1 b2 o1 o2 r1 r2 k1 k2=>M.inj b1 b2 o1 o2 r1 r2 (hc _ _ k1) (hc _ _ k2),
  M.lt,fun b hb=>(M.dom b hb).imp id fun ⟨p,g1,g2,g3⟩=>⟨p,g1,(h p g1).1 g2,g3⟩,M.le,M.size,M.os,M.tape,M.output,M.keep,fun b o rc k=>M.old b o rc (hc b o k)⟩
 rcases M.last with hl | ⟨h1,h2⟩
 ·exact .inl hl
 ·rcases Nat.eq_zero_or_pos m with h0 | h0
  ·exact .inl h0
  ·have:=M.mle
   exact .inr ⟨h1,(h (m - 1) (by omega)).1 h2⟩

theorem run_schedule (Op:SOp P K r) (T:Txt P K r ops n J O E H V) {N:Nat} (hF:Free φ0 (H 0).next N) (hN:(H n).next≤N) (hJ:∀i,i < ops.size→∃p,p < n∧J p=i)
 {md:Region.Mode} {lin:List Nat} (hlin:isLin md ops [] lin=true) (hcov:∀i,i < ops.size→i∈lin) (ds:List Deferred) (b:Frame) (todo:List Item) (cs:List Frame) (sz:Nat) (hsz:∀p,p < n→∀t,(O p).dst=some t→t < sz):
 ∀(fuel t:Nat) (listed:Array Bool) (m:Nat) (φ:Fi) (w:World) (e:Env) (a:Array Value),listed.size=ops.size→Closed ops (fun i=>listed.getD i false=true)→(unl ops listed).length≤fuel→
  Mid P n O H φ0 w0 (fun p=>listed.getD (J p) false=true) m φ w→EnvD n O E V (fun p=>listed.getD (J p) false=true) e→EnvR φ e a→a.size=sz→
  ∃m' φ' w' e' a',Mid P n O H φ0 w0 (fun p=>True) m' φ' w'∧EnvD n O E V (fun p=>True) e'∧EnvR φ' e' a'∧a'.size=sz∧
   Steps P (lone (At b a ds (.inRegion ops (Region.linearise.go md ops fuel t listed []) :: todo)) cs w) (lone (At b a' ds (.inRegion ops [] :: todo)) cs w'):=by
 have atEnd:∀(listed:Array Bool) (m:Nat) (φ:Fi) (w:World) (e:Env) (a:Array Value),(∀i,i < ops.size→listed.getD i false=true)→
  Mid P n O H φ0 w0 (fun p=>listed.getD (J p) false=true) m φ w→EnvD n O E V (fun p=>listed.getD (J p) false=true) e→EnvR φ e a→a.size=sz→
  ∃m' φ' w' e' a',Mid P n O H φ0 w0 (fun p=>True) m' φ' w'∧EnvD n O E V (fun p=>True) e'∧EnvR φ' e' a'∧a'.size=sz∧
   Steps P (lone (At b a ds (.inRegion ops [] :: todo)) cs w) (lone (At b a' ds (.inRegion ops [] :: todo)) cs w'):=by
  intro listed m φ w e a hall M k ke has
  have hi:∀p,p < n→(listed.getD (J p) false=true↔True):=fun p hp=>⟨fun _=>trivial,fun _=>hall _ (Array.getElem?_eq_some_iff.1 (T.at_ p hp)).1⟩
  exact⟨m,φ,w,e,a,M.congr hi,k.congr hi,ke,has,Steps.refl P _⟩
 intro fuel
 induction fuel with
 | zero=>
   intro t listed m φ w e a hls hcl hun M k ke has
   refine atEnd listed m φ w e a (fun i hi=>?_) M k ke has
   have hnil:unl ops listed=[]:=List.length_eq_zero_iff.1 (by omega)
   cases hb:listed.getD i false with
   | true=>rfl
   | false=>
     have hlt:i < listed.size:=by omega
     have hm:i∈unl ops listed:=by
      simp only[unl,List.mem_filter,List.mem_range]
      refine⟨hi,?_⟩
      simp[hlt] at hb ⊢
      exact hb
     rw[hnil] at hm
     simp at hm
 | succ fuel ih=>
   intro t listed m φ w e a hls hcl hun M k ke has
   simp only[Region.linearise.go]
   change ∃m' φ' w' e' a',_∧_∧_∧_∧Steps P (lone (At b a ds (.inRegion ops (match (Region.ready md ops listed)[t % (Region.ready md ops listed).length]? with
    | some i=>Region.linearise.go md ops fuel (t / (Region.ready md ops listed).length) (listed.setIfInBounds i true) [i]
    | none=>[].reverse) :: todo)) cs w) _
   cases hi:(Region.ready md ops listed)[t % (Region.ready md ops listed).length]? with
   | none=>
     have hnil:Region.ready md ops listed=[]:=by
      cases hr:Region.ready md ops listed with
      | nil=>rfl
      | cons x xs=>
        rw[hr] at hi
        have hlt:t % (x :: xs).length < (x :: xs).length:=Nat.mod_lt _ (by simp)
        simp at hi
        simp at hlt
        omega
     exact atEnd listed m φ w e a (not_ready hls hlin hcov hnil) M k ke has
   | some i=>
     simp only[]
     rw[linearise_go_acc,List.reverse_singleton,List.singleton_append]
     have hrd:=List.mem_of_getElem? hi
     obtain⟨hun0,o,ho,hedge⟩:=mem_ready.1 hrd
     have hio:=(Array.getElem?_eq_some_iff.1 ho).1
     obtain⟨p,hp,rfl⟩:=hJ i hio
     have hnl:¬listed.getD (J p) false=true:=by
      have hlt:J p < listed.size:=by omega
      intro hq
      simp[hlt] at hq hun0
      rw[hq] at hun0
      simp at hun0
     have hC:∀x y,x < n→y < n→listed.getD (J y) false=true→Bf ops J y x→listed.getD (J x) false=true:=fun x y _ _ hd hb=>hcl.bit (J y) (J x) hd hb
     have hR:∀q,q < n→Bf ops J p q→listed.getD (J q) false=true:=by
      intro q hq hb
      obtain⟨o',ho',e',he',h1,h2⟩:=before_why ops (J p) (J q) hb
      have hoo:o'= o:=by
       have:ops[J p]?= some o':=by simpa using ho'
       rw[ho] at this
       simpa using this.symm
      subst hoo
      have hon:=hedge e' he' (binds_any h1)
      rcases h2 with h2 | ⟨_,h2⟩
      ·rw[←h2]; exact hon
      ·exact hcl.bit e'.on (J q) hon h2
     obtain⟨m1,φ1,a1,w1,e1,M1,k1,ke1,hs1,st1⟩:=M.doOp Op T hF hN k ke hp hnl hC hR (fun t ht=>by rw[has]; exact hsz p hp t ht) ds b todo cs (Region.linearise.go md ops fuel (t / (Region.ready md ops listed).length) (listed.setIfInBounds (J p) true) [])
     have hiff:∀x,x < n→((x=p∨listed.getD (J x) false=true)↔(listed.setIfInBounds (J p) true).getD (J x) false=true):=by
      intro x hx
      by_cases hxp:x=p
      ·subst hxp
       simp[hls,hio]
      ·have hne:J p≠J x:=fun e=>hxp (T.inj p x hp hx e).symm
       rw[getD_set_ne false hne]
       simp[hxp]
     have hcl1:Closed ops (fun i=>(listed.setIfInBounds (J p) true).getD i false=true):=by
      intro j o2 hj ho2 e2 he2 hb2
      by_cases hjp:J p=j
      ·subst hjp
       rw[ho] at ho2
       cases ho2
       exact getD_set_true (hedge e2 he2 (binds_any hb2))
      ·rw[getD_set_ne false hjp] at hj
       exact getD_set_true (hcl j o2 hj ho2 e2 he2 hb2)
     have hu:=unl_set hio hun0 hls
     obtain⟨m',φ',w',e',a',g1,g2,g3,g4,g5⟩:=ih (t / (Region.ready md ops listed).length) (listed.setIfInBounds (J p) true) m1 φ1 w1 e1 a1 (by simp[hls]) hcl1 (by omega) (M1.congr hiff) (k1.congr hiff) ke1 (by rw[hs1,has])
     exact⟨m',φ',w',e',a',g1,g2,g3,g4,st1.trans g5⟩

/-! ## The plan -/
theorem ba_eq {a b:ByteArray} (h:(a == b)=true):a=b:=by
 cases a; cases b
 have:(_:Array UInt8) == _:=h
 simpa using this
theorem eqS_eq {a b:Value} (h:eqS a b=true):a=b:=by
 unfold eqS at h
 split at h
 ·simp at h; simp[h]
 ·simp at h; simp[h]
 ·rw[ba_eq h]
 ·simp at h; simp[h]
 ·simp at h; simp[h]
 ·simp at h; simp[h]
 all_goals first | rfl | (simp at h; done)
theorem eqL_eq:∀{a b:List Value},eqL a b=true→a=b
 | [],[],_=>rfl
 | x :: a,y :: b,h=>by
   simp only[eqL,Bool.and_eq_true] at h
   rw[eqS_eq h.1,eqL_eq h.2]
 | [],_ :: _,h=>by simp[eqL] at h
 | _ :: _,[],h=>by simp[eqL] at h
theorem eqV_eq {a b:Value} (h:eqV a b=true):a=b:=by
 unfold eqV at h
 split at h
 ·rw[Array.ext' (eqL_eq h)]
 ·rw[Array.ext' (eqL_eq h)]
 ·exact eqS_eq h
theorem runL_spec {r:Ex}:∀{os:List Nat} {e:Env} {h:AH} {l:List (Env×AH)},runL P K r ops os e h=some l→l.length=os.length+1∧l[0]?= some (e,h)∧
 ∀p j,os[p]?= some j→∃o ep hp v h1,ops[j]?= some o∧l[p]?= some (ep,hp)∧l[p+1]?= some (putO ep o.dst v,h1)∧
  ((wantedA ops o ep=some true∧runOp P K r o ep hp=some (v,h1))∨(wantedA ops o ep=some false∧v=skipV∧h1=hp))
 | [],e,h,l,hs=>by
   simp only[runL,Option.some.injEq] at hs
   subst hs
   exact⟨rfl,rfl,fun p j hp=>by simp at hp⟩
 | j0 :: os,e,h,l,hs=>by
   unfold runL at hs
   cases ho:ops[j0]? with
   | none=>rw[ho] at hs; simp at hs
   | some o=>
     rw[ho] at hs
     simp only at hs
     have fin:∀v h1 l2,runL P K r ops os (putO e o.dst v) h1=some l2→l=(e,h) :: l2→((wantedA ops o e=some true∧runOp P K r o e h=some (v,h1))∨(wantedA ops o e=some false∧v=skipV∧h1=h))→
      l.length=(j0 :: os).length+1∧l[0]?= some (e,h)∧
      ∀p j,(j0 :: os)[p]?= some j→∃o ep hp v h1,ops[j]?= some o∧l[p]?= some (ep,hp)∧l[p+1]?= some (putO ep o.dst v,h1)∧
       ((wantedA ops o ep=some true∧runOp P K r o ep hp=some (v,h1))∨(wantedA ops o ep=some false∧v=skipV∧h1=hp)):=by
      intro v h1 l2 hl2 hl hwt
      subst hl
      obtain⟨g1,g2,g3⟩:=runL_spec hl2
      refine⟨by simp[g1],rfl,fun p j hp=>?_⟩
      cases p with
      | zero=>
        simp only[List.getElem?_cons_zero,Option.some.injEq] at hp
        subst hp
        exact⟨o,e,h,v,h1,ho,rfl,by simpa using g2,hwt⟩
      | succ p=>
        obtain⟨o',ep,hp',v',h1',k1,k2,k3,k4⟩:=g3 p j (by simpa using hp)
        exact⟨o',ep,hp',v',h1',k1,by simpa using k2,by simpa using k3,k4⟩
     cases hw:wantedA ops o e with
     | none=>rw[hw] at hs; simp at hs
     | some t=>
       rw[hw] at hs
       cases t with
       | true=>
         simp only at hs
         cases hr:runOp P K r o e h with
         | none=>rw[hr] at hs; simp at hs
         | some y=>
           obtain⟨v,h1⟩:=y
           rw[hr] at hs
           simp only at hs
           cases hl:runL P K r ops os (putO e o.dst v) h1 with
           | none=>rw[hl] at hs; simp at hs
           | some l2=>
             rw[hl] at hs
             simp only[Option.some.injEq] at hs
             exact fin v h1 l2 hl hs.symm (.inl ⟨hw,hr⟩)
       | false=>
         simp only at hs
         cases hl:runL P K r ops os (putO e o.dst skipV) h with
         | none=>rw[hl] at hs; simp at hs
         | some l2=>
           rw[hl] at hs
           simp only[Option.some.injEq] at hs
           exact fin skipV h l2 hl hs.symm (.inr ⟨hw,rfl,rfl⟩)
theorem pairsFrom_spec {bf:Array Nat} {ia pa:Nat}:∀{l:List Nat} {pb:Nat} {ps:List (Nat×Nat)},pairsFrom P ops bf ia pa l pb=some ps→∀i ib,l[i]?= some ib→∃x,pairOk P ops bf ia ib pa (pb+i)=some x∧∀y∈x,y∈ps
 | [],_,_,_,i,ib,hi=>by simp at hi
 | b :: l,pb,ps,hs,i,ib,hi=>by
   unfold pairsFrom at hs
   split at hs
   ·rename_i x y hx hy
    simp only[Option.some.injEq] at hs
    subst hs
    cases i with
    | zero=>
      simp only[List.getElem?_cons_zero,Option.some.injEq] at hi
      subst hi
      exact⟨x,hx,fun y hy=>by simp[hy]⟩
    | succ i=>
      obtain⟨z,hz,hz2⟩:=pairsFrom_spec hy i ib (by simpa using hi)
      exact⟨z,by rw[←hz]; congr 1; omega,fun q hq=>by simp[hz2 q hq]⟩
   ·simp at hs
theorem pairsAll_spec {bf:Array Nat}:∀{l:List Nat} {pa:Nat} {ps:List (Nat×Nat)},pairsAll P ops bf l pa=some ps→∀i j ia ib,i < j→l[i]?= some ia→l[j]?= some ib→∃x,pairOk P ops bf ia ib (pa+i) (pa+j)=some x∧∀y∈x,y∈ps
 | [],_,_,_,i,j,ia,ib,_,hi,_=>by simp at hi
 | a :: l,pa,ps,hs,i,j,ia,ib,hij,hi,hj=>by
   unfold pairsAll at hs
   split at hs
   ·rename_i x y hx hy
    simp only[Option.some.injEq] at hs
    subst hs
    obtain⟨j',rfl⟩:∃j',j=j'+ 1:=⟨j - 1,by omega⟩
    cases i with
    | zero=>
      simp only[List.getElem?_cons_zero,Option.some.injEq] at hi
      subst hi
      obtain⟨z,hz,hz2⟩:=pairsFrom_spec hx j' ib (by simpa using hj)
      exact⟨z,by rw[←hz]; congr 1; omega,fun q hq=>by simp[hz2 q hq]⟩
    | succ i=>
      obtain⟨z,hz,hz2⟩:=pairsAll_spec hy i j' ia ib (by omega) (by simpa using hi) (by simpa using hj)
      exact⟨z,by rw[←hz]; congr 1 <;> omega,fun q hq=>by simp[hz2 q hq]⟩
   ·simp at hs
theorem covers_spec {l:List Nat} (h:covers n l=true):∀i,i < n→i∈l:=by
 intro i hi
 simp only[covers,List.all_eq_true,List.mem_range] at h
 simpa using h i hi
theorem isLin_nodup {md:Region.Mode}:∀(l seen:List Nat),isLin md ops seen l=true→(∀x∈l,x∉seen∧x < ops.size)∧l.Nodup
 | [],_,_=>⟨fun x h=>by simp at h,List.nodup_nil⟩
 | j :: l,seen,h=>by
   simp only[isLin,Bool.and_eq_true] at h
   obtain⟨⟨h1,h2⟩,h3⟩:=h
   obtain⟨g1,g2⟩:=isLin_nodup l (j :: seen) h3
   have hj:j < ops.size:=by
    cases ho:ops[j]? with
    | none=>rw[ho] at h1; simp at h1
    | some o=>exact (Array.getElem?_eq_some_iff.1 ho).1
   refine⟨fun x hx=>?_,List.nodup_cons.2 ⟨fun hm=>(g1 j hm).1 (by simp),g2⟩⟩
   rcases List.mem_cons.1 hx with rfl | hx
   ·exact⟨by simpa using h2,hj⟩
   ·exact⟨fun hs=>(g1 x hx).1 (by simp[hs]),(g1 x hx).2⟩
end
end Go.Am
/-
 THE ABSTRACT MACHINE IS SOUND:regions that are drawn. The plan is kept.
-/
set_option linter.unusedVariables false
set_option linter.unusedSimpArgs false
namespace Go.Am
variable {P:Program} {K:Xs} {r:Ex} {ops:Array Oper}

theorem reread_spec {ord:List Nat} {l:List (Env×AH)} {n:Nat} {O:Nat→Oper} {E:Nat→Env} {H:Nat→AH} {V:Nat→Value}
 (hO:∀p,p < n→∃j,ord[p]?= some j∧ops[j]?= some (O p)) (hl:∀p,p≤n→l[p]?= some (E p,H p)) (hE:∀p,p < n→E (p+1)=putO (E p) (O p).dst (V p))
 {p x:Nat} (hp:p < n) (hx:x≤n) (h:rereadAt P ops ord l p x=true):Re P ops O E H V p x:=by
 unfold rereadAt at h
 obtain⟨j,h1,h2⟩:=hO p hp
 have e1:(ord[p]?).bind (ops[·]?)=some (O p):=by rw[h1]; exact h2
 rw[e1,hl p (by omega),hl (p+1) (by omega),hl x hx] at h
 simp only at h
 cases hw:wantedA ops (O p) (E p) with
 | none=>rw[hw] at h; simp at h
 | some t=>
   rw[hw] at h
   cases t with
   | false=>exact .inl hw
   | true=>
     simp only at h
     cases hd:(O p).dst with
     | none=>rw[hd] at h; simp at h
     | some d=>
       rw[hd] at h
       cases ha:aOp P (O p) (E p) (H x) with
       | none=>rw[ha] at h; simp at h
       | some y=>
         obtain⟨v,h''⟩:=y
         rw[ha] at h
         simp only at h
         have:=eqV_eq h
         rw[ev_tmp,hE p hp,hd,get_putO_self] at this
         simp only[Option.getD_some] at this
         subst this
         exact .inr ⟨h'',ha⟩
theorem draw_sound {r:Ex} (Op:SOp P K r) (M:MonoEx r):SDraw P K r:=by
 intro id ops e h e' h' hs N φ a w ds b k cs hN hF ke hdst hr
 unfold exDraw at hs
 cases hp:plan P ops with
 | none=>rw[hp] at hs; simp at hs
 | some pl=>
   obtain⟨ord,ps⟩:=pl
   rw[hp] at hs
   simp only at hs
   cases hl:runL P K r ops ord e h with
   | none=>rw[hl] at hs; simp at hs
   | some l=>
     rw[hl] at hs
     simp only at hs
     cases hall:ps.all (fun p=>rereadAt P ops ord l p.1 p.2 && rereadAt P ops ord l p.1 (p.2+1)) with
     | false=>rw[hall] at hs; simp at hs
     | true=>
       rw[hall] at hs
       simp only at hs
       unfold plan at hp
       simp only at hp
       cases hc:(isLin .any ops [] (lazyOrd P ops (Region.before ops)) && covers ops.size (lazyOrd P ops (Region.before ops)) && isLin .text ops [] (List.range ops.size) &&
        (isLin .gc ops [] (Region.linearise .gc ops 0) && covers ops.size (Region.linearise .gc ops 0))) with
       | false=>rw[hc] at hp; simp at hp
       | true=>
         rw[hc] at hp
         simp only[Bool.and_eq_true] at hp hc
         obtain⟨⟨⟨c1,c2⟩,c3⟩,c4,c5⟩:=hc
         cases hpa:pairsAll P ops (Region.before ops) (lazyOrd P ops (Region.before ops)) 0 with
         | none=>rw[hpa] at hp; simp at hp
         | some ps'=>
           rw[hpa] at hp
           simp only[Option.some.injEq,Prod.mk.injEq] at hp
           obtain⟨rfl,rfl⟩:=hp
           generalize lazyOrd P ops (Region.before ops)=ord at *
           obtain⟨hll,hl0,hlp⟩:=runL_spec hl
           obtain⟨hnd1,hnd2⟩:=isLin_nodup ord [] c1
           let n:=ord.length
           let J:Nat→Nat:=fun p=>ord.getD p 0
           let O:Nat→Oper:=fun p=>ops.getD (J p) default
           let E:Nat→Env:=fun p=>(l.getD p (e,h)).1
           let H:Nat→AH:=fun p=>(l.getD p (e,h)).2
           have hJ:∀p,p < n→ord[p]?= some (J p):=fun p hp=>by simp only[J]; rw[List.getD_eq_getElem?_getD,List.getElem?_eq_getElem hp]; rfl
           have hlE:∀p,p≤n→l[p]?= some (E p,H p):=fun p hp=>by
            have hlt:p < l.length:=by rw[hll]; omega
            simp only[E,H]
            rw[List.getD_eq_getElem?_getD,List.getElem?_eq_getElem hlt]; rfl
           have hat:∀p,p < n→ops[J p]?= some (O p):=fun p hp=>by
            have hm:=(hnd1 (J p) (List.mem_of_getElem? (hJ p hp))).2
            simp only[O]
            rw[Array.getD_eq_getD_getElem?,Array.getElem?_eq_getElem hm]; rfl
           have hV0:∀p,p < n→∃v,E (p+1)=putO (E p) (O p).dst v∧
            ((wantedA ops (O p) (E p)=some true∧runOp P K r (O p) (E p) (H p)=some (v,H (p+1)))∨(wantedA ops (O p) (E p)=some false∧v=skipV∧H (p+1)=H p)):=by
            intro p hp
            obtain⟨o,ep,hq,v,h1,g1,g2,g3,g4⟩:=hlp p (J p) (hJ p hp)
            rw[hat p hp] at g1
            cases g1
            rw[hlE p (by omega)] at g2
            rw[hlE (p+1) (by omega)] at g3
            simp only[Option.some.injEq,Prod.mk.injEq] at g2 g3
            obtain⟨e1,e2⟩:=g2
            obtain⟨e3,e4⟩:=g3
            rw[←e1,←e2,←e4] at g4
            rw[←e1] at e3
            exact⟨v,e3,g4⟩
           obtain⟨V,hV⟩:∃V:Nat→Value,∀p,p < n→E (p+1)=putO (E p) (O p).dst (V p)∧
            ((wantedA ops (O p) (E p)=some true∧runOp P K r (O p) (E p) (H p)=some (V p,H (p+1)))∨(wantedA ops (O p) (E p)=some false∧V p=skipV∧H (p+1)=H p)):=
            ⟨fun p=>if hp:p < n then (hV0 p hp).choose else undef,fun p hp=>by simp only[hp,dif_pos]; exact (hV0 p hp).choose_spec⟩
           have hre:∀y,y∈ps'→y.1 < n→y.2 < n→Re P ops O E H V y.1 y.2∧Re P ops O E H V y.1 (y.2+1):=by
            intro y hy h1 h2
            simp only[List.all_eq_true,Bool.and_eq_true] at hall
            obtain⟨q1,q2⟩:=hall y hy
            exact⟨reread_spec (fun p hp=>⟨J p,hJ p hp,hat p hp⟩) hlE (fun p hp=>(hV p hp).1) h1 (by omega) q1,reread_spec (fun p hp=>⟨J p,hJ p hp,hat p hp⟩) hlE (fun p hp=>(hV p hp).1) h1 (by omega) q2⟩
           have hpair:∀p q,p < q→q < n→Pair P ops J O E H V p q:=by
            intro p q hpq hq
            have hp:p < n:=by omega
            obtain⟨x,hx,hx2⟩:=pairsAll_spec hpa p q (J p) (J q) hpq (hJ p hp) (hJ q hq)
            unfold pairOk at hx
            rw[hat p hp,hat q hq,Nat.zero_add,Nat.zero_add] at hx
            simp only at hx
            cases hdd:dstsApart (O p) (O q) with
            | false=>rw[hdd] at hx; simp at hx
            | true=>
              rw[hdd] at hx
              have hne:∀d,(O p).dst=some d→(O q).dst≠some d:=by
               intro d h1 h2
               unfold dstsApart at hdd
               rw[h1,h2] at hdd
               simp at hdd
              refine⟨hne,?_⟩
              cases hod:((Region.before ops).getD (J q) 0).testBit (J p) with
              | true=>exact .inl hod
              | false=>
                rw[hod] at hx
                cases hlk:looksEach ops (O p) (O q) with
                | true=>rw[hlk] at hx; simp at hx
                | false=>
                  rw[hlk] at hx
                  unfold looksEach at hlk
                  simp only[Bool.or_eq_false_iff] at hlk
                  obtain⟨k1,k2⟩:=hlk
                  refine .inr ⟨fun d hd=>?_,fun d hd=>?_,fun hq3=>?_,fun hp3 hq2=>?_⟩
                  ·rw[hd] at k1; simpa using k1
                  ·rw[hd] at k2; simpa using k2
                  ·rw[hq3] at hx
                   refine⟨fun hp3=>?_,fun hp1=>?_,fun hp2=>?_⟩
                   ·rw[hp3] at hx; simp at hx
                   ·rw[hp1] at hx; simp at hx
                   ·rw[hp2] at hx
                    simp only[Option.some.injEq] at hx
                    exact hre (p,q) (hx2 (p,q) (by rw[←hx]; simp)) hp hq
                  ·rw[hp3,hq2] at hx
                   simp only[Option.some.injEq] at hx
                   exact hre (q,p) (hx2 (q,p) (by rw[←hx]; simp)) hq hp
           have T:Txt P K r ops n J O E H V:=by
            refine⟨hat,fun p hp=>(hV p hp).1,fun p hp=>(hV p hp).2,fun p hp=>?_,fun p q hp hq hpq=>?_,hpair⟩
            ·rcases (hV p hp).2 with ⟨_,h1⟩ | ⟨_,_,h1⟩
             ·exact runOp_next M h1
             ·rw[h1]; exact Nat.le_refl _
            ·have h1:=hJ p hp
             have h2:=hJ q hq
             rw[hpq] at h1
             have e1:=List.getElem?_eq_some_iff.1 h1
             have e2:=List.getElem?_eq_some_iff.1 h2
             obtain⟨g1,g2⟩:=e1
             obtain⟨g3,g4⟩:=e2
             exact (List.getElem_inj hnd2).1 (g2.trans g4.symm)
           have hH0:H 0=h∧E 0=e:=by
            have:=hlE 0 (by omega)
            rw[hl0] at this
            simp only[Option.some.injEq,Prod.mk.injEq] at this
            exact⟨this.2.symm,this.1.symm⟩
           have hHn:H n=h'∧E n=e':=by
            have h1:=hlE n (Nat.le_refl _)
            rw[List.getLast?_eq_getElem?,hll] at hs
            simp only[Nat.add_sub_cancel] at hs
            rw[hs] at h1
            simp only[Option.some.injEq,Prod.mk.injEq] at h1
            exact⟨h1.2.symm,h1.1.symm⟩
           have hJs:∀i,i < ops.size→∃p,p < n∧J p=i:=by
            intro i hi
            obtain⟨p,hp,he⟩:=List.getElem_of_mem (covers_spec c2 i hi)
            refine⟨p,hp,?_⟩
            have:=hJ p hp
            rw[List.getElem?_eq_getElem hp,he] at this
            simpa using this.symm
           have hszO:∀p,p < n→∀t,(O p).dst=some t→t < a.size:=by
            intro p hp t ht
            simp only[codeDst,List.all_eq_true] at hdst
            have:=hdst (O p) (by have:=List.mem_of_getElem? (by simpa using hat p hp:ops.toList[J p]?= some (O p)); exact this)
            rw[ht] at this
            simpa[Nat.blt_eq] using this
           let w1:World:={ w with drawn:=w.drawn+1 }
           have hr1:R P φ h w1:=hr.drew 1
           have hcur0:∀b o,Cur P n O H (fun p=>(Array.replicate ops.size false).getD (J p) false=true) 0 b o→h.get b=some o:=by
            intro b o hc
            rcases hc with hc | ⟨p,_,hp,hd,_⟩
            ·rw[hH0.1] at hc; exact hc
            ·exfalso
             have:(Array.replicate ops.size false).getD (J p) false=false:=by
              rw[Array.getD_eq_getD_getElem?,Array.getElem?_replicate]
              split <;> rfl
             rw[this] at hd
             simp at hd
           have hrep:∀i,¬(Array.replicate ops.size false).getD i false=true:=by
            intro i hd
            have:(Array.replicate ops.size false).getD i false=false:=by
             rw[Array.getD_eq_getD_getElem?,Array.getElem?_replicate]
             split <;> rfl
            rw[this] at hd
            simp at hd
           have M0:Mid P n O H φ w1 (fun p=>(Array.replicate ops.size false).getD (J p) false=true) 0 φ w1:=by
            refine⟨Nat.zero_le _,fun p hp=>absurd hp (Nat.not_lt_zero _),fun p _ _ _ hd=>hrep _ hd,.inl rfl,fun b o rc hc=>hr1.obj b o rc (hcur0 b o hc),fun b1 b2 o1 o2 r1 r2 k1 k2=>hr1.inj b1 b2 o1 o2 r1 r2 (hcur0 _ _ k1) (hcur0 _ _ k2),
             by rw[hH0.1]; exact hr1.lt,fun b hb=>.inl hb,Le.refl _,Nat.le_refl _,rfl,rfl,rfl,fun _ _ _=>rfl,fun b o rc hc hφ _=>⟨b,o,rc,by rw[hH0.1]; exact hcur0 b o hc,hφ,rfl,fun z=>z⟩⟩
           have k0:EnvD n O E V (fun p=>(Array.replicate ops.size false).getD (J p) false=true) e:=⟨fun p _ hd=>absurd hd (hrep _),fun d _=>by rw[hH0.2]⟩
           have hFH:Free φ (H 0).next N:=by rw[hH0.1]; exact hF
           have hNH:(H n).next≤N:=by rw[hHn.1]; exact hN
           have hcl0:Closed ops (fun i=>(Array.replicate ops.size false).getD i false=true):=fun j o hd=>absurd hd (hrep j)
           have hun0:(unl ops (Array.replicate ops.size false)).length≤ops.size:=by
            have:=List.length_filter_le (fun i=>!(Array.replicate ops.size false).getD i true) (List.range ops.size)
            simpa[unl] using this
           have key:∃m' φ' w' e2 a',Mid P n O H φ w1 (fun p=>True) m' φ' w'∧EnvD n O E V (fun p=>True) e2∧EnvR φ' e2 a'∧a'.size=a.size∧
            Steps P (lone (At b a ds (.inRegion ops (Region.schedule (P.follows .mixedOrders) ops (w.tape w.drawn (.order b.fn id))) :: k)) cs w1) (lone (At b a' ds (.inRegion ops [] :: k)) cs w'):=by
            have go:∀(md:Region.Mode) (lin:List Nat) (t:Nat),isLin md ops [] lin=true→covers ops.size lin=true→∃m' φ' w' e2 a',Mid P n O H φ w1 (fun p=>True) m' φ' w'∧EnvD n O E V (fun p=>True) e2∧EnvR φ' e2 a'∧a'.size=a.size∧
             Steps P (lone (At b a ds (.inRegion ops (Region.linearise md ops t) :: k)) cs w1) (lone (At b a' ds (.inRegion ops [] :: k)) cs w'):=fun md lin t q1 q2=>
             run_schedule Op T hFH hNH hJs q1 (covers_spec q2) ds b k cs a.size hszO ops.size t (Array.replicate ops.size false) 0 φ w1 e a (by simp) hcl0 hun0 M0 k0 ke rfl
            unfold Region.schedule
            split
            ·exact go .any ord _ c1 c2
            ·split
             ·exact go .text (List.range ops.size) _ c3 (by simp[covers])
             ·exact go .gc _ _ c4 c5
           obtain⟨m',φ',w',e2,a',M',k',ke',sz',st⟩:=key
           have hno:∀p,m'≤p→p < n→opKind P (O p).op≠3:=fun p h1 h2 h3=>M'.high p h1 h2 h3 trivial
           have hrel:=M'.rel T hFH hNH M'.mle (Nat.le_refl n) hno
           obtain⟨i1,i2,_,_⟩:=M'.seg T hFH hNH n M'.mle (Nat.le_refl n) hno
           rw[hHn.1] at hrel i1 i2
           have kn:=T.envAt n (Nat.le_refl n)
           have hee:∀t,e2.get t=e'.get t:=by
            intro t
            rw[←hHn.2]
            by_cases hex:∃q,q < n∧(O q).dst=some t
            ·obtain⟨q,hq,hd⟩:=hex
             rw[k'.done q hq trivial t hd,kn.done q hq hq t hd]
            ·rw[k'.rest t (fun p hp _ hd=>hex ⟨p,hp,hd⟩),kn.rest t (fun p hp _ hd=>hex ⟨p,hp,hd⟩)]
           refine⟨φ',a',w',⟨M'.le,?_,?_,hrel,M'.size,M'.os,M'.tape,M'.output,?_,?_⟩,fun t=>by rw[←hee t]; exact ke' t,sz',Steps.head at_draw (st.trans (.one at_end))⟩
           ·intro b hb
            rcases M'.dom b hb with hb | ⟨p,g1,_,g2,g3⟩
            ·exact .inl hb
            ·refine .inr ⟨?_,?_⟩
             ·rw[←hH0.1]; exact Nat.le_trans (T.mono 0 p (by omega) (by omega)) g2
             ·rw[←hHn.1]; exact Nat.lt_of_lt_of_le g3 (T.mono (p+1) n (by omega) (by omega))
           ·rw[←hH0.1,←hHn.1]; exact T.mono 0 n (by omega) (by omega)
           ·intro c hc ho
            refine M'.keep c hc ?_
            rw[hH0.1]; exact ho
           ·intro b o rc hb hφ hlt
            have:=M'.old b o rc (i2 b o hb (by simp[hφ])) hφ hlt
            rw[hH0.1] at this
            exact this
end Go.Am
/-
 THE ABSTRACT MACHINE IS SOUND:what it computes,every call of the model comes to.
-/
set_option linter.unusedVariables false
set_option linter.unusedSimpArgs false
namespace Go.Am
variable {P:Program} {K:Xs} {φ φ' : Fi} {h h' : AH} {w w' : World}

theorem ex_sound {P:Program} {K:Xs} (G:Good P) (X:GoodX P K):∀n,SEx P (ex P K n)
 | 0=>fun rd ks c e h x e' h' hs=>by simp[ex] at hs
 | n+1=>by
   have S:=ex_sound (K:=K) G X n
   have M:=ex_next (P:=P) (K:=K) n
   exact exStep_sound G X S M (draw_sound (opIn_sound G X S M) M)

def Kept (w w' : World):Prop:=w'.os=w.os∧w'.output=w.output∧w.heap.size≤w'.heap.size∧∀c,c < w.heap.size→w'.heap[c]?= w.heap[c]?
theorem Kept.but (k:Kept w w') (may:MemPlace→Prop):w.keptBut w' may:=by
 obtain⟨h1,h2,h3,h4⟩:=k
 refine⟨h1,h2,fun i hi=>?_⟩
 rw[h4 i hi]
 cases w.heap[i]? with
 | none=>rfl
 | some o=>cases o <;> first | rfl | exact⟨rfl,rfl,rfl,fun _ _=>rfl⟩ | exact .inr ⟨rfl,rfl⟩
theorem Kept.frozen (k:Kept w w') (a:Addr) (ha:a.block < w.heap.size):w'.frozen? a=w.frozen? a:=by
 unfold World.frozen?
 rw[k.2.2.2 _ ha]

def AllRo (h:AH):Prop:=∀b o,h.get b=some o→o.ro=true
theorem calls_of (G:Good P) (X:GoodX P K) {n:Nat} {f:FuncId} {args:List Value} {v:Value} (hs:callF P K (ex P K n) f args h=some (v,h')) {args' : Array Value}
 (hr:R P φ h w) (hf:∀b,h.next≤b→φ b=none) (hro:AllRo h) (ha:AR φ args args'.toList):
 Calls P f args' w fun e w'=>∃φ' v',e=.returned v'∧VR φ' v v'∧R P φ' h' w'∧Le φ φ'∧Kept w w':=by
 intro cs
 obtain⟨φ',v',w',fr,t,hv,st,hfn,hlv⟩:=call_sound (K:=K) G X (ex_sound G X n) f args h v h' hs h'.next φ args'.toList w cs (Nat.le_refl _) (fun b h1 _=>hf b h1) ha hr
 refine⟨.returned v',w',fr,⟨φ',v',rfl,hv,t.rel,t.le,t.os,t.output,t.size,fun c hc=>t.keep c hc ?_⟩,?_,hfn,hlv⟩
 ·rintro⟨b,o,rc,h1,_,_,h4⟩
  rw[hro b o h1] at h4
  simp at h4
 ·exact (show Steps P _ _ by simpa using st)
theorem VR.bool_eq {v' : Value} {b:Bool} (h:VR φ (.bool b) v'):v'= .bool b:=by cases h; rfl
theorem calls_true (G:Good P) (X:GoodX P K) {n:Nat} {f:FuncId} {args:List Value} (hs:callF P K (ex P K n) f args h=some (.bool true,h')) {args' : Array Value}
 (hr:R P φ h w) (hf:∀b,h.next≤b→φ b=none) (hro:AllRo h) (ha:AR φ args args'.toList):
 Calls P f args' w fun e w'=>e=.returned (.bool true)∧Kept w w':=
 (calls_of G X hs hr hf hro ha).mono fun e w' ⟨φ',v',he,hv,_,_,hk⟩=>⟨by rw[he,hv.bool_eq],hk⟩

/-! ## Contracts in the abstract machine:for some fuel -/
def Call (P:Program) (K:Xs) (f:FuncId) (args:List Value) (h:AH) (Q:Value→AH→Prop):Prop:=∃n v h',callF P K (ex P K n) f args h=some (v,h')∧Q v h'
def W (P:Program) (K:Xs) (rd:Option Nat) (ks:List Tmp) (c:Code) (e:Env) (h:AH) (Q:AX→Env→AH→Prop):Prop:=∃n x e' h',ex P K n rd ks c e h=some (x,e',h')∧Q x e' h'
theorem Call.mono {f:FuncId} {args:List Value} {Q Q' : Value→AH→Prop} (c:Call P K f args h Q) (hq:∀v h',Q v h'→Q' v h'):Call P K f args h Q':=by
 obtain⟨n,v,h',h1,h2⟩:=c
 exact⟨n,v,h',h1,hq v h' h2⟩
theorem W.mono {rd:Option Nat} {ks:List Tmp} {c:Code} {e:Env} {Q Q' : AX→Env→AH→Prop} (w:W P K rd ks c e h Q) (hq:∀x e' h',Q x e' h'→Q' x e' h'):W P K rd ks c e h Q':=by
 obtain⟨n,x,e',h',h1,h2⟩:=w
 exact⟨n,x,e',h',h1,hq x e' h' h2⟩
theorem law_of (G:Good P) (X:GoodX P K) {f:FuncId} {args:List Value} (c:Call P K f args h (fun v _=>v=.bool true)) {args' : Array Value}
 (hr:R P φ h w) (hf:∀b,h.next≤b→φ b=none) (hro:AllRo h) (ha:AR φ args args'.toList):
 Calls P f args' w fun e w'=>e=.returned (.bool true)∧Kept w w':=by
 obtain⟨n,v,h',h1,rfl⟩:=c
 exact calls_true G X h1 hr hf hro ha
end Go.Am
/-
 FUNCTIONS THAT ARE TOLD:the search of a byte in a string; closed functions; functions whose answer is shown.
-/
set_option linter.unusedVariables false
set_option linter.unusedSimpArgs false
namespace Go.Am
variable {P:Program} {K:Xs} {φ φ' : Fi} {h h' : AH} {w w' : World}

def findB (s:ByteArray) (c:Int):Int:=match (List.range s.size).find? fun i=>s[i]! == c.toNat.toUInt8 with | some i=>(i:Int) | none=>-1
def xIndexByte:List Value→AH→Option (Value×AH)
 | [.string s,.int .u8 c],h=>some (.int .i64 (findB s c),h)
 | _,_=>none
def IsIndexByte (P:Program) (f:FuncId):Prop:=∃fn,P.funcs[f]?= some fn∧fn.body=none∧(fn.name == "runtime.NumGoroutine")=false∧Extern.findNext fn=none∧Extern.find fn=some Extern.BytealgIndexByte.indexByte
theorem indexByte_ext {f:FuncId} (hx:IsIndexByte P f):∀φ args args' h w v h',xIndexByte args h=some (v,h')→h.next≤h'.next→Free φ h.next h'.next→AR φ args args'→R P φ h w→
 ∃φ' v' w',(callFunc f args'.toArray).run P w=.ok (.value v') w'∧VR φ' v v'∧Tn P φ h w φ' h' w':=by
 intro φ args args' h w v h' hs _ _ ha hr
 unfold xIndexByte at hs
 split at hs
 ·rename_i h0 s c
  simp only[Option.some.injEq,Prod.mk.injEq] at hs
  obtain⟨rfl,rfl⟩:=hs
  obtain⟨x1,x2,rfl,h1,h2⟩:=arr2 ha
  cases h1
  cases h2
  obtain⟨fn,g1,g2,g3,g4,g5⟩:=hx
  refine⟨φ,.int .i64 (findB s c),w,?_,.int _ _,Tn.refl hr⟩
  have hrun:(Extern.BytealgIndexByte.indexByte [Value.string s,Value.int IntKind.u8 c].toArray).run P w=.ok (.int .i64 (findB s c)) w:=by
   show Sem.run P (match (List.range s.size).find? fun i=>s[i]! == c.toNat.toUInt8 with | some i=>pure (goInt i) | none=>pure (goInt (-1))) w=_
   unfold findB
   split <;> rfl
  generalize Extern.BytealgIndexByte.indexByte=ee at g5 hrun
  simp only[callFunc,Sem.run_bind,run_program,Result.andThen_ok,g1,g3,g2,Option.isNone_none,g4,g5]
  simp[mark,Sem.run,hrun]
 ·simp at hs
end Go.Am
/-
 FROM THE ABSTRACT MACHINE TO A STATEMENT:what is asked of a program,as tests; what stands behind a law that only reads.
-/
set_option linter.unusedVariables false
set_option linter.unusedSimpArgs false
namespace Go.Am
variable {P:Program} {K:Xs}

theorem Good.of (hz:P.types.all (fun i=>match i.zero with | some z=>zeroOk z | none=>true)=true)
 (hf:P.funcs.all (fun fn=>(match fn.body with | some c=>codeDst fn.ntmps c | none=>true) && !(fn.name == "runtime.NumGoroutine"))=true) (hd:Nat.ble 50 P.depth=true):Good P where
 zero:=fun t i z ht hi hz'=>by
  unfold Tables.info? at hi
  rw[if_pos ht] at hi
  have:=Array.all_eq_true_iff_forall_mem.1 hz i (Array.mem_of_getElem? hi)
  rw[hz'] at this
  exact this
 dst:=fun f fn c h1 h2=>by
  have:=Array.all_eq_true_iff_forall_mem.1 hf fn (Array.mem_of_getElem? h1)
  rw[h2] at this
  simp only[Bool.and_eq_true] at this
  exact this.1
 name:=fun f fn h1=>by
  have:=Array.all_eq_true_iff_forall_mem.1 hf fn (Array.mem_of_getElem? h1)
  simp only[Bool.and_eq_true] at this
  simpa using this.2
 depth:=Nat.le_of_ble_eq_true hd
def xByte (n:Nat):Xs:=fun f=>cond (Nat.beq f n) (some (.ext xIndexByte)) none
theorem xByte_good {n:Nat} (hx:IsIndexByte P n):GoodX P (xByte n) where
 ext:=fun f g hk=>by
  unfold xByte at hk
  cases hb:Nat.beq f n with
  | true=>
    rw[hb] at hk
    simp only[cond_true,Option.some.injEq,XF.ext.injEq] at hk
    subst hk
    have:f=n:=Nat.eq_of_beq_eq_true hb
    subst this
    exact indexByte_ext hx
  | false=>rw[hb] at hk; simp at hk
 body:=fun f g hk=>by
  unfold xByte at hk
  cases hb:Nat.beq f n <;> rw[hb] at hk <;> simp at hk
 sum:=fun f g hk=>by
  unfold xByte at hk
  cases hb:Nat.beq f n <;> rw[hb] at hk <;> simp at hk
def isTrue:Option (Value×AH)→Bool
 | some (.bool true,_)=>true
 | _=>false
theorem isTrue_of {y:Option (Value×AH)} (h:isTrue y=true):∃h',y=some (.bool true,h'):=by
 unfold isTrue at h
 split at h
 ·exact⟨_,rfl⟩
 ·simp at h
theorem closed_true (G:Good P) (X:GoodX P K) {n:Nat} {f:FuncId} (hs:isTrue (callF P K (ex P K n) f [] ⟨.nil,0⟩)=true) (w:World):
 Calls P f #[] w fun e w'=>e=.returned (.bool true)∧Kept w w':=by
 obtain⟨h',h1⟩:=isTrue_of hs
 exact calls_true (φ:=fun _=>none) (args':=#[]) G X h1 (R.empty 0) (fun _ _=>rfl) (fun b o hb=>by simp[AH.get,Tr.get_nil] at hb) trivial

section
open Go.ChangeShapes Go.WideShapes
theorem post_kept {H:Type} {enc:TypeId×Value→H} {f:Func} {s:ChangeSpec} {apart fresh handsOn again:Bool} {W W' : World} {args:Array Value} {v:Value} {ds gs:List (DataW H)} {before pa pv:List MemPlace}
 (hW:DataW.Whole enc P f.params.toList s.vars apart W args.toList ds gs before)
 (hres:∀(b:Nat) (sp:Nat→Bool) (hd:Bool),DataW.TrodAll enc P W' b sp hd f.resultTypes.toList (v.resultList f.resultTypes.size) (s.fn H (ds ++ gs)).results [])
 (hargs:∀sp:Nat→Bool,(∀p∈before,sp p.block=true)→DataW.TrodAll enc P W' 0 sp true f.params.toList args.toList (s.fn H (ds ++ gs)).args pa)
 (hvars:∀sp:Nat→Bool,(∀p∈before,sp p.block=true)→DataW.TrodVars enc P W' sp s.vars (s.fn H (ds ++ gs)).vars pv)
 (hps:before=pa ++ pv) (hk:Kept W W')
 (hok:∀(j:Nat) (t:TypeId) (r:Value),f.resultTypes[j]?= some t→(v.resultList f.resultTypes.size)[j]?= some r→Value.okWide P W' .any 0 t r):
 s.post enc P f apart fresh handsOn again W args v W':=by
 have hlt:=hW.lt
 have hold:∀p∈before,(fun b=>decide (b < W.heap.size)) p.block=true:=fun p hp=>by simpa using hlt p hp
 refine⟨ds,gs,before,[],pa,pv,hW,hres _ _ _,hargs _ hold,hvars _ hold,World.keptBut_mono (fun p hp=>⟨hp,?_⟩) (hk.but (·∈before)),fun _=>?_⟩
 ·rw[hps,List.mem_append] at hp
  exact Or.inr hp
 ·obtain⟨_,_,_,_,_,hz,hn⟩:=hW
  refine⟨hok,_,_,([] ++ pa) ++ pv,⟨[] ++ pa,pv,trodAll_append (hargs _ (fun _ _=>rfl)) (hres _ _ _),hvars _ (fun _ _=>rfl),rfl,?_,?_⟩,?_⟩
  ·intro b off hp
   have hp' : MemPlace.cell b off∈before:=by rw[hps]; simpa using hp
   rw[hk.frozen _ (hlt _ hp')]
   exact hz b off hp'
  ·intro ha
   have:=hn ha
   rw[hps] at this
   simpa using this
  ·intro p hp _
   rw[hps]
   simpa using hp
end
end Go.Am
/-
 CONTRACTS IN THE ABSTRACT MACHINE:rules for code,as equivalences,for whatever fuel.
-/
set_option linter.unusedVariables false
set_option linter.unusedSimpArgs false
namespace Go.Am
def Wc (P:Program) (K:Xs) (rd:Option Nat) (c:Code) (e:Env) (h:AH) (Q:AX→Env→AH→Prop):Prop:=∃n x e' h',ex P K n rd [] c e h=some (x,e',h')∧Q x e' h'
def Wf (P:Program) (K:Xs) (f:FuncId) (args:List Value) (h:AH) (Q:Value→AH→Prop):Prop:=∃n v h',callX P K (ex P K n) f args h=some (v,h')∧Q v h'
def Wo (P:Program) (K:Xs) (o:Oper) (e:Env) (h:AH) (Q:Value→AH→Prop):Prop:=∃n v h',runOp P K (ex P K n) o e h=some (v,h')∧Q v h'
def Ws (P:Program) (K:Xs) (ops:Array Oper) (os:List Oper) (e:Env) (h:AH) (Q:Env→AH→Prop):Prop:=∃n e' h',runOps P K (ex P K n) [] ops os e h=some (e',h')∧Q e' h'
def Wd (P:Program) (K:Xs) (ops:Array Oper) (e:Env) (h:AH) (Q:Env→AH→Prop):Prop:=∃n e' h',exDraw P K (ex P K n) ops e h=some (e',h')∧Q e' h'
variable {P:Program} {K:Xs} {rd:Option Nat} {e:Env} {h:AH} {Q:AX→Env→AH→Prop}

theorem Wc.mono {c:Code} {Q' : AX→Env→AH→Prop} (w:Wc P K rd c e h Q) (hq:∀x e' h',Q x e' h'→Q' x e' h'):Wc P K rd c e h Q':=by
 obtain⟨n,x,e',h',h1,h2⟩:=w
 exact⟨n,x,e',h',h1,hq x e' h' h2⟩
theorem Wf.mono {f:FuncId} {args:List Value} {Q Q' : Value→AH→Prop} (w:Wf P K f args h Q) (hq:∀v h',Q v h'→Q' v h'):Wf P K f args h Q':=by
 obtain⟨n,v,h',h1,h2⟩:=w
 exact⟨n,v,h',h1,hq v h' h2⟩
theorem Wc_step {c:Code}:Wc P K rd c e h Q↔∃n x e' h',exStep P K (ex P K n) rd [] c e h=some (x,e',h')∧Q x e' h':=by
 constructor
 ·rintro⟨n,x,e',h',h1,h2⟩
  cases n with
  | zero=>simp[ex] at h1
  | succ n=>exact⟨n,x,e',h',h1,h2⟩
 ·rintro⟨n,x,e',h',h1,h2⟩
  exact⟨n+1,x,e',h',h1,h2⟩
theorem Wc_skip:Wc P K rd .skip e h Q↔Q .normal e h:=by
 rw[Wc_step]
 exact⟨fun ⟨n,x,e',h',h1,h2⟩=>by simp[exStep] at h1; obtain⟨rfl,rfl,rfl⟩:=h1; exact h2,fun hq=>⟨0,_,_,_,rfl,hq⟩⟩
theorem Wc_label {l:Nat}:Wc P K rd (.label l) e h Q↔Q .normal e h:=by
 rw[Wc_step]
 exact⟨fun ⟨n,x,e',h',h1,h2⟩=>by simp[exStep] at h1; obtain⟨rfl,rfl,rfl⟩:=h1; exact h2,fun hq=>⟨0,_,_,_,rfl,hq⟩⟩
theorem Wc_ret:Wc P K rd .ret e h Q↔Q .ret e h:=by
 rw[Wc_step]
 exact⟨fun ⟨n,x,e',h',h1,h2⟩=>by simp[exStep] at h1; obtain⟨rfl,rfl,rfl⟩:=h1; exact h2,fun hq=>⟨0,_,_,_,rfl,hq⟩⟩
theorem Wc_exit {i:Nat}:Wc P K rd (.exit i) e h Q↔Q (.exit i) e h:=by
 rw[Wc_step]
 exact⟨fun ⟨n,x,e',h',h1,h2⟩=>by simp[exStep] at h1; obtain⟨rfl,rfl,rfl⟩:=h1; exact h2,fun hq=>⟨0,_,_,_,rfl,hq⟩⟩
def onN (k:Env→AH→Prop) (Q:AX→Env→AH→Prop):AX→Env→AH→Prop
 | .normal,e,h=>k e h
 | x,e,h=>Q x e h
theorem onN_normal {k:Env→AH→Prop}:onN k Q .normal e h=k e h:=rfl
theorem onN_ret {k:Env→AH→Prop}:onN k Q .ret e h=Q .ret e h:=rfl
theorem onN_exit {k:Env→AH→Prop} {i:Nat}:onN k Q (.exit i) e h=Q (.exit i) e h:=rfl
theorem Wc_seq {a b:Code}:Wc P K rd (.seq a b) e h Q↔Wc P K rd a e h (onN (fun e' h'=>Wc P K rd b e' h' Q) Q):=by
 constructor
 ·rw[Wc_step]
  rintro⟨n,x,e',h',h1,h2⟩
  simp only[exStep] at h1
  split at h1
  ·rename_i e1 h3 hr
   exact⟨n,_,_,_,hr,n,x,e',h',h1,h2⟩
  ·rename_i hne
   refine⟨n,x,e',h',h1,?_⟩
   cases x with
   | normal=>exact absurd h1 (hne _ _)
   | _=>exact h2
 ·rintro⟨n,x,e',h',h1,h2⟩
  rw[Wc_step]
  cases x with
  | normal=>
    obtain⟨m,y,e2,h3,h4,h5⟩:=h2
    refine⟨max n m,y,e2,h3,?_,h5⟩
    simp only[exStep]
    rw[ex_le (Nat.le_max_left n m) _ _ _ _ _ _ h1]
    exact ex_le (Nat.le_max_right n m) _ _ _ _ _ _ h4
  | exit i=>exact⟨n,_,e',h',by simp only[exStep,h1],h2⟩
  | ret=>exact⟨n,_,e',h',by simp only[exStep,h1],h2⟩
theorem Wc_cond {c:Operand} {a b:Code} {t:Bool} (hc:ev e c=.bool t):Wc P K rd (.cond c a b) e h Q↔Wc P K rd (cond t a b) e h Q:=by
 rw[Wc_step]
 constructor
 ·rintro⟨n,x,e',h',h1,h2⟩
  simp only[exStep,hc] at h1
  exact⟨n,x,e',h',by cases t <;> exact h1,h2⟩
 ·rintro⟨n,x,e',h',h1,h2⟩
  refine⟨n,x,e',h',?_,h2⟩
  simp only[exStep,hc]
  cases t <;> exact h1
def outOf (id:Nat) (Q:AX→Env→AH→Prop):AX→Env→AH→Prop
 | .exit i,e,h=>cond (Nat.beq i id) (Q .normal e h) (Q (.exit i) e h)
 | x,e,h=>Q x e h
theorem outOf_normal {id:Nat}:outOf id Q .normal e h=Q .normal e h:=rfl
theorem outOf_ret {id:Nat}:outOf id Q .ret e h=Q .ret e h:=rfl
theorem outOf_self {id:Nat}:outOf id Q (.exit id) e h=Q .normal e h:=by simp[outOf]
theorem outOf_ne {id i:Nat} (hi:i≠id):outOf id Q (.exit i) e h=Q (.exit i) e h:=by simp[outOf,hi]
theorem Wc_block {id:Nat} {c:Code}:Wc P K rd (.block id c) e h Q↔Wc P K rd c e h (outOf id Q):=by
 rw[Wc_step]
 constructor
 ·rintro⟨n,x,e',h',h1,h2⟩
  simp only[exStep] at h1
  split at h1
  ·rename_i i e1 h3 hr
   refine⟨n,_,_,_,hr,?_⟩
   cases hb:Nat.beq i id <;> rw[hb] at h1 <;> simp only[cond_true,cond_false,Option.some.injEq,Prod.mk.injEq] at h1 <;> obtain⟨rfl,rfl,rfl⟩:=h1 <;> simp only[outOf,hb,cond_true,cond_false] <;> exact h2
  ·rename_i hne
   refine⟨n,x,e',h',h1,?_⟩
   cases x with
   | exit i=>exact absurd h1 (hne _ _ _)
   | _=>exact h2
 ·rintro⟨n,x,e',h',h1,h2⟩
  cases x with
  | exit i=>
    simp only[outOf] at h2
    cases hb:Nat.beq i id with
    | true=>rw[hb] at h2; exact⟨n,.normal,e',h',by simp only[exStep,h1,hb,cond_true],h2⟩
    | false=>rw[hb] at h2; exact⟨n,.exit i,e',h',by simp only[exStep,h1,hb,cond_false],h2⟩
  | normal=>exact⟨n,_,e',h',by simp only[exStep,h1],h2⟩
  | ret=>exact⟨n,_,e',h',by simp only[exStep,h1],h2⟩
theorem Wc_scope {c:Code}:Wc P K rd (.scope c) e h Q↔Wc P K rd c e h Q:=by
 rw[Wc_step]
 exact⟨fun ⟨n,x,e',h',h1,h2⟩=>⟨n,x,e',h',h1,h2⟩,fun ⟨n,x,e',h',h1,h2⟩=>⟨n,x,e',h',h1,h2⟩⟩
theorem Wc_loop {c:Code}:Wc P K rd (.loop c) e h Q↔Wc P K rd c e h (onN (fun e' h'=>Wc P K rd (.loop c) e' h' Q) Q):=by
 constructor
 ·rw[Wc_step]
  rintro⟨n,x,e',h',h1,h2⟩
  simp only[exStep] at h1
  split at h1
  ·rename_i e1 h3 hr
   exact⟨n,_,_,_,hr,n,x,e',h',h1,h2⟩
  ·rename_i hne
   refine⟨n,x,e',h',h1,?_⟩
   cases x with
   | normal=>exact absurd h1 (hne _ _)
   | _=>exact h2
 ·rintro⟨n,x,e',h',h1,h2⟩
  rw[Wc_step]
  cases x with
  | normal=>
    obtain⟨m,y,e2,h3,h4,h5⟩:=h2
    refine⟨max n m,y,e2,h3,?_,h5⟩
    simp only[exStep]
    rw[ex_le (Nat.le_max_left n m) _ _ _ _ _ _ h1]
    exact ex_le (Nat.le_max_right n m) _ _ _ _ _ _ h4
  | exit i=>exact⟨n,_,e',h',by simp only[exStep,h1],h2⟩
  | ret=>exact⟨n,_,e',h',by simp only[exStep,h1],h2⟩
theorem Wc_loop_inv {c:Code} (I:Nat→Env→AH→Prop) (hI:∀k e h,I k e h→Wc P K rd c e h (onN (fun e' h'=>∃j,j < k∧I j e' h') Q)):∀k e h,I k e h→Wc P K rd (.loop c) e h Q:=by
 intro k
 induction k using Nat.strongRecOn with
 | ind k ih=>
   intro e h hi
   rw[Wc_loop]
   refine (hI k e h hi).mono fun x e' h' hq=>?_
   cases x with
   | normal=>obtain⟨j,hj,hi'⟩:=hq; exact ih j hj e' h' hi'
   | exit i=>exact hq
   | ret=>exact hq
theorem Wc_region {id:Nat} {ops:Array Oper}:Wc P K rd (.region id ops false) e h Q↔Ws P K ops ops.toList e h (fun e' h'=>Q .normal e' h'):=by
 rw[Wc_step]
 constructor
 ·rintro⟨n,x,e',h',h1,h2⟩
  simp only[exStep] at h1
  split at h1
  ·rename_i e1 h3 hr
   simp only[Option.some.injEq,Prod.mk.injEq] at h1
   obtain⟨rfl,rfl,rfl⟩:=h1
   exact⟨n,_,_,hr,h2⟩
  ·simp at h1
 ·rintro⟨n,e',h',h1,h2⟩
  exact⟨n,.normal,e',h',by simp only[exStep,h1],h2⟩
theorem Wc_draw {id:Nat} {ops:Array Oper}:Wc P K rd (.region id ops true) e h Q↔Wd P K ops e h (fun e' h'=>Q .normal e' h'):=by
 rw[Wc_step]
 constructor
 ·rintro⟨n,x,e',h',h1,h2⟩
  simp only[exStep] at h1
  split at h1
  ·rename_i e1 h3 hr
   simp only[Option.some.injEq,Prod.mk.injEq] at h1
   obtain⟨rfl,rfl,rfl⟩:=h1
   exact⟨n,_,_,hr,h2⟩
  ·simp at h1
 ·rintro⟨n,e',h',h1,h2⟩
  exact⟨n,.normal,e',h',by simp only[exStep,h1],h2⟩
/-! ## Operations -/
theorem Ws_nil {ops:Array Oper} {Q:Env→AH→Prop}:Ws P K ops [] e h Q↔Q e h:=
 ⟨fun ⟨n,e',h',h1,h2⟩=>by simp[runOps] at h1; obtain⟨rfl,rfl⟩:=h1; exact h2,fun hq=>⟨0,_,_,rfl,hq⟩⟩
theorem preKill_nil (d:Option Tmp):preKill [] d e h=h:=by unfold preKill; cases d <;> rfl
theorem Ws_go {ops:Array Oper} {o:Oper} {os:List Oper} {Q:Env→AH→Prop} (hw:wantedA ops o e=some true):Ws P K ops (o :: os) e h Q↔Wo P K o e h (fun v h'=>Ws P K ops os (putO e o.dst v) h' Q):=by
 constructor
 ·rintro⟨n,e',h',h1,h2⟩
  simp only[runOps,hw,preKill_nil] at h1
  split at h1
  ·rename_i v h3 hr
   exact⟨n,v,h3,hr,n,e',h',h1,h2⟩
  ·simp at h1
 ·rintro⟨n,v,h3,h1,m,e',h',h4,h5⟩
  refine⟨max n m,e',h',?_,h5⟩
  simp only[runOps,hw,preKill_nil]
  rw[runOp_le (ex_le (Nat.le_max_left n m)) h1]
  exact runOps_le (ex_le (Nat.le_max_right n m)) h4
theorem Ws_skip {ops:Array Oper} {o:Oper} {os:List Oper} {Q:Env→AH→Prop} (hw:wantedA ops o e=some false):Ws P K ops (o :: os) e h Q↔Ws P K ops os (putO e o.dst skipV) h Q:=by
 constructor
 ·rintro⟨n,e',h',h1,h2⟩
  simp only[runOps,hw] at h1
  exact⟨n,e',h',h1,h2⟩
 ·rintro⟨n,e',h',h1,h2⟩
  exact⟨n,e',h',by simp only[runOps,hw]; exact h1,h2⟩
theorem Ws_plain {ops:Array Oper} {d:Option Tmp} {op:Op} {t:TypeId} {p:String} {af:Array Edge} {os:List Oper} {Q:Env→AH→Prop}:
 Ws P K ops (⟨d,op,t,p,af,none⟩ :: os) e h Q↔Wo P K ⟨d,op,t,p,af,none⟩ e h (fun v h'=>Ws P K ops os (putO e d v) h' Q):=Ws_go rfl
theorem Wo_a {o:Oper} {Q:Value→AH→Prop} (hk:opKind P o.op≠3∨aOp P o e h≠none) {v:Value} {h' : AH} (ha:aOp P o e h=some (v,h')) (hr:∀r,runOp P K r o e h=aOp P o e h):Wo P K o e h Q↔Q v h':=by
 constructor
 ·rintro⟨n,v1,h1,h2,h3⟩
  rw[hr,ha] at h2
  simp only[Option.some.injEq,Prod.mk.injEq] at h2
  obtain⟨rfl,rfl⟩:=h2
  exact h3
 ·intro hq
  exact⟨0,v,h',by rw[hr,ha],hq⟩
def callsV:Op→Bool
 | .call { callee:=.value _,.. }=>true
 | _=>false
theorem runOp_plain {r:Ex} {o:Oper} (hc:callsV o.op=false):runOp P K r o e h=aOp P o e h:=by
 obtain⟨d,op,t,p,af,g⟩:=o
 cases op
 case call c=>
  obtain⟨callee,args,ats⟩:=c
  cases callee
  case value f=>simp[callsV] at hc
  all_goals rfl
 all_goals rfl
theorem Wo_plain {o:Oper} {Q:Value→AH→Prop} (hc:callsV o.op=false) {v:Value} {h' : AH} (ha:aOp P o e h=some (v,h')):Wo P K o e h Q↔Q v h':=by
 constructor
 ·rintro⟨n,v1,h1,h2,h3⟩
  rw[runOp_plain hc,ha] at h2
  simp only[Option.some.injEq,Prod.mk.injEq] at h2
  obtain⟨rfl,rfl⟩:=h2
  exact h3
 ·intro hq
  exact⟨0,v,h',by rw[runOp_plain hc,ha],hq⟩
theorem Wo_call {d:Option Tmp} {f:Operand} {args:Array Operand} {ats:Array TypeId} {t:TypeId} {p:String} {af:Array Edge} {gd:Option (Nat×Bool)} {Q:Value→AH→Prop} {g:FuncId} {first cap:Array Value} (hf:ev e f=.func (.func g) first cap):
 Wo P K ⟨d,.call ⟨.value f,args,ats⟩,t,p,af,gd⟩ e h Q↔Wf P K g (first.toList ++ args.toList.map (ev e) ++ cap.toList) h Q:=by
 unfold Wo Wf
 simp only[runOp,invokeF,hf]
theorem Wo_callF {d:Option Tmp} {g:FuncId} {args:Array Operand} {ats:Array TypeId} {t:TypeId} {p:String} {af:Array Edge} {gd:Option (Nat×Bool)} {Q:Value→AH→Prop}:
 Wo P K ⟨d,.call ⟨.value (.func g),args,ats⟩,t,p,af,gd⟩ e h Q↔Wf P K g (args.toList.map (ev e)) h Q:=by
 rw[Wo_call (g:=g) (first:=#[]) (cap:=#[]) rfl]
 simp
theorem callX_body {r:Ex} {f:FuncId} {args:List Value} (hk:K f=none):callX P K r f args h=bodyF P r f args h:=by
 unfold callX callF
 rw[hk]
theorem Wf_enter {f:FuncId} {args:List Value} {Q:Value→AH→Prop} {fn:Func} {c:Code} (hk:K f=none) (hf:P.funcs[f]?= some fn) (hc:fn.body=some c):
 Wf P K f args h Q↔Wc P K none c (Tr.ofList args) h (fun x e' h'=>(x=.normal∨x=.ret)∧∃v,aResults P e' h' fn.results.toList=some v∧Q v h'):=by
 constructor
 ·rintro⟨n,v,h',h1,h2⟩
  rw[callX_body hk] at h1
  unfold bodyF at h1
  simp only[hf,hc] at h1
  split at h1
  ·rename_i e1 h3 hr
   split at h1
   ·rename_i v0 hv
    simp only[Option.some.injEq,Prod.mk.injEq] at h1
    obtain⟨rfl,rfl⟩:=h1
    exact⟨n,_,_,_,hr,.inl rfl,_,hv,h2⟩
   ·simp at h1
  ·rename_i e1 h3 hr
   split at h1
   ·rename_i v0 hv
    simp only[Option.some.injEq,Prod.mk.injEq] at h1
    obtain⟨rfl,rfl⟩:=h1
    exact⟨n,_,_,_,hr,.inr rfl,_,hv,h2⟩
   ·simp at h1
  ·simp at h1
 ·rintro⟨n,x,e',h',h1,hx,v,h2,h3⟩
  refine⟨n,v,h',?_,h3⟩
  rw[callX_body hk]
  unfold bodyF
  simp only[hf,hc]
  rcases hx with rfl | rfl
  ·rw[h1]; simp only[h2]
  ·rw[h1]; simp only[h2]
theorem Wf_ext {f:FuncId} {args:List Value} {Q:Value→AH→Prop} {g:List Value→AH→Option (Value×AH)} (hk:K f=some (.ext g)) {v:Value} {h' : AH} (hg:g args h=some (v,h')) (hn:h.next≤h'.next) (hq:Q v h'):
 Wf P K f args h Q:=by
 refine⟨0,v,h',?_,hq⟩
 unfold callX grown
 rw[hk]
 simp only[hg]
 have:Nat.ble h.next h'.next=true:=Nat.ble_eq_true_of_le hn
 simp only[this]
theorem law_true (G:Good P) (X:GoodX P K) {f:FuncId} {args:List Value} (hk:K f=none) (w0:Wf P K f args h (fun v _=>v=.bool true)) {φ:Fi} {w:World} {args' : Array Value}
 (hr:R P φ h w) (hf:∀b,h.next≤b→φ b=none) (hro:AllRo h) (ha:AR φ args args'.toList):
 Calls P f args' w fun e w'=>e=.returned (.bool true)∧Kept w w':=by
 obtain⟨n,v,h',h1,rfl⟩:=w0
 rw[callX_body hk] at h1
 refine calls_true (K:=K) (n:=n) (h':=h') G X ?_ hr hf hro ha
 unfold callF
 rw[hk]
 exact h1
end Go.Am
/-
 CONTRACTS IN THE ABSTRACT MACHINE:the rules as rewritings,from outside in.
-/
set_option linter.unusedVariables false
set_option linter.unusedSimpArgs false
namespace Go.Am
section
variable {P:Program} {K:Xs} {e:Env} {h:AH}
def onS (y:Option (Value×AH)) (Q:Value→AH→Prop):Prop:=match y with | some z=>Q z.1 z.2 | none=>False
@[simp ↓] theorem onS_some {v:Value} {Q:Value→AH→Prop}:onS (some (v,h)) Q=Q v h:=rfl
@[simp] theorem onS_map {x:Value} {Q:Value→AH→Prop}:onS ((some x).map (·,h)) Q=Q x h:=rfl
@[simp] theorem onS_mapU {Q:Value→AH→Prop}:onS ((some h).map (undef,·)) Q=Q undef h:=rfl
@[congr] theorem onS_congr {y z:Option (Value×AH)} {Q:Value→AH→Prop} (hy:y=z):onS y Q=onS z Q:=by rw[hy]
def ks (P:Program) (K:Xs) (ops:Array Oper) (os:List Oper) (d:Option Tmp) (e:Env) (Q:Env→AH→Prop):Value→AH→Prop:=fun v h'=>Ws P K ops os (putO e d v) h' Q
def kc (P:Program) (K:Xs) (rd:Option Nat) (b:Code) (Q:AX→Env→AH→Prop):Env→AH→Prop:=fun e h=>Wc P K rd b e h Q
def kn (Q:AX→Env→AH→Prop):Env→AH→Prop:=fun e h=>Q .normal e h
@[simp ↓] theorem ks_at {ops:Array Oper} {os:List Oper} {d:Option Tmp} {Q:Env→AH→Prop} {v:Value}:ks P K ops os d e Q v h=Ws P K ops os (putO e d v) h Q:=rfl
@[simp ↓] theorem kc_at {rd:Option Nat} {b:Code} {Q:AX→Env→AH→Prop}:kc P K rd b Q e h=Wc P K rd b e h Q:=rfl
@[simp ↓] theorem kn_at {Q:AX→Env→AH→Prop}:kn Q e h=Q .normal e h:=rfl
theorem Wo_eq {o:Oper} {Q:Value→AH→Prop} (hc:callsV o.op=false):Wo P K o e h Q=onS (aOp P o e h) Q:=by
 cases ha:aOp P o e h with
 | none=>
   refine propext ⟨?_,fun hq=>hq.elim⟩
   rintro⟨n,v1,h1,h2,h3⟩
   rw[runOp_plain hc,ha] at h2
   simp at h2
 | some y=>exact propext (Wo_plain hc ha)
theorem Wo_move {dst:Option Tmp} (x:Operand) {t:TypeId} {p:String} {af:Array Edge} {gd:Option (Nat×Bool)} {Q:Value→AH→Prop}:Wo P K ⟨dst,.move x,t,p,af,gd⟩ e h Q=onS (aOp P ⟨dst,.move x,t,p,af,gd⟩ e h) Q:=Wo_eq rfl
theorem Wo_assign {dst:Option Tmp} (x:Operand) {t:TypeId} {p:String} {af:Array Edge} {gd:Option (Nat×Bool)} {Q:Value→AH→Prop}:Wo P K ⟨dst,.assign x,t,p,af,gd⟩ e h Q=onS (aOp P ⟨dst,.assign x,t,p,af,gd⟩ e h) Q:=Wo_eq rfl
theorem Wo_pick {dst:Option Tmp} (c a b:Operand) {t:TypeId} {p:String} {af:Array Edge} {gd:Option (Nat×Bool)} {Q:Value→AH→Prop}:Wo P K ⟨dst,.pick c a b,t,p,af,gd⟩ e h Q=onS (aOp P ⟨dst,.pick c a b,t,p,af,gd⟩ e h) Q:=Wo_eq rfl
theorem Wo_alloc {dst:Option Tmp} (ty:TypeId) {t:TypeId} {p:String} {af:Array Edge} {gd:Option (Nat×Bool)} {Q:Value→AH→Prop}:Wo P K ⟨dst,.alloc ty,t,p,af,gd⟩ e h Q=onS (aOp P ⟨dst,.alloc ty,t,p,af,gd⟩ e h) Q:=Wo_eq rfl
theorem Wo_box {dst:Option Tmp} (ty:TypeId) (x:Operand) {t:TypeId} {p:String} {af:Array Edge} {gd:Option (Nat×Bool)} {Q:Value→AH→Prop}:Wo P K ⟨dst,.box ty x,t,p,af,gd⟩ e h Q=onS (aOp P ⟨dst,.box ty x,t,p,af,gd⟩ e h) Q:=Wo_eq rfl
theorem Wo_build {dst:Option Tmp} (ty:TypeId) (ps:Array (Nat×Operand)) {t:TypeId} {p:String} {af:Array Edge} {gd:Option (Nat×Bool)} {Q:Value→AH→Prop}:Wo P K ⟨dst,.build ty ps,t,p,af,gd⟩ e h Q=onS (aOp P ⟨dst,.build ty ps,t,p,af,gd⟩ e h) Q:=Wo_eq rfl
theorem Wo_buildSlice {dst:Option Tmp} (ty:TypeId) (n:Nat) (ps:Array (Nat×Operand)) {t:TypeId} {p:String} {af:Array Edge} {gd:Option (Nat×Bool)} {Q:Value→AH→Prop}:Wo P K ⟨dst,.buildSlice ty n ps,t,p,af,gd⟩ e h Q=onS (aOp P ⟨dst,.buildSlice ty n ps,t,p,af,gd⟩ e h) Q:=Wo_eq rfl
theorem Wo_load {dst:Option Tmp} (ty:TypeId) (x:Operand) {t:TypeId} {p:String} {af:Array Edge} {gd:Option (Nat×Bool)} {Q:Value→AH→Prop}:Wo P K ⟨dst,.load ty x,t,p,af,gd⟩ e h Q=onS (aOp P ⟨dst,.load ty x,t,p,af,gd⟩ e h) Q:=Wo_eq rfl
theorem Wo_store {dst:Option Tmp} (ty:TypeId) (x y:Operand) {t:TypeId} {p:String} {af:Array Edge} {gd:Option (Nat×Bool)} {Q:Value→AH→Prop}:Wo P K ⟨dst,.store ty x y,t,p,af,gd⟩ e h Q=onS (aOp P ⟨dst,.store ty x y,t,p,af,gd⟩ e h) Q:=Wo_eq rfl
theorem Wo_nilCheck {dst:Option Tmp} (x:Operand) {t:TypeId} {p:String} {af:Array Edge} {gd:Option (Nat×Bool)} {Q:Value→AH→Prop}:Wo P K ⟨dst,.nilCheck x,t,p,af,gd⟩ e h Q=onS (aOp P ⟨dst,.nilCheck x,t,p,af,gd⟩ e h) Q:=Wo_eq rfl
theorem Wo_binOp {dst:Option Tmp} (op:BinOp) (ty:TypeId) (x y:Operand) (yt:TypeId) {t:TypeId} {p:String} {af:Array Edge} {gd:Option (Nat×Bool)} {Q:Value→AH→Prop}:Wo P K ⟨dst,.binOp op ty x y yt,t,p,af,gd⟩ e h Q=onS (aOp P ⟨dst,.binOp op ty x y yt,t,p,af,gd⟩ e h) Q:=Wo_eq rfl
theorem Wo_unOp {dst:Option Tmp} (op:UnOp) (ty:TypeId) (x:Operand) {t:TypeId} {p:String} {af:Array Edge} {gd:Option (Nat×Bool)} {Q:Value→AH→Prop}:Wo P K ⟨dst,.unOp op ty x,t,p,af,gd⟩ e h Q=onS (aOp P ⟨dst,.unOp op ty x,t,p,af,gd⟩ e h) Q:=Wo_eq rfl
theorem Wo_convert {dst:Option Tmp} (s d:TypeId) (x:Operand) {t:TypeId} {p:String} {af:Array Edge} {gd:Option (Nat×Bool)} {Q:Value→AH→Prop}:Wo P K ⟨dst,.convert s d x,t,p,af,gd⟩ e h Q=onS (aOp P ⟨dst,.convert s d x,t,p,af,gd⟩ e h) Q:=Wo_eq rfl
theorem Wo_makeFunc {dst:Option Tmp} (fn:Fn) (a b:Array Operand) {t:TypeId} {p:String} {af:Array Edge} {gd:Option (Nat×Bool)} {Q:Value→AH→Prop}:Wo P K ⟨dst,.makeFunc fn a b,t,p,af,gd⟩ e h Q=onS (aOp P ⟨dst,.makeFunc fn a b,t,p,af,gd⟩ e h) Q:=Wo_eq rfl
theorem Wo_makeMap {dst:Option Tmp} (ty:TypeId) (r:Option Operand) {t:TypeId} {p:String} {af:Array Edge} {gd:Option (Nat×Bool)} {Q:Value→AH→Prop}:Wo P K ⟨dst,.makeMap ty r,t,p,af,gd⟩ e h Q=onS (aOp P ⟨dst,.makeMap ty r,t,p,af,gd⟩ e h) Q:=Wo_eq rfl
theorem Wo_makeSlice {dst:Option Tmp} (ty:TypeId) (l c:Operand) {t:TypeId} {p:String} {af:Array Edge} {gd:Option (Nat×Bool)} {Q:Value→AH→Prop}:Wo P K ⟨dst,.makeSlice ty l c,t,p,af,gd⟩ e h Q=onS (aOp P ⟨dst,.makeSlice ty l c,t,p,af,gd⟩ e h) Q:=Wo_eq rfl
theorem Wo_slice {dst:Option Tmp} (ty:TypeId) (x:Operand) (lo hi mx:Option Operand) {t:TypeId} {p:String} {af:Array Edge} {gd:Option (Nat×Bool)} {Q:Value→AH→Prop}:Wo P K ⟨dst,.slice ty x lo hi mx,t,p,af,gd⟩ e h Q=onS (aOp P ⟨dst,.slice ty x lo hi mx,t,p,af,gd⟩ e h) Q:=Wo_eq rfl
theorem Wo_fieldAddr {dst:Option Tmp} (ty:TypeId) (x:Operand) (f:Nat) {t:TypeId} {p:String} {af:Array Edge} {gd:Option (Nat×Bool)} {Q:Value→AH→Prop}:Wo P K ⟨dst,.fieldAddr ty x f,t,p,af,gd⟩ e h Q=onS (aOp P ⟨dst,.fieldAddr ty x f,t,p,af,gd⟩ e h) Q:=Wo_eq rfl
theorem Wo_field {dst:Option Tmp} (ty:TypeId) (x:Operand) (f:Nat) {t:TypeId} {p:String} {af:Array Edge} {gd:Option (Nat×Bool)} {Q:Value→AH→Prop}:Wo P K ⟨dst,.field ty x f,t,p,af,gd⟩ e h Q=onS (aOp P ⟨dst,.field ty x f,t,p,af,gd⟩ e h) Q:=Wo_eq rfl
theorem Wo_indexAddr {dst:Option Tmp} (ty:TypeId) (x i:Operand) {t:TypeId} {p:String} {af:Array Edge} {gd:Option (Nat×Bool)} {Q:Value→AH→Prop}:Wo P K ⟨dst,.indexAddr ty x i,t,p,af,gd⟩ e h Q=onS (aOp P ⟨dst,.indexAddr ty x i,t,p,af,gd⟩ e h) Q:=Wo_eq rfl
theorem Wo_index {dst:Option Tmp} (ty:TypeId) (x i:Operand) {t:TypeId} {p:String} {af:Array Edge} {gd:Option (Nat×Bool)} {Q:Value→AH→Prop}:Wo P K ⟨dst,.index ty x i,t,p,af,gd⟩ e h Q=onS (aOp P ⟨dst,.index ty x i,t,p,af,gd⟩ e h) Q:=Wo_eq rfl
theorem Wo_lookup {dst:Option Tmp} (ty:TypeId) (x i:Operand) (ok:Bool) {t:TypeId} {p:String} {af:Array Edge} {gd:Option (Nat×Bool)} {Q:Value→AH→Prop}:Wo P K ⟨dst,.lookup ty x i ok,t,p,af,gd⟩ e h Q=onS (aOp P ⟨dst,.lookup ty x i ok,t,p,af,gd⟩ e h) Q:=Wo_eq rfl
theorem Wo_mapUpdate {dst:Option Tmp} (ty:TypeId) (m k v:Operand) {t:TypeId} {p:String} {af:Array Edge} {gd:Option (Nat×Bool)} {Q:Value→AH→Prop}:Wo P K ⟨dst,.mapUpdate ty m k v,t,p,af,gd⟩ e h Q=onS (aOp P ⟨dst,.mapUpdate ty m k v,t,p,af,gd⟩ e h) Q:=Wo_eq rfl
theorem Wo_range {dst:Option Tmp} (ty:TypeId) (x:Operand) {t:TypeId} {p:String} {af:Array Edge} {gd:Option (Nat×Bool)} {Q:Value→AH→Prop}:Wo P K ⟨dst,.range ty x,t,p,af,gd⟩ e h Q=onS (aOp P ⟨dst,.range ty x,t,p,af,gd⟩ e h) Q:=Wo_eq rfl
theorem Wo_next {dst:Option Tmp} (x:Operand) (s:Bool) {t:TypeId} {p:String} {af:Array Edge} {gd:Option (Nat×Bool)} {Q:Value→AH→Prop}:Wo P K ⟨dst,.next x s,t,p,af,gd⟩ e h Q=onS (aOp P ⟨dst,.next x s,t,p,af,gd⟩ e h) Q:=Wo_eq rfl
theorem Wo_extract {dst:Option Tmp} (x:Operand) (i:Nat) {t:TypeId} {p:String} {af:Array Edge} {gd:Option (Nat×Bool)} {Q:Value→AH→Prop}:Wo P K ⟨dst,.extract x i,t,p,af,gd⟩ e h Q=onS (aOp P ⟨dst,.extract x i,t,p,af,gd⟩ e h) Q:=Wo_eq rfl
theorem Wo_builtin {dst:Option Tmp} {bi:Builtin} {args:Array Operand} {ats:Array TypeId} {t:TypeId} {p:String} {af:Array Edge} {gd:Option (Nat×Bool)} {Q:Value→AH→Prop}:Wo P K ⟨dst,.call ⟨.builtin bi,args,ats⟩,t,p,af,gd⟩ e h Q=onS (aOp P ⟨dst,.call ⟨.builtin bi,args,ats⟩,t,p,af,gd⟩ e h) Q:=Wo_eq rfl

@[simp ↓] theorem Wc_seqK {rd:Option Nat} {a b:Code} {Q:AX→Env→AH→Prop}:Wc P K rd (.seq a b) e h Q=Wc P K rd a e h (onN (kc P K rd b Q) Q):=propext Wc_seq
@[simp ↓] theorem Wc_regionK {rd:Option Nat} {id:Nat} {ops:Array Oper} {Q:AX→Env→AH→Prop}:Wc P K rd (.region id ops false) e h Q=Ws P K ops ops.toList e h (kn Q):=propext Wc_region
@[simp ↓] theorem Wc_drawK {rd:Option Nat} {id:Nat} {ops:Array Oper} {Q:AX→Env→AH→Prop}:Wc P K rd (.region id ops true) e h Q=Wd P K ops e h (kn Q):=propext Wc_draw
@[simp ↓] theorem Ws_plainK {ops:Array Oper} {d:Option Tmp} {op:Op} {t:TypeId} {p:String} {af:Array Edge} {os:List Oper} {Q:Env→AH→Prop}:
 Ws P K ops (⟨d,op,t,p,af,none⟩ :: os) e h Q=Wo P K ⟨d,op,t,p,af,none⟩ e h (ks P K ops os d e Q):=propext Ws_plain
@[simp ↓] theorem Wo_callK {d:Option Tmp} {g:FuncId} {args:Array Operand} {ats:Array TypeId} {t:TypeId} {p:String} {af:Array Edge} {gd:Option (Nat×Bool)} {Q:Value→AH→Prop}:
 Wo P K ⟨d,.call ⟨.value (.func g),args,ats⟩,t,p,af,gd⟩ e h Q=Wf P K g (args.toList.map (ev e)) h Q:=propext Wo_callF
attribute [simp ↓] Wc_skip Wc_label Wc_ret Wc_exit Wc_block Wc_scope Ws_nil Wo_move Wo_assign Wo_pick Wo_alloc Wo_box Wo_build Wo_buildSlice Wo_load Wo_store Wo_nilCheck Wo_binOp Wo_unOp Wo_convert Wo_makeFunc Wo_makeMap Wo_makeSlice Wo_slice Wo_fieldAddr Wo_field Wo_indexAddr Wo_index Wo_lookup Wo_mapUpdate Wo_range Wo_next Wo_extract Wo_builtin
attribute [simp] onN_normal onN_ret onN_exit outOf_normal outOf_ret outOf_self
@[simp] theorem outOf_exit {id i:Nat} {Q:AX→Env→AH→Prop}:outOf id Q (.exit i) e h=if i=id then Q .normal e h else Q (.exit i) e h:=by
  by_cases hi:i=id
  ·subst hi; simp[outOf]
  ·rw[outOf_ne hi,if_neg hi]
@[congr] theorem Wc_congr {rd:Option Nat} {c:Code} {e e' : Env} {h h' : AH} {Q:AX→Env→AH→Prop} (he:e=e') (hh:h=h'):Wc P K rd c e h Q=Wc P K rd c e' h' Q:=by rw[he,hh]
@[congr] theorem Wf_congr {f:FuncId} {a a' : List Value} {h h' : AH} {Q:Value→AH→Prop} (he:a=a') (hh:h=h'):Wf P K f a h Q=Wf P K f a' h' Q:=by rw[he,hh]
@[congr] theorem Ws_congr {ops:Array Oper} {os:List Oper} {e e' : Env} {h h' : AH} {Q:Env→AH→Prop} (he:e=e') (hh:h=h'):Ws P K ops os e h Q=Ws P K ops os e' h' Q:=by rw[he,hh]
@[congr] theorem Wo_congr {o:Oper} {e e' : Env} {h h' : AH} {Q:Value→AH→Prop} (he:e=e') (hh:h=h'):Wo P K o e h Q=Wo P K o e' h' Q:=by rw[he,hh]
def onB (v:Value) (A B:Prop):Prop:=match v with | .bool true=>A | .bool false=>B | _=>False
@[simp] theorem onB_bool {t:Bool} {A B:Prop}:onB (.bool t) A B=(if t=true then A else B):=by cases t <;> simp[onB]
@[congr] theorem onB_congr {v v' : Value} {A B:Prop} (hv:v=v'):onB v A B=onB v' A B:=by rw[hv]
@[simp ↓] theorem Wc_onB {rd:Option Nat} {Q:AX→Env→AH→Prop} {c:Operand} {a b:Code}:Wc P K rd (.cond c a b) e h Q=onB (ev e c) (Wc P K rd a e h Q) (Wc P K rd b e h Q):=by
  cases hv:ev e c with
  | bool t=>rw[propext (Wc_cond hv)]; cases t <;> rfl
  | _=>
    simp only[onB]
    refine propext ⟨?_,fun hq=>hq.elim⟩
    rw[Wc_step]
    rintro⟨n,x,e',h',h1,h2⟩
    simp[exStep,hv] at h1
def onG (g:Option Bool) (A B:Prop):Prop:=match g with | some true=>A | some false=>B | none=>False
@[simp] theorem onG_some {t:Bool} {A B:Prop}:onG (some t) A B=(if t=true then A else B):=by cases t <;> simp[onG]
@[congr] theorem onG_congr {v v' : Option Bool} {A B:Prop} (hv:v=v'):onG v A B=onG v' A B:=by rw[hv]
@[simp ↓] theorem Ws_guard {ops:Array Oper} {d:Option Tmp} {op:Op} {t:TypeId} {p:String} {af:Array Edge} {g:Nat×Bool} {os:List Oper} {Q:Env→AH→Prop}:
 Ws P K ops (⟨d,op,t,p,af,some g⟩ :: os) e h Q=onG (wantedA ops ⟨d,op,t,p,af,some g⟩ e) (Wo P K ⟨d,op,t,p,af,some g⟩ e h (ks P K ops os d e Q)) (Ws P K ops os (putO e d skipV) h Q):=by
  cases hw:wantedA ops ⟨d,op,t,p,af,some g⟩ e with
  | none=>
    simp only[onG]
    refine propext ⟨?_,fun hq=>hq.elim⟩
    rintro⟨n,e',h',h1,h2⟩
    simp[runOps,hw] at h1
  | some b=>
    cases b with
    | true=>exact propext (Ws_go hw)
    | false=>exact propext (Ws_skip hw)

/-! ## Drawn regions -/
def Wl (P:Program) (K:Xs) (ops:Array Oper) (os:List Nat) (e:Env) (h:AH) (Q:List (Env×AH)→Prop):Prop:=∃n l,runL P K (ex P K n) ops os e h=some l∧Q l
@[congr] theorem Wl_congr {ops:Array Oper} {os:List Nat} {e e' : Env} {h h' : AH} {Q:List (Env×AH)→Prop} (he:e=e') (hh:h=h'):Wl P K ops os e h Q=Wl P K ops os e' h' Q:=by rw[he,hh]
@[simp ↓] theorem Wl_nil {ops:Array Oper} {Q:List (Env×AH)→Prop}:Wl P K ops [] e h Q=Q [(e,h)]:=
  propext ⟨fun ⟨n,l,h1,h2⟩=>by simp[runL] at h1; subst h1; exact h2,fun hq=>⟨0,_,rfl,hq⟩⟩
def onO (o:Option Oper) (k:Oper→Prop):Prop:=match o with | some o=>k o | none=>False
@[simp ↓] theorem onO_some {o:Oper} {k:Oper→Prop}:onO (some o) k=k o:=rfl
@[congr] theorem onO_congr {o o' : Option Oper} {k:Oper→Prop} (ho:o=o'):onO o k=onO o' k:=by rw[ho]
def kl (P:Program) (K:Xs) (ops:Array Oper) (js:List Nat) (d:Option Tmp) (e:Env) (Q:List (Env×AH)→Prop):Value→AH→Prop:=fun v h'=>Wl P K ops js (putO e d v) h' Q
def kp (e:Env) (h:AH) (Q:List (Env×AH)→Prop):List (Env×AH)→Prop:=fun l=>Q ((e,h) :: l)
@[simp ↓] theorem kl_at {ops:Array Oper} {js:List Nat} {d:Option Tmp} {Q:List (Env×AH)→Prop} {v:Value}:kl P K ops js d e Q v h=Wl P K ops js (putO e d v) h Q:=rfl
@[simp ↓] theorem kp_at {Q:List (Env×AH)→Prop} {l:List (Env×AH)}:kp e h Q l=Q ((e,h) :: l):=rfl
def ko (P:Program) (K:Xs) (ops:Array Oper) (js:List Nat) (e:Env) (h:AH) (Q:List (Env×AH)→Prop):Oper→Prop:=fun o=>onG (wantedA ops o e) (Wo P K o e h (kl P K ops js o.dst e (kp e h Q))) (Wl P K ops js (putO e o.dst skipV) h (kp e h Q))
@[simp ↓] theorem ko_at {ops:Array Oper} {js:List Nat} {Q:List (Env×AH)→Prop} {o:Oper}:ko P K ops js e h Q o=onG (wantedA ops o e) (Wo P K o e h (kl P K ops js o.dst e (kp e h Q))) (Wl P K ops js (putO e o.dst skipV) h (kp e h Q)):=rfl
def kd (Q:Env→AH→Prop):List (Env×AH)→Prop:=fun l=>∃y,l.getLast?= some y∧Q y.1 y.2
@[simp ↓] theorem kd_at {Q:Env→AH→Prop} {l:List (Env×AH)}:kd Q l=∃y,l.getLast?= some y∧Q y.1 y.2:=rfl
theorem Wl_cons {ops:Array Oper} {j:Nat} {js:List Nat} {Q:List (Env×AH)→Prop}:Wl P K ops (j :: js) e h Q =
 onO ops[j]? (ko P K ops js e h Q):=by
 cases ho:ops[j]? with
 | none=>
   refine propext ⟨?_,fun hq=>hq.elim⟩
   rintro⟨n,l,h1,h2⟩
   simp[runL,ho] at h1
 | some o=>
   simp only[onO,ko_at]
   cases hw:wantedA ops o e with
   | none=>
     refine propext ⟨?_,fun hq=>hq.elim⟩
     rintro⟨n,l,h1,h2⟩
     simp[runL,ho,hw] at h1
   | some b=>
     cases b with
     | true=>
       simp only[onG]
       refine propext ⟨?_,?_⟩
       ·rintro⟨n,l,h1,h2⟩
        simp only[runL,ho,hw] at h1
        split at h1
        ·rename_i v h3 hr
         split at h1
         ·rename_i l2 hl2
          simp only[Option.some.injEq] at h1
          subst h1
          exact⟨n,v,h3,hr,n,l2,hl2,h2⟩
         ·simp at h1
        ·simp at h1
       ·rintro⟨n,v,h3,h1,m,l,h4,h5⟩
        refine⟨max n m,(e,h) :: l,?_,h5⟩
        simp only[runL,ho,hw]
        rw[runOp_le (ex_le (Nat.le_max_left n m)) h1]
        simp only
        rw[runL_le (ex_le (Nat.le_max_right n m)) h4]
     | false=>
       simp only[onG]
       refine propext ⟨?_,?_⟩
       ·rintro⟨n,l,h1,h2⟩
        simp only[runL,ho,hw] at h1
        split at h1
        ·rename_i l2 hl2
         simp only[Option.some.injEq] at h1
         subst h1
         exact⟨n,l2,hl2,h2⟩
        ·simp at h1
       ·rintro⟨n,l,h4,h5⟩
        exact⟨n,(e,h) :: l,by simp only[runL,ho,hw,h4],h5⟩
theorem Wd_plan {ops:Array Oper} {Q:Env→AH→Prop} {ord:List Nat} {ps:List (Nat×Nat)} (hp:plan P ops=some (ord,ps)):
 Wd P K ops e h Q=Wl P K ops ord e h (fun l=>ps.all (fun p=>rereadAt P ops ord l p.1 p.2 && rereadAt P ops ord l p.1 (p.2+1))=true∧∃y,l.getLast?= some y∧Q y.1 y.2):=by
 refine propext ⟨?_,?_⟩
 ·rintro⟨n,e',h',h1,h2⟩
  unfold exDraw at h1
  rw[hp] at h1
  simp only at h1
  split at h1
  ·rename_i l hl
   split at h1
   ·rename_i hall
    exact⟨n,l,hl,hall,(e',h'),h1,h2⟩
   ·simp at h1
  ·simp at h1
 ·rintro⟨n,l,hl,hall,y,h1,h2⟩
  refine⟨n,y.1,y.2,?_,h2⟩
  unfold exDraw
  rw[hp]
  simp only[hl,hall,h1]
theorem Wd_calm {ops:Array Oper} {Q:Env→AH→Prop} {ord:List Nat} (hp:plan P ops=some (ord,[])):
 Wd P K ops e h Q=Wl P K ops ord e h (kd Q):=by
 rw[Wd_plan hp]
 unfold kd
 simp only[List.all_nil,true_and]
attribute [simp ↓] Wl_cons
/-! ### Drawn,with no one to be looked at again:operation by operation -/
theorem runL_ne {r:Ex} {ops:Array Oper}:∀{os:List Nat} {e:Env} {h:AH} {l:List (Env×AH)},runL P K r ops os e h=some l→l≠[]
 | [],e,h,l,hr=>by
   simp only[runL,Option.some.injEq] at hr
   rw[←hr]
   simp
 | j :: js,e,h,l,hr=>by
   unfold runL at hr
   split at hr
   ·split at hr
    ·split at hr
     ·split at hr
      ·simp only[Option.some.injEq] at hr
       rw[←hr]
       simp
      ·simp at hr
     ·simp at hr
    ·split at hr
     ·simp only[Option.some.injEq] at hr
      rw[←hr]
      simp
     ·simp at hr
    ·simp at hr
   ·simp at hr
def Wj (P:Program) (K:Xs) (ops:Array Oper) (os:List Nat) (e:Env) (h:AH) (Q:Env→AH→Prop):Prop:=Wl P K ops os e h (kd Q)
@[congr] theorem Wj_congr {ops:Array Oper} {os:List Nat} {e e' : Env} {h h' : AH} {Q:Env→AH→Prop} (he:e=e') (hh:h=h'):Wj P K ops os e h Q=Wj P K ops os e' h' Q:=by rw[he,hh]
theorem Wj_calm {ops:Array Oper} {Q:Env→AH→Prop} {ord:List Nat} (hp:plan P ops=some (ord,[])):Wd P K ops e h Q=Wj P K ops ord e h Q:=Wd_calm hp
@[simp ↓] theorem Wj_nil {ops:Array Oper} {Q:Env→AH→Prop}:Wj P K ops [] e h Q=Q e h:=by
  unfold Wj
  rw[Wl_nil,kd_at]
  simp
def kj (P:Program) (K:Xs) (ops:Array Oper) (js:List Nat) (d:Option Tmp) (e:Env) (Q:Env→AH→Prop):Value→AH→Prop:=fun v h'=>Wj P K ops js (putO e d v) h' Q
@[simp ↓] theorem kj_at {ops:Array Oper} {js:List Nat} {d:Option Tmp} {Q:Env→AH→Prop} {v:Value}:kj P K ops js d e Q v h=Wj P K ops js (putO e d v) h Q:=rfl
def kjo (P:Program) (K:Xs) (ops:Array Oper) (js:List Nat) (e:Env) (h:AH) (Q:Env→AH→Prop):Oper→Prop:=fun o=>onG (wantedA ops o e) (Wo P K o e h (kj P K ops js o.dst e Q)) (Wj P K ops js (putO e o.dst skipV) h Q)
@[simp ↓] theorem kjo_at {ops:Array Oper} {js:List Nat} {Q:Env→AH→Prop} {o:Oper}:kjo P K ops js e h Q o=onG (wantedA ops o e) (Wo P K o e h (kj P K ops js o.dst e Q)) (Wj P K ops js (putO e o.dst skipV) h Q):=rfl
theorem Wl_tail {ops:Array Oper} {js:List Nat} {e1:Env} {h1:AH} {Q:Env→AH→Prop}:Wl P K ops js e h (kp e1 h1 (kd Q))=Wj P K ops js e h Q:=by
 refine propext ⟨?_,?_⟩
 ·rintro⟨n,l,hl,y,h2,h3⟩
  refine⟨n,l,hl,y,?_,h3⟩
  cases l with
  | nil=>exact absurd rfl (runL_ne hl)
  | cons a l=>simpa[List.getLast?_cons] using h2
 ·rintro⟨n,l,hl,y,h2,h3⟩
  refine⟨n,l,hl,y,?_,h3⟩
  cases l with
  | nil=>exact absurd rfl (runL_ne hl)
  | cons a l=>simpa[List.getLast?_cons] using h2
@[simp ↓] theorem Wj_cons {ops:Array Oper} {j:Nat} {js:List Nat} {Q:Env→AH→Prop}:Wj P K ops (j :: js) e h Q=onO ops[j]? (kjo P K ops js e h Q):=by
  unfold Wj
  rw[Wl_cons]
  cases ops[j]? with
  | none=>rfl
  | some o=>
    simp only[onO,ko_at,kjo_at,Wl_tail]
    have:kl P K ops js o.dst e (kp e h (kd Q))=kj P K ops js o.dst e Q:=by
     funext v h'
     rw[kl_at,Wl_tail]
     rfl
    rw[this]
/-! ## Values -/
@[simp] theorem aBin_add {t:TypeId} {k:IntKind} {a b:Int}:aBin P .add t (.int k a) (.int k b)=some (.int k (k.wrap (a+b))):=by simp[aBin,aInt]
@[simp] theorem aBin_sub {t:TypeId} {k:IntKind} {a b:Int}:aBin P .sub t (.int k a) (.int k b)=some (.int k (k.wrap (a - b))):=by simp[aBin,aInt]
@[simp] theorem aBin_mul {t:TypeId} {k:IntKind} {a b:Int}:aBin P .mul t (.int k a) (.int k b)=some (.int k (k.wrap (a * b))):=by simp[aBin,aInt]
@[simp] theorem aBin_quo {t:TypeId} {k:IntKind} {a b:Int}:aBin P .quo t (.int k a) (.int k b)=if b=0 then none else some (.int k (k.wrap (a.tdiv b))):=by simp[aBin,aInt]
@[simp] theorem aBin_rem {t:TypeId} {k:IntKind} {a b:Int}:aBin P .rem t (.int k a) (.int k b)=if b=0 then none else some (.int k (a.tmod b)):=by simp[aBin,aInt]
@[simp] theorem aBin_lss {t:TypeId} {k:IntKind} {a b:Int}:aBin P .lss t (.int k a) (.int k b)=some (.bool (decide (a < b))):=by simp[aBin,aInt]
@[simp] theorem aBin_leq {t:TypeId} {k:IntKind} {a b:Int}:aBin P .leq t (.int k a) (.int k b)=some (.bool (decide (a≤b))):=by simp[aBin,aInt]
@[simp] theorem aBin_gtr {t:TypeId} {k:IntKind} {a b:Int}:aBin P .gtr t (.int k a) (.int k b)=some (.bool (decide (b < a))):=by simp[aBin,aInt]
@[simp] theorem aBin_geq {t:TypeId} {k:IntKind} {a b:Int}:aBin P .geq t (.int k a) (.int k b)=some (.bool (decide (b≤a))):=by simp[aBin,aInt]
@[simp] theorem aBin_eql {t:TypeId} {k:IntKind} {a b:Int}:aBin P .eql t (.int k a) (.int k b)=some (.bool (decide (a=b))):=by simp[aBin,aInt]; rfl
@[simp] theorem aBin_neq {t:TypeId} {k:IntKind} {a b:Int}:aBin P .neq t (.int k a) (.int k b)=some (.bool (!decide (a=b))):=by simp[aBin,aInt]; rfl
@[simp] theorem aFieldAddr_at {s b off f:Nat} {fs:Array Field} {fd:Field} (h1:P.underlying s=some (.struct fs)) (h2:fs[f]?= some fd) (h3:P.cellsOf fd.type≠0):aFieldAddr P s (.pointer (some ⟨b,off,none⟩)) f=some (.pointer (some ⟨b,off+fd.offset,none⟩)):=by
  simp[aFieldAddr,h1,h2,h3,ptr]
attribute [simp] ev_tmp
@[simp] theorem ev_const {v:Value}:ev e (.const v)=cond (plainV v) v undef:=rfl
@[simp] theorem ev_func {f:FuncId}:ev e (.func f)=.func (.func f) #[] #[]:=rfl
@[simp] theorem putO_some {d:Tmp} {v:Value}:putO e (some d) v=e.set d v:=rfl
@[simp] theorem putO_none {v:Value}:putO e none v=e:=rfl
attribute [simp] Tr.get_set Tr.get_ofList AH.get_set AH.get_alloc AH.get_del
attribute [simp] plainV
end
end Go.Am
/-
 CONTRACTS IN THE ABSTRACT MACHINE:memory,cell by cell and part by part.
-/
set_option linter.unusedVariables false
set_option linter.unusedSimpArgs false
namespace Go.Am
section
variable {P:Program} {K:Xs} {e:Env} {h:AH}
def cellsAt (h:AH) (b:Nat):Option (List Value×TypeId×Bool):=match h.get b with | some (.cells cs e ro)=>some (cs,e,ro) | _=>none
theorem take_put_drop {α:Type} (l:List α) (i:Nat) (v:α) (hi:i < l.length):l.take i ++ [v] ++ l.drop (i+1)=l.set i v:=by
 rw[List.set_eq_take_append_cons_drop,if_pos hi]
 simp
def oneV:Value→Bool
 | .agg _ | .tuple _=>false
 | _=>true
theorem cells_oneV {v:Value} (hv:oneV v=true):v.cells=#[v]:=by cases v <;> first | rfl | (simp[oneV] at hv)
def load1 (y:Option AObj) (off:Nat):Option Value:=match y with | some (.cells cs _ _)=>cs[off]? | _=>none
def cellAt (cs:List Value) (i:Nat):Option Value:=cs[i]?
@[simp] theorem cellAt_zero {v:Value} {l:List Value}:cellAt (v :: l) 0=some v:=rfl
@[simp] theorem cellAt_succ {v:Value} {l:List Value} {n:Nat}:cellAt (v :: l) (n+1)=cellAt l n:=by simp[cellAt]
@[simp] theorem load1_cells {cs:List Value} {e:TypeId} {ro:Bool} {off:Nat}:load1 (some (.cells cs e ro)) off=cellAt cs off:=rfl
def loadN (y:Option AObj) (off n:Nat):Option Value:=match y with | some (.cells cs _ _)=>if off+n≤cs.length then some (.agg ((cs.drop off).take n).toArray) else none | _=>none
@[simp] theorem loadN_cells {cs:List Value} {e:TypeId} {ro:Bool} {off n:Nat}:loadN (some (.cells cs e ro)) off n=if off+n≤cs.length then some (.agg ((cs.drop off).take n).toArray) else none:=rfl
@[simp] theorem aLoad_one {t:TypeId} {b off:Nat} (ht:aggT P t=some false):aLoad P h t (.pointer (some ⟨b,off,none⟩))=load1 (h.get b) off:=by
  simp only[aLoad,load1]
  cases hb:h.get b with
  | none=>rfl
  | some o=>cases o <;> simp[ht]
@[simp] theorem aLoad_agg {t:TypeId} {b off:Nat} (ht:aggT P t=some true):aLoad P h t (.pointer (some ⟨b,off,none⟩))=loadN (h.get b) off (P.cellsOf t):=by
  simp only[aLoad,loadN]
  cases hb:h.get b with
  | none=>rfl
  | some o=>cases o <;> simp[ht]
def store1 (h:AH) (b off:Nat) (v:Value) (y:Option AObj):Option AH:=match y with | some (.cells cs e false)=>if off < cs.length then some (h.set b (.cells (cs.set off v) e false)) else none | _=>none
@[simp] theorem store1_cells {cs:List Value} {e:TypeId} {b off:Nat} {v:Value}:store1 h b off v (some (.cells cs e false))=if off < cs.length then some (h.set b (.cells (cs.set off v) e false)) else none:=rfl
theorem aStore_one {t:TypeId} {b off:Nat} {v:Value} (h1:P.cellsOf t=1) (h2:(P.info? t).isSome=true) (hv:oneV v=true):aStore P h t (.pointer (some ⟨b,off,none⟩)) v=store1 h b off v (h.get b):=by
 have hc:=cells_oneV hv
 have key:aStoreCells h b off [v]=store1 h b off v (h.get b):=by
  simp only[aStoreCells,store1]
  cases hb:h.get b with
  | none=>rfl
  | some o=>
    cases o with
    | cells cs e ro=>
      cases ro with
      | true=>rfl
      | false=>
        simp only[List.length_singleton]
        by_cases hl:off < cs.length
        ·rw[if_pos hl,if_pos (by omega),take_put_drop _ _ _ hl]
        ·rw[if_neg hl,if_neg (by omega)]
    | _=>rfl
 unfold aStore
 cases v <;> first | (simp[oneV] at hv; done) | (simp[hc,h1,h2]; exact key)
@[simp] theorem aStore_int {t:TypeId} {b off:Nat} {k:IntKind} {n:Int} (h1:P.cellsOf t=1) (h2:(P.info? t).isSome=true):aStore P h t (.pointer (some ⟨b,off,none⟩)) (.int k n)=store1 h b off (.int k n) (h.get b):=aStore_one h1 h2 rfl
@[simp] theorem aStore_bool {t:TypeId} {b off:Nat} {x:Bool} (h1:P.cellsOf t=1) (h2:(P.info? t).isSome=true):aStore P h t (.pointer (some ⟨b,off,none⟩)) (.bool x)=store1 h b off (.bool x) (h.get b):=aStore_one h1 h2 rfl
@[simp] theorem aStore_ptr {t:TypeId} {b off:Nat} {x:Option Addr} (h1:P.cellsOf t=1) (h2:(P.info? t).isSome=true):aStore P h t (.pointer (some ⟨b,off,none⟩)) (.pointer x)=store1 h b off (.pointer x) (h.get b):=aStore_one h1 h2 rfl
@[simp] theorem aStore_slice {t:TypeId} {b off:Nat} {x:Option Addr} {n c:Nat} (h1:P.cellsOf t=1) (h2:(P.info? t).isSome=true):aStore P h t (.pointer (some ⟨b,off,none⟩)) (.slice x n c)=store1 h b off (.slice x n c) (h.get b):=aStore_one h1 h2 rfl
def storeN (h:AH) (b off:Nat) (vs:List Value) (y:Option AObj):Option AH:=match y with | some (.cells cs e false)=>if off+vs.length≤cs.length then some (h.set b (.cells (cs.take off ++ vs ++ cs.drop (off+vs.length)) e false)) else none | _=>none
@[simp] theorem storeN_cells {cs:List Value} {e:TypeId} {b off:Nat} {vs:List Value}:storeN h b off vs (some (.cells cs e false))=if off+vs.length≤cs.length then some (h.set b (.cells (cs.take off ++ vs ++ cs.drop (off+vs.length)) e false)) else none:=rfl
theorem aStoreCells_eq {b off:Nat} {vs:List Value}:aStoreCells h b off vs=storeN h b off vs (h.get b):=by
 simp only[aStoreCells,storeN]
 cases hb:h.get b with
 | none=>rfl
 | some o=>cases o <;> first | rfl | (rename_i ro; cases ro <;> rfl)
@[simp] theorem aStore_agg {t:TypeId} {b off:Nat} {vs:Array Value} (h2:(P.info? t).isSome=true):aStore P h t (.pointer (some ⟨b,off,none⟩)) (.agg vs)=if vs.size=P.cellsOf t then storeN h b off vs.toList (h.get b) else none:=by
  simp[aStore,aStoreCells_eq,h2,Value.cells]
def idxA (P:Program) (b off:Nat) (j:Int):Option TypeDesc→Option Value
 | some (.array n elem)=>if 0≤j∧j < n∧(P.info? elem).isSome=true then some (.pointer (some ⟨b,off+j.toNat * P.cellsOf elem,none⟩)) else none
 | _=>none
@[simp] theorem idxA_arr {b off n:Nat} {j:Int} {elem:TypeId}:idxA P b off j (some (.array n elem))=if 0≤j∧j < n∧(P.info? elem).isSome=true then some (.pointer (some ⟨b,off+j.toNat * P.cellsOf elem,none⟩)) else none:=rfl
@[simp] theorem aIndexAddr_arr {t:TypeId} {b off:Nat} {k:IntKind} {j:Int}:aIndexAddr P t (.pointer (some ⟨b,off,none⟩)) (.int k j)=idxA P b off j (P.underlying t):=by
  unfold aIndexAddr idxA
  cases P.underlying t with
  | none=>rfl
  | some d=>cases d <;> rfl
def idxS (P:Program) (b off n:Nat) (j:Int):Option TypeDesc→Option Value
 | some (.slice elem)=>if 0≤j∧j < n∧(P.info? elem).isSome=true then some (.pointer (some ⟨b,off+j.toNat * P.cellsOf elem,none⟩)) else none
 | _=>none
@[simp] theorem idxS_slice {b off n:Nat} {j:Int} {elem:TypeId}:idxS P b off n j (some (.slice elem))=if 0≤j∧j < n∧(P.info? elem).isSome=true then some (.pointer (some ⟨b,off+j.toNat * P.cellsOf elem,none⟩)) else none:=rfl
@[simp] theorem aIndexAddr_slice {t:TypeId} {b off n c:Nat} {k:IntKind} {j:Int}:aIndexAddr P t (.slice (some ⟨b,off,none⟩) n c) (.int k j)=idxS P b off n j (P.underlying t):=by
  unfold aIndexAddr idxS
  cases P.underlying t with
  | none=>rfl
  | some d=>cases d <;> rfl
@[simp] theorem aLen_slice {t elem:TypeId} {x:Option Addr} {n c:Nat} (h1:P.underlying t=some (.slice elem)):aLen P h t (.slice x n c)=some (.int .i64 n):=by simp[aLen,h1]
@[simp] theorem aBuiltin_len {t:TypeId} {x:Value}:aBuiltin P h .len #[t] [x]=(aLen P h t x).map (·,h):=by simp[aBuiltin]
theorem Wc_gen {rd:Option Nat} {c:Code} {Q:AX→Env→AH→Prop} (A:Env→Prop) (hA:A e) (key:∀e2,A e2→Wc P K rd c e2 h Q):Wc P K rd c e h Q:=key e hA
theorem Wj_gen {ops:Array Oper} {js:List Nat} {Q:Env→AH→Prop} (A:Env→Prop) (hA:A e) (key:∀e2,A e2→Wj P K ops js e2 h Q):Wj P K ops js e h Q:=key e hA
@[simp] theorem aBuiltin_append {st xt:TypeId} {s x:Value} {elem:TypeId} (hx:P.underlying xt=some (.slice elem)):aBuiltin P h .append #[st,xt] [s,x]=aAppend P h st false s x:=by simp[aBuiltin,hx]
theorem wrap_i64 {x:Int} (h1:-9223372036854775808≤x) (h2:x≤9223372036854775807):IntKind.i64.wrap x=x:=by
 simp[IntKind.wrap,IntKind.bits,IntKind.signed]
 omega
theorem wrap_u64 {x:Int} (h1:0≤x) (h2:x≤18446744073709551615):IntKind.u64.wrap x=x:=by
 simp[IntKind.wrap,IntKind.bits,IntKind.signed]
 omega
theorem wrap_u8 {x:Int} (h1:0≤x) (h2:x≤255):IntKind.u8.wrap x=x:=by
 simp[IntKind.wrap,IntKind.bits,IntKind.signed]
 omega
end
end Go.Am
