/-
  Texts of this proof, part 9. No condition.
-/
import Derived.Test.YtmnbboleclchcaaGreatFAm3e
import Derived.Orders
set_option linter.unusedVariables false
set_option linter.unusedSimpArgs false
namespace Go.Am
theorem zlA (P:Program) (o:Op):zax P o<=3:=by
 unfold zax
 grind
section
variable (P:Program) (K:Xs) (r:Ex) (ops:Array Oper) (n:Nat) (J:Nat->Nat) (O:Nat->Oper) (E:Nat->Env) (H:Nat->AH) (V:Nat->Value)
def Re (p x:Nat):Prop:=zaI ops (O p) (E p)=some false\/∃h'',aOp P (O p) (E p) (H x)=some (V p,h'')
def Bf (q p:Nat):Prop:=((Region.before ops).getD (J q) 0).testBit (J p)=true
def zAE (p q:Nat):Prop:=
 (∀d,(O p).dst=some d->(O q).dst≠some d)/\
 (Bf ops J q p\/((∀d,(O p).dst=some d->d∉zld ops (O q))/\(∀d,(O q).dst=some d->d∉zld ops (O p))/\
   (zax P (O q).op=3->zax P (O p).op≠3/\zax P (O p).op≠1/\(zax P (O p).op=2->Re P ops O E H V p q/\Re P ops O E H V p (q+1)))/\
   (zax P (O p).op=3->zax P (O q).op=2->Re P ops O E H V q p/\Re P ops O E H V q (p+1))))
structure Txt:Prop where
 at_:∀p,p < n->ops[J p]?= some (O p)
 env:∀p,p < n->E (p+1)=putO (E p) (O p).dst (V p)
 run:∀p,p < n->(zaI ops (O p) (E p)=some true/\runOp P K r (O p) (E p) (H p)=some (V p,H (p+1)))\/(zaI ops (O p) (E p)=some false/\V p=zdq/\H (p+1)=H p)
 next:∀p,p < n->(H p).next<=(H (p+1)).next
 inj:∀p q,p < n->q < n->J p=J q->p=q
 pair:∀p q,p < q->q < n->zAE P ops J O E H V p q
def Cur (D:Nat->Prop) (m b:Nat) (o:zca):Prop:=
 (H m).get b=some o\/∃p,m<=p/\p < n/\D p/\zax P (O p).op=1/\b=(H p).next/\H (p+1)=(H p).alloc o
structure Mid (φ0:Fi) (w0:World) (D:Nat->Prop) (m:Nat) (φ:Fi) (w:World):Prop where
 mle:m<=n
 low:∀p,p < m->(zax P (O p).op=1\/zax P (O p).op=3)->D p
 high:∀p,m<=p->p < n->zax P (O p).op=3->¬D p
 last:m=0\/(zax P (O (m - 1)).op=3/\D (m - 1))
 obj:∀b o rc,Cur P n O H D m b o->φ b=some rc->∃o',w.heap[rc.blk]?= some o'/\OR P φ rc o o'
 inj:∀b1 b2 o1 o2 r1 r2,Cur P n O H D m b1 o1->Cur P n O H D m b2 o2->φ b1=some r1->φ b2=some r2->r1.blk=r2.blk->b1=b2\/(o1.ro=true/\o2.ro=true)
 lt:∀b o,(H m).get b=some o->b < (H m).next
 dom:∀b,φ b≠none->φ0 b≠none\/∃p,p < n/\D p/\(H p).next<=b/\b < (H (p+1)).next
 le:Le φ0 φ
 size:w0.heap.size<=w.heap.size
 os:w.os=w0.os
 tape:w.tape=w0.tape
 output:w.output=w0.output
 keep:∀c,c < w0.heap.size->¬Own φ0 (H 0) c->w.heap[c]?= w0.heap[c]?
 old:∀b o rc,Cur P n O H D m b o->φ b=some rc->rc.blk < w0.heap.size->∃b0 o0 r0,(H 0).get b0=some o0/\φ0 b0=some r0/\r0.blk=rc.blk/\(o.ro=false->o0.ro=false)
end
section
variable {P:Program} {K:Xs} {r:Ex} {ops:Array Oper} {n:Nat} {J:Nat->Nat} {O:Nat->Oper} {E:Nat->Env} {H:Nat->AH} {V:Nat->Value}
variable {φ0 φ φ' : Fi} {w0 w w' : World} {D:Nat->Prop} {m:Nat}
theorem Txt.mono (T:Txt P K r ops n J O E H V):∀(p q:Nat),p<=q->q<=n->(H p).next<=(H q).next:=by
 intro p q hpq hq
 induction q<;>grind[next]
theorem Txt.disjoint (T:Txt P K r ops n J O E H V) {p q b:Nat} (hp:p < n) (hq:q < n) (h1:(H p).next<=b) (h2:b < (H (p+1)).next) (h3:(H q).next<=b) (h4:b < (H (q+1)).next):p=q:=by
 rcases Nat.lt_trichotomy p q with h | h | h
 all_goals grind[mono]
theorem Txt.made (T:Txt P K r ops n J O E H V) {p:Nat} (hp:p < n) (hk:zax P (O p).op=1) {o:zca} (ho:H (p+1)=(H p).alloc o):o.ro=false:=by
 rcases T.run p hp with ⟨_,hr⟩ | ⟨_,_,hr⟩
 ·grind[zdb,zvN]
 ·rw[hr] at ho
  have:=congrArg AH.next ho
  simp at this
theorem Txt.grow (T:Txt P K r ops n J O E H V) {p:Nat} (hp:p < n) (hk:zax P (O p).op≠3):∃x,H (p+1)=zbt (H p) x/\(zax P (O p).op≠1->x=none):=by
 rcases T.run p hp with ⟨_,hr⟩ | ⟨_,_,hr⟩
 ·rw[zdb _ hk] at hr
  by_cases h2:zax P (O p).op=2
  ·exact⟨none,zlx h2 hr,λ_=>rfl⟩
  grind[zlA,zjF]
 ·exact⟨none,hr,λ_=>rfl⟩
theorem Mid.seg (T:Txt P K r ops n J O E H V) {N:Nat} (hF:zeB φ0 (H 0).next N) (hN:(H n).next<=N) (M:Mid P n O H φ0 w0 D m φ w):∀(q:Nat),m<=q->q<=n->(∀p,m<=p->p < q->zax P (O p).op≠3)->
 (∀b o,(H q).get b=some o->b < (H q).next)/\(∀b o,(H q).get b=some o->φ b≠none->Cur P n O H D m b o)/\(∀b o,(H m).get b=some o->(H q).get b=some o)/\
 (∀p o,m<=p->p < q->zax P (O p).op=1->H (p+1)=(H p).alloc o->(H q).get (H p).next=some o):=by
 intro q
 induction q with
 | zero=>
   intro h1 h2 h3
   have:m=0:=by omega
   subst this
   exact⟨M.lt,λb o hb _=>.inl hb,λ_ _ hb=>hb,by omega⟩
 | succ q ih=>
   intro h1 h2 h3
   rcases QK q m with hqm | hqm
   ·have:m=q+1:=by omega
    subst this
    exact⟨M.lt,λb o hb _=>.inl hb,λ_ _ hb=>hb,by omega⟩
   obtain⟨i1,i2,i3,i4⟩:=ih hqm (by omega) (by grind)
   obtain⟨x,hx,hx1⟩:=T.grow (by omega) (h3 q hqm (by omega))
   cases x with
   | none=>
     simp only[zbt] at hx
     rw[hx]
     refine⟨i1,i2,i3,λp o hp hp2 hk ha=>?_⟩
     rcases QK p q with hlt | hge
     ·grind
     ·have:p=q:=by omega
      subst this
      rw[hx] at ha
      have:=congrArg AH.next ha
      simp at this
   | some ob=>
     simp only[zbt] at hx
     have hk1:zax P (O q).op=1:=by grind
     have hget:∀b o,(H (q+1)).get b=some o->(b=(H q).next/\o=ob)\/(b≠(H q).next/\(H q).get b=some o):=by grind[AH.get_alloc]
     have hkeep:∀b o,(H q).get b=some o->(H (q+1)).get b=some o:=by grind[AH.get_alloc]
     have hnx:(H (q+1)).next=(H q).next+1:=by simp_all
     refine⟨λb o hb=>?_,λb o hb hφ=>?_,by grind,λp o hp hp2 hk ha=>?_⟩
     ·grind
     ·rcases hget b o hb with ⟨rfl,rfl⟩ | ⟨_,hb⟩
      ·refine .inr ⟨q,hqm,by omega,?_,hk1,rfl,hx⟩
       rcases M.dom _ hφ with hφ0 | ⟨p,hp,hd,g1,g2⟩
       ·exfalso
        have e1:=T.mono 0 q (by omega) (by omega)
        have e2:=T.mono (q+1) n (by omega) (by omega)
        exact hφ0 (hF _ e1 (by omega))
       grind[Txt.disjoint]
      grind
     grind[AH.get_alloc]
theorem Mid.rel (T:Txt P K r ops n J O E H V) {N:Nat} (hF:zeB φ0 (H 0).next N) (hN:(H n).next<=N) (M:Mid P n O H φ0 w0 D m φ w) {q:Nat} (h1:m<=q) (h2:q<=n) (h3:∀p,m<=p->p < q->zax P (O p).op≠3):
 R P φ (H q) w:=by
 obtain⟨i1,i2,_,_⟩:=M.seg T hF hN q h1 h2 h3
 exact⟨by grind[obj],
  λb1 b2 o1 o2 r1 r2 g1 g2 k1 k2 e=>M.inj b1 b2 o1 o2 r1 r2 (by grind) (by grind) k1 k2 e,i1⟩
def Nx (P:Program) (n:Nat) (O:Nat->Oper) (H:Nat->AH) (D:Nat->Prop) (q:Nat) (h2:AH) (b:Nat) (o:zca):Prop:=
 h2.get b=some o\/∃p,q<=p/\p < n/\D p/\zax P (O p).op=1/\b=(H p).next/\H (p+1)=(H p).alloc o/\h2.next<=b
theorem Mid.stepOn (T:Txt P K r ops n J O E H V) {N:Nat} (hF:zeB φ0 (H 0).next N) (hN:(H n).next<=N) (M:Mid P n O H φ0 w0 D m φ w) {q:Nat} (h1:m<=q) (h2:q<=n) (h3:∀p,m<=p->p < q->zax P (O p).op≠3)
 {hh:AH} (t:Tn P φ (H q) w φ' hh w'):
 (∀b o rc,Nx P n O H D q hh b o->φ' b=some rc->∃o',w'.heap[rc.blk]?= some o'/\OR P φ' rc o o')/\
 (∀b1 b2 o1 o2 r1 r2,Nx P n O H D q hh b1 o1->Nx P n O H D q hh b2 o2->φ' b1=some r1->φ' b2=some r2->r1.blk=r2.blk->b1=b2\/(o1.ro=true/\o2.ro=true))/\
 (∀b o rc,Nx P n O H D q hh b o->φ' b=some rc->rc.blk < w0.heap.size->∃b0 o0 r0,(H 0).get b0=some o0/\φ0 b0=some r0/\r0.blk=rc.blk/\(o.ro=false->o0.ro=false)):=by
 obtain⟨i1,i2,_,_⟩:=M.seg T hF hN q h1 h2 h3
 have later:∀b o rc p,q<=p->p < n->D p->zax P (O p).op=1->b=(H p).next->H (p+1)=(H p).alloc o->hh.next<=b->φ' b=some rc->
  φ b=some rc/\Cur P n O H D m b o/\∃o',w.heap[rc.blk]?= some o'/\OR P φ rc o o':=by
  intro b o rc p g1 g2 g3 g4 g5 g6 g7 hφ'
  have hc:Cur P n O H D m b o:=.inr ⟨p,by omega,g2,g3,g4,g5,g6⟩
  have hφ:φ b=some rc:=by
   rcases t.new b (by grind) with hq | hq
   ·cases hb:φ b with
    | none=>grind
    | some r2=>have:=t.le b r2 hb; grind
   omega
  grind[obj]
 have apart:∀b o rc,b≥hh.next->o.ro=false->Cur P n O H D m b o->φ b=some rc->∀b' o' r',(H q).get b'= some o'->φ b'= some r'->r'.blk≠rc.blk:=by
  intro b o rc hb hno hc hφ b' o' r' hb' hφ' e
  have l2:=t.nle
  rcases M.inj b' b o' o r' rc (by grind) hc hφ' hφ e with this | this
  all_goals grind
 refine⟨?_,?_,?_⟩
 ·intro b o rc hn hφ'
  rcases hn with hb | ⟨p,g1,g2,g3,g4,g5,g6,g7⟩
  ·exact t.rel.obj b o rc hb hφ'
  ·obtain⟨hφ,hc,o',ho',hr⟩:=later b o rc p g1 g2 g3 g4 g5 g6 g7 hφ'
   refine⟨o',?_,hr.mono t.le⟩
   rw[t.keep rc.blk (by grind) ?_]
   ·omega
   ·rintro⟨b',o2,r2,k1,k2,k3,_⟩
    grind[Txt.made]
 ·have mixed:∀b1 b2 o1 o2 r1 r2,hh.get b1=some o1->(∃p,q<=p/\p < n/\D p/\zax P (O p).op=1/\b2=(H p).next/\H (p+1)=(H p).alloc o2/\hh.next<=b2)->φ' b1=some r1->φ' b2=some r2->r1.blk=r2.blk->False:=by
   intro b1 b2 o1 o2 r1 r2 hb ⟨p,g1,g2,g3,g4,g5,g6,g7⟩ k1 k2 e
   obtain⟨hφ,hc,o',ho',hr⟩:=later b2 o2 r2 p g1 g2 g3 g4 g5 g6 g7 k2
   obtain⟨b0,o0,r0,l1,l2,l3,_⟩:=t.old b1 o1 r1 hb k1 (by grind)
   exact apart b2 o2 r2 g7 (T.made g2 g4 g6) hc hφ b0 o0 r0 l1 l2 (by omega)
  intro b1 b2 o1 o2 r1 r2 hn1 hn2 k1 k2 e
  rcases hn1 with hb1 | hp1 <;> rcases hn2 with hb2 | hp2
  ·exact t.rel.inj b1 b2 o1 o2 r1 r2 hb1 hb2 k1 k2 e
  ·exact (mixed b1 b2 o1 o2 r1 r2 hb1 hp2 k1 k2 e).elim
  ·exact (mixed b2 b1 o2 o1 r2 r1 hb2 hp1 k2 k1 e.symm).elim
  ·obtain⟨p,g1,g2,g3,g4,g5,g6,g7⟩:=hp1
   obtain⟨p',g1',g2',g3',g4',g5',g6',g7'⟩:=hp2
   obtain⟨f1,c1,_⟩:=later b1 o1 r1 p g1 g2 g3 g4 g5 g6 g7 k1
   obtain⟨f2,c2,_⟩:=later b2 o2 r2 p' g1' g2' g3' g4' g5' g6' g7' k2
   exact M.inj b1 b2 o1 o2 r1 r2 c1 c2 f1 f2 e
 ·intro b o rc hn hφ' hlt
  rcases hn with hb | ⟨p,g1,g2,g3,g4,g5,g6,g7⟩
  ·obtain⟨b1,o1,r1,l1,l2,l3,l4⟩:=t.old b o rc hb hφ' (Qi hlt M.size)
   obtain⟨b0,o0,r0,k1,k2,k3,k4⟩:=M.old b1 o1 r1 (by grind) l2 (by omega)
   grind
  ·obtain⟨hφ,hc,_⟩:=later b o rc p g1 g2 g3 g4 g5 g6 g7 hφ'
   exact M.old b o rc hc hφ hlt
theorem Mid.keepOn (T:Txt P K r ops n J O E H V) {N:Nat} (hF:zeB φ0 (H 0).next N) (hN:(H n).next<=N) (M:Mid P n O H φ0 w0 D m φ w) {q:Nat} (h1:m<=q) (h2:q<=n) (h3:∀p,m<=p->p < q->zax P (O p).op≠3)
 {hh:AH} (t:Tn P φ (H q) w φ' hh w'):∀c,c < w0.heap.size->¬Own φ0 (H 0) c->w'.heap[c]?= w0.heap[c]?:=by
 obtain⟨i1,i2,_,_⟩:=M.seg T hF hN q h1 h2 h3
 intro c hc ho
 rw[t.keep c (Qi hc M.size),M.keep c hc ho]
 rintro⟨b,o,rc,k1,k2,k3,k4⟩
 obtain⟨b0,o0,r0,l1,l2,l3,l4⟩:=M.old b o rc (by grind) k2 (by omega)
 exact ho ⟨b0,o0,r0,l1,l2,by omega,l4 k4⟩
theorem Mid.write (T:Txt P K r ops n J O E H V) {N:Nat} (hF:zeB φ0 (H 0).next N) (hN:(H n).next<=N) (M:Mid P n O H φ0 w0 D m φ w) {q:Nat} (hq:q < n) (h1:m<=q) (h3:∀p,m<=p->p < q->zax P (O p).op≠3)
 (hk:zax P (O q).op=3) (hlow:∀p,p < q->zax P (O p).op=1->D p) (t:Tn P φ (H q) w φ' (H (q+1)) w'):Mid P n O H φ0 w0 (λp=>p=q\/D p) (q+1) φ' w':=by
 obtain⟨s1,s2,s3⟩:=M.stepOn T hF hN h1 (by omega) h3 t
 have cur:∀b o,Cur P n O H (λp=>p=q\/D p) (q+1) b o->Nx P n O H D q (H (q+1)) b o:=by
  intro b o hc
  rcases hc with hc | ⟨p,g1,g2,g3,g4,g5,g6⟩
  ·exact .inl hc
  ·refine .inr ⟨p,by omega,g2,by grind,g4,g5,g6,?_⟩
   grind[Txt.mono]
 refine⟨by omega,?_,?_,by grind,by grind,by grind,t.rel.lt,?_,
  M.le.trans t.le,Qm M.size t.size,t.os.trans M.os,t.tape.trans M.tape,t.output.trans M.output,by grind[keepOn],by grind⟩
 ·intro p hp hkp
  rcases QK p q with hlt | hge
  ·rcases hkp with hkp | hkp
   ·grind
   ·rcases QK p m with hpm | hpm
    all_goals grind[low]
  omega
 ·grind[high]
 ·intro b hb
  rcases t.new b hb with hb | hb
  ·rcases M.dom b hb with hb | ⟨p,g1,g2,g3⟩
   all_goals grind
  grind
theorem Mid.read (T:Txt P K r ops n J O E H V) {N:Nat} (hF:zeB φ0 (H 0).next N) (hN:(H n).next<=N) (M:Mid P n O H φ0 w0 D m φ w) {p q:Nat} (hp:p < n) (hk:zax P (O p).op=2) (h1:m<=q) (h2:q<=n) (h3:∀p,m<=p->p < q->zax P (O p).op≠3)
 (t:Tn P φ (H q) w φ' (H q) w'):Mid P n O H φ0 w0 (λx=>x=p\/D x) m φ' w':=by
 obtain⟨s1,s2,s3⟩:=M.stepOn T hF hN h1 h2 h3 t
 obtain⟨i1,i2,i3,i4⟩:=M.seg T hF hN q h1 h2 h3
 have cur:∀b o,Cur P n O H (λx=>x=p\/D x) m b o->Nx P n O H D q (H q) b o:=by
  intro b o hc
  rcases hc with hc | ⟨p2,g1,g2,g3,g4,g5,g6⟩
  ·exact .inl (i3 b o hc)
  ·have hd:D p2:=by grind
   rcases QK p2 q with hlt | hge
   ·exact .inl (by grind)
   ·exact .inr ⟨p2,hge,g2,hd,g4,g5,g6,by grind[Txt.mono]⟩
 refine⟨M.mle,by grind[low],?_,by grind[last],by grind,by grind,M.lt,?_,
  M.le.trans t.le,Qm M.size t.size,t.os.trans M.os,t.tape.trans M.tape,t.output.trans M.output,by grind[keepOn],by grind⟩
 ·grind[high]
 ·intro b hb
  rcases t.new b hb with hb | hb
  ·rcases M.dom b hb with hb | ⟨p,g1,g2,g3⟩
   all_goals grind
  omega
theorem Mid.make (T:Txt P K r ops n J O E H V) {N:Nat} (hF:zeB φ0 (H 0).next N) (hN:(H n).next<=N) (M:Mid P n O H φ0 w0 D m φ w) {p:Nat} (hp:p < n) (hk:zax P (O p).op=0\/zax P (O p).op=1) (hnd:¬D p)
 {x:Option zca} (hx:H (p+1)=zbt (H p) x) (hx0:zax P (O p).op=0->x=none) (t:Tn P φ ⟨.nil,(H p).next⟩ w φ' (zbt ⟨.nil,(H p).next⟩ x) w'):Mid P n O H φ0 w0 (λy=>y=p\/D y) m φ' w':=by
 have hget0:∀b,(AH.mk .nil (H p).next).get b=none:=λb=>rfl
 have nOwn:∀c,¬Own φ ⟨.nil,(H p).next⟩ c:=λc ⟨b,o,rc,k1,_⟩=>by grind
 have hold:∀b o rc,Cur P n O H D m b o->φ' b=some rc->φ b=some rc:=by
  intro b o rc hc hφ'
  rcases t.new b (by grind) with hq | hq
  ·cases hb:φ b with
   | none=>grind
   | some r2=>have:=t.le b r2 hb; grind
  ·cases x with
   | none=>grind[zbt]
   | some ob=>
     have hpm:m<=p:=by grind[low]
     simp only[zbt,AH.next_alloc] at hq
     rcases hc with hc | ⟨p2,g1,g2,g3,g4,g5,g6⟩
     ·have:=M.lt b o hc
      grind[Txt.mono]
     ·have n2:(H (p2+1)).next=(H p2).next+1:=by simp_all
      have n1:(H (p+1)).next=(H p).next+1:=by rw[hx]; rfl
      grind[Txt.disjoint]
 have split:∀b o,Cur P n O H (λy=>y=p\/D y) m b o->Cur P n O H D m b o\/(x=some o/\b=(H p).next):=by
  intro b o hc
  rcases hc with hc | ⟨p2,g1,g2,g3,g4,g5,g6⟩
  ·exact .inl (.inl hc)
  ·rcases g3 with rfl | g3
   ·cases x with
    | none=>
      simp only[zbt] at hx
      rw[hx] at g6
      have:=congrArg AH.next g6
      simp at this
    | some ob=>
      simp only[zbt] at hx
      have e1:((H p2).alloc ob).get (H p2).next=((H p2).alloc o).get (H p2).next:=by grind
      grind[AH.get_alloc]
   ·exact .inl (.inr ⟨p2,g1,g2,g3,g4,g5,g6⟩)
 have oldObj:∀b o rc,Cur P n O H D m b o->φ' b=some rc->∃o',w'.heap[rc.blk]?= some o'/\w.heap[rc.blk]?= some o'/\OR P φ' rc o o':=by
  intro b o rc hc hφ'
  obtain⟨o',ho,hr⟩:=M.obj b o rc hc (by grind)
  exact⟨o',by grind[Tn.keep],ho,hr.mono t.le⟩
 have newGet:∀o,x=some o->(zbt (AH.mk .nil (H p).next) x).get (H p).next=some o:=by grind[zbt,AH.get_alloc]
 have newBlk:∀o rc,x=some o->φ' (H p).next=some rc->w.heap.size<=rc.blk:=by grind[Tn.old]
 refine⟨M.mle,by grind[low],?_,by grind[last],?_,?_,M.lt,?_,M.le.trans t.le,Qm M.size t.size,t.os.trans M.os,t.tape.trans M.tape,t.output.trans M.output,?_,?_⟩
 ·grind[high]
 ·intro b o rc hc hφ'
  rcases split b o hc with hc | ⟨e,rfl⟩
  ·grind
  ·exact t.rel.obj _ o rc (newGet o e) hφ'
 ·intro b1 b2 o1 o2 r1 r2 c1 c2 k1 k2 e
  rcases split b1 o1 c1 with c1 | ⟨e1,rfl⟩ <;> rcases split b2 o2 c2 with c2 | ⟨e2,rfl⟩
  ·exact M.inj b1 b2 o1 o2 r1 r2 c1 c2 (hold _ _ _ c1 k1) (hold _ _ _ c2 k2) e
  all_goals grind
 ·intro b hb
  rcases t.new b hb with hb | hb
  ·rcases M.dom b hb with hb | ⟨p,g1,g2,g3⟩
   all_goals grind
  ·refine .inr ⟨p,hp,.inl rfl,hb.1,?_⟩
   rw[hx]
   cases x with
   | none=>grind[zbt]
   | some ob=>simpa[zbt] using hb.2
 ·intro c hc ho
  rw[t.keep c (Qi hc M.size) (nOwn c),M.keep c hc ho]
 ·intro b o rc hc hφ' hlt
  rcases split b o hc with hc | ⟨e,rfl⟩
  ·grind[old]
  ·have:=newBlk o rc e hφ'
   have:=M.size
   omega
end
section
variable {P:Program} {K:Xs} {r:Ex} {ops:Array Oper} {n:Nat} {J:Nat->Nat} {O:Nat->Oper} {E:Nat->Env} {H:Nat->AH} {V:Nat->Value}
variable {φ0 φ φ' : Fi} {w0 w w' : World} {D:Nat->Prop} {m:Nat}
theorem zfn (e:Env) (d:Tmp) (v:Value):(putO e (some d) v).get d=some v:=by grind[putO,Tr.get_set]
theorem znb (e:Env) (x:Option Tmp) (d:Tmp) (v:Value) (h:x≠some d):(putO e x v).get d=e.get d:=by cases x<;>grind[putO,Tr.get_set]
structure zhV (n:Nat) (O:Nat->Oper) (E:Nat->Env) (V:Nat->Value) (D:Nat->Prop) (e:Env):Prop where
 done:∀p,p < n->D p->∀d,(O p).dst=some d->e.get d=some (V p)
 rest:∀d,(∀p,p < n->D p->(O p).dst≠some d)->e.get d=(E 0).get d
theorem Txt.unlike (T:Txt P K r ops n J O E H V) {p q:Nat} (hp:p < n) (hq:q < n) (h:p≠q) {d:Tmp} (hd:(O p).dst=some d):(O q).dst≠some d:=by
 rcases QK p q with h1 | h1
 ·exact (T.pair p q h1 hq).1 d hd
 ·intro h2
  exact (T.pair q p (by omega) hp).1 d h2 hd
theorem zhV.put (T:Txt P K r ops n J O E H V) {e:Env} (k:zhV n O E V D e) {p:Nat} (hp:p < n) (hnd:¬D p):zhV n O E V (λx=>x=p\/D x) (putO e (O p).dst (V p)):=by
 refine⟨λq hq hd d hdst=>?_,λd hd=>?_⟩
 all_goals grind[zfn,znb,Txt.unlike,done,rest]
theorem zhV.congr {D' : Nat->Prop} {e:Env} (k:zhV n O E V D e) (h:∀p,p < n->(D p↔D' p)):zhV n O E V D' e:=
 ⟨by grind[done],by grind[rest]⟩
theorem Txt.envAt (T:Txt P K r ops n J O E H V):∀p,p<=n->zhV n O E V (· < p) (E p):=by
 intro p
 induction p with
 | zero=>exact λ_=>⟨by omega,λ_ _=>rfl⟩
 | succ p ih=>grind[env,zhV.put]
theorem Txt.looksEq (T:Txt P K r ops n J O E H V) {e:Env} (k:zhV n O E V D e) {p:Nat} (hp:p < n) (hnd:¬D p) (hC:∀p q,p < n->q < n->D q->Bf ops J q p->D p) (hR:∀q,q < n->Bf ops J p q->D q):
 ∀t∈zld ops (O p),e.get t=(E p).get t:=by
 intro t ht
 have kp:=T.envAt p (by omega)
 by_cases hex:∃q,q < n/\(O q).dst=some t
 ·obtain⟨q,hq,hdst⟩:=hex
  rcases Nat.lt_trichotomy q p with hlt | heq | hgt
  ·rcases (T.pair q p hlt hp).2 with hb | ⟨hb,_⟩
   all_goals grind[zhV.done]
  ·grind[zhV.rest,unlike]
  ·rcases (T.pair p q hgt hq).2 with hb | ⟨_,hb,_⟩
   all_goals grind[zhV.rest,unlike]
 grind[zhV.rest]
theorem zhW (O:Nat->Oper) (P:Program) (m:Nat):∀k,(∀p,m<=p->p < m+k->zax P (O p).op≠3)\/∃q,m<=q/\q < m+k/\zax P (O q).op=3/\∀p,m<=p->p < q->zax P (O p).op≠3
 | 0=>by grind
 | k+1=>by
   rcases zhW O P m k with h | ⟨q,h1,h2,h3,h4⟩
   all_goals grind
theorem R.empty (x:Nat):R P φ ⟨.nil,x⟩ w:=⟨by grind[AH.get,Tr.get_nil],by grind[AH.get,Tr.get_nil],by grind[AH.get,Tr.get_nil]⟩
theorem Mid.freeAt (T:Txt P K r ops n J O E H V) {N:Nat} (hF:zeB φ0 (H 0).next N) (hN:(H n).next<=N) (M:Mid P n O H φ0 w0 D m φ w) {p:Nat} (hp:p < n) (hnd:¬D p):zeB φ (H p).next (H (p+1)).next:=by
 intro b h1 h2
 cases hb:φ b with
 | none=>rfl
 | some rc=>
   exfalso
   rcases M.dom b (by grind) with hq | ⟨q,hq,hd,g1,g2⟩
   ·have e1:=T.mono 0 p (by omega) (by omega)
    have e2:=T.mono (p+1) n (by omega) (by omega)
    exact hq (hF b (by omega) (by omega))
   grind[Txt.disjoint]
theorem Mid.doOp (Op:SOp P K r) (T:Txt P K r ops n J O E H V) {N:Nat} (hF:zeB φ0 (H 0).next N) (hN:(H n).next<=N) (M:Mid P n O H φ0 w0 D m φ w) {e:Env} {a:Array Value} (k:zhV n O E V D e) (ke:zcK φ e a)
 {p:Nat} (hp:p < n) (hnd:¬D p) (hC:∀p q,p < n->q < n->D q->Bf ops J q p->D p) (hR:∀q,q < n->Bf ops J p q->D q) (hsz:∀t,(O p).dst=some t->t < a.size)
 (ds:List Deferred) (b:Frame) (todo:List Item) (cs:List Frame) (rest:List Nat):
 ∃m' φ' a' w' e',Mid P n O H φ0 w0 (λx=>x=p\/D x) m' φ' w'/\zhV n O E V (λx=>x=p\/D x) e'/\zcK φ' e' a'/\a'.size=a.size/\
  Steps P (lone (At b a ds (.inRegion ops (J p :: rest) :: todo)) cs w) (lone (At b a' ds (.inRegion ops rest :: todo)) cs w'):=by
 have hl:=T.looksEq k hp hnd hC hR
 have hw:=zkh (ops:=ops) (o:=O p) hl
 have hev:=zty hl
 have hkd:=zhV.put T k hp hnd
 have hle3:=zlA P (O p).op
 have wr:zax P (O p).op=3->m<=p/\(∀q,m<=q->q < p->zax P (O q).op≠3)/\(∀q,q < p->zax P (O q).op=1->D q):=by
  intro hk
  refine⟨?_,?_,?_⟩
  ·grind[low]
  ·intro q h1 h2 h3
   rcases (T.pair q p h2 hp).2 with hb | ⟨_,_,hb,_⟩
   all_goals grind[high]
  ·intro q h2 h3
   rcases (T.pair q p h2 hp).2 with hb | ⟨_,_,hb,_⟩
   all_goals grind
 rcases T.run p hp with ⟨hwt,hrun⟩ | ⟨hwf,hv,hsame⟩
 ·rw[<-hw] at hwt
  have hwanted:=zfj ke hwt
  by_cases hk3:zax P (O p).op=3
  ·obtain⟨g1,g2,g3⟩:=wr hk3
   have hr:=M.rel T hF hN g1 (by omega) g2
   have hrun' : runOp P K r (O p) e (H p)=some (V p,H (p+1)):=by grind[zdu]
   obtain⟨φ',v',w',t,hvr,st⟩:=Op (O p) e (H p) (V p) (H (p+1)) hrun' (H (p+1)).next φ a w ds b todo cs ops (J p) rest (Qc _) (by grind[freeAt]) ke hr (T.at_ p hp) hwanted
   exact⟨p+1,φ',_,w',_,by grind[write],hkd,(ke.mono t.le).putO hsz hvr,zbD _ _ _,st⟩
  ·by_cases hk2:zax P (O p).op=2
   ·
    have hq:∃q,m<=q/\q<=n/\(∀x,m<=x->x < q->zax P (O x).op≠3)/\∃h'',aOp P (O p) (E p) (H q)=some (V p,h''):=by
     have hre:∀x,Re P ops O E H V p x->∃h'',aOp P (O p) (E p) (H x)=some (V p,h''):=by
      intro x hx
      rcases hx with hx | hx
      all_goals grind
     rcases QK p m with hpm | hpm
     ·rcases M.last with hl0 | ⟨hl1,hl2⟩
      ·omega
      ·have hne:p≠m - 1:=λe=>by grind
       have hmle:=M.mle
       rcases (T.pair p (m - 1) (by omega) (by omega)).2 with hb | ⟨_,_,hb,_⟩
       all_goals grind
     ·rcases zhW O P m (p - m) with hf | ⟨q,g1,g2,g3,g4⟩
      ·grind[zdb]
      ·rcases (T.pair q p (by omega) hp).2 with hb | ⟨_,_,_,hb⟩
       all_goals grind[high]
    obtain⟨q,g1,g2,g3,h'',hq⟩:=hq
    have:=zlx hk2 hq
    subst this
    have hr:=M.rel T hF hN g1 g2 g3
    have hrun' : runOp P K r (O p) e (H q)=some (V p,H q):=by rw[zdu _ hev,zdb _ hk3]; omega
    obtain⟨φ',v',w',t,hvr,st⟩:=Op (O p) e (H q) (V p) (H q) hrun' (H q).next φ a w ds b todo cs ops (J p) rest (Qc _) (λx h1 h2=>by omega) ke hr (T.at_ p hp) hwanted
    exact⟨m,φ',_,w',_,by grind[read],hkd,(ke.mono t.le).putO hsz hvr,zbD _ _ _,st⟩
   ·have hk01:zax P (O p).op=0\/zax P (O p).op=1:=by omega
    rw[zdb _ hk3] at hrun
    obtain⟨x,hx1,hx2,hx3⟩:=zjF hk01 hrun
    have hrun' : runOp P K r (O p) e ⟨.nil,(H p).next⟩=some (V p,zbt ⟨.nil,(H p).next⟩ x):=by rw[zdu _ hev,zdb _ hk3]; grind
    have hnx:(zbt (AH.mk .nil (H p).next) x).next=(H (p+1)).next:=by rw[hx1]; cases x <;> simp[zbt]
    obtain⟨φ',v',w',t,hvr,st⟩:=Op (O p) e _ (V p) _ hrun' (H (p+1)).next φ a w ds b todo cs ops (J p) rest (by omega) (by grind[freeAt]) ke (R.empty _) (T.at_ p hp) hwanted
    exact⟨m,φ',_,w',_,by grind[make],hkd,(ke.mono t.le).putO hsz hvr,zbD _ _ _,st⟩
 ·rw[<-hw] at hwf
  have hwanted:=zfj ke hwf
  have st:=zlo (P:=P) (w:=w) (b:=b) (a:=a) (ds:=ds) (k:=todo) (cs:=cs) (rest:=rest) (T.at_ p hp) hwanted
  have kv:zcK φ (putO e (O p).dst (V p)) (zm2 a (O p).dst undef):=ke.putO hsz (by rw[hv]; exact .skip rfl)
  by_cases hk3:zax P (O p).op=3
  ·obtain⟨g1,g2,g3⟩:=wr hk3
   have hr:=M.rel T hF hN g1 (by omega) g2
   exact⟨p+1,φ,_,w,_,by grind[write,Tn.refl],hkd,kv,zbD _ _ _,.one st⟩
  ·by_cases hk2:zax P (O p).op=2
   ·have hr:=M.rel T hF hN (Qc m) M.mle (by omega)
    exact⟨m,φ,_,w,_,M.read T hF hN hp hk2 (Qc m) M.mle (by omega) (Tn.refl hr),hkd,kv,zbD _ _ _,.one st⟩
   ·have hk01:zax P (O p).op=0\/zax P (O p).op=1:=by omega
    exact⟨m,φ,_,w,_,M.make (x:=none) T hF hN hp hk01 hnd hsame (λ_=>rfl) (Tn.refl (R.empty _)),hkd,kv,zbD _ _ _,.one st⟩
end
section
variable {P:Program} {K:Xs} {r:Ex} {ops:Array Oper} {n:Nat} {J:Nat->Nat} {O:Nat->Oper} {E:Nat->Env} {H:Nat->AH} {V:Nat->Value}
variable {φ0 φ φ' : Fi} {w0 w w' : World} {D:Nat->Prop} {m:Nat}
theorem zlB {md:Region.Mode} {e:Edge} (h:Region.binds .any e=true):Region.binds md e=true:=by grind[Region.binds]
def unl (ops:Array Oper) (listed:Array Bool):List Nat:=(List.range ops.size).filter λi=>!listed.getD i true
theorem zlC {p q:Nat->Bool}:∀{l:List Nat},(∀x∈l,p x=true->q x=true)->(∃x∈l,q x=true/\p x=false)->(l.filter p).length < (l.filter q).length
 | [],_,⟨x,hx,_⟩=>by grind
 | a :: l,h1,⟨x,hx,h2,h3⟩=>by
   have hle:∀(l:List Nat),(∀x∈l,p x=true->q x=true)->(l.filter p).length<=(l.filter q).length:=by
    intro l
    induction l<;>grind
   by_cases hxa:x=a
   ·grind
   ·have ih:=zlC (l:=l) (by grind) ⟨x,by grind,h2,h3⟩
    grind
theorem zvO {listed:Array Bool} {i:Nat} (hi:i < ops.size) (hl:listed.getD i true=false) (hs:listed.size=ops.size):(unl ops (listed.setIfInBounds i true)).length < (unl ops listed).length:=by
 refine zlC (λx hx hp=>?_) ⟨i,by grind,by grind,?_⟩
 ·by_cases hxi:i=x
  all_goals simp_all
 simp
theorem zhX {md:Region.Mode} {listed:Array Bool} (hs:listed.size=ops.size):∀(l seen:List Nat),zfb md ops seen l=true->(∀x∈seen,listed.getD x false=true)->(∃j∈l,listed.getD j false=false)->
 ∃j,j∈Region.ready md ops listed
 | [],_,_,_,⟨j,hj,_⟩=>by grind
 | j :: l,seen,hlin,hsn,⟨x,hx,hxl⟩=>by
   simp only[zfb,Qd] at hlin
   obtain⟨⟨h1,_⟩,h3⟩:=hlin
   by_cases hj:listed.getD j false=true
   ·refine zhX hs l (j :: seen) h3 (λy hy=>?_) ⟨x,?_,hxl⟩
    all_goals grind
   ·cases ho:ops[j]? with
    | none=>grind
    | some o=>
      rw[ho] at h1
      refine⟨j,by grind[mem_ready]⟩
      all_goals grind
theorem zqR {md:Region.Mode} {listed:Array Bool} (hs:listed.size=ops.size) {l:List Nat} (hlin:zfb md ops [] l=true) (hcov:∀i,i < ops.size->i∈l) (hr:Region.ready md ops listed=[]):∀i,i < ops.size->listed.getD i false=true:=by
 intro i hi
 cases hb:listed.getD i false with
 | true=>rfl
 | false=>
   obtain⟨j,hj⟩:=zhX hs l [] hlin (by simp) ⟨i,hcov i hi,hb⟩
   grind
theorem Mid.congr {D' : Nat->Prop} (M:Mid P n O H φ0 w0 D m φ w) (h:∀p,p < n->(D p↔D' p)):Mid P n O H φ0 w0 D' m φ w:=by
 have hc:∀b o,Cur P n O H D' m b o->Cur P n O H D m b o:=λb o hc=>hc.imp id λ⟨p,g1,g2,g3,g4⟩=>⟨p,g1,g2,(h p g2).2 g3,g4⟩
 refine⟨M.mle,by grind[Qi,mle,low],by grind[high],?_,by grind[obj],λb1 b2 o1 o2 r1 r2 k1 k2=>M.inj b1 b2 o1 o2 r1 r2 (hc _ _ k1) (hc _ _ k2),
  M.lt,λb hb=>(M.dom b hb).imp id λ⟨p,g1,g2,g3⟩=>⟨p,g1,(h p g1).1 g2,g3⟩,M.le,M.size,M.os,M.tape,M.output,M.keep,by grind[old]⟩
 rcases M.last with hl | ⟨h1,h2⟩
 ·omega
 ·rcases QW m with h0 | h0
  ·omega
  ·have:=M.mle
   grind
theorem zlD (Op:SOp P K r) (T:Txt P K r ops n J O E H V) {N:Nat} (hF:zeB φ0 (H 0).next N) (hN:(H n).next<=N) (hJ:∀i,i < ops.size->∃p,p < n/\J p=i)
 {md:Region.Mode} {lin:List Nat} (hlin:zfb md ops [] lin=true) (hcov:∀i,i < ops.size->i∈lin) (ds:List Deferred) (b:Frame) (todo:List Item) (cs:List Frame) (sz:Nat) (hsz:∀p,p < n->∀t,(O p).dst=some t->t < sz):
 ∀(fuel t:Nat) (listed:Array Bool) (m:Nat) (φ:Fi) (w:World) (e:Env) (a:Array Value),listed.size=ops.size->zlz ops (λi=>listed.getD i false=true)->(unl ops listed).length<=fuel->
  Mid P n O H φ0 w0 (λp=>listed.getD (J p) false=true) m φ w->zhV n O E V (λp=>listed.getD (J p) false=true) e->zcK φ e a->a.size=sz->
  ∃m' φ' w' e' a',Mid P n O H φ0 w0 (λp=>True) m' φ' w'/\zhV n O E V (λp=>True) e'/\zcK φ' e' a'/\a'.size=sz/\
   Steps P (lone (At b a ds (.inRegion ops (Region.linearise.go md ops fuel t listed []) :: todo)) cs w) (lone (At b a' ds (.inRegion ops [] :: todo)) cs w'):=by
 have atEnd:∀(listed:Array Bool) (m:Nat) (φ:Fi) (w:World) (e:Env) (a:Array Value),(∀i,i < ops.size->listed.getD i false=true)->
  Mid P n O H φ0 w0 (λp=>listed.getD (J p) false=true) m φ w->zhV n O E V (λp=>listed.getD (J p) false=true) e->zcK φ e a->a.size=sz->
  ∃m' φ' w' e' a',Mid P n O H φ0 w0 (λp=>True) m' φ' w'/\zhV n O E V (λp=>True) e'/\zcK φ' e' a'/\a'.size=sz/\
   Steps P (lone (At b a ds (.inRegion ops [] :: todo)) cs w) (lone (At b a' ds (.inRegion ops [] :: todo)) cs w'):=by
  intro listed m φ w e a hall M k ke has
  have hi:∀p,p < n->(listed.getD (J p) false=true↔True):=λp hp=>⟨λ_=>trivial,λ_=>hall _ (Array.getElem?_eq_some_iff.1 (T.at_ p hp)).1⟩
  exact⟨m,φ,w,e,a,M.congr hi,k.congr hi,ke,has,Steps.refl P _⟩
 intro fuel
 induction fuel with
 | zero=>
   intro t listed m φ w e a hls hcl hun M k ke has
   refine atEnd listed m φ w e a (λi hi=>?_) M k ke has
   cases hb:listed.getD i false with
   | true=>rfl
   | false=>
     have hm:i∈unl ops listed:=by grind[unl]
     grind
 | succ fuel ih=>
   intro t listed m φ w e a hls hcl hun M k ke has
   change ∃m' φ' w' e' a',_/\_/\_/\_/\Steps P (lone (At b a ds (.inRegion ops (match (Region.ready md ops listed)[t % (Region.ready md ops listed).length]? with
    | some i=>Region.linearise.go md ops fuel (t / (Region.ready md ops listed).length) (listed.setIfInBounds i true) [i]
    | none=>[].reverse) :: todo)) cs w) _
   cases hi:(Region.ready md ops listed)[t % (Region.ready md ops listed).length]? with
   | none=>
     have hnil:Region.ready md ops listed=[]:=by cases hr:Region.ready md ops listed<;>grind[Nat.mod_lt]
     exact atEnd listed m φ w e a (by grind[zqR]) M k ke has
   | some i=>
     simp only[]
     rw[linearise_go_acc,List.reverse_singleton,List.singleton_append]
     have hrd:=QP hi
     obtain⟨hun0,o,ho,hedge⟩:=mem_ready.1 hrd
     have hio:=(Array.getElem?_eq_some_iff.1 ho).1
     obtain⟨p,hp,rfl⟩:=hJ i hio
     have hnl:¬listed.getD (J p) false=true:=by grind
     have hC:∀x y,x < n->y < n->listed.getD (J y) false=true->Bf ops J y x->listed.getD (J x) false=true:=λx y _ _ hd hb=>hcl.bit (J y) (J x) hd hb
     have hR:∀q,q < n->Bf ops J p q->listed.getD (J q) false=true:=by
      intro q hq hb
      obtain⟨o',ho',e',he',h1,h2⟩:=zjI ops (J p) (J q) hb
      have hoo:o'= o:=by grind
      subst hoo
      have hon:=hedge e' he' (zlB h1)
      rcases h2 with h2 | ⟨_,h2⟩
      ·grind
      ·exact hcl.bit e'.on (J q) hon h2
     obtain⟨m1,φ1,a1,w1,e1,M1,k1,ke1,hs1,st1⟩:=M.doOp Op T hF hN k ke hp hnl hC hR (by grind) ds b todo cs (Region.linearise.go md ops fuel (t / (Region.ready md ops listed).length) (listed.setIfInBounds (J p) true) [])
     have hiff:∀x,x < n->((x=p\/listed.getD (J x) false=true)↔(listed.setIfInBounds (J p) true).getD (J x) false=true):=by
      intro x hx
      by_cases hxp:x=p
      ·subst hxp
       simp[hls,hio]
      ·have hne:J p≠J x:=by grind[Txt.inj]
       rw[getD_set_ne false hne]
       grind
     have hcl1:zlz ops (λi=>(listed.setIfInBounds (J p) true).getD i false=true):=by
      intro j o2 hj ho2 e2 he2 hb2
      by_cases hjp:J p=j
      ·grind[zlB]
      ·rw[getD_set_ne false hjp] at hj
       exact getD_set_true (hcl j o2 hj ho2 e2 he2 hb2)
     have hu:=zvO hio hun0 hls
     obtain⟨m',φ',w',e',a',g1,g2,g3,g4,g5⟩:=ih (t / (Region.ready md ops listed).length) (listed.setIfInBounds (J p) true) m1 φ1 w1 e1 a1 (by grind) hcl1 (by omega) (M1.congr hiff) (k1.congr hiff) ke1 (by omega)
     grind[Steps.trans]
theorem zxp {a b:ByteArray} (h:(a == b)=true):a=b:=by
 cases a; cases b
 have:(_:Array UInt8) == _:=h
 grind
theorem zuX {a b:Value} (h:eqS a b=true):a=b:=by
 unfold eqS at h
 grind[zxp]
theorem zuY:∀{a b:List Value},eqL a b=true->a=b
 | [],[],_=>rfl
 | x :: a,y :: b,h=>by
   simp only[eqL,Qd] at h
   rw[zuX h.1,zuY h.2]
 | [],_ :: _,h=>by grind[eqL]
 | _ :: _,[],h=>by grind[eqL]
theorem zxq {a b:Value} (h:eqV a b=true):a=b:=by
 unfold eqV at h
 grind[Array.ext',zuY,zuX]
theorem zlE {r:Ex}:∀{os:List Nat} {e:Env} {h:AH} {l:List (Env×AH)},zcU P K r ops os e h=some l->l.length=os.length+1/\l[0]?= some (e,h)/\
 ∀p j,os[p]?= some j->∃o ep hp v h1,ops[j]?= some o/\l[p]?= some (ep,hp)/\l[p+1]?= some (putO ep o.dst v,h1)/\
  ((zaI ops o ep=some true/\runOp P K r o ep hp=some (v,h1))\/(zaI ops o ep=some false/\v=zdq/\h1=hp))
 | [],e,h,l,hs=>by grind[zcU]
 | j0 :: os,e,h,l,hs=>by
   unfold zcU at hs
   cases ho:ops[j0]? with
   | none=>grind
   | some o=>
     rw[ho] at hs
     simp only at hs
     have fin:∀v h1 l2,zcU P K r ops os (putO e o.dst v) h1=some l2->l=(e,h) :: l2->((zaI ops o e=some true/\runOp P K r o e h=some (v,h1))\/(zaI ops o e=some false/\v=zdq/\h1=h))->
      l.length=(j0 :: os).length+1/\l[0]?= some (e,h)/\
      ∀p j,(j0 :: os)[p]?= some j->∃o ep hp v h1,ops[j]?= some o/\l[p]?= some (ep,hp)/\l[p+1]?= some (putO ep o.dst v,h1)/\
       ((zaI ops o ep=some true/\runOp P K r o ep hp=some (v,h1))\/(zaI ops o ep=some false/\v=zdq/\h1=hp)):=by
      intro v h1 l2 hl2 hl hwt
      subst hl
      obtain⟨g1,g2,g3⟩:=zlE hl2
      refine⟨by grind,rfl,λp j hp=>?_⟩
      cases p with
      | zero=>grind
      | succ p=>
        obtain⟨o',ep,hp',v',h1',k1,k2,k3,k4⟩:=g3 p j (by grind)
        exact⟨o',ep,hp',v',h1',k1,by grind,by grind,k4⟩
     cases hw:zaI ops o e with
     | none=>grind
     | some t=>
       rw[hw] at hs
       cases t with
       | true=>
         cases hr:runOp P K r o e h with
         | none=>grind
         | some y=>
           obtain⟨v,h1⟩:=y
           rw[hr] at hs
           cases hl:zcU P K r ops os (putO e o.dst v) h1<;>grind
       | false=>
         cases hl:zcU P K r ops os (putO e o.dst zdq) h<;>grind
theorem zeE {bf:Array Nat} {ia pa:Nat}:∀{l:List Nat} {pb:Nat} {ps:List (Nat×Nat)},zfc P ops bf ia pa l pb=some ps->∀i ib,l[i]?= some ib->∃x,zol P ops bf ia ib pa (pb+i)=some x/\∀y∈x,y∈ps
 | [],_,_,_,i,ib,hi=>by grind
 | b :: l,pb,ps,hs,i,ib,hi=>by
   unfold zfc at hs
   split at hs
   ·rename_i x y hx hy
    simp only[Qa] at hs
    cases i with
    | zero=>grind
    | succ i=>
      obtain⟨z,hz,hz2⟩:=zeE hy i ib (by grind)
      grind
   grind
theorem zfo {bf:Array Nat}:∀{l:List Nat} {pa:Nat} {ps:List (Nat×Nat)},zfd P ops bf l pa=some ps->∀i j ia ib,i < j->l[i]?= some ia->l[j]?= some ib->∃x,zol P ops bf ia ib (pa+i) (pa+j)=some x/\∀y∈x,y∈ps
 | [],_,_,_,i,j,ia,ib,_,hi,_=>by grind
 | a :: l,pa,ps,hs,i,j,ia,ib,hij,hi,hj=>by
   unfold zfd at hs
   split at hs
   ·rename_i x y hx hy
    simp only[Qa] at hs
    obtain⟨j',rfl⟩:∃j',j=j'+ 1:=⟨j - 1,by omega⟩
    cases i with
    | zero=>grind[zeE]
    | succ i=>
      obtain⟨z,hz,hz2⟩:=zfo hy i j' ia ib (by omega) (by grind) (by grind)
      grind
   grind
theorem zhY {l:List Nat} (h:zgL n l=true):∀i,i < n->i∈l:=by
 simp only[zgL,Qz,List.mem_range] at h
 grind
theorem zhZ {md:Region.Mode}:∀(l seen:List Nat),zfb md ops seen l=true->(∀x∈l,x∉seen/\x < ops.size)/\l.Nodup
 | [],_,_=>by simp
 | j :: l,seen,h=>by
   simp only[zfb,Qd] at h
   obtain⟨⟨h1,h2⟩,h3⟩:=h
   obtain⟨g1,g2⟩:=zhZ l (j :: seen) h3
   grind
end
end Go.Am
