/-
  WHAT IS DONE TO FAMILIES, plain: families by their members; whatever is done leaves a family.
-/
import Derived.Test.YtkapnilnhoiooaaGreatCTells
set_option linter.unusedVariables false
set_option linter.unusedSimpArgs false
namespace Go.Am
open Go.Proofs
def zeg (rs:List zaj) (pr F:Int):Prop:=(pr=0∧F=0)∨∃x∈rs,x.id=pr∧x.snap=true∧F=x.stamp
def zvX (rs:List zaj) (o i:Int):Prop:=∃a∈rs,a.own=o∧a.prev=i∧∀b∈rs,b.own=o→b.prev=i→b=a
structure Fam (n:Int) (rs:List zaj):Prop where
 top:n≤281474976710655
 len:rs.length≤32
 ord:rs.Pairwise fun a b=>a.id < b.id
 ent:∀r∈rs,zsj r∧r.id < n
 names:∀a∈rs,∀b∈rs,zdk a=zdk b→a=b
 elder:∀s∈rs,∃F,zeg rs s.prev F∧(s.snap=true→F < s.stamp)∧∀q∈s.dead,q.2.1≤F
 owner:∀s∈rs,s.snap=true→(∃x∈rs,x.id=s.own∧x.snap=false)∧zvX rs s.own s.id
theorem zrf:∀{rs:List zaj},(rs.Pairwise fun a b=>a.id < b.id)→∀{a b:zaj},a∈rs→b∈rs→a.id=b.id→a=b
 | [],_,a,b,ha,_,_=>by cases ha
 | r :: rs,h,a,b,ha,hb,e=>by
   obtain⟨h1,h2⟩:=List.pairwise_cons.1 h
   rcases List.mem_cons.1 ha with ha' | ha'
   ·rcases List.mem_cons.1 hb with hb' | hb'
    ·rw[ha',hb']
    ·have:=h1 b hb'; rw[ha'] at e; omega
   ·rcases List.mem_cons.1 hb with hb' | hb'
    ·have:=h1 a ha'; rw[hb'] at e; omega
    ·exact zrf h2 ha' hb' e
theorem Fam.uniq {n:Int} {rs:List zaj} (F:Fam n rs) {a b:zaj} (ha:a∈rs) (hb:b∈rs) (e:a.id=b.id):a=b:=zrf F.ord ha hb e
theorem zte {rs:List zaj} (h:rs.Pairwise fun a b=>a.id < b.id) {x:zaj} {u:Nat} (hu:rs[u]?= some x):plcN rs x.id=some u:=by
 refine zdO hu rfl fun j y hj hy=>?_
 obtain⟨hu',rfl⟩:=List.getElem?_eq_some_iff.1 hu
 obtain⟨hj',rfl⟩:=List.getElem?_eq_some_iff.1 hy
 have:=List.pairwise_iff_getElem.1 h j u hj' hu' hj
 omega
theorem Fam.place {n:Int} {rs:List zaj} (F:Fam n rs) {x:zaj} (hx:x∈rs):∃j,plcN rs x.id=some j∧rs[j]?= some x:=by
 obtain⟨j,hj⟩:=List.mem_iff_getElem?.1 hx
 exact⟨j,zte F.ord hj,hj⟩
theorem zpN {rs:List zaj} (h:rs.Pairwise fun a b=>a.id < b.id) {p:zaj→Bool} {a:zaj} (ha:a∈rs) (pa:p a=true) (hu:∀b∈rs,p b=true→b=a):(rs.filter p).length=1:=by
 have hp:=h.filter p
 have hm:∀b∈rs.filter p,b=a:=fun b hb=>hu b (List.mem_filter.1 hb).1 (List.mem_filter.1 hb).2
 have ha' : a∈rs.filter p:=List.mem_filter.2 ⟨ha,pa⟩
 match hf:rs.filter p,hp,hm,ha' with
 | [],_,_,ha'=>cases ha'
 | [x],_,_,_=>rfl
 | x :: y :: l,hp,hm,_=>
   have h1:=hm x (by simp)
   have h2:=hm y (by simp)
   have:=(List.pairwise_cons.1 hp).1 y (by simp)
   rw[h1,h2] at this
   omega
theorem zpO {rs:List zaj} {p:zaj→Bool} (h:(rs.filter p).length=1):∃a∈rs,p a=true∧∀b∈rs,p b=true→b=a:=by
 match hf:rs.filter p,h with
 | [a],_=>
   have ha:a∈rs.filter p:=by rw[hf]; simp
   refine⟨a,(List.mem_filter.1 ha).1,(List.mem_filter.1 ha).2,fun b hb pb=>?_⟩
   have:b∈rs.filter p:=List.mem_filter.2 ⟨hb,pb⟩
   rw[hf] at this
   simpa using this
theorem zam.fam {n:Int} {rs:List zaj} (R:zam n rs):Fam n rs where
 top:=R.1
 len:=R.2.1
 ord:=List.pairwise_iff_getElem.2 fun i j hi hj hij=>by
  have:=R.incr (j - i - 1) i rs[i] rs[j] (List.getElem?_eq_getElem hi) (by rw[show i+(j - i - 1)+1=j by omega]; exact List.getElem?_eq_getElem hj)
  exact this
 ent:=fun r hr=>by
  obtain⟨i,hi⟩:=List.mem_iff_getElem?.1 hr
  exact⟨(R.2.2.1 i r hi).1,(R.2.2.1 i r hi).2.1⟩
 names:=fun a ha b hb e=>by
  obtain⟨i,hi⟩:=List.mem_iff_getElem?.1 ha
  obtain⟨j,hj⟩:=List.mem_iff_getElem?.1 hb
  have h1:=R.plcC hi
  rw[e,R.plcC hj] at h1
  cases h1
  rw[hi] at hj
  exact Option.some.inj hj
 elder:=fun s hs=>by
  obtain⟨⟨e1,e2⟩, -⟩:=R.2.2.2.2 s hs
  by_cases hp:s.prev=0
  ·refine⟨0,.inl ⟨hp,rfl⟩,fun h=>?_,fun q hq=>?_⟩
   ·rcases (R.ent hs).2.2.2.2.2.2.2.2 with z | z
    ·omega
    ·rw[h] at z; cases z.1
   ·have:=e2 q hq
    unfold zmx at this
    rw[if_pos hp] at this
    exact this
  ·obtain⟨j,x,h1,h2,h3,h4⟩:=e1 hp
   refine⟨x.stamp,.inr ⟨x,List.mem_of_getElem? h2,?_,h3,rfl⟩,h4,fun q hq=>?_⟩
   ·obtain⟨hj,he⟩:=zbv h1
    rw[List.getElem?_eq_getElem hj] at h2
    rw[←Option.some.inj h2,he]
   ·have:=e2 q hq
    unfold zmx at this
    rw[if_neg hp,h1] at this
    simp only[h2] at this
    exact this
 owner:=fun s hs hsn=>by
  obtain⟨j,v,h1,h2,h3, -⟩:=R.vol hs
  obtain⟨hj,he⟩:=zbv h1
  rw[List.getElem?_eq_getElem hj] at h2
  have h2:=Option.some.inj h2
  refine⟨⟨v,h2▸List.getElem_mem hj,by rw[←h2,he],h3⟩,?_⟩
  obtain⟨a,ha,pa,hu⟩:=zpO ((R.2.2.2.2 s hs).2 hsn).2
  simp only[Bool.and_eq_true,decide_eq_true_eq] at pa hu
  exact⟨a,ha,pa.1,pa.2,fun b hb h1 h2=>hu b hb ⟨h1,h2⟩⟩
theorem Fam.id1 {n:Int} {rs:List zaj} (F:Fam n rs) {x:zaj} (hx:x∈rs):1≤x.id:=(F.ent x hx).1.1.1
theorem zeg.det {n:Int} {rs:List zaj} (F:Fam n rs) {p A B:Int} (a:zeg rs p A) (b:zeg rs p B):A=B:=by
 rcases a with ⟨h1,h2⟩ | ⟨x,hx,h1,h2,h3⟩
 ·rcases b with ⟨h4,h5⟩ | ⟨y,hy,h4,h5,h6⟩
  ·omega
  ·have:=F.id1 hy; omega
 ·rcases b with ⟨h4,h5⟩ | ⟨y,hy,h4,h5,h6⟩
  ·have:=F.id1 hx; omega
  ·have:=F.uniq hx hy (by omega)
   subst this
   omega
theorem Fam.right {n:Int} {rs:List zaj} (F:Fam n rs):zam n rs:=by
 refine⟨F.top,F.len,fun i r h=>⟨(F.ent r (List.mem_of_getElem? h)).1,(F.ent r (List.mem_of_getElem? h)).2,fun j x e hx=>?_⟩,?_,fun s hs=>⟨⟨fun hp=>?_,fun q hq=>?_⟩,fun hsn=>?_⟩⟩
 ·obtain⟨hu',rfl⟩:=List.getElem?_eq_some_iff.1 h
  obtain⟨hj',rfl⟩:=List.getElem?_eq_some_iff.1 hx
  exact List.pairwise_iff_getElem.1 F.ord j i hj' hu' (by omega)
 ·refine List.pairwise_map.2 (List.Pairwise.imp_of_mem (fun {a b} ha hb hab e=>?_) F.ord)
  have:=F.names a ha b hb e
  subst this
  omega
 ·obtain⟨Fl,h1,h2,h3⟩:=F.elder s hs
  rcases h1 with ⟨h4, -⟩ | ⟨x,hx,h4,h5,h6⟩
  ·exact absurd h4 hp
  ·obtain⟨j,h7,h8⟩:=F.place hx
   exact⟨j,x,by rw[←h4]; exact h7,h8,h5,fun z=>by have:=h2 z; omega⟩
 ·obtain⟨Fl,h1,h2,h3⟩:=F.elder s hs
  have:=h3 q hq
  unfold zmx
  rcases h1 with ⟨h4,h5⟩ | ⟨x,hx,h4,h5,h6⟩
  ·rw[if_pos h4]; omega
  ·have:=F.id1 hx
   obtain⟨j,h7,h8⟩:=F.place hx
   rw[if_neg (by omega),←h4,h7]
   simp only[h8]
   omega
 ·obtain⟨⟨x,hx,h1,h2⟩,a,ha,h3,h4,h5⟩:=F.owner s hs hsn
  obtain⟨j,h7,h8⟩:=F.place hx
  refine⟨⟨j,x,by rw[←h1]; exact h7,h8,h2⟩,zpN F.ord ha (by simp[h3,h4]) fun b hb pb=>?_⟩
  simp only[Bool.and_eq_true,decide_eq_true_eq] at pb
  exact h5 b hb pb.1 pb.2
def zsk (n:Int) (nm:ByteArray) (pr bl:Int) (root:PtI):zaj:=⟨n,nm,false,n,pr,0,bl,root,none,0,0,[]⟩
def zoV (r:zaj):zaj:={ r with dp:=none,dn:=0,dc:=0,dead:=[] }
def zoW (r:zaj) (d:List PtI):zaj:={ r with dp:=none,dn:=d.length,dc:=0,dead:=d }
theorem zi0:zeu []:=fun i q h=>by simp at h
theorem zeg.app {rs:List zaj} {p A:Int} (h:zeg rs p A) (l:List zaj):zeg (rs ++ l) p A:=by
 rcases h with h | ⟨x,hx,h⟩
 ·exact .inl h
 ·exact .inr ⟨x,List.mem_append_left _ hx,h⟩
theorem za1 {α:Type} {a r:α} {l:List α}:a∈l ++ [r]↔a∈l∨a=r:=by simp
section
variable {n:Int} {rs:List zaj}
theorem Fam.prevLt (F:Fam n rs) {s:zaj} (hs:s∈rs) (h1:1≤n):s.prev < n:=by
 obtain⟨Fl,h2, -⟩:=F.elder s hs
 rcases h2 with ⟨h3, -⟩ | ⟨x,hx,h3, -⟩
 ·omega
 ·have:=(F.ent x hx).2; omega
theorem Fam.addVol (F:Fam n rs) (h1:1≤n) (h2:n < 281474976710655) (hl:rs.length < 32) {nm:ByteArray} (hn:zbf nm) (hc:∀r∈rs,zdk r≠(0,nm)) {bl:Int} (hb:1≤bl∧bl≤64) {root:PtI} (hr:zet root) {pr:Int}
 (hp:pr=0∨∃x∈rs,x.id=pr∧x.snap=true):Fam (n+1) (rs ++ [zsk n nm pr bl root]) where
 top:=by omega
 len:=by rw[List.length_append]; simp; omega
 ord:=List.pairwise_append.2 ⟨F.ord,List.pairwise_singleton _ _,fun a ha b hb=>by
  rw[List.mem_singleton] at hb
  subst hb
  exact (F.ent a ha).2⟩
 ent:=fun r hr'=>by
  rcases za1.1 hr' with h | rfl
  ·exact⟨(F.ent r h).1,by have:=(F.ent r h).2; omega⟩
  ·refine⟨⟨⟨h1,by show n≤_; omega⟩,⟨h1,by show n≤_; omega⟩,?_,hb,hn,hr,Nat.zero_le _,zi0,.inr ⟨rfl,rfl,rfl⟩⟩,by show n < n+1; omega⟩
   rcases hp with h | ⟨x,hx,h, -⟩
   ·show pr≤_; omega
   ·have:=(F.ent x hx).2; show pr≤_; omega
 names:=fun a ha b hb e=>by
  rcases za1.1 ha with h | rfl
  ·rcases za1.1 hb with h' | rfl
   ·exact F.names a h b h' e
   ·exact absurd e (hc a h)
  ·rcases za1.1 hb with h' | rfl
   ·exact absurd e.symm (hc b h')
   ·rfl
 elder:=fun s hs=>by
  rcases za1.1 hs with h | rfl
  ·obtain⟨Fl,q1,q2,q3⟩:=F.elder s h
   exact⟨Fl,q1.app _,q2,q3⟩
  ·rcases hp with h | ⟨x,hx,h,hs⟩
   ·exact⟨0,.inl ⟨h,rfl⟩,fun z=>(by cases z),fun q hq=>by cases hq⟩
   ·exact⟨x.stamp,.inr ⟨x,List.mem_append_left _ hx,h,hs,rfl⟩,fun z=>(by cases z),fun q hq=>by cases hq⟩
 owner:=fun s hs hsn=>by
  rcases za1.1 hs with h | rfl
  ·obtain⟨⟨x,hx,q1,q2⟩,a,ha,q3,q4,q5⟩:=F.owner s h hsn
   refine⟨⟨x,List.mem_append_left _ hx,q1,q2⟩,a,List.mem_append_left _ ha,q3,q4,fun b hb z1 z2=>?_⟩
   rcases za1.1 hb with h' | rfl
   ·exact q5 b h' z1 z2
   ·have:=(F.ent x hx).2
    have:n=s.own:=z1
    omega
  ·cases hsn
def zcp (n:Int) (v:zaj) (r:zaj):zaj:=if r.id=v.id then { zoV r with prev:=n } else r
def zi1 (n:Int) (v:zaj) (nm:ByteArray) (st:Int):zaj:={ v with id:=n,name:=nm,snap:=true,own:=v.id,stamp:=st }
theorem zcq (n:Int) (v:zaj):zcp n v v={ zoV v with prev:=n }:=if_pos rfl
theorem zcO {n:Int} {v r:zaj} (h:r.id≠v.id):zcp n v r=r:=if_neg h
theorem zbc (n:Int) (v r:zaj):(zcp n v r).id=r.id∧(zcp n v r).snap=r.snap∧(zcp n v r).own=r.own∧(zcp n v r).name=r.name:=by
 unfold zcp; split <;> exact⟨rfl,rfl,rfl,rfl⟩
theorem ze2 {a b:zaj} (h1:a.snap=b.snap) (h2:a.own=b.own) (h3:a.name=b.name):zdk a=zdk b:=by unfold zdk; rw[h1,h2,h3]
theorem Fam.volOwn (F:Fam n rs) {v:zaj} (hv:v∈rs) (hs:v.snap=false):v.own=v.id:=by
 rcases (F.ent v hv).1.2.2.2.2.2.2.2.2 with z | z
 ·rw[hs] at z; cases z.1
 ·exact z.2.2
theorem Fam.addSnap (F:Fam n rs) (h1:1≤n) (h2:n < 281474976710655) (hl:rs.length < 32) {v:zaj} (hv:v∈rs) (hvs:v.snap=false) {nm:ByteArray} (hn:zbf nm) (hc:∀r∈rs,zdk r≠(v.id,nm)) {st:Int} (hst:1≤st∧st≤281474976710655)
 (hfl:∀Fl,zeg rs v.prev Fl→Fl < st):Fam (n+1) (rs.map (zcp n v) ++ [zi1 n v nm st]):=by
 have vo:=F.volOwn hv hvs
 have mem:∀a,a∈rs.map (zcp n v) ++ [zi1 n v nm st]↔(∃r∈rs,zcp n v r=a)∨a=zi1 n v nm st:=fun a=>by rw[za1,List.mem_map]
 have ne:∀r∈rs,r≠v→r.id≠v.id:=fun r hr h e=>h (F.uniq hr hv e)
 have old:∀r∈rs,r≠v→r∈rs.map (zcp n v) ++ [zi1 n v nm st]:=fun r hr h=>(mem r).2 (.inl ⟨r,hr,zcO (ne r hr h)⟩)
 have ev:=(F.ent v hv).1
 have snapne:∀r∈rs,r.snap=true→r≠v:=fun r hr h e=>by rw[e,hvs] at h; cases h
 have flr:∀p Fl,zeg rs p Fl→zeg (rs.map (zcp n v) ++ [zi1 n v nm st]) p Fl:=fun p Fl h=>by
  rcases h with h | ⟨x,hx,q1,q2,q3⟩
  ·exact .inl h
  ·exact .inr ⟨x,old x hx (snapne x hx q2),q1,q2,q3⟩
 have pl:∀b∈rs,b.prev≠n:=fun b hb=>by have:=F.prevLt hb h1; omega
 refine⟨by omega,by rw[List.length_append,List.length_map]; simp; omega,?_,fun a ha=>?_,fun a ha b hb e=>?_,fun s hs=>?_,fun s hs hsn=>?_⟩
 ·refine List.pairwise_append.2 ⟨List.pairwise_map.2 (F.ord.imp fun {a b} h=>by rw[(zbc n v a).1,(zbc n v b).1]; exact h),List.pairwise_singleton _ _,fun a ha b hb=>?_⟩
  rw[List.mem_singleton] at hb
  subst hb
  obtain⟨r,hr,rfl⟩:=List.mem_map.1 ha
  rw[(zbc n v r).1]
  exact (F.ent r hr).2
 ·rcases (mem a).1 ha with ⟨r,hr,rfl⟩ | rfl
  ·obtain⟨e1,e2⟩:=F.ent r hr
   refine⟨?_,by rw[(zbc n v r).1]; omega⟩
   unfold zcp
   split
   ·obtain⟨q1,q2,q3,q4,q5,q6,q7,q8,q9⟩:=e1
    exact⟨q1,q2,by show n≤_; omega,q4,q5,q6,Nat.zero_le _,zi0,q9⟩
   ·exact e1
  ·obtain⟨q1,q2,q3,q4,q5,q6,q7,q8,q9⟩:=ev
   exact⟨⟨⟨h1,by show n≤_; omega⟩,q1,q3,q4,hn,q6,q7,q8,.inl ⟨rfl,hst.1,hst.2⟩⟩,by show n < n+1; omega⟩
 ·rcases (mem a).1 ha with ⟨r,hr,rfl⟩ | rfl
  ·rcases (mem b).1 hb with ⟨t,ht,rfl⟩ | rfl
   ·obtain⟨a1,a2,a3,a4⟩:=zbc n v r
    obtain⟨b1,b2,b3,b4⟩:=zbc n v t
    rw[ze2 a2 a3 a4,ze2 b2 b3 b4] at e
    rw[F.names r hr t ht e]
   ·obtain⟨a1,a2,a3,a4⟩:=zbc n v r
    rw[ze2 a2 a3 a4] at e
    exact absurd e (hc r hr)
  ·rcases (mem b).1 hb with ⟨t,ht,rfl⟩ | rfl
   ·obtain⟨b1,b2,b3,b4⟩:=zbc n v t
    rw[ze2 b2 b3 b4] at e
    exact absurd e.symm (hc t ht)
   ·rfl
 ·rcases (mem s).1 hs with ⟨r,hr,rfl⟩ | rfl
  ·by_cases hrv:r=v
   ·subst hrv
    rw[zcq]
    exact⟨st,.inr ⟨_,(mem _).2 (.inr rfl),rfl,rfl,rfl⟩,fun z=>(by have z:r.snap=true:=z; rw[hvs] at z; cases z),fun q hq=>(by cases hq)⟩
   ·rw[zcO (ne r hr hrv)]
    obtain⟨Fl,q1,q2,q3⟩:=F.elder r hr
    exact⟨Fl,flr _ _ q1,q2,q3⟩
  ·obtain⟨Fl,q1,q2,q3⟩:=F.elder v hv
   exact⟨Fl,flr _ _ q1,fun _=>hfl _ q1,q3⟩
 ·rcases (mem s).1 hs with ⟨r,hr,rfl⟩ | rfl
  ·rw[(zbc n v r).2.1] at hsn
   have hrv:=snapne r hr hsn
   rw[zcO (ne r hr hrv)]
   obtain⟨⟨x,hx,q1,q2⟩,a,ha,q3,q4,q5⟩:=F.owner r hr hsn
   refine⟨⟨zcp n v x,(mem _).2 (.inl ⟨x,hx,rfl⟩),by rw[(zbc n v x).1]; exact q1,by rw[(zbc n v x).2.1]; exact q2⟩,?_⟩
   by_cases hav:a=v
   ·subst hav
    refine⟨zi1 n a nm st,(mem _).2 (.inr rfl),by show a.id=_; rw[←vo]; exact q3,q4,fun b hb z1 z2=>?_⟩
    rcases (mem b).1 hb with ⟨t,ht,rfl⟩ | rfl
    ·by_cases hta:t=a
     ·subst hta
      rw[zcq] at z2
      have:n=r.id:=z2
      have:=(F.ent r hr).2
      omega
     ·rw[zcO (ne t ht hta)] at z1 z2
      exact absurd (q5 t ht z1 z2) hta
    ·rfl
   ·refine⟨a,old a ha hav,q3,q4,fun b hb z1 z2=>?_⟩
    rcases (mem b).1 hb with ⟨t,ht,rfl⟩ | rfl
    ·by_cases hta:t=v
     ·subst hta
      rw[zcq] at z2
      have:n=r.id:=z2
      have:=(F.ent r hr).2
      omega
     ·rw[zcO (ne t ht hta)] at z1 z2 ⊢
      exact q5 t ht z1 z2
    ·exact absurd (q5 v hv (by rw[vo]; exact z1) z2).symm hav
  ·refine⟨⟨zcp n v v,(mem _).2 (.inl ⟨v,hv,rfl⟩),(zbc n v v).1,by rw[(zbc n v v).2.1]; exact hvs⟩,zcp n v v,(mem _).2 (.inl ⟨v,hv,rfl⟩),by rw[(zbc n v v).2.2.1]; exact vo,by rw[zcq]; rfl,fun b hb z1 z2=>?_⟩
   rcases (mem b).1 hb with ⟨t,ht,rfl⟩ | rfl
   ·by_cases hta:t=v
    ·rw[hta]
    ·rw[zcO (ne t ht hta)] at z2
     exact absurd z2 (pl t ht)
   ·exact absurd z2 (pl v hv)
theorem Fam.keep (F:Fam n rs) {f:zaj→zaj} (hk:∀r∈rs,(f r).id=r.id∧(f r).snap=r.snap∧(f r).stamp=r.stamp∧(f r).own=r.own∧(f r).name=r.name∧(f r).prev=r.prev) (he:∀r∈rs,zsj (f r)) (hd:∀r∈rs,∀Fl,zeg rs r.prev Fl→∀q∈(f r).dead,q.2.1≤Fl):Fam n (rs.map f):=by
 have mem:∀{a},a∈rs.map f↔∃r∈rs,f r=a:=fun {a}=>List.mem_map
 refine⟨F.top,by rw[List.length_map]; exact F.len,List.pairwise_map.2 (List.Pairwise.imp_of_mem (fun {a b} ha hb h=>by rw[(hk a ha).1,(hk b hb).1]; exact h) F.ord),fun a ha=>?_,fun a ha b hb e=>?_,fun s hs=>?_,fun s hs hsn=>?_⟩
 ·obtain⟨r,hr,rfl⟩:=mem.1 ha
  exact⟨he r hr,by rw[(hk r hr).1]; exact (F.ent r hr).2⟩
 ·obtain⟨r,hr,rfl⟩:=mem.1 ha
  obtain⟨t,ht,rfl⟩:=mem.1 hb
  have a1:=hk r hr
  have b1:=hk t ht
  rw[ze2 a1.2.1 a1.2.2.2.1 a1.2.2.2.2.1,ze2 b1.2.1 b1.2.2.2.1 b1.2.2.2.2.1] at e
  rw[F.names r hr t ht e]
 ·obtain⟨r,hr,rfl⟩:=mem.1 hs
  obtain⟨Fl,q1,q2,q3⟩:=F.elder r hr
  obtain⟨k1,k2,k3,k4,k5,k6⟩:=hk r hr
  refine⟨Fl,?_,by rw[k2,k3]; exact q2,hd r hr Fl q1⟩
  rw[k6]
  rcases q1 with h | ⟨x,hx,q1,q4,q5⟩
  ·exact .inl h
  ·obtain⟨l1,l2,l3, -⟩:=hk x hx
   exact .inr ⟨f x,mem.2 ⟨x,hx,rfl⟩,by rw[l1]; exact q1,by rw[l2]; exact q4,by rw[l3]; exact q5⟩
 ·obtain⟨r,hr,rfl⟩:=mem.1 hs
  obtain⟨k1,k2,k3,k4,k5,k6⟩:=hk r hr
  rw[k2] at hsn
  obtain⟨⟨x,hx,q1,q2⟩,a,ha,q3,q4,q5⟩:=F.owner r hr hsn
  obtain⟨l1,l2, -⟩:=hk x hx
  obtain⟨m1,m2,m3,m4,m5,m6⟩:=hk a ha
  refine⟨⟨f x,mem.2 ⟨x,hx,rfl⟩,by rw[l1,k4]; exact q1,by rw[l2]; exact q2⟩,f a,mem.2 ⟨a,ha,rfl⟩,by rw[m4,k4]; exact q3,by rw[m6,k1]; exact q4,fun b hb z1 z2=>?_⟩
  obtain⟨t,ht,rfl⟩:=mem.1 hb
  obtain⟨t1,t2,t3,t4,t5,t6⟩:=hk t ht
  rw[t4,k4] at z1
  rw[t6,k1] at z2
  rw[q5 t ht z1 z2]
theorem Fam.dropVol (F:Fam n rs) {v:zaj} (hv:v∈rs) (hvs:v.snap=false) (hno:∀s∈rs,s.snap=true→s.own≠v.id):Fam n (rs.filter fun r=>!decide (r.id=v.id)):=by
 have mem:∀{a},a∈(rs.filter fun r=>!decide (r.id=v.id))↔a∈rs∧a.id≠v.id:=fun {a}=>by rw[List.mem_filter]; simp
 have vo:=F.volOwn hv hvs
 refine⟨F.top,Nat.le_trans (List.length_filter_le _ _) F.len,F.ord.filter _,fun a ha=>F.ent a (mem.1 ha).1,fun a ha b hb e=>F.names a (mem.1 ha).1 b (mem.1 hb).1 e,fun s hs=>?_,fun s hs hsn=>?_⟩
 ·obtain⟨Fl,q1,q2,q3⟩:=F.elder s (mem.1 hs).1
  refine⟨Fl,?_,q2,q3⟩
  rcases q1 with h | ⟨x,hx,q1,q4,q5⟩
  ·exact .inl h
  ·refine .inr ⟨x,mem.2 ⟨hx,fun e=>?_⟩,q1,q4,q5⟩
   rw[F.uniq hx hv e,hvs] at q4
   cases q4
 ·obtain⟨⟨x,hx,q1,q2⟩,a,ha,q3,q4,q5⟩:=F.owner s (mem.1 hs).1 hsn
  have hne:=hno s (mem.1 hs).1 hsn
  refine⟨⟨x,mem.2 ⟨hx,fun e=>hne (by omega)⟩,q1,q2⟩,a,mem.2 ⟨ha,fun e=>?_⟩,q3,q4,fun b hb z1 z2=>q5 b (mem.1 hb).1 z1 z2⟩
  have:=F.uniq ha hv e
  subst this
  exact hne (by omega)
def zcP (z:zaj) (pr:Int) (d:List PtI) (r:zaj):zaj:=if r.id=z.id then { zoW r d with prev:=pr } else r
theorem zbp (z:zaj) (pr:Int) (d:List PtI) (r:zaj):(zcP z pr d r).id=r.id∧(zcP z pr d r).snap=r.snap∧(zcP z pr d r).own=r.own∧(zcP z pr d r).name=r.name∧(zcP z pr d r).stamp=r.stamp:=by
 unfold zcP; split <;> exact⟨rfl,rfl,rfl,rfl,rfl⟩
theorem zdT (z:zaj) (pr:Int) (d:List PtI):zcP z pr d z={ zoW z d with prev:=pr }:=if_pos rfl
theorem zeh {z r:zaj} (h:r.id≠z.id) (pr:Int) (d:List PtI):zcP z pr d r=r:=if_neg h
theorem Fam.dropSnap (F:Fam n rs) {o z:zaj} (ho:o∈rs) (hos:o.snap=true) (hz:z∈rs) (zo:z.own=o.own) (zp:z.prev=o.id) (hu:∀r∈rs,r.prev=o.id→r=z) {d:List PtI} (hd:zeu d) (hdl:d.length≤4000) (hfl:∀Fl,zeg rs o.prev Fl→∀q∈d,q.2.1≤Fl):
 Fam n ((rs.map (zcP z o.prev d)).filter fun r=>!decide (r.id=o.id)):=by
 have mem:∀{a},a∈((rs.map (zcP z o.prev d)).filter fun r=>!decide (r.id=o.id))↔∃r∈rs,zcP z o.prev d r=a∧r.id≠o.id:=fun {a}=>by
  rw[List.mem_filter,List.mem_map]
  constructor
  ·rintro⟨⟨r,hr,rfl⟩,h⟩
   exact⟨r,hr,rfl,by simpa[(zbp z o.prev d r).1] using h⟩
  ·rintro⟨r,hr,rfl,h⟩
   exact⟨⟨r,hr,rfl⟩,by simpa[(zbp z o.prev d r).1] using h⟩
 have ne:∀r∈rs,r≠z→r.id≠z.id:=fun r hr h e=>h (F.uniq hr hz e)
 obtain⟨Fo,of1,of2,of3⟩:=F.elder o ho
 obtain⟨Fz,zf1,zf2,zf3⟩:=F.elder z hz
 have hFz:Fz=o.stamp:=zf1.det F (.inr ⟨o,ho,zp.symm,hos,rfl⟩)
 have hzo:z≠o:=fun e=>by
  have:=of2 hos
  rw[e] at zf2
  have:=zf2 hos
  omega
 have hop:o.prev≠o.id:=fun e=>hzo ((hu o ho e).symm)
 have flr:∀p Fl,p≠o.id→zeg rs p Fl→zeg ((rs.map (zcP z o.prev d)).filter fun r=>!decide (r.id=o.id)) p Fl:=fun p Fl hp h=>by
  rcases h with h | ⟨x,hx,q1,q2,q3⟩
  ·exact .inl h
  ·obtain⟨i1,i2,i3,i4,i5⟩:=zbp z o.prev d x
   exact .inr ⟨zcP z o.prev d x,mem.2 ⟨x,hx,rfl,fun e=>hp (by omega)⟩,by rw[i1]; exact q1,by rw[i2]; exact q2,by rw[i5]; exact q3⟩
 refine⟨F.top,Nat.le_trans (List.length_filter_le _ _) (by rw[List.length_map]; exact F.len),List.Pairwise.filter _ (List.pairwise_map.2 (F.ord.imp fun {a b} h=>by rw[(zbp z o.prev d a).1,(zbp z o.prev d b).1]; exact h)),fun a ha=>?_,fun a ha b hb e=>?_,fun s hs=>?_,fun s hs hsn=>?_⟩
 ·obtain⟨r,hr,rfl, -⟩:=mem.1 ha
  obtain⟨e1,e2⟩:=F.ent r hr
  refine⟨?_,by rw[(zbp z o.prev d r).1]; exact e2⟩
  unfold zcP
  split
  ·obtain⟨q1,q2,q3,q4,q5,q6,q7,q8,q9⟩:=e1
   exact⟨q1,q2,(F.ent o ho).1.2.2.1,q4,q5,q6,hdl,hd,q9⟩
  ·exact e1
 ·obtain⟨r,hr,rfl, -⟩:=mem.1 ha
  obtain⟨t,ht,rfl, -⟩:=mem.1 hb
  have a1:=zbp z o.prev d r
  have b1:=zbp z o.prev d t
  rw[ze2 a1.2.1 a1.2.2.1 a1.2.2.2.1,ze2 b1.2.1 b1.2.2.1 b1.2.2.2.1] at e
  rw[F.names r hr t ht e]
 ·obtain⟨r,hr,rfl,hro⟩:=mem.1 hs
  by_cases hrz:r=z
  ·subst hrz
   rw[zdT]
   refine⟨Fo,flr _ _ hop of1,fun h=>?_,hfl _ of1⟩
   have h1:=zf2 h
   have h2:=of2 hos
   show Fo < r.stamp
   omega
  ·rw[zeh (ne r hr hrz)]
   obtain⟨Fl,q1,q2,q3⟩:=F.elder r hr
   exact⟨Fl,flr _ _ (fun e=>hrz (hu r hr e)) q1,q2,q3⟩
 ·obtain⟨r,hr,rfl,hro⟩:=mem.1 hs
  obtain⟨i1,i2,i3,i4,i5⟩:=zbp z o.prev d r
  rw[i2] at hsn
  rw[i1,i3]
  obtain⟨⟨x,hx,q1,q2⟩,a,ha,q3,q4,q5⟩:=F.owner r hr hsn
  obtain⟨x1,x2, -⟩:=zbp z o.prev d x
  refine⟨⟨_,mem.2 ⟨x,hx,rfl,fun e=>?_⟩,by rw[x1]; exact q1,by rw[x2]; exact q2⟩,?_⟩
  ·rw[F.uniq hx ho e,hos] at q2
   cases q2
  ·by_cases hao:a=o
   ·subst hao
    refine⟨_,mem.2 ⟨z,hz,rfl,fun e=>hzo (F.uniq hz ho e)⟩,by rw[(zbp z a.prev d z).2.2.1,zo]; exact q3,by rw[zdT]; exact q4,fun b hb z1 z2=>?_⟩
    obtain⟨t,ht,rfl,hta⟩:=mem.1 hb
    by_cases htz:t=z
    ·rw[htz]
    ·rw[zeh (ne t ht htz)] at z1 z2
     exact absurd (congrArg zaj.id (q5 t ht z1 z2)) hta
   ·have haz:a≠z:=fun e=>by
     rw[e,zp] at q4
     exact hro (by omega)
    refine⟨_,mem.2 ⟨a,ha,rfl,fun e=>hao (F.uniq ha ho e)⟩,by rw[zeh (ne a ha haz)]; exact q3,by rw[zeh (ne a ha haz)]; exact q4,fun b hb z1 z2=>?_⟩
    obtain⟨t,ht,rfl,hta⟩:=mem.1 hb
    by_cases htz:t=z
    ·subst htz
     rw[zdT] at z1 z2
     have h1:t.own=r.own:=z1
     have h2:o.prev=r.id:=z2
     exact absurd (q5 o ho (by omega) h2).symm hao
    ·rw[zeh (ne t ht htz)] at z1 z2
     rw[q5 t ht z1 z2]
end
def Chn (rs:List zaj) (o:Int):Int→List zaj→Int→Prop
 | pr,[],e=>pr=e
 | pr,c :: l,e=>c.id=pr∧c∈rs∧c.own=o∧c.snap=true∧Chn rs o c.prev l e
def zhM (rs:List zaj) (o e:Int):Prop:=e=0∨∃x∈rs,x.id=e∧x.snap=true∧x.own≠o
section
variable {n:Int} {rs:List zaj}
theorem Chn.mem {o e:Int}:∀{l:List zaj} {pr:Int},Chn rs o pr l e→∀x∈l,x∈rs∧x.own=o∧x.snap=true
 | [],pr,h,x,hx=>by cases hx
 | c :: l,pr,⟨h0,h1,h2,h3,h4⟩,x,hx=>by
   rcases List.mem_cons.1 hx with rfl | hx
   ·exact⟨h1,h2,h3⟩
   ·exact h4.mem x hx
theorem Fam.older (F:Fam n rs) {c p:zaj} (hc:c∈rs) (hs:c.snap=true) (hp:p∈rs) (he:p.id=c.prev):p.stamp < c.stamp:=by
 obtain⟨Fl,q1,q2,q3⟩:=F.elder c hc
 have q2:=q2 hs
 rcases q1 with ⟨h4,h5⟩ | ⟨x,hx,h4,h5,h6⟩
 ·have:=F.id1 hp; omega
 ·have:=F.uniq hp hx (by omega)
  subst this
  omega
theorem Chn.low (F:Fam n rs) {o e:Int}:∀{l:List zaj} {pr:Int},Chn rs o pr l e→∀B,(∀p∈rs,p.id=pr→p.stamp < B)→∀y∈rs,(y∈l∨y.id=e)→y.stamp < B
 | [],pr,h,B,hB,y,hy,hh=>by
   rcases hh with z | z
   ·cases z
   ·have h:pr=e:=h
    exact hB y hy (by omega)
 | c :: l,pr,⟨h0,h1,h2,h3,h4⟩,B,hB,y,hy,hh=>by
   have hc:=hB c h1 h0
   by_cases hyc:y=c
   ·rw[hyc]; exact hc
   ·have:=h4.low F c.stamp (fun p hp he=>F.older h1 h3 hp he) y hy (hh.imp (fun z=>(List.mem_cons.1 z).resolve_left hyc) id)
    omega
theorem Chn.cut {o e:Int} {a:zaj} {post:List zaj}:∀{pre:List zaj} {pr:Int},Chn rs o pr (pre ++ a :: post) e→Chn rs o a.id (a :: post) e
 | [],pr,⟨h0,h⟩=>⟨rfl,h⟩
 | c :: pre,pr,⟨h0,h1,h2,h3,h4⟩=>h4.cut
theorem Chn.tail {o e pr:Int} {l:List zaj} (h:Chn rs o pr l e) {a:zaj} (ha:a∈l):∃pre post,l=pre ++ a :: post∧Chn rs o a.prev post e:=by
 obtain⟨pre,post,rfl⟩:=List.append_of_mem ha
 exact⟨pre,post,rfl,h.cut.2.2.2.2⟩
theorem Chn.head (F:Fam n rs) {o e:Int}:∀{l:List zaj} {pr:Int},Chn rs o pr l e→zhM rs o e→∀{y:zaj},y∈rs→y.id=pr→y.own=o→y∈l
 | [],pr,h,he,y,hy,h1,h2=>by
   have h:pr=e:=h
   rcases he with h | ⟨x,hx,q1,q2,q3⟩
   ·have:=F.id1 hy; omega
   ·have:=F.uniq hx hy (by omega)
    subst this
    exact absurd h2 q3
 | c :: l,pr,⟨h0,q1,_⟩,he,y,hy,h1,h2=>by
   rw[F.uniq hy q1 (by omega)]
   exact List.mem_cons_self
theorem Fam.stamp1 (F:Fam n rs) {x:zaj} (hx:x∈rs) (hs:x.snap=true):1≤x.stamp∧x.stamp≤281474976710655:=by
 rcases (F.ent x hx).1.2.2.2.2.2.2.2.2 with z | z
 ·exact z.2
 ·rw[hs] at z; cases z.1
theorem Fam.chn (F:Fam n rs) (o:Int):∀(m:Nat) (pr B:Int),B.toNat≤m→(pr=0∨∃x∈rs,x.id=pr∧x.snap=true∧x.stamp < B)→∃l e,Chn rs o pr l e∧zhM rs o e:=by
 intro m
 induction m with
 | zero=>
   intro pr B hB h
   rcases h with rfl | ⟨x,hx,h1,h2,h3⟩
   ·exact⟨[],0,rfl,.inl rfl⟩
   ·have:=F.stamp1 hx h2
    omega
 | succ m ih=>
   intro pr B hB h
   rcases h with rfl | ⟨x,hx,rfl,h2,h3⟩
   ·exact⟨[],0,rfl,.inl rfl⟩
   ·by_cases hxo:x.own=o
    ·obtain⟨Fl,q1,q2,q3⟩:=F.elder x hx
     have q2:=q2 h2
     have h4:=F.stamp1 hx h2
     obtain⟨l,e,r1,r2⟩:=ih x.prev x.stamp (by omega) (by
      rcases q1 with ⟨h4,h5⟩ | ⟨y,hy,h4,h5,h6⟩
      ·exact .inl h4
      ·exact .inr ⟨y,hy,h4,h5,by omega⟩)
     exact⟨x :: l,e,⟨rfl,hx,hxo,h2,r1⟩,r2⟩
    ·exact⟨[],x.id,rfl,.inr ⟨x,hx,rfl,h2,hxo⟩⟩
theorem Fam.chain (F:Fam n rs) {v:zaj} (hv:v∈rs) (hvs:v.snap=false):∃l e,Chn rs v.id v.prev l e∧zhM rs v.id e∧∀r∈rs,r.own=v.id→r=v∨r∈l:=by
 obtain⟨Fl,q1,q2,q3⟩:=F.elder v hv
 obtain⟨l,e,h1,h2⟩:=F.chn v.id 281474976710656 v.prev 281474976710656 (by decide) (by
  rcases q1 with ⟨h4,h5⟩ | ⟨y,hy,h4,h5,h6⟩
  ·exact .inl h4
  ·have:=F.stamp1 hy h5
   exact .inr ⟨y,hy,h4,h5,by omega⟩)
 have climb:∀(m:Nat) (y:zaj),(281474976710656 - y.stamp).toNat≤m→y∈rs→y.own=v.id→y.snap=true→y∈l:=by
  intro m
  induction m with
  | zero=>
    intro y hm hy ho hs
    have:=F.stamp1 hy hs
    omega
  | succ m ih=>
    intro y hm hy ho hs
    obtain⟨-,a,ha,a1,a2,a3⟩:=F.owner y hy hs
    have ao:a.own=v.id:=by omega
    cases has:a.snap with
    | false=>
      have:=F.volOwn ha has
      have hav:=F.uniq ha hv (by omega)
      rw[hav] at a2
      exact h1.head F h2 hy a2.symm ho
    | true=>
      have:=F.older ha has hy a2.symm
      have hys:=F.stamp1 hy hs
      have has':=F.stamp1 ha has
      obtain⟨pre,post,e1,e2⟩:=h1.tail (ih a (by omega) ha ao has)
      have:=e2.head F h2 hy a2.symm ho
      rw[e1]
      exact List.mem_append_right _ (List.mem_cons_of_mem _ this)
 refine⟨l,e,h1,h2,fun r hr ho=>?_⟩
 cases hrs:r.snap with
 | false=>
   have:=F.volOwn hr hrs
   exact .inl (F.uniq hr hv (by omega))
 | true=>exact .inr (climb _ r (Nat.le_refl _) hr ho hrs)
theorem Chn.last {o e:Int}:∀{l:List zaj} {pr:Int},Chn rs o pr l e→(l=[]∧pr=e)∨∃x∈l,x.prev=e
 | [],pr,h=>.inl ⟨rfl,h⟩
 | c :: l,pr,⟨h0,h1,h2,h3,h4⟩=>by
   rcases h4.last with ⟨rfl,h⟩ | ⟨x,hx,h⟩
   ·exact .inr ⟨c,by simp,h⟩
   ·exact .inr ⟨x,List.mem_cons_of_mem _ hx,h⟩
theorem Chn.next {o e:Int}:∀{l:List zaj} {pr:Int},Chn rs o pr l e→∀x∈l,(∃y∈l,y.id=x.prev)∨x.prev=e
 | [],pr,h,x,hx=>by cases hx
 | c :: l,pr,⟨h0,h1,h2,h3,h4⟩,x,hx=>by
   rcases List.mem_cons.1 hx with rfl | hx
   ·cases l with
    | nil=>exact .inr h4
    | cons d l=>exact .inl ⟨d,by simp,h4.1⟩
   ·rcases h4.next x hx with ⟨y,hy,h⟩ | h
    ·exact .inl ⟨y,List.mem_cons_of_mem _ hy,h⟩
    ·exact .inr h
theorem Chn.before {o e:Int}:∀{l:List zaj} {pr:Int},Chn rs o pr l e→∀x∈l,x.id=pr∨∃y∈l,y.prev=x.id
 | [],pr,h,x,hx=>by cases hx
 | c :: l,pr,⟨h0,h1,h2,h3,h4⟩,x,hx=>by
   rcases List.mem_cons.1 hx with rfl | hx
   ·exact .inl h0
   ·rcases h4.before x hx with h | ⟨y,hy,h⟩
    ·exact .inr ⟨c,List.mem_cons_self,h.symm⟩
    ·exact .inr ⟨y,List.mem_cons_of_mem _ hy,h⟩
theorem zhM.noId (F:Fam n rs) {o e:Int} (he:zhM rs o e) {y:zaj} (hy:y∈rs) (ho:y.own=o):y.id≠e:=fun hi=>by
 rcases he with h | ⟨x,hx,q1,q2,q3⟩
 ·have:=F.id1 hy; omega
 ·have:=F.uniq hx hy (by omega)
  subst this
  exact q3 ho
theorem Chn.uniqEnd (F:Fam n rs) {o e:Int} (he:zhM rs o e):∀{l:List zaj} {pr:Int},Chn rs o pr l e→∀a∈l,∀b∈l,a.prev=e→b.prev=e→a=b
 | [],pr,h,a,ha,b,hb,_,_=>by cases ha
 | c :: l,pr,⟨h0,h1,h2,h3,h4⟩,a,ha,b,hb,ea,eb=>by
   have one:c.prev=e→l=[]:=fun hc=>by
    cases l with
    | nil=>rfl
    | cons d l=>exact absurd (h4.1.trans hc) (he.noId F h4.2.1 h4.2.2.1)
   rcases List.mem_cons.1 ha with ha' | ha'
   ·rcases List.mem_cons.1 hb with hb' | hb'
    ·rw[ha',hb']
    ·rw[one (by rw[←ha']; exact ea)] at hb'; cases hb'
   ·rcases List.mem_cons.1 hb with hb' | hb'
    ·rw[one (by rw[←hb']; exact eb)] at ha'; cases ha'
    ·exact h4.uniqEnd F he a ha' b hb' ea eb
def zce (vid:Int) (mv:List Int) (r:zaj):zaj:=if r.id∈mv then { r with own:=vid } else r
theorem zhZ (vid:Int) (mv:List Int) (r:zaj):(zce vid mv r).id=r.id∧(zce vid mv r).snap=r.snap∧(zce vid mv r).stamp=r.stamp∧(zce vid mv r).name=r.name∧(zce vid mv r).prev=r.prev∧(zce vid mv r).dead=r.dead:=by
 unfold zce; split <;> exact⟨rfl,rfl,rfl,rfl,rfl,rfl⟩
theorem Fam.promote (F:Fam n rs) {v:zaj} (hv:v∈rs) (hvs:v.snap=false) {o:zaj} {lv:List zaj} (Cv:Chn rs v.id v.prev lv o.id) (Ev:zhM rs v.id o.id) (cv:∀r∈rs,r.own=v.id→r=v∨r∈lv)
 (ho:o∈rs) (hos:o.snap=true) {w:zaj} (hw:w∈rs) (hws:w.snap=false) (hwo:o.own=w.id) {pre post:List zaj} {e:Int} (Cw:Chn rs w.id w.prev (pre ++ o :: post) e) (Ew:zhM rs w.id e) (cw:∀r∈rs,r.own=w.id→r=w∨r∈pre ++ o :: post)
 (hn:∀m∈o :: post,∀s∈rs,s.snap=true→s.own=v.id→s.name≠m.name):
 Fam n (rs.map (zce v.id ((o :: post).map (·.id)))):=by
 generalize hf:zce v.id ((o :: post).map (·.id))=f
 have hne:w.id≠v.id:=fun h=>Ev.noId F ho (by omega) rfl
 have cm:=Cw.mem
 have mvm:∀m∈o :: post,m∈rs∧m.own=w.id∧m.snap=true:=fun m hm=>cm m (List.mem_append_right _ hm)
 have inm:∀r∈rs,(r.id∈(o :: post).map (·.id))↔r∈o :: post:=fun r hr=>by
  rw[List.mem_map]
  constructor
  ·rintro⟨m,hm,e⟩
   rw[F.uniq hr (mvm m hm).1 e.symm]
   exact hm
  ·intro h
   exact⟨r,h,rfl⟩
 have f1:∀r∈rs,r∈o :: post→f r={ r with own:=v.id }:=fun r hr h=>by rw[←hf]; exact if_pos ((inm r hr).2 h)
 have f0:∀r∈rs,r∉o :: post→f r=r:=fun r hr h=>by rw[←hf]; exact if_neg fun z=>h ((inm r hr).1 z)
 have fi:∀r,(f r).id=r.id∧(f r).snap=r.snap∧(f r).stamp=r.stamp∧(f r).name=r.name∧(f r).prev=r.prev∧(f r).dead=r.dead:=fun r=>by rw[←hf]; exact zhZ _ _ _
 have mem:∀{a},a∈rs.map f↔∃r∈rs,f r=a:=fun {a}=>List.mem_map
 have nv:∀r∈rs,r.own≠w.id→r∉o :: post:=fun r hr h z=>h (mvm r z).2.1
 have nvs:∀r∈rs,r.snap=false→r∉o :: post:=fun r hr h z=>by rw[(mvm r z).2.2] at h; cases h
 have Co:Chn rs w.id o.id (o :: post) e:=Cw.cut
 have stp:∀m∈o :: post,m.stamp≤o.stamp:=fun m hm=>by
  rcases List.mem_cons.1 hm with rfl | hm
  ·exact Int.le_refl _
  ·have:=Co.2.2.2.2.low F o.stamp (fun p hp he=>F.older ho hos hp he) m (mvm m (List.mem_cons_of_mem _ hm)).1 (.inl hm)
   omega
 have pres:∀a∈pre,o.stamp < a.stamp:=fun a ha=>by
  obtain⟨p1,p2,rfl⟩:=List.append_of_mem ha
  rw[List.append_assoc] at Cw cm
  have ⟨har,hao,has⟩:=cm a (by simp)
  exact Cw.cut.2.2.2.2.low F a.stamp (fun p hp he=>F.older har has hp he) o ho (.inl (by simp))
 have ahead:∀s∈post,∃a∈o :: post,a.prev=s.id:=fun s hs=>by
  rcases Co.before s (List.mem_cons_of_mem _ hs) with h | ⟨y,hy,h⟩
  ·exfalso
   obtain⟨hsr, -, -⟩:=mvm s (List.mem_cons_of_mem _ hs)
   have:=F.uniq hsr ho h
   subst this
   have:=Co.2.2.2.2.low F s.stamp (fun p hp he=>F.older ho hos hp he) s ho (.inl hs)
   omega
  ·exact⟨y,hy,h⟩
 have lvlow:∀s∈lv,o.stamp < s.stamp:=fun s hs=>by
  have ⟨hsr,hso,hss⟩:=Cv.mem s hs
  obtain⟨p1,p2, -,C2⟩:=Cv.tail hs
  exact C2.low F s.stamp (fun p hp he=>F.older hsr hss hp he) o ho (.inr rfl)
 have owno:∀b∈rs,b.own=v.id→(∃s∈rs,s.id=b.prev∧s.own=v.id)∨b.prev=o.id:=fun b hb h=>by
  rcases cv b hb h with rfl | hbl
  ·cases lv with
   | nil=>exact .inr Cv
   | cons d l=>exact .inl ⟨d,Cv.2.1,Cv.1,Cv.2.2.1⟩
  ·rcases Cv.next b hbl with ⟨y,hy,h⟩ | h
   ·exact .inl ⟨y,(Cv.mem y hy).1,h,(Cv.mem y hy).2.1⟩
   ·exact .inr h
 have oout:o.own≠v.id:=by omega
 have uniqo:∀a∈rs,∀b∈rs,a.own=v.id→b.own=v.id→a.prev=o.id→b.prev=o.id→a=b:=fun a ha b hb ao bo ap bp=>by
  have vfirst:v.prev=o.id→lv=[]:=fun h=>by
   cases lv with
   | nil=>rfl
   | cons d l=>exact absurd (Cv.1.trans h) (Ev.noId F Cv.2.1 Cv.2.2.1)
  rcases cv a ha ao with rfl | hal
  ·rcases cv b hb bo with rfl | hbl
   ·rfl
   ·rw[vfirst ap] at hbl; cases hbl
  ·rcases cv b hb bo with rfl | hbl
   ·rw[vfirst bp] at hal; cases hal
   ·exact Cv.uniqEnd F Ev a hal b hbl ap bp
 refine⟨F.top,by rw[List.length_map]; exact F.len,List.pairwise_map.2 (F.ord.imp fun {a b} h=>by rw[(fi a).1,(fi b).1]; exact h),fun a ha=>?_,fun a ha b hb e=>?_,fun s hs=>?_,fun s0 hs0 hsn=>?_⟩
 ·obtain⟨r,hr,rfl⟩:=mem.1 ha
  obtain⟨g1,g2⟩:=F.ent r hr
  refine⟨?_,by rw[(fi r).1]; exact g2⟩
  by_cases hm:r∈o :: post
  ·rw[f1 r hr hm]
   obtain⟨q1,q2,q3,q4,q5,q6,q7,q8,q9⟩:=g1
   refine⟨q1,(F.ent v hv).1.1,q3,q4,q5,q6,q7,q8,?_⟩
   rcases q9 with z | z
   ·exact .inl z
   ·rw[(mvm r hm).2.2] at z; cases z.1
  ·rw[f0 r hr hm]; exact g1
 ·obtain⟨r,hr,rfl⟩:=mem.1 ha
  obtain⟨t,ht,rfl⟩:=mem.1 hb
  have clash:∀m∈rs,∀s∈rs,m∈o :: post→s∉o :: post→zdk (f m)=zdk (f s)→False:=fun m hm s hs h1 h2 e=>by
   rw[f1 m hm h1,f0 s hs h2] at e
   have hms:=(mvm m h1).2.2
   unfold zdk at e
   rw[show ({ m with own:=v.id }:zaj).snap=m.snap from rfl,hms] at e
   simp only[if_true,Prod.mk.injEq] at e
   cases hss:s.snap with
   | true=>
     rw[hss] at e
     simp only[if_true] at e
     exact hn m h1 s hs hss e.1.symm e.2.symm
   | false=>
     rw[hss] at e
     have:=F.id1 hv
     simp at e
     omega
  by_cases h1:r∈o :: post
  ·by_cases h2:t∈o :: post
   ·obtain⟨-,r2,r3⟩:=mvm r h1
    obtain⟨-,t2,t3⟩:=mvm t h2
    rw[f1 r hr h1,f1 t ht h2] at e
    have:zdk r=zdk t:=by
     unfold zdk at e ⊢
     rw[show ({ r with own:=v.id }:zaj).snap=r.snap from rfl,show ({ t with own:=v.id }:zaj).snap=t.snap from rfl] at e
     rw[r3,t3] at e ⊢
     simp only[if_true,Prod.mk.injEq] at e ⊢
     exact⟨by omega,e.2⟩
    rw[F.names r hr t ht this]
   ·exact (clash r hr t ht h1 h2 e).elim
  ·by_cases h2:t∈o :: post
   ·exact (clash t ht r hr h2 h1 e.symm).elim
   ·rw[f0 r hr h1,f0 t ht h2] at e ⊢
    exact F.names r hr t ht e
 ·obtain⟨r,hr,rfl⟩:=mem.1 hs
  obtain⟨Fl,q1,q2,q3⟩:=F.elder r hr
  obtain⟨k1,k2,k3,k4,k5,k6⟩:=fi r
  rw[k2,k3,k5,k6]
  refine⟨Fl,?_,q2,q3⟩
  rcases q1 with h | ⟨x,hx,q1,q4,q5⟩
  ·exact .inl h
  ·obtain⟨l1,l2,l3, -⟩:=fi x
   exact .inr ⟨f x,mem.2 ⟨x,hx,rfl⟩,by rw[l1]; exact q1,by rw[l2]; exact q4,by rw[l3]; exact q5⟩
 ·obtain⟨s,hs,rfl⟩:=mem.1 hs0
  obtain⟨k1,k2,k3,k4,k5,k6⟩:=fi s
  rw[k2] at hsn
  rw[k1]
  obtain⟨⟨x,hx,x1,x2⟩,a,ha,a1,a2,a3⟩:=F.owner s hs hsn
  have vf:f v=v:=f0 v hv (nvs v hv hvs)
  have low:∀b∈rs,b.snap=true→b.prev=s.id→s.stamp < b.stamp:=fun b hb hbs hp=>by
   obtain⟨Fl,q1,q2,q3⟩:=F.elder b hb
   have q2:=q2 hbs
   have:=q1.det F (.inr ⟨s,hs,hp.symm,hsn,rfl⟩)
   omega
  by_cases hm:s∈o :: post
  ·rw[f1 s hs hm]
   refine⟨⟨f v,mem.2 ⟨v,hv,rfl⟩,by rw[vf],by rw[vf]; exact hvs⟩,?_⟩
   have so:=(mvm s hm).2.1
   rcases List.mem_cons.1 hm with rfl | hp
   ·
    obtain⟨x,hx,xo,xp⟩:∃x∈rs,x.own=v.id∧x.prev=s.id:=by
     rcases Cv.last with ⟨-,h⟩ | ⟨x,hx,h⟩
     ·exact⟨v,hv,F.volOwn hv hvs,h⟩
     ·exact⟨x,(Cv.mem x hx).1,(Cv.mem x hx).2.1,h⟩
    have xf:=f0 x hx (nv x hx (by omega))
    refine⟨f x,mem.2 ⟨x,hx,rfl⟩,by rw[xf]; exact xo,by rw[xf]; exact xp,fun b hb z1 z2=>?_⟩
    obtain⟨t,ht,rfl⟩:=mem.1 hb
    rw[(fi t).2.2.2.2.1] at z2
    by_cases htm:t∈s :: post
    ·have h1:=stp t htm
     have h2:=low t ht (mvm t htm).2.2 z2
     omega
    ·rw[f0 t ht htm] at z1
     rw[uniqo x hx t ht xo z1 xp z2]
   ·obtain⟨y,hy,yp⟩:=ahead s hp
    have ⟨yr,yo,ys⟩:=mvm y hy
    have hya:y=a:=a3 y yr (by omega) yp
    refine⟨f y,mem.2 ⟨y,yr,rfl⟩,by rw[f1 y yr hy],by rw[f1 y yr hy]; exact yp,fun b hb z1 z2=>?_⟩
    obtain⟨t,ht,rfl⟩:=mem.1 hb
    rw[(fi t).2.2.2.2.1] at z2
    by_cases htm:t∈o :: post
    ·rw[a3 t ht (by have:=(mvm t htm).2.1; omega) z2,hya]
    ·exfalso
     rw[f0 t ht htm] at z1
     rcases owno t ht z1 with ⟨u,hu,u1,u2⟩ | h
     ·have:=F.uniq hu hs (by omega)
      subst this
      omega
     ·have:=F.uniq hs ho (by omega)
      subst this
      have:=low y yr ys yp
      have:=stp y hy
      omega
  ·rw[f0 s hs hm]
   obtain⟨y1,y2, -⟩:=fi x
   refine⟨⟨f x,mem.2 ⟨x,hx,rfl⟩,by rw[y1]; exact x1,by rw[y2]; exact x2⟩,?_⟩
   have hanm:a∉o :: post:=fun h=>by
    obtain⟨ar,ao,ass⟩:=mvm a h
    have h1:=low a ha ass a2
    have h2:=stp a h
    have hsw:s.own=w.id:=by omega
    rcases cw s hs hsw with rfl | h
    ·rw[hws] at hsn; cases hsn
    ·rcases List.mem_append.1 h with h | h
     ·have:=pres s h; omega
     ·exact hm h
   have af:=f0 a ha hanm
   refine⟨f a,mem.2 ⟨a,ha,rfl⟩,by rw[af]; exact a1,by rw[af]; exact a2,fun b hb z1 z2=>?_⟩
   obtain⟨t,ht,rfl⟩:=mem.1 hb
   rw[(fi t).2.2.2.2.1] at z2
   by_cases htm:t∈o :: post
   ·exfalso
    rw[f1 t ht htm] at z1
    have hsv:s.own=v.id:=z1.symm
    have h1:=low t ht (mvm t htm).2.2 z2
    have h2:=stp t htm
    rcases cv s hs hsv with rfl | h
    ·rw[hvs] at hsn; cases hsn
    ·have:=lvlow s h; omega
   ·rw[f0 t ht htm] at z1 ⊢
    rw[a3 t ht z1 z2,af]
end
instance (a b:PtI):Decidable (zbJ a b):=by unfold zbJ; infer_instance
theorem zi2 (a:PtI):¬zbJ a a:=by unfold zbJ; rw[if_pos rfl,if_pos rfl]; omega
theorem zgL {a b c:PtI} (h1:zbJ a b) (h2:zbJ b c):zbJ a c:=by
 unfold zbJ at *
 split at h1 <;> split at h2 <;> (try split at h1) <;> (try split at h2) <;> split <;> (try split) <;> omega
theorem ztf {a b:PtI} (h1:zbJ a b) (h2:zbJ b a):False:=zi2 a (zgL h1 h2)
theorem zoX {a b:PtI} (h1:¬zbJ a b) (h2:¬zbJ b a):a=b:=by
 obtain⟨a1,a2,a3⟩:=a
 obtain⟨b1,b2,b3⟩:=b
 unfold zbJ at *
 simp only at *
 split at h1 <;> split at h2 <;> (try split at h1) <;> (try split at h2) <;> (try omega)
 all_goals (simp only[Prod.mk.injEq]; omega)
abbrev Srt (l:List PtI):Prop:=l.Pairwise zbJ
theorem zeu.srt {l:List PtI} (h:zeu l):Srt l∧∀q∈l,zjJ q:=by
 refine⟨?_,fun q hq=>?_⟩
 ·induction l with
  | nil=>exact .nil
  | cons a l ih=>
    have hl:zeu l:=fun i q hq=>⟨(h (i+1) q hq).1,fun j x e hx=>(h (i+1) q hq).2 (j+1) x (by omega) hx⟩
    have sl:=ih hl
    refine List.pairwise_cons.2 ⟨fun x hx=>?_,sl⟩
    cases l with
    | nil=>cases hx
    | cons b l=>
      have hab:=(h 1 b rfl).2 0 a rfl rfl
      rcases List.mem_cons.1 hx with rfl | hx
      ·exact hab
      ·exact zgL hab ((List.pairwise_cons.1 sl).1 x hx)
 ·obtain⟨i,hi⟩:=List.mem_iff_getElem?.1 hq
  exact (h i q hi).1
theorem zeu.of {l:List PtI} (s:Srt l) (f:∀q∈l,zjJ q):zeu l:=fun i q hq=>by
 refine⟨f q (List.mem_of_getElem? hq),fun j x e hx=>?_⟩
 obtain⟨hi,rfl⟩:=List.getElem?_eq_some_iff.1 hq
 obtain⟨hj,rfl⟩:=List.getElem?_eq_some_iff.1 hx
 exact List.pairwise_iff_getElem.1 s j i hj hi (by omega)
def insD (q:PtI):List PtI→List PtI
 | []=>[q]
 | x :: l=>if zbJ q x then q :: x :: l else x :: insD q l
theorem zh0 {q x:PtI}:∀{l:List PtI},x∈insD q l↔x=q∨x∈l
 | []=>by simp[insD]
 | y :: l=>by
   unfold insD
   split
   ·simp
   ·rw[List.mem_cons,zh0,List.mem_cons]
    constructor
    ·rintro (h | h | h)
     ·exact .inr (.inl h)
     ·exact .inl h
     ·exact .inr (.inr h)
    ·rintro (h | h | h)
     ·exact .inr (.inl h)
     ·exact .inl h
     ·exact .inr (.inr h)
theorem zi3 (q:PtI):∀l:List PtI,(insD q l).Perm (q :: l)
 | []=>.refl _
 | y :: l=>by
   unfold insD
   split
   ·exact .refl _
   ·exact ((zi3 q l).cons y).trans (.swap q y l)
theorem ztg (q:PtI) (l:List PtI):(insD q l).length=l.length+1:=(zi3 q l).length_eq
theorem zoY {q:PtI}:∀{l:List PtI},Srt l→q∉l→Srt (insD q l)
 | [],_,_=>List.pairwise_singleton _ _
 | y :: l,s,h=>by
   obtain⟨s1,s2⟩:=List.pairwise_cons.1 s
   unfold insD
   split
   ·rename_i hq
    refine List.pairwise_cons.2 ⟨fun x hx=>?_,s⟩
    rcases List.mem_cons.1 hx with rfl | hx
    ·exact hq
    ·exact zgL hq (s1 x hx)
   ·rename_i hq
    refine List.pairwise_cons.2 ⟨fun x hx=>?_,zoY s2 fun z=>h (List.mem_cons_of_mem _ z)⟩
    rcases zh0.1 hx with rfl | hx
    ·exact Classical.byContradiction fun hn=>h (by rw[zoX hq hn]; exact List.mem_cons_self)
    ·exact s1 x hx
theorem zhg {q:PtI}:∀{a b:List PtI},(∀x∈a,¬zbJ q x)→insD q (a ++ b)=a ++ insD q b
 | [],b,_=>rfl
 | x :: a,b,h=>by
   rw[List.cons_append,insD,if_neg (h x List.mem_cons_self),zhg fun y hy=>h y (List.mem_cons_of_mem _ hy)]
   rfl
theorem zi4 {q:PtI}:∀{a b:List PtI},(∃x∈a,zbJ q x)→insD q (a ++ b)=insD q a ++ b
 | [],b,⟨x,hx,_⟩=>by cases hx
 | y :: a,b,⟨x,hx,h⟩=>by
   rw[List.cons_append,insD,insD]
   split
   ·rfl
   ·rename_i hn
    rw[zi4 ⟨x,(List.mem_cons.1 hx).resolve_left (fun e=>hn (e▸h)),h⟩]
    rfl
open Classical in
noncomputable def zu3 (l:List PtI) (q:PtI):Option (List PtI):=if zjJ q∧q∉l then some (insD q l) else none
theorem zi5 {l:List PtI} {q:PtI} (h1:zjJ q) (h2:q∉l):zu3 l q=some (insD q l):=if_pos ⟨h1,h2⟩
theorem zi6 {l:List PtI} {q:PtI} (h:¬zjJ q∨q∈l):zu3 l q=none:=if_neg fun z=>h.elim (fun w=>w z.1) (fun w=>z.2 w)
theorem zpP {l d:List PtI} {q:PtI} (h:zu3 l q=some d):zjJ q∧q∉l∧d=insD q l:=by
 unfold zu3 at h
 split at h
 ·rename_i hh
  cases h
  exact⟨hh.1,hh.2,rfl⟩
 ·cases h
def mrg:List PtI→List PtI→Option (List PtI)
 | [],b=>some b
 | a,[]=>some a
 | x :: a,y :: b=>if zbJ x y then (mrg a (y :: b)).map (x :: ·) else if zbJ y x then (mrg (x :: a) b).map (y :: ·) else none
termination_by a b=>a.length+b.length
noncomputable def zrg:List PtI→List PtI→Option (List PtI)
 | a,[]=>some a
 | a,y :: b=>match zu3 a y with
   | some d=>zrg d b
   | none=>none
theorem zrh (b:List PtI):mrg [] b=some b:=by unfold mrg; rfl
theorem zoZ (a:List PtI):mrg a []=some a:=by cases a <;> (unfold mrg; rfl)
theorem zh1 (x y:PtI) (a b:List PtI):mrg (x :: a) (y :: b)=if zbJ x y then (mrg a (y :: b)).map (x :: ·) else if zbJ y x then (mrg (x :: a) b).map (y :: ·) else none:=by
 conv=>lhs; unfold mrg
theorem zth {a b:List PtI} (p:a.Perm b) (ha:Srt a) (hb:Srt b):a=b:=List.Perm.eq_of_pairwise (fun x y _ _ h1 h2=>(ztf h1 h2).elim) ha hb p
theorem zh2:∀(k:Nat) (a b:List PtI),a.length+b.length≤k→Srt a→Srt b→
 (∃c,mrg a b=some c∧Srt c∧c.Perm (a ++ b))∨(mrg a b=none∧∃x∈a,x∈b)
 | k,[],b,_,_,sb=>.inl ⟨b,zrh b,sb,.refl _⟩
 | k,x :: a,[],_,sa,_=>.inl ⟨_,zoZ _,sa,by rw[List.append_nil]⟩
 | 0,x :: a,y :: b,hk,_,_=>by simp at hk
 | k+1,x :: a,y :: b,hk,sa,sb=>by
   obtain⟨a1,a2⟩:=List.pairwise_cons.1 sa
   obtain⟨b1,b2⟩:=List.pairwise_cons.1 sb
   rw[zh1]
   simp only[List.length_cons] at hk
   by_cases h:zbJ x y
   ·rw[if_pos h]
    rcases zh2 k a (y :: b) (by simp; omega) a2 sb with ⟨c,e,sc,pc⟩ | ⟨e,z,z1,z2⟩
    ·refine .inl ⟨x :: c,by rw[e]; rfl,List.pairwise_cons.2 ⟨fun z hz=>?_,sc⟩,pc.cons x⟩
     rcases List.mem_append.1 (pc.mem_iff.1 hz) with hz | hz
     ·exact a1 z hz
     ·rcases List.mem_cons.1 hz with rfl | hz
      ·exact h
      ·exact zgL h (b1 z hz)
    ·exact .inr ⟨by rw[e]; rfl,z,List.mem_cons_of_mem _ z1,z2⟩
   ·rw[if_neg h]
    by_cases h' : zbJ y x
    ·rw[if_pos h']
     rcases zh2 k (x :: a) b (by simp; omega) sa b2 with ⟨c,e,sc,pc⟩ | ⟨e,z,z1,z2⟩
     ·refine .inl ⟨y :: c,by rw[e]; rfl,List.pairwise_cons.2 ⟨fun z hz=>?_,sc⟩,(pc.cons y).trans List.perm_middle.symm⟩
      rcases List.mem_append.1 (pc.mem_iff.1 hz) with hz | hz
      ·rcases List.mem_cons.1 hz with rfl | hz
       ·exact h'
       ·exact zgL h' (a1 z hz)
      ·exact b1 z hz
     ·exact .inr ⟨by rw[e]; rfl,z,z1,List.mem_cons_of_mem _ z2⟩
    ·rw[if_neg h']
     exact .inr ⟨rfl,x,List.mem_cons_self,by rw[zoX h h']; exact List.mem_cons_self⟩
theorem zi7:∀(b a:List PtI),Srt a→Srt b→(∀q∈b,zjJ q)→(∃c,zrg a b=some c∧Srt c∧c.Perm (a ++ b))∨(zrg a b=none∧∃x∈a,x∈b)
 | [],a,sa,_,_=>.inl ⟨a,rfl,sa,by rw[List.append_nil]⟩
 | y :: b,a,sa,sb,hf=>by
   obtain⟨b1,b2⟩:=List.pairwise_cons.1 sb
   unfold zrg
   by_cases hy:y∈a
   ·rw[zi6 (.inr hy)]
    exact .inr ⟨rfl,y,hy,List.mem_cons_self⟩
   ·rw[zi5 (hf y List.mem_cons_self) hy]
    simp only
    rcases zi7 b (insD y a) (zoY sa hy) b2 fun q hq=>hf q (List.mem_cons_of_mem _ hq) with ⟨c,e,sc,pc⟩ | ⟨e,z,z1,z2⟩
    ·exact .inl ⟨c,e,sc,pc.trans (((zi3 y a).append_right b).trans List.perm_middle.symm)⟩
    ·rcases zh0.1 z1 with rfl | z1
     ·exact absurd (b1 z z2) (zi2 z)
     ·exact .inr ⟨e,z,z1,List.mem_cons_of_mem _ z2⟩
theorem zvY {a b:List PtI} (sa:Srt a) (sb:Srt b) (hf:∀q∈b,zjJ q):mrg a b=zrg a b:=by
 have no:∀c,Srt c→c.Perm (a ++ b)→¬∃x∈a,x∈b:=fun c sc pc ⟨x,h1,h2⟩=>by
  have nd:c.Nodup:=List.Pairwise.imp (S:=fun a b=>a≠b) (fun {a b} (h:zbJ a b) (e:a=b)=>zi2 b (e▸h)) sc
  have:=(pc.nodup_iff).1 nd
  exact (List.nodup_append.1 this).2.2 x h1 x h2 rfl
 rcases zh2 _ a b (Nat.le_refl _) sa sb with ⟨c,e,sc,pc⟩ | ⟨e,hx⟩
 ·rcases zi7 b a sa sb hf with ⟨d,e2,sd,pd⟩ | ⟨e2,hx⟩
  ·rw[e,e2,zth (pc.trans pd.symm) sc sd]
  ·exact absurd hx (no c sc pc)
 ·rcases zi7 b a sa sb hf with ⟨d,e2,sd,pd⟩ | ⟨e2,hx'⟩
  ·exact absurd hx (no d sd pd)
  ·rw[e,e2]
theorem zeu.mrg {a b c:List PtI} (A:zeu a) (B:zeu b) (h:mrg a b=some c):zeu c∧∀q,q∈c↔q∈a∨q∈b:=by
 rcases zh2 _ a b (Nat.le_refl _) A.srt.1 B.srt.1 with ⟨d,e,sd,pd⟩ | ⟨e, -⟩
 ·rw[h] at e
  cases e
  have hm:∀q,q∈c↔q∈a∨q∈b:=fun q=>by rw[pd.mem_iff,List.mem_append]
  exact⟨zeu.of sd fun q hq=>((hm q).1 hq).elim (A.srt.2 q) (B.srt.2 q),hm⟩
 ·rw[h] at e; cases e
def oldD (st:Int) (l:List PtI):List PtI:=l.filter fun q=>!decide (st < q.2.1)
def zld (st:Int) (l:List PtI):List PtI:=l.filter fun q=>decide (st < q.2.1)
theorem zeu.filter {l:List PtI} (D:zeu l) (p:PtI→Bool):zeu (l.filter p):=zeu.of (D.srt.1.filter p) fun q hq=>D.srt.2 q (List.mem_filter.1 hq).1
theorem zu4 {st:Int} {l:List PtI} {q:PtI} (h:q∈oldD st l):q∈l∧q.2.1≤st:=by
 have:=List.mem_filter.1 h
 simp at this
 exact⟨this.1,by omega⟩
end Go.Am
