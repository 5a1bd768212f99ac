/-
  WHAT IS DONE TO FAMILIES, plain: families by their members; whatever is done leaves a family.
-/
import Derived.Test.YtnkbkpajlikkaaaCTells
set_option linter.unusedVariables false
set_option linter.unusedSimpArgs false
namespace Go.Am
open Go.Proofs
def FlrIs (rs:List SetR) (pr F:Int):Prop:=(pr=0∧F=0)∨∃x∈rs,x.id=pr∧x.snap=true∧F=x.stamp
def NextIs (rs:List SetR) (o i:Int):Prop:=∃a∈rs,a.own=o∧a.prev=i∧∀b∈rs,b.own=o→b.prev=i→b=a
structure Fam (n:Int) (rs:List SetR):Prop where
 top:n≤281474976710655
 len:rs.length≤32
 ord:rs.Pairwise fun a b=>a.id < b.id
 ent:∀r∈rs,EntR r∧r.id < n
 names:∀a∈rs,∀b∈rs,calK a=calK b→a=b
 elder:∀s∈rs,∃F,FlrIs rs s.prev F∧(s.snap=true→F < s.stamp)∧∀q∈s.dead,q.2.1≤F
 owner:∀s∈rs,s.snap=true→(∃x∈rs,x.id=s.own∧x.snap=false)∧NextIs rs s.own s.id
theorem pw_uniq:∀{rs:List SetR},(rs.Pairwise fun a b=>a.id < b.id)→∀{a b:SetR},a∈rs→b∈rs→a.id=b.id→a=b
 | [],_,a,b,ha,_,_=>by cases ha
 | r :: rs,h,a,b,ha,hb,e=>by
   obtain⟨h1,h2⟩:=List.pairwise_cons.1 h
   rcases List.mem_cons.1 ha with ha' | ha'
   ·rcases List.mem_cons.1 hb with hb' | hb'
    ·rw[ha',hb']
    ·have:=h1 b hb'; rw[ha'] at e; omega
   ·rcases List.mem_cons.1 hb with hb' | hb'
    ·have:=h1 a ha'; rw[hb'] at e; omega
    ·exact pw_uniq h2 ha' hb' e
theorem Fam.uniq {n:Int} {rs:List SetR} (F:Fam n rs) {a b:SetR} (ha:a∈rs) (hb:b∈rs) (e:a.id=b.id):a=b:=pw_uniq F.ord ha hb e
theorem pw_place {rs:List SetR} (h:rs.Pairwise fun a b=>a.id < b.id) {x:SetR} {u:Nat} (hu:rs[u]?= some x):plcN rs x.id=some u:=by
 refine plcN_some hu rfl fun j y hj hy=>?_
 obtain⟨hu',rfl⟩:=List.getElem?_eq_some_iff.1 hu
 obtain⟨hj',rfl⟩:=List.getElem?_eq_some_iff.1 hy
 have:=List.pairwise_iff_getElem.1 h j u hj' hu' hj
 omega
theorem Fam.place {n:Int} {rs:List SetR} (F:Fam n rs) {x:SetR} (hx:x∈rs):∃j,plcN rs x.id=some j∧rs[j]?= some x:=by
 obtain⟨j,hj⟩:=List.mem_iff_getElem?.1 hx
 exact⟨j,pw_place F.ord hj,hj⟩
theorem filter_one {rs:List SetR} (h:rs.Pairwise fun a b=>a.id < b.id) {p:SetR→Bool} {a:SetR} (ha:a∈rs) (pa:p a=true) (hu:∀b∈rs,p b=true→b=a):(rs.filter p).length=1:=by
 have hp:=h.filter p
 have hm:∀b∈rs.filter p,b=a:=fun b hb=>hu b (List.mem_filter.1 hb).1 (List.mem_filter.1 hb).2
 have ha' : a∈rs.filter p:=List.mem_filter.2 ⟨ha,pa⟩
 match hf:rs.filter p,hp,hm,ha' with
 | [],_,_,ha'=>cases ha'
 | [x],_,_,_=>rfl
 | x :: y :: l,hp,hm,_=>
   have h1:=hm x (by simp)
   have h2:=hm y (by simp)
   have:=(List.pairwise_cons.1 hp).1 y (by simp)
   rw[h1,h2] at this
   omega
theorem one_filter {rs:List SetR} {p:SetR→Bool} (h:(rs.filter p).length=1):∃a∈rs,p a=true∧∀b∈rs,p b=true→b=a:=by
 match hf:rs.filter p,h with
 | [a],_=>
   have ha:a∈rs.filter p:=by rw[hf]; simp
   refine⟨a,(List.mem_filter.1 ha).1,(List.mem_filter.1 ha).2,fun b hb pb=>?_⟩
   have:b∈rs.filter p:=List.mem_filter.2 ⟨hb,pb⟩
   rw[hf] at this
   simpa using this
theorem RightP.fam {n:Int} {rs:List SetR} (R:RightP n rs):Fam n rs where
 top:=R.1
 len:=R.2.1
 ord:=List.pairwise_iff_getElem.2 fun i j hi hj hij=>by
  have:=R.incr (j - i - 1) i rs[i] rs[j] (List.getElem?_eq_getElem hi) (by rw[show i+(j - i - 1)+1=j by omega]; exact List.getElem?_eq_getElem hj)
  exact this
 ent:=fun r hr=>by
  obtain⟨i,hi⟩:=List.mem_iff_getElem?.1 hr
  exact⟨(R.2.2.1 i r hi).1,(R.2.2.1 i r hi).2.1⟩
 names:=fun a ha b hb e=>by
  obtain⟨i,hi⟩:=List.mem_iff_getElem?.1 ha
  obtain⟨j,hj⟩:=List.mem_iff_getElem?.1 hb
  have h1:=R.plcC hi
  rw[e,R.plcC hj] at h1
  cases h1
  rw[hi] at hj
  exact Option.some.inj hj
 elder:=fun s hs=>by
  obtain⟨⟨e1,e2⟩, -⟩:=R.2.2.2.2 s hs
  by_cases hp:s.prev=0
  ·refine⟨0,.inl ⟨hp,rfl⟩,fun h=>?_,fun q hq=>?_⟩
   ·rcases (R.ent hs).2.2.2.2.2.2.2.2 with z | z
    ·omega
    ·rw[h] at z; cases z.1
   ·have:=e2 q hq
    unfold flrOf at this
    rw[if_pos hp] at this
    exact this
  ·obtain⟨j,x,h1,h2,h3,h4⟩:=e1 hp
   refine⟨x.stamp,.inr ⟨x,List.mem_of_getElem? h2,?_,h3,rfl⟩,h4,fun q hq=>?_⟩
   ·obtain⟨hj,he⟩:=plcN_at h1
    rw[List.getElem?_eq_getElem hj] at h2
    rw[←Option.some.inj h2,he]
   ·have:=e2 q hq
    unfold flrOf at this
    rw[if_neg hp,h1] at this
    simp only[h2] at this
    exact this
 owner:=fun s hs hsn=>by
  obtain⟨j,v,h1,h2,h3, -⟩:=R.vol hs
  obtain⟨hj,he⟩:=plcN_at h1
  rw[List.getElem?_eq_getElem hj] at h2
  have h2:=Option.some.inj h2
  refine⟨⟨v,h2▸List.getElem_mem hj,by rw[←h2,he],h3⟩,?_⟩
  obtain⟨a,ha,pa,hu⟩:=one_filter ((R.2.2.2.2 s hs).2 hsn).2
  simp only[Bool.and_eq_true,decide_eq_true_eq] at pa hu
  exact⟨a,ha,pa.1,pa.2,fun b hb h1 h2=>hu b hb ⟨h1,h2⟩⟩
theorem Fam.id1 {n:Int} {rs:List SetR} (F:Fam n rs) {x:SetR} (hx:x∈rs):1≤x.id:=(F.ent x hx).1.1.1
theorem FlrIs.det {n:Int} {rs:List SetR} (F:Fam n rs) {p A B:Int} (a:FlrIs rs p A) (b:FlrIs rs p B):A=B:=by
 rcases a with ⟨h1,h2⟩ | ⟨x,hx,h1,h2,h3⟩
 ·rcases b with ⟨h4,h5⟩ | ⟨y,hy,h4,h5,h6⟩
  ·omega
  ·have:=F.id1 hy; omega
 ·rcases b with ⟨h4,h5⟩ | ⟨y,hy,h4,h5,h6⟩
  ·have:=F.id1 hx; omega
  ·have:=F.uniq hx hy (by omega)
   subst this
   omega
theorem Fam.right {n:Int} {rs:List SetR} (F:Fam n rs):RightP n rs:=by
 refine⟨F.top,F.len,fun i r h=>⟨(F.ent r (List.mem_of_getElem? h)).1,(F.ent r (List.mem_of_getElem? h)).2,fun j x e hx=>?_⟩,?_,fun s hs=>⟨⟨fun hp=>?_,fun q hq=>?_⟩,fun hsn=>?_⟩⟩
 ·obtain⟨hu',rfl⟩:=List.getElem?_eq_some_iff.1 h
  obtain⟨hj',rfl⟩:=List.getElem?_eq_some_iff.1 hx
  exact List.pairwise_iff_getElem.1 F.ord j i hj' hu' (by omega)
 ·refine List.pairwise_map.2 (List.Pairwise.imp_of_mem (fun {a b} ha hb hab e=>?_) F.ord)
  have:=F.names a ha b hb e
  subst this
  omega
 ·obtain⟨Fl,h1,h2,h3⟩:=F.elder s hs
  rcases h1 with ⟨h4, -⟩ | ⟨x,hx,h4,h5,h6⟩
  ·exact absurd h4 hp
  ·obtain⟨j,h7,h8⟩:=F.place hx
   exact⟨j,x,by rw[←h4]; exact h7,h8,h5,fun z=>by have:=h2 z; omega⟩
 ·obtain⟨Fl,h1,h2,h3⟩:=F.elder s hs
  have:=h3 q hq
  unfold flrOf
  rcases h1 with ⟨h4,h5⟩ | ⟨x,hx,h4,h5,h6⟩
  ·rw[if_pos h4]; omega
  ·have:=F.id1 hx
   obtain⟨j,h7,h8⟩:=F.place hx
   rw[if_neg (by omega),←h4,h7]
   simp only[h8]
   omega
 ·obtain⟨⟨x,hx,h1,h2⟩,a,ha,h3,h4,h5⟩:=F.owner s hs hsn
  obtain⟨j,h7,h8⟩:=F.place hx
  refine⟨⟨j,x,by rw[←h1]; exact h7,h8,h2⟩,filter_one F.ord ha (by simp[h3,h4]) fun b hb pb=>?_⟩
  simp only[Bool.and_eq_true,decide_eq_true_eq] at pb
  exact h5 b hb pb.1 pb.2
theorem fam_iff {n:Int} {rs:List SetR}:RightP n rs↔Fam n rs:=⟨RightP.fam,Fam.right⟩
/-! ## Records that are made -/
def volR (n:Int) (nm:ByteArray) (pr bl:Int) (root:PtI):SetR:=⟨n,nm,false,n,pr,0,bl,root,none,0,0,[]⟩
def noDead (r:SetR):SetR:={ r with dp:=none,dn:=0,dc:=0,dead:=[] }
def withDead (r:SetR) (d:List PtI):SetR:={ r with dp:=none,dn:=d.length,dc:=0,dead:=d }
theorem DeadR_nil:DeadR []:=fun i q h=>by simp at h
theorem FlrIs.app {rs:List SetR} {p A:Int} (h:FlrIs rs p A) (l:List SetR):FlrIs (rs ++ l) p A:=by
 rcases h with h | ⟨x,hx,h⟩
 ·exact .inl h
 ·exact .inr ⟨x,List.mem_append_left _ hx,h⟩
theorem mem_snoc {α:Type} {a r:α} {l:List α}:a∈l ++ [r]↔a∈l∨a=r:=by simp
section
variable {n:Int} {rs:List SetR}
theorem Fam.prevLt (F:Fam n rs) {s:SetR} (hs:s∈rs) (h1:1≤n):s.prev < n:=by
 obtain⟨Fl,h2, -⟩:=F.elder s hs
 rcases h2 with ⟨h3, -⟩ | ⟨x,hx,h3, -⟩
 ·omega
 ·have:=(F.ent x hx).2; omega
theorem Fam.addVol (F:Fam n rs) (h1:1≤n) (h2:n < 281474976710655) (hl:rs.length < 32) {nm:ByteArray} (hn:NameR nm) (hc:∀r∈rs,calK r≠(0,nm)) {bl:Int} (hb:1≤bl∧bl≤64) {root:PtI} (hr:PtrRI root) {pr:Int}
 (hp:pr=0∨∃x∈rs,x.id=pr∧x.snap=true):Fam (n+1) (rs ++ [volR n nm pr bl root]) where
 top:=by omega
 len:=by rw[List.length_append]; simp; omega
 ord:=List.pairwise_append.2 ⟨F.ord,List.pairwise_singleton _ _,fun a ha b hb=>by
  rw[List.mem_singleton] at hb
  subst hb
  exact (F.ent a ha).2⟩
 ent:=fun r hr'=>by
  rcases mem_snoc.1 hr' with h | rfl
  ·exact⟨(F.ent r h).1,by have:=(F.ent r h).2; omega⟩
  ·refine⟨⟨⟨h1,by show n≤_; omega⟩,⟨h1,by show n≤_; omega⟩,?_,hb,hn,hr,Nat.zero_le _,DeadR_nil,.inr ⟨rfl,rfl,rfl⟩⟩,by show n < n+1; omega⟩
   rcases hp with h | ⟨x,hx,h, -⟩
   ·show pr≤_; omega
   ·have:=(F.ent x hx).2; show pr≤_; omega
 names:=fun a ha b hb e=>by
  rcases mem_snoc.1 ha with h | rfl
  ·rcases mem_snoc.1 hb with h' | rfl
   ·exact F.names a h b h' e
   ·exact absurd e (hc a h)
  ·rcases mem_snoc.1 hb with h' | rfl
   ·exact absurd e.symm (hc b h')
   ·rfl
 elder:=fun s hs=>by
  rcases mem_snoc.1 hs with h | rfl
  ·obtain⟨Fl,q1,q2,q3⟩:=F.elder s h
   exact⟨Fl,q1.app _,q2,q3⟩
  ·rcases hp with h | ⟨x,hx,h,hs⟩
   ·exact⟨0,.inl ⟨h,rfl⟩,fun z=>(by cases z),fun q hq=>by cases hq⟩
   ·exact⟨x.stamp,.inr ⟨x,List.mem_append_left _ hx,h,hs,rfl⟩,fun z=>(by cases z),fun q hq=>by cases hq⟩
 owner:=fun s hs hsn=>by
  rcases mem_snoc.1 hs with h | rfl
  ·obtain⟨⟨x,hx,q1,q2⟩,a,ha,q3,q4,q5⟩:=F.owner s h hsn
   refine⟨⟨x,List.mem_append_left _ hx,q1,q2⟩,a,List.mem_append_left _ ha,q3,q4,fun b hb z1 z2=>?_⟩
   rcases mem_snoc.1 hb with h' | rfl
   ·exact q5 b h' z1 z2
   ·have:=(F.ent x hx).2
    have:n=s.own:=z1
    omega
  ·cases hsn
def snapF (n:Int) (v:SetR) (r:SetR):SetR:=if r.id=v.id then { noDead r with prev:=n } else r
def snapR (n:Int) (v:SetR) (nm:ByteArray) (st:Int):SetR:={ v with id:=n,name:=nm,snap:=true,own:=v.id,stamp:=st }
theorem snapF_self (n:Int) (v:SetR):snapF n v v={ noDead v with prev:=n }:=if_pos rfl
theorem snapF_ne {n:Int} {v r:SetR} (h:r.id≠v.id):snapF n v r=r:=if_neg h
theorem snapF_id (n:Int) (v r:SetR):(snapF n v r).id=r.id∧(snapF n v r).snap=r.snap∧(snapF n v r).own=r.own∧(snapF n v r).name=r.name:=by
 unfold snapF; split <;> exact⟨rfl,rfl,rfl,rfl⟩
theorem calK_of {a b:SetR} (h1:a.snap=b.snap) (h2:a.own=b.own) (h3:a.name=b.name):calK a=calK b:=by unfold calK; rw[h1,h2,h3]
theorem Fam.volOwn (F:Fam n rs) {v:SetR} (hv:v∈rs) (hs:v.snap=false):v.own=v.id:=by
 rcases (F.ent v hv).1.2.2.2.2.2.2.2.2 with z | z
 ·rw[hs] at z; cases z.1
 ·exact z.2.2
theorem Fam.addSnap (F:Fam n rs) (h1:1≤n) (h2:n < 281474976710655) (hl:rs.length < 32) {v:SetR} (hv:v∈rs) (hvs:v.snap=false) {nm:ByteArray} (hn:NameR nm) (hc:∀r∈rs,calK r≠(v.id,nm)) {st:Int} (hst:1≤st∧st≤281474976710655)
 (hfl:∀Fl,FlrIs rs v.prev Fl→Fl < st):Fam (n+1) (rs.map (snapF n v) ++ [snapR n v nm st]):=by
 have vo:=F.volOwn hv hvs
 have mem:∀a,a∈rs.map (snapF n v) ++ [snapR n v nm st]↔(∃r∈rs,snapF n v r=a)∨a=snapR n v nm st:=fun a=>by rw[mem_snoc,List.mem_map]
 have ne:∀r∈rs,r≠v→r.id≠v.id:=fun r hr h e=>h (F.uniq hr hv e)
 have old:∀r∈rs,r≠v→r∈rs.map (snapF n v) ++ [snapR n v nm st]:=fun r hr h=>(mem r).2 (.inl ⟨r,hr,snapF_ne (ne r hr h)⟩)
 have ev:=(F.ent v hv).1
 have snapne:∀r∈rs,r.snap=true→r≠v:=fun r hr h e=>by rw[e,hvs] at h; cases h
 have flr:∀p Fl,FlrIs rs p Fl→FlrIs (rs.map (snapF n v) ++ [snapR n v nm st]) p Fl:=fun p Fl h=>by
  rcases h with h | ⟨x,hx,q1,q2,q3⟩
  ·exact .inl h
  ·exact .inr ⟨x,old x hx (snapne x hx q2),q1,q2,q3⟩
 have pl:∀b∈rs,b.prev≠n:=fun b hb=>by have:=F.prevLt hb h1; omega
 refine⟨by omega,by rw[List.length_append,List.length_map]; simp; omega,?_,fun a ha=>?_,fun a ha b hb e=>?_,fun s hs=>?_,fun s hs hsn=>?_⟩
 ·refine List.pairwise_append.2 ⟨List.pairwise_map.2 (F.ord.imp fun {a b} h=>by rw[(snapF_id n v a).1,(snapF_id n v b).1]; exact h),List.pairwise_singleton _ _,fun a ha b hb=>?_⟩
  rw[List.mem_singleton] at hb
  subst hb
  obtain⟨r,hr,rfl⟩:=List.mem_map.1 ha
  rw[(snapF_id n v r).1]
  exact (F.ent r hr).2
 ·rcases (mem a).1 ha with ⟨r,hr,rfl⟩ | rfl
  ·obtain⟨e1,e2⟩:=F.ent r hr
   refine⟨?_,by rw[(snapF_id n v r).1]; omega⟩
   unfold snapF
   split
   ·obtain⟨q1,q2,q3,q4,q5,q6,q7,q8,q9⟩:=e1
    exact⟨q1,q2,by show n≤_; omega,q4,q5,q6,Nat.zero_le _,DeadR_nil,q9⟩
   ·exact e1
  ·obtain⟨q1,q2,q3,q4,q5,q6,q7,q8,q9⟩:=ev
   exact⟨⟨⟨h1,by show n≤_; omega⟩,q1,q3,q4,hn,q6,q7,q8,.inl ⟨rfl,hst.1,hst.2⟩⟩,by show n < n+1; omega⟩
 ·rcases (mem a).1 ha with ⟨r,hr,rfl⟩ | rfl
  ·rcases (mem b).1 hb with ⟨t,ht,rfl⟩ | rfl
   ·obtain⟨a1,a2,a3,a4⟩:=snapF_id n v r
    obtain⟨b1,b2,b3,b4⟩:=snapF_id n v t
    rw[calK_of a2 a3 a4,calK_of b2 b3 b4] at e
    rw[F.names r hr t ht e]
   ·obtain⟨a1,a2,a3,a4⟩:=snapF_id n v r
    rw[calK_of a2 a3 a4] at e
    exact absurd e (hc r hr)
  ·rcases (mem b).1 hb with ⟨t,ht,rfl⟩ | rfl
   ·obtain⟨b1,b2,b3,b4⟩:=snapF_id n v t
    rw[calK_of b2 b3 b4] at e
    exact absurd e.symm (hc t ht)
   ·rfl
 ·rcases (mem s).1 hs with ⟨r,hr,rfl⟩ | rfl
  ·by_cases hrv:r=v
   ·subst hrv
    rw[snapF_self]
    exact⟨st,.inr ⟨_,(mem _).2 (.inr rfl),rfl,rfl,rfl⟩,fun z=>(by have z:r.snap=true:=z; rw[hvs] at z; cases z),fun q hq=>(by cases hq)⟩
   ·rw[snapF_ne (ne r hr hrv)]
    obtain⟨Fl,q1,q2,q3⟩:=F.elder r hr
    exact⟨Fl,flr _ _ q1,q2,q3⟩
  ·obtain⟨Fl,q1,q2,q3⟩:=F.elder v hv
   exact⟨Fl,flr _ _ q1,fun _=>hfl _ q1,q3⟩
 ·rcases (mem s).1 hs with ⟨r,hr,rfl⟩ | rfl
  ·rw[(snapF_id n v r).2.1] at hsn
   have hrv:=snapne r hr hsn
   rw[snapF_ne (ne r hr hrv)]
   obtain⟨⟨x,hx,q1,q2⟩,a,ha,q3,q4,q5⟩:=F.owner r hr hsn
   refine⟨⟨snapF n v x,(mem _).2 (.inl ⟨x,hx,rfl⟩),by rw[(snapF_id n v x).1]; exact q1,by rw[(snapF_id n v x).2.1]; exact q2⟩,?_⟩
   by_cases hav:a=v
   ·subst hav
    refine⟨snapR n a nm st,(mem _).2 (.inr rfl),by show a.id=_; rw[←vo]; exact q3,q4,fun b hb z1 z2=>?_⟩
    rcases (mem b).1 hb with ⟨t,ht,rfl⟩ | rfl
    ·by_cases hta:t=a
     ·subst hta
      rw[snapF_self] at z2
      have:n=r.id:=z2
      have:=(F.ent r hr).2
      omega
     ·rw[snapF_ne (ne t ht hta)] at z1 z2
      exact absurd (q5 t ht z1 z2) hta
    ·rfl
   ·refine⟨a,old a ha hav,q3,q4,fun b hb z1 z2=>?_⟩
    rcases (mem b).1 hb with ⟨t,ht,rfl⟩ | rfl
    ·by_cases hta:t=v
     ·subst hta
      rw[snapF_self] at z2
      have:n=r.id:=z2
      have:=(F.ent r hr).2
      omega
     ·rw[snapF_ne (ne t ht hta)] at z1 z2 ⊢
      exact q5 t ht z1 z2
    ·exact absurd (q5 v hv (by rw[vo]; exact z1) z2).symm hav
  ·refine⟨⟨snapF n v v,(mem _).2 (.inl ⟨v,hv,rfl⟩),(snapF_id n v v).1,by rw[(snapF_id n v v).2.1]; exact hvs⟩,snapF n v v,(mem _).2 (.inl ⟨v,hv,rfl⟩),by rw[(snapF_id n v v).2.2.1]; exact vo,by rw[snapF_self]; rfl,fun b hb z1 z2=>?_⟩
   rcases (mem b).1 hb with ⟨t,ht,rfl⟩ | rfl
   ·by_cases hta:t=v
    ·rw[hta]
    ·rw[snapF_ne (ne t ht hta)] at z2
     exact absurd z2 (pl t ht)
   ·exact absurd z2 (pl v hv)
theorem Fam.keep (F:Fam n rs) {f:SetR→SetR} (hk:∀r∈rs,(f r).id=r.id∧(f r).snap=r.snap∧(f r).stamp=r.stamp∧(f r).own=r.own∧(f r).name=r.name∧(f r).prev=r.prev) (he:∀r∈rs,EntR (f r)) (hd:∀r∈rs,∀Fl,FlrIs rs r.prev Fl→∀q∈(f r).dead,q.2.1≤Fl):Fam n (rs.map f):=by
 have mem:∀{a},a∈rs.map f↔∃r∈rs,f r=a:=fun {a}=>List.mem_map
 refine⟨F.top,by rw[List.length_map]; exact F.len,List.pairwise_map.2 (List.Pairwise.imp_of_mem (fun {a b} ha hb h=>by rw[(hk a ha).1,(hk b hb).1]; exact h) F.ord),fun a ha=>?_,fun a ha b hb e=>?_,fun s hs=>?_,fun s hs hsn=>?_⟩
 ·obtain⟨r,hr,rfl⟩:=mem.1 ha
  exact⟨he r hr,by rw[(hk r hr).1]; exact (F.ent r hr).2⟩
 ·obtain⟨r,hr,rfl⟩:=mem.1 ha
  obtain⟨t,ht,rfl⟩:=mem.1 hb
  have a1:=hk r hr
  have b1:=hk t ht
  rw[calK_of a1.2.1 a1.2.2.2.1 a1.2.2.2.2.1,calK_of b1.2.1 b1.2.2.2.1 b1.2.2.2.2.1] at e
  rw[F.names r hr t ht e]
 ·obtain⟨r,hr,rfl⟩:=mem.1 hs
  obtain⟨Fl,q1,q2,q3⟩:=F.elder r hr
  obtain⟨k1,k2,k3,k4,k5,k6⟩:=hk r hr
  refine⟨Fl,?_,by rw[k2,k3]; exact q2,hd r hr Fl q1⟩
  rw[k6]
  rcases q1 with h | ⟨x,hx,q1,q4,q5⟩
  ·exact .inl h
  ·obtain⟨l1,l2,l3, -⟩:=hk x hx
   exact .inr ⟨f x,mem.2 ⟨x,hx,rfl⟩,by rw[l1]; exact q1,by rw[l2]; exact q4,by rw[l3]; exact q5⟩
 ·obtain⟨r,hr,rfl⟩:=mem.1 hs
  obtain⟨k1,k2,k3,k4,k5,k6⟩:=hk r hr
  rw[k2] at hsn
  obtain⟨⟨x,hx,q1,q2⟩,a,ha,q3,q4,q5⟩:=F.owner r hr hsn
  obtain⟨l1,l2, -⟩:=hk x hx
  obtain⟨m1,m2,m3,m4,m5,m6⟩:=hk a ha
  refine⟨⟨f x,mem.2 ⟨x,hx,rfl⟩,by rw[l1,k4]; exact q1,by rw[l2]; exact q2⟩,f a,mem.2 ⟨a,ha,rfl⟩,by rw[m4,k4]; exact q3,by rw[m6,k1]; exact q4,fun b hb z1 z2=>?_⟩
  obtain⟨t,ht,rfl⟩:=mem.1 hb
  obtain⟨t1,t2,t3,t4,t5,t6⟩:=hk t ht
  rw[t4,k4] at z1
  rw[t6,k1] at z2
  rw[q5 t ht z1 z2]
theorem Fam.dropVol (F:Fam n rs) {v:SetR} (hv:v∈rs) (hvs:v.snap=false) (hno:∀s∈rs,s.snap=true→s.own≠v.id):Fam n (rs.filter fun r=>!decide (r.id=v.id)):=by
 have mem:∀{a},a∈(rs.filter fun r=>!decide (r.id=v.id))↔a∈rs∧a.id≠v.id:=fun {a}=>by rw[List.mem_filter]; simp
 have vo:=F.volOwn hv hvs
 refine⟨F.top,Nat.le_trans (List.length_filter_le _ _) F.len,F.ord.filter _,fun a ha=>F.ent a (mem.1 ha).1,fun a ha b hb e=>F.names a (mem.1 ha).1 b (mem.1 hb).1 e,fun s hs=>?_,fun s hs hsn=>?_⟩
 ·obtain⟨Fl,q1,q2,q3⟩:=F.elder s (mem.1 hs).1
  refine⟨Fl,?_,q2,q3⟩
  rcases q1 with h | ⟨x,hx,q1,q4,q5⟩
  ·exact .inl h
  ·refine .inr ⟨x,mem.2 ⟨hx,fun e=>?_⟩,q1,q4,q5⟩
   rw[F.uniq hx hv e,hvs] at q4
   cases q4
 ·obtain⟨⟨x,hx,q1,q2⟩,a,ha,q3,q4,q5⟩:=F.owner s (mem.1 hs).1 hsn
  have hne:=hno s (mem.1 hs).1 hsn
  refine⟨⟨x,mem.2 ⟨hx,fun e=>hne (by omega)⟩,q1,q2⟩,a,mem.2 ⟨ha,fun e=>?_⟩,q3,q4,fun b hb z1 z2=>q5 b (mem.1 hb).1 z1 z2⟩
  have:=F.uniq ha hv e
  subst this
  exact hne (by omega)
def dropF (z:SetR) (pr:Int) (d:List PtI) (r:SetR):SetR:=if r.id=z.id then { withDead r d with prev:=pr } else r
theorem dropF_id (z:SetR) (pr:Int) (d:List PtI) (r:SetR):(dropF z pr d r).id=r.id∧(dropF z pr d r).snap=r.snap∧(dropF z pr d r).own=r.own∧(dropF z pr d r).name=r.name∧(dropF z pr d r).stamp=r.stamp:=by
 unfold dropF; split <;> exact⟨rfl,rfl,rfl,rfl,rfl⟩
theorem dropF_self (z:SetR) (pr:Int) (d:List PtI):dropF z pr d z={ withDead z d with prev:=pr }:=if_pos rfl
theorem dropF_ne {z r:SetR} (h:r.id≠z.id) (pr:Int) (d:List PtI):dropF z pr d r=r:=if_neg h
theorem Fam.dropSnap (F:Fam n rs) {o z:SetR} (ho:o∈rs) (hos:o.snap=true) (hz:z∈rs) (zo:z.own=o.own) (zp:z.prev=o.id) (hu:∀r∈rs,r.prev=o.id→r=z) {d:List PtI} (hd:DeadR d) (hdl:d.length≤4000) (hfl:∀Fl,FlrIs rs o.prev Fl→∀q∈d,q.2.1≤Fl):
 Fam n ((rs.map (dropF z o.prev d)).filter fun r=>!decide (r.id=o.id)):=by
 have mem:∀{a},a∈((rs.map (dropF z o.prev d)).filter fun r=>!decide (r.id=o.id))↔∃r∈rs,dropF z o.prev d r=a∧r.id≠o.id:=fun {a}=>by
  rw[List.mem_filter,List.mem_map]
  constructor
  ·rintro⟨⟨r,hr,rfl⟩,h⟩
   exact⟨r,hr,rfl,by simpa[(dropF_id z o.prev d r).1] using h⟩
  ·rintro⟨r,hr,rfl,h⟩
   exact⟨⟨r,hr,rfl⟩,by simpa[(dropF_id z o.prev d r).1] using h⟩
 have ne:∀r∈rs,r≠z→r.id≠z.id:=fun r hr h e=>h (F.uniq hr hz e)
 obtain⟨Fo,of1,of2,of3⟩:=F.elder o ho
 obtain⟨Fz,zf1,zf2,zf3⟩:=F.elder z hz
 have hFz:Fz=o.stamp:=zf1.det F (.inr ⟨o,ho,zp.symm,hos,rfl⟩)
 have hzo:z≠o:=fun e=>by
  have:=of2 hos
  rw[e] at zf2
  have:=zf2 hos
  omega
 have hop:o.prev≠o.id:=fun e=>hzo ((hu o ho e).symm)
 have flr:∀p Fl,p≠o.id→FlrIs rs p Fl→FlrIs ((rs.map (dropF z o.prev d)).filter fun r=>!decide (r.id=o.id)) p Fl:=fun p Fl hp h=>by
  rcases h with h | ⟨x,hx,q1,q2,q3⟩
  ·exact .inl h
  ·obtain⟨i1,i2,i3,i4,i5⟩:=dropF_id z o.prev d x
   exact .inr ⟨dropF z o.prev d x,mem.2 ⟨x,hx,rfl,fun e=>hp (by omega)⟩,by rw[i1]; exact q1,by rw[i2]; exact q2,by rw[i5]; exact q3⟩
 refine⟨F.top,Nat.le_trans (List.length_filter_le _ _) (by rw[List.length_map]; exact F.len),List.Pairwise.filter _ (List.pairwise_map.2 (F.ord.imp fun {a b} h=>by rw[(dropF_id z o.prev d a).1,(dropF_id z o.prev d b).1]; exact h)),fun a ha=>?_,fun a ha b hb e=>?_,fun s hs=>?_,fun s hs hsn=>?_⟩
 ·obtain⟨r,hr,rfl, -⟩:=mem.1 ha
  obtain⟨e1,e2⟩:=F.ent r hr
  refine⟨?_,by rw[(dropF_id z o.prev d r).1]; exact e2⟩
  unfold dropF
  split
  ·obtain⟨q1,q2,q3,q4,q5,q6,q7,q8,q9⟩:=e1
   exact⟨q1,q2,(F.ent o ho).1.2.2.1,q4,q5,q6,hdl,hd,q9⟩
  ·exact e1
 ·obtain⟨r,hr,rfl, -⟩:=mem.1 ha
  obtain⟨t,ht,rfl, -⟩:=mem.1 hb
  have a1:=dropF_id z o.prev d r
  have b1:=dropF_id z o.prev d t
  rw[calK_of a1.2.1 a1.2.2.1 a1.2.2.2.1,calK_of b1.2.1 b1.2.2.1 b1.2.2.2.1] at e
  rw[F.names r hr t ht e]
 ·obtain⟨r,hr,rfl,hro⟩:=mem.1 hs
  by_cases hrz:r=z
  ·subst hrz
   rw[dropF_self]
   refine⟨Fo,flr _ _ hop of1,fun h=>?_,hfl _ of1⟩
   have h1:=zf2 h
   have h2:=of2 hos
   show Fo < r.stamp
   omega
  ·rw[dropF_ne (ne r hr hrz)]
   obtain⟨Fl,q1,q2,q3⟩:=F.elder r hr
   exact⟨Fl,flr _ _ (fun e=>hrz (hu r hr e)) q1,q2,q3⟩
 ·obtain⟨r,hr,rfl,hro⟩:=mem.1 hs
  obtain⟨i1,i2,i3,i4,i5⟩:=dropF_id z o.prev d r
  rw[i2] at hsn
  rw[i1,i3]
  obtain⟨⟨x,hx,q1,q2⟩,a,ha,q3,q4,q5⟩:=F.owner r hr hsn
  obtain⟨x1,x2, -⟩:=dropF_id z o.prev d x
  refine⟨⟨_,mem.2 ⟨x,hx,rfl,fun e=>?_⟩,by rw[x1]; exact q1,by rw[x2]; exact q2⟩,?_⟩
  ·rw[F.uniq hx ho e,hos] at q2
   cases q2
  ·by_cases hao:a=o
   ·subst hao
    refine⟨_,mem.2 ⟨z,hz,rfl,fun e=>hzo (F.uniq hz ho e)⟩,by rw[(dropF_id z a.prev d z).2.2.1,zo]; exact q3,by rw[dropF_self]; exact q4,fun b hb z1 z2=>?_⟩
    obtain⟨t,ht,rfl,hta⟩:=mem.1 hb
    by_cases htz:t=z
    ·rw[htz]
    ·rw[dropF_ne (ne t ht htz)] at z1 z2
     exact absurd (congrArg SetR.id (q5 t ht z1 z2)) hta
   ·have haz:a≠z:=fun e=>by
     rw[e,zp] at q4
     exact hro (by omega)
    refine⟨_,mem.2 ⟨a,ha,rfl,fun e=>hao (F.uniq ha ho e)⟩,by rw[dropF_ne (ne a ha haz)]; exact q3,by rw[dropF_ne (ne a ha haz)]; exact q4,fun b hb z1 z2=>?_⟩
    obtain⟨t,ht,rfl,hta⟩:=mem.1 hb
    by_cases htz:t=z
    ·subst htz
     rw[dropF_self] at z1 z2
     have h1:t.own=r.own:=z1
     have h2:o.prev=r.id:=z2
     exact absurd (q5 o ho (by omega) h2).symm hao
    ·rw[dropF_ne (ne t ht htz)] at z1 z2
     rw[q5 t ht z1 z2]
end
end Go.Am
/-
 A VOLUME'S CHAIN,plain; roles changed:a family is left.
-/
set_option linter.unusedVariables false
set_option linter.unusedSimpArgs false
namespace Go.Am
open Go.Proofs
def Chn (rs:List SetR) (o:Int):Int→List SetR→Int→Prop
 | pr,[],e=>pr=e
 | pr,c :: l,e=>c.id=pr∧c∈rs∧c.own=o∧c.snap=true∧Chn rs o c.prev l e
def EndOk (rs:List SetR) (o e:Int):Prop:=e=0∨∃x∈rs,x.id=e∧x.snap=true∧x.own≠o
section
variable {n:Int} {rs:List SetR}
theorem Chn.mem {o e:Int}:∀{l:List SetR} {pr:Int},Chn rs o pr l e→∀x∈l,x∈rs∧x.own=o∧x.snap=true
 | [],pr,h,x,hx=>by cases hx
 | c :: l,pr,⟨h0,h1,h2,h3,h4⟩,x,hx=>by
   rcases List.mem_cons.1 hx with rfl | hx
   ·exact⟨h1,h2,h3⟩
   ·exact h4.mem x hx
theorem Fam.older (F:Fam n rs) {c p:SetR} (hc:c∈rs) (hs:c.snap=true) (hp:p∈rs) (he:p.id=c.prev):p.stamp < c.stamp:=by
 obtain⟨Fl,q1,q2,q3⟩:=F.elder c hc
 have q2:=q2 hs
 rcases q1 with ⟨h4,h5⟩ | ⟨x,hx,h4,h5,h6⟩
 ·have:=F.id1 hp; omega
 ·have:=F.uniq hp hx (by omega)
  subst this
  omega
theorem Chn.low (F:Fam n rs) {o e:Int}:∀{l:List SetR} {pr:Int},Chn rs o pr l e→∀B,(∀p∈rs,p.id=pr→p.stamp < B)→∀y∈rs,(y∈l∨y.id=e)→y.stamp < B
 | [],pr,h,B,hB,y,hy,hh=>by
   rcases hh with z | z
   ·cases z
   ·have h:pr=e:=h
    exact hB y hy (by omega)
 | c :: l,pr,⟨h0,h1,h2,h3,h4⟩,B,hB,y,hy,hh=>by
   have hc:=hB c h1 h0
   by_cases hyc:y=c
   ·rw[hyc]; exact hc
   ·have:=h4.low F c.stamp (fun p hp he=>F.older h1 h3 hp he) y hy (hh.imp (fun z=>(List.mem_cons.1 z).resolve_left hyc) id)
    omega
theorem Chn.cut {o e:Int} {a:SetR} {post:List SetR}:∀{pre:List SetR} {pr:Int},Chn rs o pr (pre ++ a :: post) e→Chn rs o a.id (a :: post) e
 | [],pr,⟨h0,h⟩=>⟨rfl,h⟩
 | c :: pre,pr,⟨h0,h1,h2,h3,h4⟩=>h4.cut
theorem Chn.tail {o e pr:Int} {l:List SetR} (h:Chn rs o pr l e) {a:SetR} (ha:a∈l):∃pre post,l=pre ++ a :: post∧Chn rs o a.prev post e:=by
 obtain⟨pre,post,rfl⟩:=List.append_of_mem ha
 exact⟨pre,post,rfl,h.cut.2.2.2.2⟩
theorem Chn.head (F:Fam n rs) {o e:Int}:∀{l:List SetR} {pr:Int},Chn rs o pr l e→EndOk rs o e→∀{y:SetR},y∈rs→y.id=pr→y.own=o→y∈l
 | [],pr,h,he,y,hy,h1,h2=>by
   have h:pr=e:=h
   rcases he with h | ⟨x,hx,q1,q2,q3⟩
   ·have:=F.id1 hy; omega
   ·have:=F.uniq hx hy (by omega)
    subst this
    exact absurd h2 q3
 | c :: l,pr,⟨h0,q1,_⟩,he,y,hy,h1,h2=>by
   rw[F.uniq hy q1 (by omega)]
   exact List.mem_cons_self
theorem Fam.stamp1 (F:Fam n rs) {x:SetR} (hx:x∈rs) (hs:x.snap=true):1≤x.stamp∧x.stamp≤281474976710655:=by
 rcases (F.ent x hx).1.2.2.2.2.2.2.2.2 with z | z
 ·exact z.2
 ·rw[hs] at z; cases z.1
theorem Fam.chn (F:Fam n rs) (o:Int):∀(m:Nat) (pr B:Int),B.toNat≤m→(pr=0∨∃x∈rs,x.id=pr∧x.snap=true∧x.stamp < B)→∃l e,Chn rs o pr l e∧EndOk rs o e:=by
 intro m
 induction m with
 | zero=>
   intro pr B hB h
   rcases h with rfl | ⟨x,hx,h1,h2,h3⟩
   ·exact⟨[],0,rfl,.inl rfl⟩
   ·have:=F.stamp1 hx h2
    omega
 | succ m ih=>
   intro pr B hB h
   rcases h with rfl | ⟨x,hx,rfl,h2,h3⟩
   ·exact⟨[],0,rfl,.inl rfl⟩
   ·by_cases hxo:x.own=o
    ·obtain⟨Fl,q1,q2,q3⟩:=F.elder x hx
     have q2:=q2 h2
     have h4:=F.stamp1 hx h2
     obtain⟨l,e,r1,r2⟩:=ih x.prev x.stamp (by omega) (by
      rcases q1 with ⟨h4,h5⟩ | ⟨y,hy,h4,h5,h6⟩
      ·exact .inl h4
      ·exact .inr ⟨y,hy,h4,h5,by omega⟩)
     exact⟨x :: l,e,⟨rfl,hx,hxo,h2,r1⟩,r2⟩
    ·exact⟨[],x.id,rfl,.inr ⟨x,hx,rfl,h2,hxo⟩⟩
theorem Fam.chain (F:Fam n rs) {v:SetR} (hv:v∈rs) (hvs:v.snap=false):∃l e,Chn rs v.id v.prev l e∧EndOk rs v.id e∧∀r∈rs,r.own=v.id→r=v∨r∈l:=by
 obtain⟨Fl,q1,q2,q3⟩:=F.elder v hv
 obtain⟨l,e,h1,h2⟩:=F.chn v.id 281474976710656 v.prev 281474976710656 (by decide) (by
  rcases q1 with ⟨h4,h5⟩ | ⟨y,hy,h4,h5,h6⟩
  ·exact .inl h4
  ·have:=F.stamp1 hy h5
   exact .inr ⟨y,hy,h4,h5,by omega⟩)
 have climb:∀(m:Nat) (y:SetR),(281474976710656 - y.stamp).toNat≤m→y∈rs→y.own=v.id→y.snap=true→y∈l:=by
  intro m
  induction m with
  | zero=>
    intro y hm hy ho hs
    have:=F.stamp1 hy hs
    omega
  | succ m ih=>
    intro y hm hy ho hs
    obtain⟨-,a,ha,a1,a2,a3⟩:=F.owner y hy hs
    have ao:a.own=v.id:=by omega
    cases has:a.snap with
    | false=>
      have:=F.volOwn ha has
      have hav:=F.uniq ha hv (by omega)
      rw[hav] at a2
      exact h1.head F h2 hy a2.symm ho
    | true=>
      have:=F.older ha has hy a2.symm
      have hys:=F.stamp1 hy hs
      have has':=F.stamp1 ha has
      obtain⟨pre,post,e1,e2⟩:=h1.tail (ih a (by omega) ha ao has)
      have:=e2.head F h2 hy a2.symm ho
      rw[e1]
      exact List.mem_append_right _ (List.mem_cons_of_mem _ this)
 refine⟨l,e,h1,h2,fun r hr ho=>?_⟩
 cases hrs:r.snap with
 | false=>
   have:=F.volOwn hr hrs
   exact .inl (F.uniq hr hv (by omega))
 | true=>exact .inr (climb _ r (Nat.le_refl _) hr ho hrs)
theorem Chn.last {o e:Int}:∀{l:List SetR} {pr:Int},Chn rs o pr l e→(l=[]∧pr=e)∨∃x∈l,x.prev=e
 | [],pr,h=>.inl ⟨rfl,h⟩
 | c :: l,pr,⟨h0,h1,h2,h3,h4⟩=>by
   rcases h4.last with ⟨rfl,h⟩ | ⟨x,hx,h⟩
   ·exact .inr ⟨c,by simp,h⟩
   ·exact .inr ⟨x,List.mem_cons_of_mem _ hx,h⟩
theorem Chn.next {o e:Int}:∀{l:List SetR} {pr:Int},Chn rs o pr l e→∀x∈l,(∃y∈l,y.id=x.prev)∨x.prev=e
 | [],pr,h,x,hx=>by cases hx
 | c :: l,pr,⟨h0,h1,h2,h3,h4⟩,x,hx=>by
   rcases List.mem_cons.1 hx with rfl | hx
   ·cases l with
    | nil=>exact .inr h4
    | cons d l=>exact .inl ⟨d,by simp,h4.1⟩
   ·rcases h4.next x hx with ⟨y,hy,h⟩ | h
    ·exact .inl ⟨y,List.mem_cons_of_mem _ hy,h⟩
    ·exact .inr h
theorem Chn.before {o e:Int}:∀{l:List SetR} {pr:Int},Chn rs o pr l e→∀x∈l,x.id=pr∨∃y∈l,y.prev=x.id
 | [],pr,h,x,hx=>by cases hx
 | c :: l,pr,⟨h0,h1,h2,h3,h4⟩,x,hx=>by
   rcases List.mem_cons.1 hx with rfl | hx
   ·exact .inl h0
   ·rcases h4.before x hx with h | ⟨y,hy,h⟩
    ·exact .inr ⟨c,List.mem_cons_self,h.symm⟩
    ·exact .inr ⟨y,List.mem_cons_of_mem _ hy,h⟩
theorem EndOk.noId (F:Fam n rs) {o e:Int} (he:EndOk rs o e) {y:SetR} (hy:y∈rs) (ho:y.own=o):y.id≠e:=fun hi=>by
 rcases he with h | ⟨x,hx,q1,q2,q3⟩
 ·have:=F.id1 hy; omega
 ·have:=F.uniq hx hy (by omega)
  subst this
  exact q3 ho
theorem Chn.uniqEnd (F:Fam n rs) {o e:Int} (he:EndOk rs o e):∀{l:List SetR} {pr:Int},Chn rs o pr l e→∀a∈l,∀b∈l,a.prev=e→b.prev=e→a=b
 | [],pr,h,a,ha,b,hb,_,_=>by cases ha
 | c :: l,pr,⟨h0,h1,h2,h3,h4⟩,a,ha,b,hb,ea,eb=>by
   have one:c.prev=e→l=[]:=fun hc=>by
    cases l with
    | nil=>rfl
    | cons d l=>exact absurd (h4.1.trans hc) (he.noId F h4.2.1 h4.2.2.1)
   rcases List.mem_cons.1 ha with ha' | ha'
   ·rcases List.mem_cons.1 hb with hb' | hb'
    ·rw[ha',hb']
    ·rw[one (by rw[←ha']; exact ea)] at hb'; cases hb'
   ·rcases List.mem_cons.1 hb with hb' | hb'
    ·rw[one (by rw[←hb']; exact eb)] at ha'; cases ha'
    ·exact h4.uniqEnd F he a ha' b hb' ea eb
/-! ## Roles changed -/
def promF (vid:Int) (mv:List Int) (r:SetR):SetR:=if r.id∈mv then { r with own:=vid } else r
theorem promF_id (vid:Int) (mv:List Int) (r:SetR):(promF vid mv r).id=r.id∧(promF vid mv r).snap=r.snap∧(promF vid mv r).stamp=r.stamp∧(promF vid mv r).name=r.name∧(promF vid mv r).prev=r.prev∧(promF vid mv r).dead=r.dead:=by
 unfold promF; split <;> exact⟨rfl,rfl,rfl,rfl,rfl,rfl⟩
theorem Fam.promote (F:Fam n rs) {v:SetR} (hv:v∈rs) (hvs:v.snap=false) {o:SetR} {lv:List SetR} (Cv:Chn rs v.id v.prev lv o.id) (Ev:EndOk rs v.id o.id) (cv:∀r∈rs,r.own=v.id→r=v∨r∈lv)
 (ho:o∈rs) (hos:o.snap=true) {w:SetR} (hw:w∈rs) (hws:w.snap=false) (hwo:o.own=w.id) {pre post:List SetR} {e:Int} (Cw:Chn rs w.id w.prev (pre ++ o :: post) e) (Ew:EndOk rs w.id e) (cw:∀r∈rs,r.own=w.id→r=w∨r∈pre ++ o :: post)
 (hn:∀m∈o :: post,∀s∈rs,s.snap=true→s.own=v.id→s.name≠m.name):
 Fam n (rs.map (promF v.id ((o :: post).map (·.id)))):=by
 generalize hf:promF v.id ((o :: post).map (·.id))=f
 have hne:w.id≠v.id:=fun h=>Ev.noId F ho (by omega) rfl
 have cm:=Cw.mem
 have mvm:∀m∈o :: post,m∈rs∧m.own=w.id∧m.snap=true:=fun m hm=>cm m (List.mem_append_right _ hm)
 have inm:∀r∈rs,(r.id∈(o :: post).map (·.id))↔r∈o :: post:=fun r hr=>by
  rw[List.mem_map]
  constructor
  ·rintro⟨m,hm,e⟩
   rw[F.uniq hr (mvm m hm).1 e.symm]
   exact hm
  ·intro h
   exact⟨r,h,rfl⟩
 have f1:∀r∈rs,r∈o :: post→f r={ r with own:=v.id }:=fun r hr h=>by rw[←hf]; exact if_pos ((inm r hr).2 h)
 have f0:∀r∈rs,r∉o :: post→f r=r:=fun r hr h=>by rw[←hf]; exact if_neg fun z=>h ((inm r hr).1 z)
 have fi:∀r,(f r).id=r.id∧(f r).snap=r.snap∧(f r).stamp=r.stamp∧(f r).name=r.name∧(f r).prev=r.prev∧(f r).dead=r.dead:=fun r=>by rw[←hf]; exact promF_id _ _ _
 have mem:∀{a},a∈rs.map f↔∃r∈rs,f r=a:=fun {a}=>List.mem_map
 have nv:∀r∈rs,r.own≠w.id→r∉o :: post:=fun r hr h z=>h (mvm r z).2.1
 have nvs:∀r∈rs,r.snap=false→r∉o :: post:=fun r hr h z=>by rw[(mvm r z).2.2] at h; cases h
 have Co:Chn rs w.id o.id (o :: post) e:=Cw.cut
 have stp:∀m∈o :: post,m.stamp≤o.stamp:=fun m hm=>by
  rcases List.mem_cons.1 hm with rfl | hm
  ·exact Int.le_refl _
  ·have:=Co.2.2.2.2.low F o.stamp (fun p hp he=>F.older ho hos hp he) m (mvm m (List.mem_cons_of_mem _ hm)).1 (.inl hm)
   omega
 have pres:∀a∈pre,o.stamp < a.stamp:=fun a ha=>by
  obtain⟨p1,p2,rfl⟩:=List.append_of_mem ha
  rw[List.append_assoc] at Cw cm
  have ⟨har,hao,has⟩:=cm a (by simp)
  exact Cw.cut.2.2.2.2.low F a.stamp (fun p hp he=>F.older har has hp he) o ho (.inl (by simp))
 have ahead:∀s∈post,∃a∈o :: post,a.prev=s.id:=fun s hs=>by
  rcases Co.before s (List.mem_cons_of_mem _ hs) with h | ⟨y,hy,h⟩
  ·exfalso
   obtain⟨hsr, -, -⟩:=mvm s (List.mem_cons_of_mem _ hs)
   have:=F.uniq hsr ho h
   subst this
   have:=Co.2.2.2.2.low F s.stamp (fun p hp he=>F.older ho hos hp he) s ho (.inl hs)
   omega
  ·exact⟨y,hy,h⟩
 have lvlow:∀s∈lv,o.stamp < s.stamp:=fun s hs=>by
  have ⟨hsr,hso,hss⟩:=Cv.mem s hs
  obtain⟨p1,p2, -,C2⟩:=Cv.tail hs
  exact C2.low F s.stamp (fun p hp he=>F.older hsr hss hp he) o ho (.inr rfl)
 have owno:∀b∈rs,b.own=v.id→(∃s∈rs,s.id=b.prev∧s.own=v.id)∨b.prev=o.id:=fun b hb h=>by
  rcases cv b hb h with rfl | hbl
  ·cases lv with
   | nil=>exact .inr Cv
   | cons d l=>exact .inl ⟨d,Cv.2.1,Cv.1,Cv.2.2.1⟩
  ·rcases Cv.next b hbl with ⟨y,hy,h⟩ | h
   ·exact .inl ⟨y,(Cv.mem y hy).1,h,(Cv.mem y hy).2.1⟩
   ·exact .inr h
 have oout:o.own≠v.id:=by omega
 have uniqo:∀a∈rs,∀b∈rs,a.own=v.id→b.own=v.id→a.prev=o.id→b.prev=o.id→a=b:=fun a ha b hb ao bo ap bp=>by
  have vfirst:v.prev=o.id→lv=[]:=fun h=>by
   cases lv with
   | nil=>rfl
   | cons d l=>exact absurd (Cv.1.trans h) (Ev.noId F Cv.2.1 Cv.2.2.1)
  rcases cv a ha ao with rfl | hal
  ·rcases cv b hb bo with rfl | hbl
   ·rfl
   ·rw[vfirst ap] at hbl; cases hbl
  ·rcases cv b hb bo with rfl | hbl
   ·rw[vfirst bp] at hal; cases hal
   ·exact Cv.uniqEnd F Ev a hal b hbl ap bp
 refine⟨F.top,by rw[List.length_map]; exact F.len,List.pairwise_map.2 (F.ord.imp fun {a b} h=>by rw[(fi a).1,(fi b).1]; exact h),fun a ha=>?_,fun a ha b hb e=>?_,fun s hs=>?_,fun s0 hs0 hsn=>?_⟩
 ·obtain⟨r,hr,rfl⟩:=mem.1 ha
  obtain⟨g1,g2⟩:=F.ent r hr
  refine⟨?_,by rw[(fi r).1]; exact g2⟩
  by_cases hm:r∈o :: post
  ·rw[f1 r hr hm]
   obtain⟨q1,q2,q3,q4,q5,q6,q7,q8,q9⟩:=g1
   refine⟨q1,(F.ent v hv).1.1,q3,q4,q5,q6,q7,q8,?_⟩
   rcases q9 with z | z
   ·exact .inl z
   ·rw[(mvm r hm).2.2] at z; cases z.1
  ·rw[f0 r hr hm]; exact g1
 ·obtain⟨r,hr,rfl⟩:=mem.1 ha
  obtain⟨t,ht,rfl⟩:=mem.1 hb
  have clash:∀m∈rs,∀s∈rs,m∈o :: post→s∉o :: post→calK (f m)=calK (f s)→False:=fun m hm s hs h1 h2 e=>by
   rw[f1 m hm h1,f0 s hs h2] at e
   have hms:=(mvm m h1).2.2
   unfold calK at e
   rw[show ({ m with own:=v.id }:SetR).snap=m.snap from rfl,hms] at e
   simp only[if_true,Prod.mk.injEq] at e
   cases hss:s.snap with
   | true=>
     rw[hss] at e
     simp only[if_true] at e
     exact hn m h1 s hs hss e.1.symm e.2.symm
   | false=>
     rw[hss] at e
     have:=F.id1 hv
     simp at e
     omega
  by_cases h1:r∈o :: post
  ·by_cases h2:t∈o :: post
   ·obtain⟨-,r2,r3⟩:=mvm r h1
    obtain⟨-,t2,t3⟩:=mvm t h2
    rw[f1 r hr h1,f1 t ht h2] at e
    have:calK r=calK t:=by
     unfold calK at e ⊢
     rw[show ({ r with own:=v.id }:SetR).snap=r.snap from rfl,show ({ t with own:=v.id }:SetR).snap=t.snap from rfl] at e
     rw[r3,t3] at e ⊢
     simp only[if_true,Prod.mk.injEq] at e ⊢
     exact⟨by omega,e.2⟩
    rw[F.names r hr t ht this]
   ·exact (clash r hr t ht h1 h2 e).elim
  ·by_cases h2:t∈o :: post
   ·exact (clash t ht r hr h2 h1 e.symm).elim
   ·rw[f0 r hr h1,f0 t ht h2] at e ⊢
    exact F.names r hr t ht e
 ·obtain⟨r,hr,rfl⟩:=mem.1 hs
  obtain⟨Fl,q1,q2,q3⟩:=F.elder r hr
  obtain⟨k1,k2,k3,k4,k5,k6⟩:=fi r
  rw[k2,k3,k5,k6]
  refine⟨Fl,?_,q2,q3⟩
  rcases q1 with h | ⟨x,hx,q1,q4,q5⟩
  ·exact .inl h
  ·obtain⟨l1,l2,l3, -⟩:=fi x
   exact .inr ⟨f x,mem.2 ⟨x,hx,rfl⟩,by rw[l1]; exact q1,by rw[l2]; exact q4,by rw[l3]; exact q5⟩
 ·obtain⟨s,hs,rfl⟩:=mem.1 hs0
  obtain⟨k1,k2,k3,k4,k5,k6⟩:=fi s
  rw[k2] at hsn
  rw[k1]
  obtain⟨⟨x,hx,x1,x2⟩,a,ha,a1,a2,a3⟩:=F.owner s hs hsn
  have vf:f v=v:=f0 v hv (nvs v hv hvs)
  have low:∀b∈rs,b.snap=true→b.prev=s.id→s.stamp < b.stamp:=fun b hb hbs hp=>by
   obtain⟨Fl,q1,q2,q3⟩:=F.elder b hb
   have q2:=q2 hbs
   have:=q1.det F (.inr ⟨s,hs,hp.symm,hsn,rfl⟩)
   omega
  by_cases hm:s∈o :: post
  ·rw[f1 s hs hm]
   refine⟨⟨f v,mem.2 ⟨v,hv,rfl⟩,by rw[vf],by rw[vf]; exact hvs⟩,?_⟩
   have so:=(mvm s hm).2.1
   rcases List.mem_cons.1 hm with rfl | hp
   ·
    obtain⟨x,hx,xo,xp⟩:∃x∈rs,x.own=v.id∧x.prev=s.id:=by
     rcases Cv.last with ⟨-,h⟩ | ⟨x,hx,h⟩
     ·exact⟨v,hv,F.volOwn hv hvs,h⟩
     ·exact⟨x,(Cv.mem x hx).1,(Cv.mem x hx).2.1,h⟩
    have xf:=f0 x hx (nv x hx (by omega))
    refine⟨f x,mem.2 ⟨x,hx,rfl⟩,by rw[xf]; exact xo,by rw[xf]; exact xp,fun b hb z1 z2=>?_⟩
    obtain⟨t,ht,rfl⟩:=mem.1 hb
    rw[(fi t).2.2.2.2.1] at z2
    by_cases htm:t∈s :: post
    ·have h1:=stp t htm
     have h2:=low t ht (mvm t htm).2.2 z2
     omega
    ·rw[f0 t ht htm] at z1
     rw[uniqo x hx t ht xo z1 xp z2]
   ·obtain⟨y,hy,yp⟩:=ahead s hp
    have ⟨yr,yo,ys⟩:=mvm y hy
    have hya:y=a:=a3 y yr (by omega) yp
    refine⟨f y,mem.2 ⟨y,yr,rfl⟩,by rw[f1 y yr hy],by rw[f1 y yr hy]; exact yp,fun b hb z1 z2=>?_⟩
    obtain⟨t,ht,rfl⟩:=mem.1 hb
    rw[(fi t).2.2.2.2.1] at z2
    by_cases htm:t∈o :: post
    ·rw[a3 t ht (by have:=(mvm t htm).2.1; omega) z2,hya]
    ·exfalso
     rw[f0 t ht htm] at z1
     rcases owno t ht z1 with ⟨u,hu,u1,u2⟩ | h
     ·have:=F.uniq hu hs (by omega)
      subst this
      omega
     ·have:=F.uniq hs ho (by omega)
      subst this
      have:=low y yr ys yp
      have:=stp y hy
      omega
  ·rw[f0 s hs hm]
   obtain⟨y1,y2, -⟩:=fi x
   refine⟨⟨f x,mem.2 ⟨x,hx,rfl⟩,by rw[y1]; exact x1,by rw[y2]; exact x2⟩,?_⟩
   have hanm:a∉o :: post:=fun h=>by
    obtain⟨ar,ao,ass⟩:=mvm a h
    have h1:=low a ha ass a2
    have h2:=stp a h
    have hsw:s.own=w.id:=by omega
    rcases cw s hs hsw with rfl | h
    ·rw[hws] at hsn; cases hsn
    ·rcases List.mem_append.1 h with h | h
     ·have:=pres s h; omega
     ·exact hm h
   have af:=f0 a ha hanm
   refine⟨f a,mem.2 ⟨a,ha,rfl⟩,by rw[af]; exact a1,by rw[af]; exact a2,fun b hb z1 z2=>?_⟩
   obtain⟨t,ht,rfl⟩:=mem.1 hb
   rw[(fi t).2.2.2.2.1] at z2
   by_cases htm:t∈o :: post
   ·exfalso
    rw[f1 t ht htm] at z1
    have hsv:s.own=v.id:=z1.symm
    have h1:=low t ht (mvm t htm).2.2 z2
    have h2:=stp t htm
    rcases cv s hs hsv with rfl | h
    ·rw[hvs] at hsn; cases hsn
    ·have:=lvlow s h; omega
   ·rw[f0 t ht htm] at z1 ⊢
    rw[a3 t ht z1 z2,af]
end
end Go.Am
/-
 LISTS OF POINTERS BY THEIR BIRTH,plain:one more,two made one,parted.
-/
set_option linter.unusedVariables false
set_option linter.unusedSimpArgs false
namespace Go.Am
open Go.Proofs
instance (a b:PtI):Decidable (LessI a b):=by unfold LessI; infer_instance
theorem lessI_irr (a:PtI):¬LessI a a:=by unfold LessI; rw[if_pos rfl,if_pos rfl]; omega
theorem lessI_tr {a b c:PtI} (h1:LessI a b) (h2:LessI b c):LessI a c:=by
 unfold LessI at *
 split at h1 <;> split at h2 <;> (try split at h1) <;> (try split at h2) <;> split <;> (try split) <;> omega
theorem lessI_as {a b:PtI} (h1:LessI a b) (h2:LessI b a):False:=lessI_irr a (lessI_tr h1 h2)
theorem lessI_eq {a b:PtI} (h1:¬LessI a b) (h2:¬LessI b a):a=b:=by
 obtain⟨a1,a2,a3⟩:=a
 obtain⟨b1,b2,b3⟩:=b
 unfold LessI at *
 simp only at *
 split at h1 <;> split at h2 <;> (try split at h1) <;> (try split at h2) <;> (try omega)
 all_goals (simp only[Prod.mk.injEq]; omega)
abbrev Srt (l:List PtI):Prop:=l.Pairwise LessI
theorem DeadR.srt {l:List PtI} (h:DeadR l):Srt l∧∀q∈l,FitsI q:=by
 refine⟨?_,fun q hq=>?_⟩
 ·induction l with
  | nil=>exact .nil
  | cons a l ih=>
    have hl:DeadR l:=fun i q hq=>⟨(h (i+1) q hq).1,fun j x e hx=>(h (i+1) q hq).2 (j+1) x (by omega) hx⟩
    have sl:=ih hl
    refine List.pairwise_cons.2 ⟨fun x hx=>?_,sl⟩
    cases l with
    | nil=>cases hx
    | cons b l=>
      have hab:=(h 1 b rfl).2 0 a rfl rfl
      rcases List.mem_cons.1 hx with rfl | hx
      ·exact hab
      ·exact lessI_tr hab ((List.pairwise_cons.1 sl).1 x hx)
 ·obtain⟨i,hi⟩:=List.mem_iff_getElem?.1 hq
  exact (h i q hi).1
theorem DeadR.of {l:List PtI} (s:Srt l) (f:∀q∈l,FitsI q):DeadR l:=fun i q hq=>by
 refine⟨f q (List.mem_of_getElem? hq),fun j x e hx=>?_⟩
 obtain⟨hi,rfl⟩:=List.getElem?_eq_some_iff.1 hq
 obtain⟨hj,rfl⟩:=List.getElem?_eq_some_iff.1 hx
 exact List.pairwise_iff_getElem.1 s j i hj hi (by omega)
/-! ## One more -/
def insD (q:PtI):List PtI→List PtI
 | []=>[q]
 | x :: l=>if LessI q x then q :: x :: l else x :: insD q l
theorem insD_mem {q x:PtI}:∀{l:List PtI},x∈insD q l↔x=q∨x∈l
 | []=>by simp[insD]
 | y :: l=>by
   unfold insD
   split
   ·simp
   ·rw[List.mem_cons,insD_mem,List.mem_cons]
    constructor
    ·rintro (h | h | h)
     ·exact .inr (.inl h)
     ·exact .inl h
     ·exact .inr (.inr h)
    ·rintro (h | h | h)
     ·exact .inr (.inl h)
     ·exact .inl h
     ·exact .inr (.inr h)
theorem insD_perm (q:PtI):∀l:List PtI,(insD q l).Perm (q :: l)
 | []=>.refl _
 | y :: l=>by
   unfold insD
   split
   ·exact .refl _
   ·exact ((insD_perm q l).cons y).trans (.swap q y l)
theorem insD_len (q:PtI) (l:List PtI):(insD q l).length=l.length+1:=(insD_perm q l).length_eq
theorem insD_srt {q:PtI}:∀{l:List PtI},Srt l→q∉l→Srt (insD q l)
 | [],_,_=>List.pairwise_singleton _ _
 | y :: l,s,h=>by
   obtain⟨s1,s2⟩:=List.pairwise_cons.1 s
   unfold insD
   split
   ·rename_i hq
    refine List.pairwise_cons.2 ⟨fun x hx=>?_,s⟩
    rcases List.mem_cons.1 hx with rfl | hx
    ·exact hq
    ·exact lessI_tr hq (s1 x hx)
   ·rename_i hq
    refine List.pairwise_cons.2 ⟨fun x hx=>?_,insD_srt s2 fun z=>h (List.mem_cons_of_mem _ z)⟩
    rcases insD_mem.1 hx with rfl | hx
    ·exact Classical.byContradiction fun hn=>h (by rw[lessI_eq hq hn]; exact List.mem_cons_self)
    ·exact s1 x hx
theorem insD_ahead {q:PtI}:∀{a b:List PtI},(∀x∈a,¬LessI q x)→insD q (a ++ b)=a ++ insD q b
 | [],b,_=>rfl
 | x :: a,b,h=>by
   rw[List.cons_append,insD,if_neg (h x List.mem_cons_self),insD_ahead fun y hy=>h y (List.mem_cons_of_mem _ hy)]
   rfl
theorem insD_behind {q:PtI}:∀{a b:List PtI},(∃x∈a,LessI q x)→insD q (a ++ b)=insD q a ++ b
 | [],b,⟨x,hx,_⟩=>by cases hx
 | y :: a,b,⟨x,hx,h⟩=>by
   rw[List.cons_append,insD,insD]
   split
   ·rfl
   ·rename_i hn
    rw[insD_behind ⟨x,(List.mem_cons.1 hx).resolve_left (fun e=>hn (e▸h)),h⟩]
    rfl
theorem insD_at {q:PtI} {l:List PtI} (s:Srt l) {i:Nat} (hi:i≤l.length) (h1:∀(k:Nat) x,k < i→l[k]?= some x→LessI x q) (h2:∀x,l[i]?= some x→¬LessI x q):
 (q∈l↔l[i]?= some q)∧(q∉l→insD q l=l.take i ++ q :: l.drop i):=by
 have lo:∀x∈l.take i,LessI x q:=fun x hx=>by
  obtain⟨k,hk⟩:=List.mem_iff_getElem?.1 hx
  rw[List.getElem?_take] at hk
  split at hk
  ·exact h1 k x ‹_› hk
  ·cases hk
 have e:l=l.take i ++ l.drop i:=(List.take_append_drop i l).symm
 refine⟨⟨fun h=>?_,fun h=>List.mem_of_getElem? h⟩,fun h=>?_⟩
 ·rw[e,List.mem_append] at h
  rcases h with h | h
  ·exact absurd (lo q h) (lessI_irr q)
  ·obtain⟨k,hk⟩:=List.mem_iff_getElem?.1 h
   rw[List.getElem?_drop] at hk
   cases k with
   | zero=>exact hk
   | succ k=>
     exfalso
     obtain⟨hk',rfl⟩:=List.getElem?_eq_some_iff.1 hk
     have hii:i < l.length:=by omega
     exact h2 l[i] (List.getElem?_eq_getElem hii) (List.pairwise_iff_getElem.1 s i (i+(k+1)) hii hk' (by omega))
 ·conv=>lhs; rw[e]
  rw[insD_ahead fun x hx hq=>lessI_as hq (lo x hx)]
  congr 1
  cases hd:l.drop i with
  | nil=>rfl
  | cons y r=>
    have hy:l[i]?= some y:=by
     have:(l.drop i)[0]?= some y:=by rw[hd]; rfl
     rwa [List.getElem?_drop] at this
    rw[insD,if_pos]
    refine Classical.byContradiction fun hn=>h ?_
    rw[lessI_eq hn (h2 y hy)]
    exact List.mem_of_getElem? hy
open Classical in
noncomputable def addD (l:List PtI) (q:PtI):Option (List PtI):=if FitsI q∧q∉l then some (insD q l) else none
theorem addD_some {l:List PtI} {q:PtI} (h1:FitsI q) (h2:q∉l):addD l q=some (insD q l):=if_pos ⟨h1,h2⟩
theorem addD_none {l:List PtI} {q:PtI} (h:¬FitsI q∨q∈l):addD l q=none:=if_neg fun z=>h.elim (fun w=>w z.1) (fun w=>z.2 w)
theorem addD_cases {l d:List PtI} {q:PtI} (h:addD l q=some d):FitsI q∧q∉l∧d=insD q l:=by
 unfold addD at h
 split at h
 ·rename_i hh
  cases h
  exact⟨hh.1,hh.2,rfl⟩
 ·cases h
theorem DeadR.add {l d:List PtI} {q:PtI} (D:DeadR l) (h:addD l q=some d):DeadR d:=by
 obtain⟨h1,h2,rfl⟩:=addD_cases h
 refine DeadR.of (insD_srt D.srt.1 h2) fun x hx=>?_
 rcases insD_mem.1 hx with rfl | hx
 ·exact h1
 ·exact D.srt.2 x hx
/-! ## Two made one -/
def mrg:List PtI→List PtI→Option (List PtI)
 | [],b=>some b
 | a,[]=>some a
 | x :: a,y :: b=>if LessI x y then (mrg a (y :: b)).map (x :: ·) else if LessI y x then (mrg (x :: a) b).map (y :: ·) else none
termination_by a b=>a.length+b.length
noncomputable def mrgD:List PtI→List PtI→Option (List PtI)
 | a,[]=>some a
 | a,y :: b=>match addD a y with
   | some d=>mrgD d b
   | none=>none
theorem mrg_nil (b:List PtI):mrg [] b=some b:=by unfold mrg; rfl
theorem mrg_nil' (a:List PtI):mrg a []=some a:=by cases a <;> (unfold mrg; rfl)
theorem mrg_cons (x y:PtI) (a b:List PtI):mrg (x :: a) (y :: b)=if LessI x y then (mrg a (y :: b)).map (x :: ·) else if LessI y x then (mrg (x :: a) b).map (y :: ·) else none:=by
 conv=>lhs; unfold mrg
theorem srt_perm {a b:List PtI} (p:a.Perm b) (ha:Srt a) (hb:Srt b):a=b:=List.Perm.eq_of_pairwise (fun x y _ _ h1 h2=>(lessI_as h1 h2).elim) ha hb p
theorem mrg_spec:∀(k:Nat) (a b:List PtI),a.length+b.length≤k→Srt a→Srt b→
 (∃c,mrg a b=some c∧Srt c∧c.Perm (a ++ b))∨(mrg a b=none∧∃x∈a,x∈b)
 | k,[],b,_,_,sb=>.inl ⟨b,mrg_nil b,sb,.refl _⟩
 | k,x :: a,[],_,sa,_=>.inl ⟨_,mrg_nil' _,sa,by rw[List.append_nil]⟩
 | 0,x :: a,y :: b,hk,_,_=>by simp at hk
 | k+1,x :: a,y :: b,hk,sa,sb=>by
   obtain⟨a1,a2⟩:=List.pairwise_cons.1 sa
   obtain⟨b1,b2⟩:=List.pairwise_cons.1 sb
   rw[mrg_cons]
   simp only[List.length_cons] at hk
   by_cases h:LessI x y
   ·rw[if_pos h]
    rcases mrg_spec k a (y :: b) (by simp; omega) a2 sb with ⟨c,e,sc,pc⟩ | ⟨e,z,z1,z2⟩
    ·refine .inl ⟨x :: c,by rw[e]; rfl,List.pairwise_cons.2 ⟨fun z hz=>?_,sc⟩,pc.cons x⟩
     rcases List.mem_append.1 (pc.mem_iff.1 hz) with hz | hz
     ·exact a1 z hz
     ·rcases List.mem_cons.1 hz with rfl | hz
      ·exact h
      ·exact lessI_tr h (b1 z hz)
    ·exact .inr ⟨by rw[e]; rfl,z,List.mem_cons_of_mem _ z1,z2⟩
   ·rw[if_neg h]
    by_cases h' : LessI y x
    ·rw[if_pos h']
     rcases mrg_spec k (x :: a) b (by simp; omega) sa b2 with ⟨c,e,sc,pc⟩ | ⟨e,z,z1,z2⟩
     ·refine .inl ⟨y :: c,by rw[e]; rfl,List.pairwise_cons.2 ⟨fun z hz=>?_,sc⟩,(pc.cons y).trans List.perm_middle.symm⟩
      rcases List.mem_append.1 (pc.mem_iff.1 hz) with hz | hz
      ·rcases List.mem_cons.1 hz with rfl | hz
       ·exact h'
       ·exact lessI_tr h' (a1 z hz)
      ·exact b1 z hz
     ·exact .inr ⟨by rw[e]; rfl,z,z1,List.mem_cons_of_mem _ z2⟩
    ·rw[if_neg h']
     exact .inr ⟨rfl,x,List.mem_cons_self,by rw[lessI_eq h h']; exact List.mem_cons_self⟩
theorem mrgD_spec:∀(b a:List PtI),Srt a→Srt b→(∀q∈b,FitsI q)→(∃c,mrgD a b=some c∧Srt c∧c.Perm (a ++ b))∨(mrgD a b=none∧∃x∈a,x∈b)
 | [],a,sa,_,_=>.inl ⟨a,rfl,sa,by rw[List.append_nil]⟩
 | y :: b,a,sa,sb,hf=>by
   obtain⟨b1,b2⟩:=List.pairwise_cons.1 sb
   unfold mrgD
   by_cases hy:y∈a
   ·rw[addD_none (.inr hy)]
    exact .inr ⟨rfl,y,hy,List.mem_cons_self⟩
   ·rw[addD_some (hf y List.mem_cons_self) hy]
    simp only
    rcases mrgD_spec b (insD y a) (insD_srt sa hy) b2 fun q hq=>hf q (List.mem_cons_of_mem _ hq) with ⟨c,e,sc,pc⟩ | ⟨e,z,z1,z2⟩
    ·exact .inl ⟨c,e,sc,pc.trans (((insD_perm y a).append_right b).trans List.perm_middle.symm)⟩
    ·rcases insD_mem.1 z1 with rfl | z1
     ·exact absurd (b1 z z2) (lessI_irr z)
     ·exact .inr ⟨e,z,z1,List.mem_cons_of_mem _ z2⟩
theorem mrg_eq {a b:List PtI} (sa:Srt a) (sb:Srt b) (hf:∀q∈b,FitsI q):mrg a b=mrgD a b:=by
 have no:∀c,Srt c→c.Perm (a ++ b)→¬∃x∈a,x∈b:=fun c sc pc ⟨x,h1,h2⟩=>by
  have nd:c.Nodup:=List.Pairwise.imp (S:=fun a b=>a≠b) (fun {a b} (h:LessI a b) (e:a=b)=>lessI_irr b (e▸h)) sc
  have:=(pc.nodup_iff).1 nd
  exact (List.nodup_append.1 this).2.2 x h1 x h2 rfl
 rcases mrg_spec _ a b (Nat.le_refl _) sa sb with ⟨c,e,sc,pc⟩ | ⟨e,hx⟩
 ·rcases mrgD_spec b a sa sb hf with ⟨d,e2,sd,pd⟩ | ⟨e2,hx⟩
  ·rw[e,e2,srt_perm (pc.trans pd.symm) sc sd]
  ·exact absurd hx (no c sc pc)
 ·rcases mrgD_spec b a sa sb hf with ⟨d,e2,sd,pd⟩ | ⟨e2,hx'⟩
  ·exact absurd hx (no d sd pd)
  ·rw[e,e2]
theorem DeadR.mrg {a b c:List PtI} (A:DeadR a) (B:DeadR b) (h:mrg a b=some c):DeadR c∧∀q,q∈c↔q∈a∨q∈b:=by
 rcases mrg_spec _ a b (Nat.le_refl _) A.srt.1 B.srt.1 with ⟨d,e,sd,pd⟩ | ⟨e, -⟩
 ·rw[h] at e
  cases e
  have hm:∀q,q∈c↔q∈a∨q∈b:=fun q=>by rw[pd.mem_iff,List.mem_append]
  exact⟨DeadR.of sd fun q hq=>((hm q).1 hq).elim (A.srt.2 q) (B.srt.2 q),hm⟩
 ·rw[h] at e; cases e
theorem mrg_len {a b c:List PtI} (A:Srt a) (B:Srt b) (h:mrg a b=some c):c.length=a.length+b.length:=by
 rcases mrg_spec _ a b (Nat.le_refl _) A B with ⟨d,e,sd,pd⟩ | ⟨e, -⟩
 ·rw[h] at e
  cases e
  rw[pd.length_eq,List.length_append]
 ·rw[h] at e; cases e
/-! ## Parted -/
def oldD (st:Int) (l:List PtI):List PtI:=l.filter fun q=>!decide (st < q.2.1)
def yngD (st:Int) (l:List PtI):List PtI:=l.filter fun q=>decide (st < q.2.1)
theorem DeadR.filter {l:List PtI} (D:DeadR l) (p:PtI→Bool):DeadR (l.filter p):=DeadR.of (D.srt.1.filter p) fun q hq=>D.srt.2 q (List.mem_filter.1 hq).1
theorem oldD_le {st:Int} {l:List PtI} {q:PtI} (h:q∈oldD st l):q∈l∧q.2.1≤st:=by
 have:=List.mem_filter.1 h
 simp at this
 exact⟨this.1,by omega⟩
/-! ## What a tree has no more -/
noncomputable def killD (fl:Int):List PtI→List PtI→List PtI→Option (List PtI×List PtI)
 | [],d,g=>some (d,g)
 | q :: l,d,g=>if fl < q.2.1 then killD fl l d (g ++ [q]) else match addD d q with
   | none=>none
   | some d'=>if 4000 < d'.length then none else killD fl l d' g
theorem killD_ok {fl:Int}:∀{l d g d' g' : List PtI},killD fl l d g=some (d',g')→DeadR d→d.length≤4000→(∀q∈d,q.2.1≤fl)→DeadR d'∧d'.length≤4000∧∀q∈d',q.2.1≤fl
 | [],d,g,d',g',h,D,hl,hb=>by cases h; exact⟨D,hl,hb⟩
 | q :: l,d,g,d',g',h,D,hl,hb=>by
   unfold killD at h
   split at h
   ·exact killD_ok h D hl hb
   ·rename_i hq
    cases ha:addD d q with
    | none=>rw[ha] at h; cases h
    | some e=>
      rw[ha] at h
      simp only at h
      split at h
      ·cases h
      ·refine killD_ok h (D.add ha) (by omega) fun x hx=>?_
       obtain⟨h1,h2,rfl⟩:=addD_cases ha
       rcases insD_mem.1 hx with rfl | hx
       ·omega
       ·exact hb x hx
end Go.Am
