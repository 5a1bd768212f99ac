/-
  WHICH LISTS ARE FAMILIES, as the document says: all of it.
-/
import Derived.Test.YtkapnilnhoiooaaGreatCRef4
set_option linter.unusedVariables false
set_option linter.unusedSimpArgs false
set_option maxRecDepth 100000
namespace Go.Am
open Go.Proofs
def zwV (rs:List zaj) (id:Int):Int:=match plcN rs id with
 | none=>0
 | some i=>match rs[i]? with
   | none=>0
   | some r=>match plcN rs r.prev with
     | none=>0
     | some j=>match rs[j]? with
       | none=>0
       | some x=>x.stamp
theorem zlc {rs:List zaj} (hz:plcN rs 0=none) (id:Int):zwV rs id=flr rs id:=by
 unfold zwV flr
 cases plcN rs id with
 | none=>rfl
 | some i=>
   simp only
   cases rs[i]? with
   | none=>rfl
   | some r=>
     simp only
     by_cases hp:r.prev=0
     ·rw[if_pos hp,hp,hz]
     ·rw[if_neg hp]
      rfl
def zwW (rs:List zaj) (s:zaj):Prop:=(∃j x,plcN rs s.prev=some j∧rs[j]?= some x∧(s.prev≠0→x.snap=true)∧(s.snap=true→x.stamp < s.stamp))∨(plcN rs s.prev=none∧s.prev=0)
def zwX (rs:List zaj) (u:Nat) (s:zaj):Prop:=∀(k:Nat) t,rs[k]?= some t→k≠u→¬(t.snap=s.snap∧t.name=s.name∧(s.snap=false∨t.own=s.own))
structure zue (nx:Int) (rs:List zaj) (u:Nat) (s:zaj):Prop where
 ent:zsj s
 lt:s.id < nx
 ord:∀(j:Nat) x,u=j+1→rs[j]?= some x→x.id < s.id
 vol:∃j v,plcN rs s.own=some j∧rs[j]?= some v∧v.snap=false
 prev:zwW rs s
 own:s.snap=true→(zlz rs s.id).length=1
 dead:∀q∈s.dead,q.2.1≤zwV rs s.id
 name:zwX rs u s
theorem zam.good {nx:Int} {rs:List zaj} (R:zam nx rs) {u:Nat} {s:zaj} (h:rs[u]?= some s):zue nx rs u s:=by
 have hm:=List.mem_of_getElem? h
 have hu:=R.uniq h
 obtain⟨e1,e2,e3⟩:=R.2.2.1 u s h
 obtain⟨⟨el1,el2⟩,ow⟩:=R.2.2.2.2 s hm
 refine⟨e1,e2,e3,?_,?_,fun hs=>?_,fun q hq=>?_,fun k t hk hne hc=>?_⟩
 ·obtain⟨j,v,h1,h2,h3, -⟩:=R.vol hm
  exact⟨j,v,h1,h2,h3⟩
 ·by_cases hp:s.prev=0
  ·exact .inr ⟨by rw[hp]; exact R.zero,hp⟩
  ·obtain⟨j,x,h1,h2,h3,h4⟩:=el1 hp
   exact .inl ⟨j,x,h1,h2,fun _=>h3,h4⟩
 ·have:=(ow hs).2
  unfold zlz
  simp only[hu,h,hs,if_true,List.length_map]
  exact this
 ·rw[zlc R.zero,zqX hu h]
  exact el2 q hq
 ·have h1:=R.plcC h
  have h2:=R.plcC hk
  have:zdk t=zdk s:=by
   unfold zdk
   rw[hc.1,hc.2.1]
   rcases hc.2.2 with e | e
   ·rw[e]; rfl
   ·rw[e]
  rw[this,h1] at h2
  exact hne (Option.some.inj h2).symm
theorem zpM {nx:Int} {rs:List zaj} (h1:nx≤281474976710655) (h2:rs.length≤32) (h:∀(u:Nat) s,rs[u]?= some s→zue nx rs u s):zam nx rs:=by
 have incr:∀(d i:Nat) (a b:zaj),rs[i]?= some a→rs[i+d+1]?= some b→a.id < b.id:=by
  intro d
  induction d with
  | zero=>intro i a b ha hb; exact (h _ b hb).ord i a rfl ha
  | succ d ih=>
    intro i a b ha hb
    have hl:=(List.getElem?_eq_some_iff.1 hb).1
    have hc:=List.getElem?_eq_getElem (show i+d+1 < rs.length by omega)
    have:=ih i a _ ha hc
    have:=(h _ b hb).ord (i+d+1) _ (by omega) hc
    omega
 have uniq:∀(i:Nat) r,rs[i]?= some r→plcN rs r.id=some i:=fun i r hi=>zdO hi rfl fun j x hj hx e=>by
  have:=incr (i - j - 1) j x r hx (by rw[show j+(i - j - 1)+1=i by omega]; exact hi)
  omega
 have zero:plcN rs 0=none:=zeX fun r hr=>by
  obtain⟨i,hi⟩:=List.mem_iff_getElem?.1 hr
  have:=(h i r hi).ent.1.1
  omega
 refine⟨h1,h2,fun i r hi=>⟨(h i r hi).ent,(h i r hi).lt,(h i r hi).ord⟩,?_,fun r hr=>?_⟩
 ·rw[List.nodup_iff_pairwise_ne,List.pairwise_iff_getElem]
  intro i j hi hj hij
  rw[List.getElem_map,List.getElem_map]
  intro e
  have hi' : i < rs.length:=by simpa using hi
  have hj' : j < rs.length:=by simpa using hj
  have ga:=h i _ (List.getElem?_eq_getElem hi')
  have gb:=h j _ (List.getElem?_eq_getElem hj')
  refine ga.name j _ (List.getElem?_eq_getElem hj') (by omega) ?_
  have oa:=ga.ent.2.1
  have ob:=gb.ent.2.1
  generalize rs[i]=a at e oa
  generalize rs[j]=b at e ob
  unfold zdk at e
  cases ha:a.snap <;> cases hb:b.snap <;> rw[ha,hb] at e <;> simp at e
  ·exact⟨rfl,e.symm,.inl rfl⟩
  ·omega
  ·omega
  ·exact⟨rfl,e.2.symm,.inr e.1.symm⟩
 ·obtain⟨i,hi⟩:=List.mem_iff_getElem?.1 hr
  have g:=h i r hi
  refine⟨⟨fun hp=>?_,fun q hq=>?_⟩,fun hs=>⟨g.vol,?_⟩⟩
  ·rcases g.prev with ⟨j,x,q1,q2,q3,q4⟩ | ⟨-,q⟩
   ·exact⟨j,x,q1,q2,q3 hp,q4⟩
   ·exact absurd q hp
  ·have:=g.dead q hq
   rw[zlc zero,zqX (uniq i r hi) hi] at this
   exact this
  ·have:=g.own hs
   unfold zlz at this
   simp only[uniq i r hi,hi,hs,if_true,List.length_map] at this
   exact this
section
variable {K:Xs} {h:AH} {p:Option Addr} {n c:Nat} {rs:List zaj} {nx:Int}
end
end Go.Am
