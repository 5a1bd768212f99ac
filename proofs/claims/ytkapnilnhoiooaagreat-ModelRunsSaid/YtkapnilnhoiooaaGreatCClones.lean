/-
  A CLONE'S OWNER HAS IT FOR ITS ORIGIN: the law of a family, as the abstract machine runs it.
-/
import Derived.Test.YtkapnilnhoiooaaGreatCWay
import Derived.Test.YtkapnilnhoiooaaGreatAmS
set_option linter.unusedVariables false
set_option linter.unusedSimpArgs false
set_option maxRecDepth 100000
namespace Go.Am
open Go.Proofs
theorem zdR {α:Type} {P Q:α→Bool}:∀{l:List α},(∀a∈l,P a=true→Q a=true)→(∃a∈l,Q a=true∧P a=false)→(l.filter P).length < (l.filter Q).length
 | [],_,⟨a,h,_⟩=>by cases h
 | x :: l,hs,⟨a,ha,hq,hp⟩=>by
   have hs' : ∀a∈l,P a=true→Q a=true:=fun a h=>hs a (List.mem_cons_of_mem _ h)
   have hle:∀{l:List α},(∀a∈l,P a=true→Q a=true)→(l.filter P).length≤(l.filter Q).length:=by
    intro l
    induction l with
    | nil=>intro _; simp
    | cons y l ih=>
      intro hs
      have:=ih fun a h=>hs a (List.mem_cons_of_mem _ h)
      have hy:=hs y List.mem_cons_self
      rw[List.filter_cons,List.filter_cons]
      cases h1:P y <;> cases h2:Q y <;> simp_all
      omega
   rw[List.filter_cons,List.filter_cons]
   rcases List.mem_cons.1 ha with rfl | ha
   ·rw[hp,hq]
    have:=hle hs'
    simp
    omega
   ·have ih:=zdR hs' ⟨a,ha,hq,hp⟩
    have hx:=hs x List.mem_cons_self
    cases h1:P x <;> cases h2:Q x <;> simp_all
    omega
section
variable {nx:Int} {rs:List zaj}
theorem zam.ent (R:zam nx rs) {y:zaj} (h:y∈rs):zsj y:=by
 obtain⟨j,hj⟩:=List.mem_iff_getElem?.1 h
 exact (R.2.2.1 j y hj).1
theorem zam.vol (R:zam nx rs) {y:zaj} (h:y∈rs):∃j v,plcN rs y.own=some j∧rs[j]?= some v∧v.snap=false∧v.own=y.own:=by
 have e:=R.ent h
 cases hs:y.snap with
 | true=>
   obtain⟨⟨j,v,h1,h2,h3⟩, -⟩:=(R.2.2.2.2 y h).2 hs
   refine⟨j,v,h1,h2,h3,?_⟩
   have hv:=R.ent (List.mem_of_getElem? h2)
   obtain⟨hj,hid⟩:=zbv h1
   rw[List.getElem?_eq_getElem hj] at h2
   cases h2
   rcases hv.2.2.2.2.2.2.2.2 with q | q
   ·rw[h3] at q; cases q.1
   ·rw[q.2.2]; exact hid
 | false=>
   obtain⟨j,hj⟩:=List.mem_iff_getElem?.1 h
   rcases e.2.2.2.2.2.2.2.2 with q | q
   ·rw[hs] at q; cases q.1
   ·exact⟨j,y,by rw[q.2.2]; exact R.uniq hj,hj,hs,rfl⟩
theorem zam.next (R:zam nx rs) {y:zaj} (h:y∈rs) (hs:y.snap=true):∃z∈rs,z.own=y.own∧z.prev=y.id:=by
 have h1:=((R.2.2.2.2 y h).2 hs).2
 obtain⟨z,hz⟩:=List.exists_mem_of_length_pos (show 0 < (rs.filter fun x=>decide (x.own=y.own) && decide (x.prev=y.id)).length by omega)
 obtain⟨h2,h3⟩:=List.mem_filter.1 hz
 simp at h3
 exact⟨z,h2,h3⟩
theorem zam.way1 (R:zam nx rs) {y:zaj} (h:y∈rs) {o:Int} (ho:y.own=o) (k:Nat) (ch:List Int):zcz rs o (k+1) y.id ch=zcz rs o k y.prev (ch ++ [y.id]):=by
 have e:=(R.ent h).1.1
 obtain⟨j,hj⟩:=List.mem_iff_getElem?.1 h
 conv=>lhs; unfold zcz
 rw[if_neg (by omega)]
 simp only[R.uniq hj,hj,ho,if_true]
theorem zam.room (R:zam nx rs) {y:zaj} (hy:y∈rs):(rs.filter fun z=>z.snap && decide (y.stamp < z.stamp)).length≤31:=by
 have:=zdR (P:=fun a:zaj=>a.snap && decide (y.stamp < a.stamp)) (Q:=fun _:zaj=>true) (l:=rs) (fun _ _ _=>rfl) ⟨y,hy,rfl,by simp⟩
 have h2:rs.filter (fun _:zaj=>true)=rs:=List.filter_eq_self.2 fun _ _=>rfl
 rw[h2] at this
 have:=R.2.1
 omega
end
section
variable {K:Xs} {h:AH} {p:Option Addr} {n c:Nat} {rs:List zaj}
end
end Go.Am
