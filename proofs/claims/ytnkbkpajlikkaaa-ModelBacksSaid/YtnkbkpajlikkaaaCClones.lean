/-
  A CLONE'S OWNER HAS IT FOR ITS ORIGIN: the law of a family, as the abstract machine runs it.
-/
import Derived.Test.YtnkbkpajlikkaaaCWay
import Derived.Test.YtnkbkpajlikkaaaAmS
set_option linter.unusedVariables false
set_option linter.unusedSimpArgs false
set_option maxRecDepth 100000
namespace Go.Am
open Go.Proofs
theorem filter_ltF {α:Type} {P Q:α→Bool}:∀{l:List α},(∀a∈l,P a=true→Q a=true)→(∃a∈l,Q a=true∧P a=false)→(l.filter P).length < (l.filter Q).length
 | [],_,⟨a,h,_⟩=>by cases h
 | x :: l,hs,⟨a,ha,hq,hp⟩=>by
   have hs' : ∀a∈l,P a=true→Q a=true:=fun a h=>hs a (List.mem_cons_of_mem _ h)
   have hle:∀{l:List α},(∀a∈l,P a=true→Q a=true)→(l.filter P).length≤(l.filter Q).length:=by
    intro l
    induction l with
    | nil=>intro _; simp
    | cons y l ih=>
      intro hs
      have:=ih fun a h=>hs a (List.mem_cons_of_mem _ h)
      have hy:=hs y List.mem_cons_self
      rw[List.filter_cons,List.filter_cons]
      cases h1:P y <;> cases h2:Q y <;> simp_all
      omega
   rw[List.filter_cons,List.filter_cons]
   rcases List.mem_cons.1 ha with rfl | ha
   ·rw[hp,hq]
    have:=hle hs'
    simp
    omega
   ·have ih:=filter_ltF hs' ⟨a,ha,hq,hp⟩
    have hx:=hs x List.mem_cons_self
    cases h1:P x <;> cases h2:Q x <;> simp_all
    omega
section
variable {nx:Int} {rs:List SetR}
theorem RightP.ent (R:RightP nx rs) {y:SetR} (h:y∈rs):EntR y:=by
 obtain⟨j,hj⟩:=List.mem_iff_getElem?.1 h
 exact (R.2.2.1 j y hj).1
theorem RightP.vol (R:RightP nx rs) {y:SetR} (h:y∈rs):∃j v,plcN rs y.own=some j∧rs[j]?= some v∧v.snap=false∧v.own=y.own:=by
 have e:=R.ent h
 cases hs:y.snap with
 | true=>
   obtain⟨⟨j,v,h1,h2,h3⟩, -⟩:=(R.2.2.2.2 y h).2 hs
   refine⟨j,v,h1,h2,h3,?_⟩
   have hv:=R.ent (List.mem_of_getElem? h2)
   obtain⟨hj,hid⟩:=plcN_at h1
   rw[List.getElem?_eq_getElem hj] at h2
   cases h2
   rcases hv.2.2.2.2.2.2.2.2 with q | q
   ·rw[h3] at q; cases q.1
   ·rw[q.2.2]; exact hid
 | false=>
   obtain⟨j,hj⟩:=List.mem_iff_getElem?.1 h
   rcases e.2.2.2.2.2.2.2.2 with q | q
   ·rw[hs] at q; cases q.1
   ·exact⟨j,y,by rw[q.2.2]; exact R.uniq hj,hj,hs,rfl⟩
theorem RightP.next (R:RightP nx rs) {y:SetR} (h:y∈rs) (hs:y.snap=true):∃z∈rs,z.own=y.own∧z.prev=y.id:=by
 have h1:=((R.2.2.2.2 y h).2 hs).2
 obtain⟨z,hz⟩:=List.exists_mem_of_length_pos (show 0 < (rs.filter fun x=>decide (x.own=y.own) && decide (x.prev=y.id)).length by omega)
 obtain⟨h2,h3⟩:=List.mem_filter.1 hz
 simp at h3
 exact⟨z,h2,h3⟩
theorem RightP.way1 (R:RightP nx rs) {y:SetR} (h:y∈rs) {o:Int} (ho:y.own=o) (k:Nat) (ch:List Int):wayW rs o (k+1) y.id ch=wayW rs o k y.prev (ch ++ [y.id]):=by
 have e:=(R.ent h).1.1
 obtain⟨j,hj⟩:=List.mem_iff_getElem?.1 h
 conv=>lhs; unfold wayW
 rw[if_neg (by omega)]
 simp only[R.uniq hj,hj,ho,if_true]
theorem RightP.climb (R:RightP nx rs) {o:Int} {jv:Nat} {v:SetR} (hv1:plcN rs o=some jv) (hv2:rs[jv]?= some v):∀(N:Nat) (y:SetR),y∈rs→y.own=o→y.snap=true→(rs.filter fun z=>z.snap && decide (y.stamp < z.stamp)).length≤N→
 ∃m l,m≤N+1∧l.length=m∧∀k ch,wayW rs o (k+m) v.prev ch=wayW rs o k y.prev (ch ++ l):=by
 intro N
 induction N with
 | zero=>
   intro y hy ho hs hN
   obtain⟨z,hz,z1,z2⟩:=R.next hy hs
   have ez:=R.ent hz
   cases hzs:z.snap with
   | true=>
     have ey:=(R.ent hy).1.1
     obtain⟨j,x',q1,q2,q3,q4⟩:=(R.2.2.2.2 z hz).1.1 (by omega)
     obtain⟨i,hi⟩:=List.mem_iff_getElem?.1 hy
     rw[z2,R.uniq hi] at q1
     cases q1
     rw[hi] at q2
     cases q2
     have:z∈rs.filter fun z=>z.snap && decide (y.stamp < z.stamp):=List.mem_filter.2 ⟨hz,by rw[hzs]; simpa using q4 hzs⟩
     have:=List.length_pos_of_mem this
     omega
   | false=>
     have hzv:z=v:=by
      rcases ez.2.2.2.2.2.2.2.2 with q | q
      ·rw[hzs] at q; cases q.1
      ·obtain⟨i,hi⟩:=List.mem_iff_getElem?.1 hz
       have hu:=R.uniq hi
       rw[←q.2.2,z1,ho,hv1] at hu
       cases hu
       rw[hv2] at hi
       exact (Option.some.inj hi).symm
     subst hzv
     exact⟨1,[y.id],by omega,rfl,fun k ch=>by rw[z2]; exact R.way1 hy ho k ch⟩
 | succ N ih=>
   intro y hy ho hs hN
   obtain⟨z,hz,z1,z2⟩:=R.next hy hs
   have ez:=R.ent hz
   cases hzs:z.snap with
   | true=>
     have ey:=(R.ent hy).1.1
     obtain⟨j,x',q1,q2,q3,q4⟩:=(R.2.2.2.2 z hz).1.1 (by omega)
     obtain⟨i,hi⟩:=List.mem_iff_getElem?.1 hy
     rw[z2,R.uniq hi] at q1
     cases q1
     rw[hi] at q2
     cases q2
     have hst:=q4 hzs
     have hlt:=filter_ltF (P:=fun a:SetR=>a.snap && decide (z.stamp < a.stamp)) (Q:=fun a:SetR=>a.snap && decide (y.stamp < a.stamp)) (l:=rs) (fun a _ h=>by simp at h ⊢; exact⟨h.1,by omega⟩) ⟨z,hz,by rw[hzs]; simpa using hst,by simp⟩
     obtain⟨m,l,hm,hl,hw⟩:=ih z hz (by rw[z1]; exact ho) hzs (by omega)
     refine⟨m+1,l ++ [y.id],by omega,by simp[hl],fun k ch=>?_⟩
     rw[show k+(m+1)=(k+1)+m by omega,hw,z2,R.way1 hy ho,List.append_assoc]
   | false=>
     have hzv:z=v:=by
      rcases ez.2.2.2.2.2.2.2.2 with q | q
      ·rw[hzs] at q; cases q.1
      ·obtain⟨i,hi⟩:=List.mem_iff_getElem?.1 hz
       have hu:=R.uniq hi
       rw[←q.2.2,z1,ho,hv1] at hu
       cases hu
       rw[hv2] at hi
       exact (Option.some.inj hi).symm
     subst hzv
     exact⟨1,[y.id],by omega,rfl,fun k ch=>by rw[z2]; exact R.way1 hy ho k ch⟩
theorem RightP.room (R:RightP nx rs) {y:SetR} (hy:y∈rs):(rs.filter fun z=>z.snap && decide (y.stamp < z.stamp)).length≤31:=by
 have:=filter_ltF (P:=fun a:SetR=>a.snap && decide (y.stamp < a.stamp)) (Q:=fun _:SetR=>true) (l:=rs) (fun _ _ _=>rfl) ⟨y,hy,rfl,by simp⟩
 have h2:rs.filter (fun _:SetR=>true)=rs:=List.filter_eq_self.2 fun _ _=>rfl
 rw[h2] at this
 have:=R.2.1
 omega
theorem RightP.origin (R:RightP nx rs) {x s:SetR} (hx:x∈rs) (hs:s∈rs) (he:x.prev=s.id) (hne:x.own≠s.own):(wayR rs x.own).2=s.id:=by
 obtain⟨jv,v,h1,h2,h3,h4⟩:=R.vol hx
 have hw:wayR rs x.own=wayW rs x.own 32 v.prev []:=by
  unfold wayR
  simp only[h1,h2,h3]
  rfl
 have hend:∀k ch,(wayW rs x.own k s.id ch).2=s.id:=by
  intro k ch
  cases k with
  | zero=>rfl
  | succ k=>
    have e:=(R.ent hs).1.1
    obtain⟨j,hj⟩:=List.mem_iff_getElem?.1 hs
    unfold wayW
    rw[if_neg (by omega)]
    simp only[R.uniq hj,hj,if_neg (Ne.symm hne)]
 rw[hw]
 cases hxs:x.snap with
 | true=>
   obtain⟨m,l,hm,hl,hk⟩:=R.climb h1 h2 31 x hx rfl hxs (R.room hx)
   have:=hk (32 - m) []
   rw[show 32 - m+m=32 by omega] at this
   rw[this,he]
   exact hend _ _
 | false=>
   have hxv:x=v:=by
    rcases (R.ent hx).2.2.2.2.2.2.2.2 with q | q
    ·rw[hxs] at q; cases q.1
    ·obtain⟨i,hi⟩:=List.mem_iff_getElem?.1 hx
     have hu:=R.uniq hi
     rw[←q.2.2,h1] at hu
     cases hu
     rw[h2] at hi
     exact (Option.some.inj hi).symm
   rw[←hxv,he]
   exact hend _ _
theorem filter_split {α:Type} (P Q:α→Bool):∀l:List α,(l.filter Q).length=(l.filter fun x=>P x && Q x).length+(l.filter fun x=>(!P x) && Q x).length
 | []=>rfl
 | x :: l=>by
   have ih:=filter_split P Q l
   rw[List.filter_cons,List.filter_cons,List.filter_cons]
   cases h1:P x <;> cases h2:Q x <;> simp_all <;> omega
theorem RightP.kids (R:RightP nx rs) {s:SetR} (hs:s∈rs):(s.snap=true→(rs.filter fun x=>decide (x.prev=s.id)).length=(clL rs s.id).length+1)∧(s.snap=false→(rs.filter fun x=>decide (x.prev=s.id)).length=0∧clL rs s.id=[]):=by
 obtain⟨i,hi⟩:=List.mem_iff_getElem?.1 hs
 have hu:=R.uniq hi
 constructor
 ·intro h
  have hc:clL rs s.id=(rs.filter fun x=>(!decide (x.own=s.own)) && decide (x.prev=s.id)).map (·.id):=by
   unfold clL
   simp only[hu,hi,h,if_true]
  rw[hc,List.length_map,filter_split (fun x:SetR=>decide (x.own=s.own)) (fun x=>decide (x.prev=s.id)) rs,((R.2.2.2.2 s hs).2 h).2]
  omega
 ·intro h
  have hc:clL rs s.id=[]:=by
   unfold clL
   simp only[hu,hi,h]
   rfl
  refine⟨?_,hc⟩
  rw[List.length_eq_zero_iff,List.filter_eq_nil_iff]
  intro x hx
  simp
  intro e
  have:=(R.ent hs).1.1
  obtain⟨j,y,q1,q2,q3, -⟩:=(R.2.2.2.2 x hx).1.1 (by omega)
  rw[e,hu] at q1
  cases q1
  rw[hi] at q2
  cases q2
  rw[h] at q3
  cases q3
theorem RightP.clone (R:RightP nx rs) {s:SetR} (hs:s∈rs):∀id∈clL rs s.id,∃i x,plcN rs id=some i∧rs[i]?= some x∧x.own≠s.own∧(wayR rs x.own).2=s.id:=by
 obtain⟨i,hi⟩:=List.mem_iff_getElem?.1 hs
 have hu:=R.uniq hi
 intro id hid
 unfold clL at hid
 simp only[hu,hi] at hid
 split at hid
 ·obtain⟨x,hx,rfl⟩:=List.mem_map.1 hid
  obtain⟨h1,h2⟩:=List.mem_filter.1 hx
  simp at h2
  obtain⟨j,hj⟩:=List.mem_iff_getElem?.1 h1
  exact⟨j,x,R.uniq hj,hj,h2.1,R.origin h1 hs h2.2 h2.1⟩
 ·cases hid
end
section
variable {K:Xs} {h:AH} {p:Option Addr} {n c:Nat} {rs:List SetR}
end
end Go.Am
