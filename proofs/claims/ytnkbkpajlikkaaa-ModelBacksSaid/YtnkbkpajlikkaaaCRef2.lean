/-
  THE DOCUMENT'S ANSWERS of layer 15: records by themselves, the same records, copies.
-/
import Derived.Test.YtnkbkpajlikkaaaCRef1
import Derived.Test.YtnkbkpajlikkaaaCFamN
set_option linter.unusedVariables false
set_option linter.unusedSimpArgs false
set_option maxRecDepth 100000
namespace Go.Am
open Go.Proofs
/-! ## What is in a record,wherever its list lies -/
def cor (r:SetR):SetR:={ r with dp:=none,dc:=0 }
theorem cor_eq {a b:SetR} (h:cor a=cor b):a.id=b.id∧a.name=b.name∧a.snap=b.snap∧a.own=b.own∧a.prev=b.prev∧a.stamp=b.stamp∧a.blocks=b.blocks∧a.root=b.root∧a.dn=b.dn∧a.dead=b.dead:=by
 obtain⟨⟩:=a
 obtain⟨⟩:=b
 simp[cor] at h
 simp
 omega
theorem cor_mk {a b:SetR} (h:a.id=b.id∧a.name=b.name∧a.snap=b.snap∧a.own=b.own∧a.prev=b.prev∧a.stamp=b.stamp∧a.blocks=b.blocks∧a.root=b.root∧a.dn=b.dn∧a.dead=b.dead):cor a=cor b:=by
 obtain⟨⟩:=a
 obtain⟨⟩:=b
 simp at h
 simp[cor]
 omega
theorem cor_with (r:SetR) (p:Option Addr) (c:Nat):cor { r with dp:=p,dc:=c }= cor r:=rfl
theorem cor_at {xs ys:List SetR} (h:xs.map cor=ys.map cor) {i:Nat} {a:SetR} (ha:xs[i]?= some a):∃b,ys[i]?= some b∧cor a=cor b:=by
 have:=congrArg (fun l=>l[i]?) h
 simp only[List.getElem?_map,ha,Option.map_some] at this
 cases hb:ys[i]? with
 | none=>rw[hb] at this; cases this
 | some b=>rw[hb] at this; exact⟨b,rfl,Option.some.inj this⟩
theorem cor_len {xs ys:List SetR} (h:xs.map cor=ys.map cor):xs.length=ys.length:=by
 have:=congrArg List.length h
 simpa using this
theorem plcN_cor {xs ys:List SetR} (h:xs.map cor=ys.map cor) (id:Int):plcN xs id=plcN ys id:=by
 have e:∀l:List SetR,plcN l id=plcN (l.map cor) id:=fun l=>by
  unfold plcN
  rw[List.findIdx?_map]
  rfl
 rw[e xs,e ys,h]
theorem calK_cor {a b:SetR} (h:cor a=cor b):calK a=calK b:=by
 obtain⟨h1,h2,h3,h4, -⟩:=cor_eq h
 unfold calK
 rw[h2,h3,h4]
theorem map_cor {α:Type} (f:SetR→α) (hf:∀a,f (cor a)=f a) {xs ys:List SetR} (h:xs.map cor=ys.map cor):xs.map f=ys.map f:=by
 have e:∀l:List SetR,l.map f=(l.map cor).map f:=fun l=>by
  rw[List.map_map]
  exact List.map_congr_left fun a _=>(hf a).symm
 rw[e xs,e ys,h]
theorem plcC_cor {xs ys:List SetR} (h:xs.map cor=ys.map cor) (k:Cal):plcC xs k=plcC ys k:=by
 have e:∀l:List SetR,plcC l k=plcC (l.map cor) k:=fun l=>by
  unfold plcC
  rw[List.findIdx?_map]
  rfl
 rw[e xs,e ys,h]
theorem flr_cor {xs ys:List SetR} (h:xs.map cor=ys.map cor) (id:Int):flr xs id=flr ys id:=by
 have e:∀l:List SetR,flr l id=flr (l.map cor) id:=fun l=>by
  have hp:∀i,plcN (l.map cor) i=plcN l i:=fun i=>plcN_cor (by rw[List.map_map]; exact List.map_congr_left fun a _=>rfl) i
  unfold flr
  rw[hp]
  cases plcN l id with
  | none=>rfl
  | some i=>
    simp only[List.getElem?_map]
    cases l[i]? with
    | none=>rfl
    | some r=>
      simp only[Option.map_some]
      show (if r.prev=0 then (0:Int) else _)=(if r.prev=0 then 0 else match plcN (l.map cor) r.prev with | none=>0 | some j=>match Option.map cor l[j]? with | none=>0 | some x=>x.stamp)
      rw[hp]
      split
      ·rfl
      ·cases plcN l r.prev with
       | none=>rfl
       | some j=>
         simp only
         cases l[j]? with
         | none=>rfl
         | some x=>rfl
 rw[e xs,e ys,h]
theorem fullR_cor {xs ys:List SetR} (h:xs.map cor=ys.map cor) (id:Int):fullR xs id=fullR ys id:=by
 have e:∀l:List SetR,fullR l id=fullR (l.map cor) id:=fun l=>by
  have hp:∀i,plcN (l.map cor) i=plcN l i:=fun i=>plcN_cor (by rw[List.map_map]; exact List.map_congr_left fun a _=>rfl) i
  unfold fullR
  rw[hp]
  cases plcN l id with
  | none=>rfl
  | some i=>
    simp only[List.getElem?_map]
    cases l[i]? with
    | none=>rfl
    | some r=>
      simp only[Option.map_some]
      show _=(if r.snap=true then (match plcN (l.map cor) r.own with | none=>noB | some j=>match Option.map cor l[j]? with | none=>noB | some v=>v.name ++ atB ++ r.name) else r.name)
      rw[hp]
      split
      ·cases plcN l r.own with
       | none=>rfl
       | some j=>
         simp only
         cases l[j]? with
         | none=>rfl
         | some x=>rfl
      ·rfl
 rw[e xs,e ys,h]
theorem filter_cor {xs ys:List SetR} (h:xs.map cor=ys.map cor) (P:SetR→Bool) (hP:∀a,P (cor a)=P a) {α:Type} (f:SetR→α) (hf:∀a,f (cor a)=f a):(xs.filter P).map f=(ys.filter P).map f:=by
 have e:∀l:List SetR,(l.filter P).map f=((l.map cor).filter P).map f:=fun l=>by
  rw[List.filter_map,List.map_map]
  have:(P∘cor)=P:=funext hP
  rw[this]
  exact List.map_congr_left fun a _=>(hf a).symm
 rw[e xs,e ys,h]
theorem clL_cor {xs ys:List SetR} (h:xs.map cor=ys.map cor) (id:Int):clL xs id=clL ys id:=by
 unfold clL
 rw[plcN_cor h]
 cases plcN ys id with
 | none=>rfl
 | some i=>
   simp only
   cases hx:xs[i]? with
   | none=>
     have:ys[i]?= none:=by rw[List.getElem?_eq_none_iff] at hx ⊢; rw[←cor_len h]; exact hx
     rw[this]
   | some r=>
     obtain⟨r',hr',hc⟩:=cor_at h hx
     obtain⟨-, -,h3,h4, -⟩:=cor_eq hc
     rw[hr']
     simp only[h3,h4]
     split
     ·exact filter_cor h _ (fun a=>rfl) _ (fun a=>rfl)
     ·rfl
theorem wayW_cor {xs ys:List SetR} (h:xs.map cor=ys.map cor) (id:Int):∀(k:Nat) (pr:Int) (ch:List Int),wayW xs id k pr ch=wayW ys id k pr ch
 | 0,pr,ch=>rfl
 | k+1,pr,ch=>by
   unfold wayW
   rw[plcN_cor h]
   split
   ·rfl
   ·cases plcN ys pr with
    | none=>rfl
    | some i=>
      simp only
      cases hx:xs[i]? with
      | none=>
        have:ys[i]?= none:=by rw[List.getElem?_eq_none_iff] at hx ⊢; rw[←cor_len h]; exact hx
        rw[this]
      | some r=>
        obtain⟨r',hr',hc⟩:=cor_at h hx
        obtain⟨-, -, -,h4,h5, -⟩:=cor_eq hc
        rw[hr']
        simp only[h4,h5]
        split
        ·exact wayW_cor h id k _ _
        ·rfl
theorem wayR_cor {xs ys:List SetR} (h:xs.map cor=ys.map cor) (id:Int):wayR xs id=wayR ys id:=by
 unfold wayR
 rw[plcN_cor h]
 cases plcN ys id with
 | none=>rfl
 | some i=>
   simp only
   cases hx:xs[i]? with
   | none=>
     have:ys[i]?= none:=by rw[List.getElem?_eq_none_iff] at hx ⊢; rw[←cor_len h]; exact hx
     rw[this]
   | some r=>
     obtain⟨r',hr',hc⟩:=cor_at h hx
     obtain⟨-, -,h3, -,h5, -⟩:=cor_eq hc
     rw[hr']
     simp only[h3,h5]
     split
     ·rfl
     ·exact wayW_cor h id _ _ _
theorem lookN_cor {xs ys:List SetR} (h:xs.map cor=ys.map cor) (v s:ByteArray):lookN xs v s=lookN ys v s:=by
 unfold lookN
 rw[plcC_cor h]
 cases plcC ys (0,v) with
 | none=>rfl
 | some i=>
   simp only
   split
   ·rfl
   ·cases hx:xs[i]? with
    | none=>
      have:ys[i]?= none:=by rw[List.getElem?_eq_none_iff] at hx ⊢; rw[←cor_len h]; exact hx
      rw[this]
    | some r=>
      obtain⟨r',hr',hc⟩:=cor_at h hx
      obtain⟨h1, -⟩:=cor_eq hc
      rw[hr']
      simp only[h1]
      exact plcC_cor h _
theorem hang_cor {xs ys:List SetR} (h:xs.map cor=ys.map cor) (id:Int) (i:Nat):(hang id i xs).map (fun q=>(q.1,cor q.2))=(hang id i ys).map (fun q=>(q.1,cor q.2)):=by
 have e:∀(l:List SetR) (i:Nat),(hang id i l).map (fun q=>(q.1,cor q.2))=hang id i (l.map cor):=fun l=>by
  induction l with
  | nil=>intro i; rfl
  | cons a l ih=>
    intro i
    rw[List.map_cons,hang_cons,hang_cons]
    show _=if a.prev=id then _ else _
    split
    ·rw[List.map_cons,ih]
    ·rw[ih]
 rw[e xs,e ys,h]
theorem nextR_cor {xs ys:List SetR} (h:xs.map cor=ys.map cor) (id:Int):nextR xs id=nextR ys id:=by
 unfold nextR
 rw[plcN_cor h]
 cases plcN ys id with
 | none=>rfl
 | some i=>
   simp only
   cases hx:xs[i]? with
   | none=>
     have:ys[i]?= none:=by rw[List.getElem?_eq_none_iff] at hx ⊢; rw[←cor_len h]; exact hx
     rw[this]
   | some r=>
     obtain⟨r',hr',hc⟩:=cor_at h hx
     obtain⟨-, -,h3,h4, -⟩:=cor_eq hc
     rw[hr']
     simp only[h3,h4]
     split
     ·have e:∀l:List SetR,(match (hang id 0 l).find? (fun q=>decide (q.2.own=r'.own)) with | none=>(0:Int) | some q=>q.2.id)=(match ((hang id 0 l).map (fun q=>(q.1,cor q.2))).find? (fun q=>decide (q.2.own=r'.own)) with | none=>0 | some q=>q.2.id):=fun l=>by
       rw[List.find?_map]
       have:((fun q:Nat×SetR=>decide (q.2.own=r'.own))∘fun q:Nat×SetR=>(q.1,cor q.2))=fun q=>decide (q.2.own=r'.own):=rfl
       rw[this]
       cases (hang id 0 l).find? (fun q=>decide (q.2.own=r'.own)) with
       | none=>rfl
       | some q=>rfl
      refine (e xs).trans ?_
      rw[hang_cor h]
      exact (e ys).symm
     ·rfl
/-! ## Rows of records that are one's own -/
def setsC (rs:List SetR):List Value:=(rs.map setC).flatten
theorem setC_len (r:SetR):(setC r).length=11:=rfl
theorem setsC_len (rs:List SetR):(setsC rs).length=rs.length * 11:=by
 induction rs with
 | nil=>rfl
 | cons r rs ih=>
   have:setsC (r :: rs)=setC r ++ setsC rs:=rfl
   rw[this,List.length_append,ih,setC_len,List.length_cons]
   omega
theorem setsC_app (a b:List SetR):setsC (a ++ b)=setsC a ++ setsC b:=by simp[setsC]
theorem setsC_one (r:SetR):setsC [r]=setC r:=by simp[setsC]
theorem setsC_get:∀(rs:List SetR) (i:Nat) (h:i < rs.length),((setsC rs).drop (i * 11)).take 11=setC rs[i]
 | r :: rs,0,h=>by
   show (setC r ++ setsC rs).take 11=setC r
   rw[List.take_append_of_le_length (by rw[setC_len]; exact Nat.le_refl _),List.take_of_length_le (by rw[setC_len]; exact Nat.le_refl _)]
 | r :: rs,i+1,h=>by
   have:setsC (r :: rs)=setC r ++ setsC rs:=rfl
   rw[this,show (i+1) * 11=(setC r).length+i * 11 by rw[setC_len]; omega,←List.drop_drop,List.drop_left',setsC_get rs i (by simpa using h)]
   ·rfl
   ·rfl
theorem sets_of {h:AH} {p:Option Addr} {n:Nat} {rs:List SetR} (S:Shows h p n 11 (setsC rs)) (hn:n≤reachBytes) (ok:∀r∈rs,SetOk h r):Sets h p n rs:=by
 have hl:=S.1
 rw[setsC_len] at hl
 exact⟨by omega,hn,_,S,fun i hi=>⟨setsC_get rs i hi,ok _ (List.getElem_mem hi)⟩⟩
theorem Sets.shows {h:AH} {p:Option Addr} {n:Nat} {rs:List SetR} (T:Sets h p n rs):Shows h p n 11 (setsC rs):=by
 obtain⟨h1,h2,cells,h3,h4⟩:=T
 have:cells=setsC rs:=by
  have hl:=h3.1
  subst h1
  clear h2 h3
  induction rs generalizing cells with
  | nil=>simp at hl; subst hl; rfl
  | cons r rs ih=>
    have e0:=(h4 0 (by simp)).1
    simp only[Nat.zero_mul,List.drop_zero,List.getElem_cons_zero] at e0
    have:=ih (cells:=cells.drop 11) (fun i hi=>by
     have:=h4 (i+1) (by simpa using hi)
     rw[List.drop_drop,show 11+i * 11=(i+1) * 11 by omega]
     simpa using this) (by rw[List.length_drop,hl,List.length_cons]; omega)
    rw[←List.take_append_drop 11 cells,e0,this]
    rfl
 rw[←this]
 exact h3
theorem Sets.ok {h:AH} {p:Option Addr} {n:Nat} {rs:List SetR} (T:Sets h p n rs):∀r∈rs,SetOk h r:=fun r hr=>by
 obtain⟨i,hi⟩:=List.mem_iff_getElem?.1 hr
 obtain⟨hl,rfl⟩:=List.getElem?_eq_some_iff.1 hi
 obtain⟨-, -,cells, -,h4⟩:=T
 exact (h4 i hl).2
theorem eSetF:ElemOk Try.prog 47 59 11 112:=ElemOk_of (by kernel_rfl)
structure KRef15 (K:Xs):Prop where
 r1:KRef K
section
variable {K:Xs} {h:AH} {p:Option Addr} {n c:Nat} {rs:List SetR}
theorem Shows.keep {h h' : AH} {p:Option Addr} {n sz:Nat} {cs:List Value} (s:Shows h p n sz cs) (hn:h.next≤h'.next) (k:∀a,p=some a→h'.get a.block=h.get a.block):Shows h' p n sz cs:=by
 refine⟨s.1,?_⟩
 rcases s.2 with h0 | ⟨b,off,al,e,ro,hp,hb,hg,hl,hc⟩
 ·exact .inl h0
 ·exact .inr ⟨b,off,al,e,ro,hp,Nat.lt_of_lt_of_le hb hn,by rw[k _ hp,hg],hl,hc⟩
theorem SetOk.keep {h h' : AH} {r:SetR} (k:SetOk h r) (hn:h.next≤h'.next) (q:∀a,r.dp=some a→h'.get a.block=h.get a.block):SetOk h' r:={ k with shows:=k.shows.keep hn q }
def OwnS (lim:Nat) (g:AH) (p:Option Addr) (xs:List SetR):Prop:=∀r∈xs,SetOk g r∧∀a,r.dp=some a→lim≤a.block∧a.block < g.next∧apart p a.block
end
end Go.Am
