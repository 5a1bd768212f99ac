/-
  THE DOCUMENT'S ANSWERS of layer 15: records by themselves, the same records, copies.
-/
import Derived.Test.YtkapnilnhoiooaaGreatCRef1
import Derived.Test.YtkapnilnhoiooaaGreatCFamN
set_option linter.unusedVariables false
set_option linter.unusedSimpArgs false
set_option maxRecDepth 100000
namespace Go.Am
open Go.Proofs
def cor (r:zaj):zaj:={ r with dp:=none,dc:=0 }
theorem zaL {a b:zaj} (h:cor a=cor b):a.id=b.id∧a.name=b.name∧a.snap=b.snap∧a.own=b.own∧a.prev=b.prev∧a.stamp=b.stamp∧a.blocks=b.blocks∧a.root=b.root∧a.dn=b.dn∧a.dead=b.dead:=by
 obtain⟨⟩:=a
 obtain⟨⟩:=b
 simp[cor] at h
 simp
 omega
theorem zfR {a b:zaj} (h:a.id=b.id∧a.name=b.name∧a.snap=b.snap∧a.own=b.own∧a.prev=b.prev∧a.stamp=b.stamp∧a.blocks=b.blocks∧a.root=b.root∧a.dn=b.dn∧a.dead=b.dead):cor a=cor b:=by
 obtain⟨⟩:=a
 obtain⟨⟩:=b
 simp at h
 simp[cor]
 omega
theorem zcA {xs ys:List zaj} (h:xs.map cor=ys.map cor) {i:Nat} {a:zaj} (ha:xs[i]?= some a):∃b,ys[i]?= some b∧cor a=cor b:=by
 have:=congrArg (fun l=>l[i]?) h
 simp only[List.getElem?_map,ha,Option.map_some] at this
 cases hb:ys[i]? with
 | none=>rw[hb] at this; cases this
 | some b=>rw[hb] at this; exact⟨b,rfl,Option.some.inj this⟩
theorem za5 {xs ys:List zaj} (h:xs.map cor=ys.map cor):xs.length=ys.length:=by
 have:=congrArg List.length h
 simpa using this
theorem zbb {xs ys:List zaj} (h:xs.map cor=ys.map cor) (id:Int):plcN xs id=plcN ys id:=by
 have e:∀l:List zaj,plcN l id=plcN (l.map cor) id:=fun l=>by
  unfold plcN
  rw[List.findIdx?_map]
  rfl
 rw[e xs,e ys,h]
theorem zoT {xs ys:List zaj} (h:xs.map cor=ys.map cor) (k:Cal):plcC xs k=plcC ys k:=by
 have e:∀l:List zaj,plcC l k=plcC (l.map cor) k:=fun l=>by
  unfold plcC
  rw[List.findIdx?_map]
  rfl
 rw[e xs,e ys,h]
theorem znX {xs ys:List zaj} (h:xs.map cor=ys.map cor) (id:Int):flr xs id=flr ys id:=by
 have e:∀l:List zaj,flr l id=flr (l.map cor) id:=fun l=>by
  have hp:∀i,plcN (l.map cor) i=plcN l i:=fun i=>zbb (by rw[List.map_map]; exact List.map_congr_left fun a _=>rfl) i
  unfold flr
  rw[hp]
  cases plcN l id with
  | none=>rfl
  | some i=>
    simp only[List.getElem?_map]
    cases l[i]? with
    | none=>rfl
    | some r=>
      simp only[Option.map_some]
      show (if r.prev=0 then (0:Int) else _)=(if r.prev=0 then 0 else match plcN (l.map cor) r.prev with | none=>0 | some j=>match Option.map cor l[j]? with | none=>0 | some x=>x.stamp)
      rw[hp]
      split
      ·rfl
      ·cases plcN l r.prev with
       | none=>rfl
       | some j=>
         simp only
         cases l[j]? with
         | none=>rfl
         | some x=>rfl
 rw[e xs,e ys,h]
theorem zmB {xs ys:List zaj} (h:xs.map cor=ys.map cor) (id:Int):zcd xs id=zcd ys id:=by
 have e:∀l:List zaj,zcd l id=zcd (l.map cor) id:=fun l=>by
  have hp:∀i,plcN (l.map cor) i=plcN l i:=fun i=>zbb (by rw[List.map_map]; exact List.map_congr_left fun a _=>rfl) i
  unfold zcd
  rw[hp]
  cases plcN l id with
  | none=>rfl
  | some i=>
    simp only[List.getElem?_map]
    cases l[i]? with
    | none=>rfl
    | some r=>
      simp only[Option.map_some]
      show _=(if r.snap=true then (match plcN (l.map cor) r.own with | none=>noB | some j=>match Option.map cor l[j]? with | none=>noB | some v=>v.name ++ atB ++ r.name) else r.name)
      rw[hp]
      split
      ·cases plcN l r.own with
       | none=>rfl
       | some j=>
         simp only
         cases l[j]? with
         | none=>rfl
         | some x=>rfl
      ·rfl
 rw[e xs,e ys,h]
theorem zcR {xs ys:List zaj} (h:xs.map cor=ys.map cor) (P:zaj→Bool) (hP:∀a,P (cor a)=P a) {α:Type} (f:zaj→α) (hf:∀a,f (cor a)=f a):(xs.filter P).map f=(ys.filter P).map f:=by
 have e:∀l:List zaj,(l.filter P).map f=((l.map cor).filter P).map f:=fun l=>by
  rw[List.filter_map,List.map_map]
  have:(P∘cor)=P:=funext hP
  rw[this]
  exact List.map_congr_left fun a _=>(hf a).symm
 rw[e xs,e ys,h]
theorem zu1 {xs ys:List zaj} (h:xs.map cor=ys.map cor) (id:Int):clL xs id=clL ys id:=by
 unfold clL
 rw[zbb h]
 cases plcN ys id with
 | none=>rfl
 | some i=>
   simp only
   cases hx:xs[i]? with
   | none=>
     have:ys[i]?= none:=by rw[List.getElem?_eq_none_iff] at hx ⊢; rw[←za5 h]; exact hx
     rw[this]
   | some r=>
     obtain⟨r',hr',hc⟩:=zcA h hx
     obtain⟨-, -,h3,h4, -⟩:=zaL hc
     rw[hr']
     simp only[h3,h4]
     split
     ·exact zcR h _ (fun a=>rfl) _ (fun a=>rfl)
     ·rfl
theorem zk9 {xs ys:List zaj} (h:xs.map cor=ys.map cor) (id:Int):∀(k:Nat) (pr:Int) (ch:List Int),zcz xs id k pr ch=zcz ys id k pr ch
 | 0,pr,ch=>rfl
 | k+1,pr,ch=>by
   unfold zcz
   rw[zbb h]
   split
   ·rfl
   ·cases plcN ys pr with
    | none=>rfl
    | some i=>
      simp only
      cases hx:xs[i]? with
      | none=>
        have:ys[i]?= none:=by rw[List.getElem?_eq_none_iff] at hx ⊢; rw[←za5 h]; exact hx
        rw[this]
      | some r=>
        obtain⟨r',hr',hc⟩:=zcA h hx
        obtain⟨-, -, -,h4,h5, -⟩:=zaL hc
        rw[hr']
        simp only[h4,h5]
        split
        ·exact zk9 h id k _ _
        ·rfl
theorem zoU {xs ys:List zaj} (h:xs.map cor=ys.map cor) (id:Int):wayR xs id=wayR ys id:=by
 unfold wayR
 rw[zbb h]
 cases plcN ys id with
 | none=>rfl
 | some i=>
   simp only
   cases hx:xs[i]? with
   | none=>
     have:ys[i]?= none:=by rw[List.getElem?_eq_none_iff] at hx ⊢; rw[←za5 h]; exact hx
     rw[this]
   | some r=>
     obtain⟨r',hr',hc⟩:=zcA h hx
     obtain⟨-, -,h3, -,h5, -⟩:=zaL hc
     rw[hr']
     simp only[h3,h5]
     split
     ·rfl
     ·exact zk9 h id _ _ _
theorem zmC {xs ys:List zaj} (h:xs.map cor=ys.map cor) (v s:ByteArray):lookN xs v s=lookN ys v s:=by
 unfold lookN
 rw[zoT h]
 cases plcC ys (0,v) with
 | none=>rfl
 | some i=>
   simp only
   split
   ·rfl
   ·cases hx:xs[i]? with
    | none=>
      have:ys[i]?= none:=by rw[List.getElem?_eq_none_iff] at hx ⊢; rw[←za5 h]; exact hx
      rw[this]
    | some r=>
      obtain⟨r',hr',hc⟩:=zcA h hx
      obtain⟨h1, -⟩:=zaL hc
      rw[hr']
      simp only[h1]
      exact zoT h _
theorem ztc {xs ys:List zaj} (h:xs.map cor=ys.map cor) (id:Int) (i:Nat):(hang id i xs).map (fun q=>(q.1,cor q.2))=(hang id i ys).map (fun q=>(q.1,cor q.2)):=by
 have e:∀(l:List zaj) (i:Nat),(hang id i l).map (fun q=>(q.1,cor q.2))=hang id i (l.map cor):=fun l=>by
  induction l with
  | nil=>intro i; rfl
  | cons a l ih=>
    intro i
    rw[List.map_cons,zda,zda]
    show _=if a.prev=id then _ else _
    split
    ·rw[List.map_cons,ih]
    ·rw[ih]
 rw[e xs,e ys,h]
theorem zrd {xs ys:List zaj} (h:xs.map cor=ys.map cor) (id:Int):nextR xs id=nextR ys id:=by
 unfold nextR
 rw[zbb h]
 cases plcN ys id with
 | none=>rfl
 | some i=>
   simp only
   cases hx:xs[i]? with
   | none=>
     have:ys[i]?= none:=by rw[List.getElem?_eq_none_iff] at hx ⊢; rw[←za5 h]; exact hx
     rw[this]
   | some r=>
     obtain⟨r',hr',hc⟩:=zcA h hx
     obtain⟨-, -,h3,h4, -⟩:=zaL hc
     rw[hr']
     simp only[h3,h4]
     split
     ·have e:∀l:List zaj,(match (hang id 0 l).find? (fun q=>decide (q.2.own=r'.own)) with | none=>(0:Int) | some q=>q.2.id)=(match ((hang id 0 l).map (fun q=>(q.1,cor q.2))).find? (fun q=>decide (q.2.own=r'.own)) with | none=>0 | some q=>q.2.id):=fun l=>by
       rw[List.find?_map]
       have:((fun q:Nat×zaj=>decide (q.2.own=r'.own))∘fun q:Nat×zaj=>(q.1,cor q.2))=fun q=>decide (q.2.own=r'.own):=rfl
       rw[this]
       cases (hang id 0 l).find? (fun q=>decide (q.2.own=r'.own)) with
       | none=>rfl
       | some q=>rfl
      refine (e xs).trans ?_
      rw[ztc h]
      exact (e ys).symm
     ·rfl
def setsC (rs:List zaj):List Value:=(rs.map setC).flatten
theorem zbA (r:zaj):(setC r).length=11:=rfl
theorem zaI (rs:List zaj):(setsC rs).length=rs.length * 11:=by
 induction rs with
 | nil=>rfl
 | cons r rs ih=>
   have:setsC (r :: rs)=setC r ++ setsC rs:=rfl
   rw[this,List.length_append,ih,zbA,List.length_cons]
   omega
theorem zbg (a b:List zaj):setsC (a ++ b)=setsC a ++ setsC b:=by simp[setsC]
theorem zdS (r:zaj):setsC [r]=setC r:=by simp[setsC]
theorem zmD:∀(rs:List zaj) (i:Nat) (h:i < rs.length),((setsC rs).drop (i * 11)).take 11=setC rs[i]
 | r :: rs,0,h=>by
   show (setC r ++ setsC rs).take 11=setC r
   rw[List.take_append_of_le_length (by rw[zbA]; exact Nat.le_refl _),List.take_of_length_le (by rw[zbA]; exact Nat.le_refl _)]
 | r :: rs,i+1,h=>by
   have:setsC (r :: rs)=setC r ++ setsC rs:=rfl
   rw[this,show (i+1) * 11=(setC r).length+i * 11 by rw[zbA]; omega,←List.drop_drop,List.drop_left',zmD rs i (by simpa using h)]
   ·rfl
   ·rfl
theorem zla {h:AH} {p:Option Addr} {n:Nat} {rs:List zaj} (S:zaR h p n 11 (setsC rs)) (hn:n≤reachBytes) (ok:∀r∈rs,zbC h r):zbL h p n rs:=by
 have hl:=S.1
 rw[zaI] at hl
 exact⟨by omega,hn,_,S,fun i hi=>⟨zmD rs i hi,ok _ (List.getElem_mem hi)⟩⟩
theorem zbL.shows {h:AH} {p:Option Addr} {n:Nat} {rs:List zaj} (T:zbL h p n rs):zaR h p n 11 (setsC rs):=by
 obtain⟨h1,h2,cells,h3,h4⟩:=T
 have:cells=setsC rs:=by
  have hl:=h3.1
  subst h1
  clear h2 h3
  induction rs generalizing cells with
  | nil=>simp at hl; subst hl; rfl
  | cons r rs ih=>
    have e0:=(h4 0 (by simp)).1
    simp only[Nat.zero_mul,List.drop_zero,List.getElem_cons_zero] at e0
    have:=ih (cells:=cells.drop 11) (fun i hi=>by
     have:=h4 (i+1) (by simpa using hi)
     rw[List.drop_drop,show 11+i * 11=(i+1) * 11 by omega]
     simpa using this) (by rw[List.length_drop,hl,List.length_cons]; omega)
    rw[←List.take_append_drop 11 cells,e0,this]
    rfl
 rw[←this]
 exact h3
theorem zbL.ok {h:AH} {p:Option Addr} {n:Nat} {rs:List zaj} (T:zbL h p n rs):∀r∈rs,zbC h r:=fun r hr=>by
 obtain⟨i,hi⟩:=List.mem_iff_getElem?.1 hr
 obtain⟨hl,rfl⟩:=List.getElem?_eq_some_iff.1 hi
 obtain⟨-, -,cells, -,h4⟩:=T
 exact (h4 i hl).2
theorem znY:zcZ Tryz.prog 27 81 11 112:=zc0 (by kernel_rfl)
structure zvV (K:Xs):Prop where
 r1:zua K
section
variable {K:Xs} {h:AH} {p:Option Addr} {n c:Nat} {rs:List zaj}
theorem zaR.keep {h h' : AH} {p:Option Addr} {n sz:Nat} {cs:List Value} (s:zaR h p n sz cs) (hn:h.next≤h'.next) (k:∀a,p=some a→h'.get a.block=h.get a.block):zaR h' p n sz cs:=by
 refine⟨s.1,?_⟩
 rcases s.2 with h0 | ⟨b,off,al,e,ro,hp,hb,hg,hl,hc⟩
 ·exact .inl h0
 ·exact .inr ⟨b,off,al,e,ro,hp,Nat.lt_of_lt_of_le hb hn,by rw[k _ hp,hg],hl,hc⟩
theorem zbC.keep {h h' : AH} {r:zaj} (k:zbC h r) (hn:h.next≤h'.next) (q:∀a,r.dp=some a→h'.get a.block=h.get a.block):zbC h' r:={ k with shows:=k.shows.keep hn q }
end
end Go.Am
