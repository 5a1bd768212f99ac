/-
  BOOKS: acts on copies.
-/
import Derived.Test.YtnkbkpajlikkaaaCRuE
set_option linter.unusedVariables false
set_option linter.unusedSimpArgs false
set_option maxRecDepth 100000
namespace Go.Am
open Go.Proofs
theorem getc {xs ys:List SetR} (h:xs.map cor=ys.map cor) (i:Nat):(xs[i]?= none∧ys[i]?= none)∨∃a b,xs[i]?= some a∧ys[i]?= some b∧cor a=cor b:=by
 cases hx:xs[i]? with
 | none=>
   refine .inl ⟨rfl,?_⟩
   rw[List.getElem?_eq_none_iff] at hx ⊢
   rw[←cor_len h]
   exact hx
 | some a=>
   obtain⟨b,hb,hc⟩:=cor_at h hx
   exact .inr ⟨a,b,rfl,hb,hc⟩
theorem map_fcor {f g:SetR→SetR} (hf:∀a b,cor a=cor b→cor (f a)=cor (g b)):∀{xs ys:List SetR},xs.map cor=ys.map cor→(xs.map f).map cor=(ys.map g).map cor
 | [],[],_=>rfl
 | [],_ :: _,h=>by cases h
 | _ :: _,[],h=>by cases h
 | a :: xs,b :: ys,h=>by
   rw[List.map_cons,List.map_cons] at h
   injection h with h1 h2
   rw[List.map_cons,List.map_cons,List.map_cons,List.map_cons,hf a b h1,map_fcor hf h2]
section
variable {xs ys:List SetR} {nx:Int}
theorem lookOf_cor (h:xs.map cor=ys.map cor) (o:Option (ByteArray×ByteArray)):lookOf xs o=lookOf ys o:=by
 unfold lookOf
 cases o with
 | none=>rfl
 | some q=>exact lookN_cor h q.1 q.2
def E3 (a b:Int×List SetR×Int):Prop:=a.1=b.1∧a.2.1.map cor=b.2.1.map cor∧a.2.2=b.2.2
def ES (a b:Int×List SetR×SetR×Int):Prop:=a.1=b.1∧a.2.1.map cor=b.2.1.map cor∧cor a.2.2.1=cor b.2.2.1∧a.2.2.2=b.2.2.2
def EL (a b:Int×List SetR×List PtI×Int):Prop:=a.1=b.1∧a.2.1.map cor=b.2.1.map cor∧a.2.2=b.2.2
theorem createF_cor (h:xs.map cor=ys.map cor) (o:Option (ByteArray×ByteArray)) (k:Int):E3 (createF nx xs o k) (createF nx ys o k):=by
 unfold createF
 rw[lookOf_cor h,cor_len h]
 cases volOf o with
 | none=>exact⟨rfl,h,rfl⟩
 | some a=>
   simp only
   split
   ·exact⟨rfl,h,rfl⟩
   ·split
    ·exact⟨rfl,h,rfl⟩
    ·cases lookOf ys o with
     | some i=>exact⟨rfl,h,rfl⟩
     | none=>exact⟨rfl,by simp only[List.map_append,h],rfl⟩
theorem snapA_cor (h:xs.map cor=ys.map cor) (o:Option (ByteArray×ByteArray)) (st:Int):E3 (snapA nx xs o st) (snapA nx ys o st):=by
 unfold snapA
 cases snapOf o with
 | none=>exact⟨rfl,h,rfl⟩
 | some q=>
   obtain⟨a,b⟩:=q
   simp only
   rw[lookN_cor h,lookOf_cor h,cor_len h]
   cases lookN ys a noB with
   | none=>exact⟨rfl,h,rfl⟩
   | some i=>
     simp only
     split
     ·exact⟨rfl,h,rfl⟩
     ·cases lookOf ys o with
      | some j=>exact⟨rfl,h,rfl⟩
      | none=>
        simp only
        rcases getc h i with ⟨h1,h2⟩ | ⟨v,w,h1,h2,hc⟩
        ·rw[h1,h2]
         exact⟨rfl,h,rfl⟩
        ·rw[h1,h2]
         simp only
         have q:=cor_eq hc
         rw[flr_cor h,q.1]
         split
         ·exact⟨rfl,h,rfl⟩
         ·refine⟨rfl,?_,rfl⟩
          rw[List.map_append,List.map_append]
          congr 1
          ·refine map_fcor (fun a b hab=>?_) h
           have e:=cor_eq hab
           unfold snapF
           rw[e.1,q.1]
           split
           ·exact cor_mk ⟨e.1,e.2.1,e.2.2.1,e.2.2.2.1,rfl,e.2.2.2.2.2.1,e.2.2.2.2.2.2.1,e.2.2.2.2.2.2.2.1,rfl,rfl⟩
           ·exact hab
          ·show [cor _]=[cor _]
           congr 1
           exact cor_mk ⟨rfl,rfl,rfl,q.1,q.2.2.2.2.1,rfl,q.2.2.2.2.2.2.1,q.2.2.2.2.2.2.2.1,q.2.2.2.2.2.2.2.2.1,q.2.2.2.2.2.2.2.2.2⟩
theorem cloneA_cor (h:xs.map cor=ys.map cor) (o o2:Option (ByteArray×ByteArray)):E3 (cloneA nx xs o o2) (cloneA nx ys o o2):=by
 unfold cloneA
 cases snapOf o with
 | none=>exact⟨rfl,h,rfl⟩
 | some q=>
   simp only
   cases volOf o2 with
   | none=>exact⟨rfl,h,rfl⟩
   | some a=>
     simp only
     rw[lookOf_cor h,lookOf_cor h,cor_len h]
     cases lookOf ys o with
     | none=>exact⟨rfl,h,rfl⟩
     | some i=>
       simp only
       split
       ·exact⟨rfl,h,rfl⟩
       ·cases lookOf ys o2 with
        | some j=>exact⟨rfl,h,rfl⟩
        | none=>
          simp only
          rcases getc h i with ⟨h1,h2⟩ | ⟨v,w,h1,h2,hc⟩
          ·rw[h1,h2]
           exact⟨rfl,h,rfl⟩
          ·rw[h1,h2]
           simp only
           have q:=cor_eq hc
           rw[q.1,q.2.2.2.2.2.2.1,q.2.2.2.2.2.2.2.1]
           exact⟨rfl,by simp only[List.map_append,h],rfl⟩
theorem clash_cor (h:xs.map cor=ys.map cor) {vid m:Int} (c:Clash xs vid m):Clash ys vid m:=by
 obtain⟨s,hs,h1,h2,j,x,h3,h4,h5⟩:=c
 obtain⟨k,hk⟩:=List.mem_iff_getElem?.1 hs
 obtain⟨s',hk',hcs⟩:=cor_at h hk
 obtain⟨x',hx',hcx⟩:=cor_at h h4
 have e:=cor_eq hcs
 exact⟨s',List.mem_of_getElem? hk',by rw[←e.2.2.1]; exact h1,by rw[←e.2.2.2.1]; exact h2,j,x',by rw[←plcN_cor h]; exact h3,hx',by rw[←e.2.1,h5,(cor_eq hcx).2.1]⟩
open Classical in
theorem promA_cor (h:xs.map cor=ys.map cor) (o:Option (ByteArray×ByteArray)):E3 (promA nx xs o) (promA nx ys o):=by
 unfold promA
 cases volOf o with
 | none=>exact⟨rfl,h,rfl⟩
 | some a=>
   simp only
   rw[lookOf_cor h]
   cases lookOf ys o with
   | none=>exact⟨rfl,h,rfl⟩
   | some i=>
     simp only
     rcases getc h i with ⟨h1,h2⟩ | ⟨v,w,h1,h2,hc⟩
     ·rw[h1,h2]
      exact⟨rfl,h,rfl⟩
     ·rw[h1,h2]
      simp only
      have q:=cor_eq hc
      rw[q.1,wayR_cor h,plcN_cor h]
      cases plcN ys (wayR ys w.id).2 with
      | none=>exact⟨rfl,h,rfl⟩
      | some jo=>
        simp only
        rcases getc h jo with ⟨g1,g2⟩ | ⟨og,oh,g1,g2,gc⟩
        ·rw[g1,g2]
         exact⟨rfl,h,rfl⟩
        ·rw[g1,g2]
         simp only
         have e:=cor_eq gc
         rw[e.1,e.2.2.2.1,wayW_cor h]
         by_cases hcl:∃m∈(wayW ys oh.own 32 oh.id []).1,Clash ys w.id m
         ·rw[if_pos hcl,if_pos (hcl.imp fun m hm=>⟨hm.1,clash_cor h.symm hm.2⟩)]
          exact⟨rfl,h,rfl⟩
         ·rw[if_neg hcl,if_neg fun z=>hcl (z.imp fun m hm=>⟨hm.1,clash_cor h hm.2⟩)]
          refine⟨rfl,map_fcor (fun a b hab=>?_) h,rfl⟩
          have e2:=cor_eq hab
          unfold promF
          rw[e2.1]
          split
          ·exact cor_mk ⟨rfl,e2.2.1,e2.2.2.1,rfl,e2.2.2.2.2⟩
          ·exact hab
theorem backA_cor (h:xs.map cor=ys.map cor) (o:Option (ByteArray×ByteArray)):ES (backA nx xs o) (backA nx ys o):=by
 unfold backA
 cases volOf o with
 | none=>exact⟨rfl,h,rfl,rfl⟩
 | some a=>
   simp only
   rw[lookOf_cor h]
   cases lookOf ys o with
   | none=>exact⟨rfl,h,rfl,rfl⟩
   | some i=>
     simp only
     rcases getc h i with ⟨h1,h2⟩ | ⟨v,w,h1,h2,hc⟩
     ·rw[h1,h2]
      exact⟨rfl,h,rfl,rfl⟩
     ·rw[h1,h2]
      simp only
      have q:=cor_eq hc
      rw[q.2.2.2.2.1,plcN_cor h]
      cases plcN ys w.prev with
      | none=>exact⟨rfl,h,rfl,rfl⟩
      | some jo=>
        simp only
        rcases getc h jo with ⟨g1,g2⟩ | ⟨og,oh,g1,g2,gc⟩
        ·rw[g1,g2]
         exact⟨rfl,h,rfl,rfl⟩
        ·rw[g1,g2]
         simp only
         have e:=cor_eq gc
         refine⟨rfl,map_fcor (fun a b hab=>?_) h,hc,rfl⟩
         have e2:=cor_eq hab
         unfold backF
         rw[e2.1,q.1]
         split
         ·exact cor_mk ⟨e2.1,e2.2.1,e2.2.2.1,e2.2.2.2.1,e2.2.2.2.2.1,e2.2.2.2.2.2.1,e2.2.2.2.2.2.2.1,e.2.2.2.2.2.2.2.1,rfl,rfl⟩
         ·exact hab
theorem dropVolA_cor (h:xs.map cor=ys.map cor) (o:Option (ByteArray×ByteArray)):ES (dropVolA nx xs o) (dropVolA nx ys o):=by
 unfold dropVolA
 cases volOf o with
 | none=>exact⟨rfl,h,rfl,rfl⟩
 | some a=>
   simp only
   rw[lookOf_cor h]
   cases lookOf ys o with
   | none=>exact⟨rfl,h,rfl,rfl⟩
   | some i=>
     simp only
     rcases getc h i with ⟨h1,h2⟩ | ⟨v,w,h1,h2,hc⟩
     ·rw[h1,h2]
      exact⟨rfl,h,rfl,rfl⟩
     ·rw[h1,h2]
      simp only
      have q:=cor_eq hc
      have hf:=congrArg List.length (filter_cor h (fun x=>x.snap && decide (x.own=w.id)) (fun a=>rfl) cor (fun a=>rfl))
      rw[List.length_map,List.length_map] at hf
      rw[q.1,hf]
      split
      ·exact⟨rfl,h,rfl,rfl⟩
      ·exact⟨rfl,filter_cor h (fun r=>!decide (r.id=w.id)) (fun a=>rfl) cor (fun a=>rfl),hc,rfl⟩
theorem dropF_cor {z z' : SetR} (hz:cor z=cor z') (pr:Int) (d:List PtI) (h:xs.map cor=ys.map cor):(xs.map (dropF z pr d)).map cor=(ys.map (dropF z' pr d)).map cor:=by
 refine map_fcor (fun a b hab=>?_) h
 have e2:=cor_eq hab
 unfold dropF
 rw[e2.1,(cor_eq hz).1]
 split
 ·exact cor_mk ⟨e2.1,e2.2.1,e2.2.2.1,e2.2.2.2.1,rfl,e2.2.2.2.2.2.1,e2.2.2.2.2.2.2.1,e2.2.2.2.2.2.2.2.1,rfl,rfl⟩
 ·exact hab
theorem dropSnapA_cor (h:xs.map cor=ys.map cor) (lo:Option Nat) (ok:Bool):EL (dropSnapA nx xs lo ok) (dropSnapA nx ys lo ok):=by
 unfold dropSnapA
 split
 ·exact⟨rfl,h,rfl⟩
 ·cases lo with
  | none=>exact⟨rfl,h,rfl⟩
  | some i=>
    simp only
    rcases getc h i with ⟨h1,h2⟩ | ⟨v,w,h1,h2,hc⟩
    ·rw[h1,h2]
     exact⟨rfl,h,rfl⟩
    ·rw[h1,h2]
     simp only
     have q:=cor_eq hc
     rw[q.1,clL_cor h,nextR_cor h,plcN_cor h,flr_cor h]
     split
     ·exact⟨rfl,h,rfl⟩
     ·cases plcN ys (nextR ys w.id) with
      | none=>exact⟨rfl,h,rfl⟩
      | some j=>
        simp only
        rcases getc h j with ⟨g1,g2⟩ | ⟨z,z',g1,g2,gc⟩
        ·rw[g1,g2]
         exact⟨rfl,h,rfl⟩
        ·rw[g1,g2]
         simp only
         have e:=cor_eq gc
         rw[e.2.2.2.2.2.2.2.2.2,q.2.2.2.2.2.2.2.2.2,q.2.2.2.2.1]
         cases mrg (oldD (flr ys w.id) z'.dead) w.dead with
         | none=>exact⟨rfl,h,rfl⟩
         | some d=>
           simp only
           split
           ·exact⟨rfl,h,rfl⟩
           ·exact⟨rfl,filter_cor (dropF_cor gc _ _ h) (fun r=>!decide (r.id=w.id)) (fun a=>rfl) cor (fun a=>rfl),rfl⟩
theorem killA_cor (h:xs.map cor=ys.map cor) (id:Int) (l:List PtI):EL (killA nx xs id l) (killA nx ys id l):=by
 unfold killA
 rw[plcN_cor h,flr_cor h]
 cases plcN ys id with
 | none=>exact⟨rfl,h,rfl⟩
 | some i=>
   simp only
   rcases getc h i with ⟨h1,h2⟩ | ⟨v,w,h1,h2,hc⟩
   ·rw[h1,h2]
    exact⟨rfl,h,rfl⟩
   ·rw[h1,h2]
    simp only
    have q:=cor_eq hc
    rw[q.2.2.2.2.2.2.2.2.2,q.2.2.2.2.1]
    cases killD (flr ys id) l w.dead [] with
    | none=>exact⟨rfl,h,rfl⟩
    | some x=>exact⟨rfl,dropF_cor hc _ _ h,rfl⟩
theorem actA_cor (h:xs.map cor=ys.map cor) (kind k:Int) (f f2:ByteArray) (id:Int) (l:List PtI):(actA nx xs kind k f f2 id l).1=(actA nx ys kind k f f2 id l).1∧(actA nx xs kind k f f2 id l).2.1.map cor=(actA nx ys kind k f f2 id l).2.1.map cor∧cor (actA nx xs kind k f f2 id l).2.2.1=cor (actA nx ys kind k f f2 id l).2.2.1∧(actA nx xs kind k f f2 id l).2.2.2=(actA nx ys kind k f f2 id l).2.2.2:=by
 have e3:∀{a b:Int×List SetR×Int},E3 a b→a.1=b.1∧a.2.1.map cor=b.2.1.map cor∧cor zeroR=cor zeroR∧(([]:List PtI),a.2.2)=([],b.2.2):=fun q=>⟨q.1,q.2.1,rfl,by rw[q.2.2]⟩
 have es:∀{a b:Int×List SetR×SetR×Int},ES a b→a.1=b.1∧a.2.1.map cor=b.2.1.map cor∧cor a.2.2.1=cor b.2.2.1∧(([]:List PtI),a.2.2.2)=([],b.2.2.2):=fun q=>⟨q.1,q.2.1,q.2.2.1,by rw[q.2.2.2]⟩
 have el:∀{a b:Int×List SetR×List PtI×Int},EL a b→a.1=b.1∧a.2.1.map cor=b.2.1.map cor∧cor zeroR=cor zeroR∧(a.2.2.1,a.2.2.2)=(b.2.2.1,b.2.2.2):=fun q=>⟨q.1,q.2.1,rfl,by rw[q.2.2]⟩
 unfold actA
 split
 ·exact e3 (createF_cor h _ _)
 ·split
  ·exact e3 (snapA_cor h _ _)
  ·split
   ·exact e3 (cloneA_cor h _ _)
   ·split
    ·exact e3 (promA_cor h _)
    ·split
     ·exact es (backA_cor h _)
     ·split
      ·exact es (dropVolA_cor h _)
      ·split
       ·rw[lookOf_cor h]
        exact el (dropSnapA_cor h _ _)
       ·split
        ·exact el (killA_cor h _ _)
        ·exact⟨rfl,h,rfl,rfl⟩
end
end Go.Am
