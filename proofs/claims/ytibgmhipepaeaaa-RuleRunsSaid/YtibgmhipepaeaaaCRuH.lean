/-
  BOOKS: a copy, the same.
-/
import Derived.Test.YtibgmhipepaeaaaCRuG
set_option linter.unusedVariables false
set_option linter.unusedSimpArgs false
set_option maxRecDepth 100000
namespace Go.Am
open Go.Proofs
section
variable {K:Xs} {h:AH} {p:Option Addr} {n c:Nat} {rs:List SetR} {nx:Int}
theorem same17 (kk:KRef17 K) {i j:Int} {xs ys:List SetR} {p2:Option Addr} {n2 c2:Nat} (S:Sets h p n xs) (T:Sets h p2 n2 ys):Wf Try.prog K 38 [.agg #[.int .u64 i,.slice p n c],.agg #[.int .u64 j,.slice p2 n2 c2]] h fun v h'=>BoolIs v (i=j∧xs.map cor=ys.map cor)∧Old h h':=by
 refine vc_aquiferref17_Same kk.same _ _ _ _ _ _ _ _ h _ fun g0 e0 g1 e1=>?_
 have o0:=old_of_alloc e0
 have o1:=old_of_alloc e1
 have n0:=next_of_alloc e0
 have o01:=o0.trans o1
 have w0:=(o1.2 h.next (by omega)).trans (get_of_alloc e0)
 have w1:=get_of_alloc e1
 refine⟨_,ld1_at w0 rfl,_,ld1_at w1 rfl,fun q=>⟨_,_,_,ld1_at w0 rfl,_,_,_,ld1_at w1 rfl,(sameList15 kk.r16.r15 (c:=c) (c2:=c2) (S.old o01) (T.old o01)).mono ?_⟩,fun q=>⟨.inr ⟨rfl,fun z=>q z.1⟩,o01⟩⟩
 rintro _ g11 ⟨⟨rfl,k⟩ | ⟨rfl,k⟩,o11⟩
 ·exact .inl ⟨rfl,.inl ⟨rfl,q,k⟩,o01.trans o11⟩
 ·exact .inr ⟨rfl,.inr ⟨rfl,fun z=>k z.2⟩,o01.trans o11⟩
theorem put2 {g g1 g2:AH} {i:Int} {p' : Option Addr} {n' c' : Nat} {s:SetR} (e1:g1=g.alloc (.cells [.int .u64 0,.slice none 0 0] 36 false)) (e2:g2=g1.alloc (.cells (setC zeroR) 28 false)):
 ∃g3 g4,stN g2 g.next 0 [.int .u64 i,.slice p' n' c']=some g3∧stN g3 g1.next 0 (setC s)=some g4∧Old g g4∧g.next < g4.next∧g1.next < g4.next∧g4.get g.next=some (.cells [.int .u64 i,.slice p' n' c'] 36 false)∧g4.get g1.next=some (.cells (setC s) 28 false):=by
 have o1:=old_of_alloc e1
 have o2:=old_of_alloc e2
 have n1:=next_of_alloc e1
 have n2:=next_of_alloc e2
 have w1:=(o2.2 g.next (by omega)).trans (get_of_alloc e1)
 have s1:=near_set g.next g2 (.cells [.int .u64 i,.slice p' n' c'] 36 false)
 have w2:=(s1.2 g1.next (by omega)).trans (get_of_alloc e2)
 have s2:=near_set g1.next (g2.set g.next (.cells [.int .u64 i,.slice p' n' c'] 36 false)) (.cells (setC s) 28 false)
 have hx:((g2.set g.next (.cells [.int .u64 i,.slice p' n' c'] 36 false)).set g1.next (.cells (setC s) 28 false)).next=g2.next:=rfl
 exact⟨_,_,stN_all w1 rfl,stN_all w2 rfl,near_old (near_old (o1.trans o2) s1 (Nat.le_refl _)) s2 (by omega),by rw[hx]; omega,by rw[hx]; omega,(s2.2 _ (by omega)).trans (get_set_self _ _ _),get_set_self _ _ _⟩
end
end Go.Am
/-
 BOOKS:acts on copies.
-/
set_option linter.unusedVariables false
set_option linter.unusedSimpArgs false
set_option maxRecDepth 100000
namespace Go.Am
open Go.Proofs
theorem getc {xs ys:List SetR} (h:xs.map cor=ys.map cor) (i:Nat):(xs[i]?= none∧ys[i]?= none)∨∃a b,xs[i]?= some a∧ys[i]?= some b∧cor a=cor b:=by
 cases hx:xs[i]? with
 | none=>
   refine .inl ⟨rfl,?_⟩
   rw[List.getElem?_eq_none_iff] at hx ⊢
   rw[←cor_len h]
   exact hx
 | some a=>
   obtain⟨b,hb,hc⟩:=cor_at h hx
   exact .inr ⟨a,b,rfl,hb,hc⟩
theorem map_fcor {f g:SetR→SetR} (hf:∀a b,cor a=cor b→cor (f a)=cor (g b)):∀{xs ys:List SetR},xs.map cor=ys.map cor→(xs.map f).map cor=(ys.map g).map cor
 | [],[],_=>rfl
 | [],_ :: _,h=>by cases h
 | _ :: _,[],h=>by cases h
 | a :: xs,b :: ys,h=>by
   rw[List.map_cons,List.map_cons] at h
   injection h with h1 h2
   rw[List.map_cons,List.map_cons,List.map_cons,List.map_cons,hf a b h1,map_fcor hf h2]
section
variable {xs ys:List SetR} {nx:Int}
theorem lookOf_cor (h:xs.map cor=ys.map cor) (o:Option (ByteArray×ByteArray)):lookOf xs o=lookOf ys o:=by
 unfold lookOf
 cases o with
 | none=>rfl
 | some q=>exact lookN_cor h q.1 q.2
def E3 (a b:Int×List SetR×Int):Prop:=a.1=b.1∧a.2.1.map cor=b.2.1.map cor∧a.2.2=b.2.2
def ES (a b:Int×List SetR×SetR×Int):Prop:=a.1=b.1∧a.2.1.map cor=b.2.1.map cor∧cor a.2.2.1=cor b.2.2.1∧a.2.2.2=b.2.2.2
def EL (a b:Int×List SetR×List PtI×Int):Prop:=a.1=b.1∧a.2.1.map cor=b.2.1.map cor∧a.2.2=b.2.2
theorem createF_cor (h:xs.map cor=ys.map cor) (o:Option (ByteArray×ByteArray)) (k:Int):E3 (createF nx xs o k) (createF nx ys o k):=by
 unfold createF
 rw[lookOf_cor h,cor_len h]
 cases volOf o with
 | none=>exact⟨rfl,h,rfl⟩
 | some a=>
   simp only
   split
   ·exact⟨rfl,h,rfl⟩
   ·split
    ·exact⟨rfl,h,rfl⟩
    ·cases lookOf ys o with
     | some i=>exact⟨rfl,h,rfl⟩
     | none=>exact⟨rfl,by simp only[List.map_append,h],rfl⟩
theorem snapA_cor (h:xs.map cor=ys.map cor) (o:Option (ByteArray×ByteArray)) (st:Int):E3 (snapA nx xs o st) (snapA nx ys o st):=by
 unfold snapA
 cases snapOf o with
 | none=>exact⟨rfl,h,rfl⟩
 | some q=>
   obtain⟨a,b⟩:=q
   simp only
   rw[lookN_cor h,lookOf_cor h,cor_len h]
   cases lookN ys a noB with
   | none=>exact⟨rfl,h,rfl⟩
   | some i=>
     simp only
     split
     ·exact⟨rfl,h,rfl⟩
     ·cases lookOf ys o with
      | some j=>exact⟨rfl,h,rfl⟩
      | none=>
        simp only
        rcases getc h i with ⟨h1,h2⟩ | ⟨v,w,h1,h2,hc⟩
        ·rw[h1,h2]
         exact⟨rfl,h,rfl⟩
        ·rw[h1,h2]
         simp only
         have q:=cor_eq hc
         rw[flr_cor h,q.1]
         split
         ·exact⟨rfl,h,rfl⟩
         ·refine⟨rfl,?_,rfl⟩
          rw[List.map_append,List.map_append]
          congr 1
          ·refine map_fcor (fun a b hab=>?_) h
           have e:=cor_eq hab
           unfold snapF
           rw[e.1,q.1]
           split
           ·exact cor_mk ⟨e.1,e.2.1,e.2.2.1,e.2.2.2.1,rfl,e.2.2.2.2.2.1,e.2.2.2.2.2.2.1,e.2.2.2.2.2.2.2.1,rfl,rfl⟩
           ·exact hab
          ·show [cor _]=[cor _]
           congr 1
           exact cor_mk ⟨rfl,rfl,rfl,q.1,q.2.2.2.2.1,rfl,q.2.2.2.2.2.2.1,q.2.2.2.2.2.2.2.1,q.2.2.2.2.2.2.2.2.1,q.2.2.2.2.2.2.2.2.2⟩
theorem cloneA_cor (h:xs.map cor=ys.map cor) (o o2:Option (ByteArray×ByteArray)):E3 (cloneA nx xs o o2) (cloneA nx ys o o2):=by
 unfold cloneA
 cases snapOf o with
 | none=>exact⟨rfl,h,rfl⟩
 | some q=>
   simp only
   cases volOf o2 with
   | none=>exact⟨rfl,h,rfl⟩
   | some a=>
     simp only
     rw[lookOf_cor h,lookOf_cor h,cor_len h]
     cases lookOf ys o with
     | none=>exact⟨rfl,h,rfl⟩
     | some i=>
       simp only
       split
       ·exact⟨rfl,h,rfl⟩
       ·cases lookOf ys o2 with
        | some j=>exact⟨rfl,h,rfl⟩
        | none=>
          simp only
          rcases getc h i with ⟨h1,h2⟩ | ⟨v,w,h1,h2,hc⟩
          ·rw[h1,h2]
           exact⟨rfl,h,rfl⟩
          ·rw[h1,h2]
           simp only
           have q:=cor_eq hc
           rw[q.1,q.2.2.2.2.2.2.1,q.2.2.2.2.2.2.2.1]
           exact⟨rfl,by simp only[List.map_append,h],rfl⟩
theorem clash_cor (h:xs.map cor=ys.map cor) {vid m:Int} (c:Clash xs vid m):Clash ys vid m:=by
 obtain⟨s,hs,h1,h2,j,x,h3,h4,h5⟩:=c
 obtain⟨k,hk⟩:=List.mem_iff_getElem?.1 hs
 obtain⟨s',hk',hcs⟩:=cor_at h hk
 obtain⟨x',hx',hcx⟩:=cor_at h h4
 have e:=cor_eq hcs
 exact⟨s',List.mem_of_getElem? hk',by rw[←e.2.2.1]; exact h1,by rw[←e.2.2.2.1]; exact h2,j,x',by rw[←plcN_cor h]; exact h3,hx',by rw[←e.2.1,h5,(cor_eq hcx).2.1]⟩
open Classical in
theorem promA_cor (h:xs.map cor=ys.map cor) (o:Option (ByteArray×ByteArray)):E3 (promA nx xs o) (promA nx ys o):=by
 unfold promA
 cases volOf o with
 | none=>exact⟨rfl,h,rfl⟩
 | some a=>
   simp only
   rw[lookOf_cor h]
   cases lookOf ys o with
   | none=>exact⟨rfl,h,rfl⟩
   | some i=>
     simp only
     rcases getc h i with ⟨h1,h2⟩ | ⟨v,w,h1,h2,hc⟩
     ·rw[h1,h2]
      exact⟨rfl,h,rfl⟩
     ·rw[h1,h2]
      simp only
      have q:=cor_eq hc
      rw[q.1,wayR_cor h,plcN_cor h]
      cases plcN ys (wayR ys w.id).2 with
      | none=>exact⟨rfl,h,rfl⟩
      | some jo=>
        simp only
        rcases getc h jo with ⟨g1,g2⟩ | ⟨og,oh,g1,g2,gc⟩
        ·rw[g1,g2]
         exact⟨rfl,h,rfl⟩
        ·rw[g1,g2]
         simp only
         have e:=cor_eq gc
         rw[e.1,e.2.2.2.1,wayW_cor h]
         by_cases hcl:∃m∈(wayW ys oh.own 32 oh.id []).1,Clash ys w.id m
         ·rw[if_pos hcl,if_pos (hcl.imp fun m hm=>⟨hm.1,clash_cor h.symm hm.2⟩)]
          exact⟨rfl,h,rfl⟩
         ·rw[if_neg hcl,if_neg fun z=>hcl (z.imp fun m hm=>⟨hm.1,clash_cor h hm.2⟩)]
          refine⟨rfl,map_fcor (fun a b hab=>?_) h,rfl⟩
          have e2:=cor_eq hab
          unfold promF
          rw[e2.1]
          split
          ·exact cor_mk ⟨rfl,e2.2.1,e2.2.2.1,rfl,e2.2.2.2.2⟩
          ·exact hab
theorem backA_cor (h:xs.map cor=ys.map cor) (o:Option (ByteArray×ByteArray)):ES (backA nx xs o) (backA nx ys o):=by
 unfold backA
 cases volOf o with
 | none=>exact⟨rfl,h,rfl,rfl⟩
 | some a=>
   simp only
   rw[lookOf_cor h]
   cases lookOf ys o with
   | none=>exact⟨rfl,h,rfl,rfl⟩
   | some i=>
     simp only
     rcases getc h i with ⟨h1,h2⟩ | ⟨v,w,h1,h2,hc⟩
     ·rw[h1,h2]
      exact⟨rfl,h,rfl,rfl⟩
     ·rw[h1,h2]
      simp only
      have q:=cor_eq hc
      rw[q.2.2.2.2.1,plcN_cor h]
      cases plcN ys w.prev with
      | none=>exact⟨rfl,h,rfl,rfl⟩
      | some jo=>
        simp only
        rcases getc h jo with ⟨g1,g2⟩ | ⟨og,oh,g1,g2,gc⟩
        ·rw[g1,g2]
         exact⟨rfl,h,rfl,rfl⟩
        ·rw[g1,g2]
         simp only
         have e:=cor_eq gc
         refine⟨rfl,map_fcor (fun a b hab=>?_) h,hc,rfl⟩
         have e2:=cor_eq hab
         unfold backF
         rw[e2.1,q.1]
         split
         ·exact cor_mk ⟨e2.1,e2.2.1,e2.2.2.1,e2.2.2.2.1,e2.2.2.2.2.1,e2.2.2.2.2.2.1,e2.2.2.2.2.2.2.1,e.2.2.2.2.2.2.2.1,rfl,rfl⟩
         ·exact hab
theorem dropVolA_cor (h:xs.map cor=ys.map cor) (o:Option (ByteArray×ByteArray)):ES (dropVolA nx xs o) (dropVolA nx ys o):=by
 unfold dropVolA
 cases volOf o with
 | none=>exact⟨rfl,h,rfl,rfl⟩
 | some a=>
   simp only
   rw[lookOf_cor h]
   cases lookOf ys o with
   | none=>exact⟨rfl,h,rfl,rfl⟩
   | some i=>
     simp only
     rcases getc h i with ⟨h1,h2⟩ | ⟨v,w,h1,h2,hc⟩
     ·rw[h1,h2]
      exact⟨rfl,h,rfl,rfl⟩
     ·rw[h1,h2]
      simp only
      have q:=cor_eq hc
      have hf:=congrArg List.length (filter_cor h (fun x=>x.snap && decide (x.own=w.id)) (fun a=>rfl) cor (fun a=>rfl))
      rw[List.length_map,List.length_map] at hf
      rw[q.1,hf]
      split
      ·exact⟨rfl,h,rfl,rfl⟩
      ·exact⟨rfl,filter_cor h (fun r=>!decide (r.id=w.id)) (fun a=>rfl) cor (fun a=>rfl),hc,rfl⟩
theorem dropF_cor {z z' : SetR} (hz:cor z=cor z') (pr:Int) (d:List PtI) (h:xs.map cor=ys.map cor):(xs.map (dropF z pr d)).map cor=(ys.map (dropF z' pr d)).map cor:=by
 refine map_fcor (fun a b hab=>?_) h
 have e2:=cor_eq hab
 unfold dropF
 rw[e2.1,(cor_eq hz).1]
 split
 ·exact cor_mk ⟨e2.1,e2.2.1,e2.2.2.1,e2.2.2.2.1,rfl,e2.2.2.2.2.2.1,e2.2.2.2.2.2.2.1,e2.2.2.2.2.2.2.2.1,rfl,rfl⟩
 ·exact hab
theorem dropSnapA_cor (h:xs.map cor=ys.map cor) (lo:Option Nat) (ok:Bool):EL (dropSnapA nx xs lo ok) (dropSnapA nx ys lo ok):=by
 unfold dropSnapA
 split
 ·exact⟨rfl,h,rfl⟩
 ·cases lo with
  | none=>exact⟨rfl,h,rfl⟩
  | some i=>
    simp only
    rcases getc h i with ⟨h1,h2⟩ | ⟨v,w,h1,h2,hc⟩
    ·rw[h1,h2]
     exact⟨rfl,h,rfl⟩
    ·rw[h1,h2]
     simp only
     have q:=cor_eq hc
     rw[q.1,clL_cor h,nextR_cor h,plcN_cor h,flr_cor h]
     split
     ·exact⟨rfl,h,rfl⟩
     ·cases plcN ys (nextR ys w.id) with
      | none=>exact⟨rfl,h,rfl⟩
      | some j=>
        simp only
        rcases getc h j with ⟨g1,g2⟩ | ⟨z,z',g1,g2,gc⟩
        ·rw[g1,g2]
         exact⟨rfl,h,rfl⟩
        ·rw[g1,g2]
         simp only
         have e:=cor_eq gc
         rw[e.2.2.2.2.2.2.2.2.2,q.2.2.2.2.2.2.2.2.2,q.2.2.2.2.1]
         cases mrg (oldD (flr ys w.id) z'.dead) w.dead with
         | none=>exact⟨rfl,h,rfl⟩
         | some d=>
           simp only
           split
           ·exact⟨rfl,h,rfl⟩
           ·exact⟨rfl,filter_cor (dropF_cor gc _ _ h) (fun r=>!decide (r.id=w.id)) (fun a=>rfl) cor (fun a=>rfl),rfl⟩
theorem killA_cor (h:xs.map cor=ys.map cor) (id:Int) (l:List PtI):EL (killA nx xs id l) (killA nx ys id l):=by
 unfold killA
 rw[plcN_cor h,flr_cor h]
 cases plcN ys id with
 | none=>exact⟨rfl,h,rfl⟩
 | some i=>
   simp only
   rcases getc h i with ⟨h1,h2⟩ | ⟨v,w,h1,h2,hc⟩
   ·rw[h1,h2]
    exact⟨rfl,h,rfl⟩
   ·rw[h1,h2]
    simp only
    have q:=cor_eq hc
    rw[q.2.2.2.2.2.2.2.2.2,q.2.2.2.2.1]
    cases killD (flr ys id) l w.dead [] with
    | none=>exact⟨rfl,h,rfl⟩
    | some x=>exact⟨rfl,dropF_cor hc _ _ h,rfl⟩
theorem actA_cor (h:xs.map cor=ys.map cor) (kind k:Int) (f f2:ByteArray) (id:Int) (l:List PtI):(actA nx xs kind k f f2 id l).1=(actA nx ys kind k f f2 id l).1∧(actA nx xs kind k f f2 id l).2.1.map cor=(actA nx ys kind k f f2 id l).2.1.map cor∧cor (actA nx xs kind k f f2 id l).2.2.1=cor (actA nx ys kind k f f2 id l).2.2.1∧(actA nx xs kind k f f2 id l).2.2.2=(actA nx ys kind k f f2 id l).2.2.2:=by
 have e3:∀{a b:Int×List SetR×Int},E3 a b→a.1=b.1∧a.2.1.map cor=b.2.1.map cor∧cor zeroR=cor zeroR∧(([]:List PtI),a.2.2)=([],b.2.2):=fun q=>⟨q.1,q.2.1,rfl,by rw[q.2.2]⟩
 have es:∀{a b:Int×List SetR×SetR×Int},ES a b→a.1=b.1∧a.2.1.map cor=b.2.1.map cor∧cor a.2.2.1=cor b.2.2.1∧(([]:List PtI),a.2.2.2)=([],b.2.2.2):=fun q=>⟨q.1,q.2.1,q.2.2.1,by rw[q.2.2.2]⟩
 have el:∀{a b:Int×List SetR×List PtI×Int},EL a b→a.1=b.1∧a.2.1.map cor=b.2.1.map cor∧cor zeroR=cor zeroR∧(a.2.2.1,a.2.2.2)=(b.2.2.1,b.2.2.2):=fun q=>⟨q.1,q.2.1,rfl,by rw[q.2.2]⟩
 unfold actA
 split
 ·exact e3 (createF_cor h _ _)
 ·split
  ·exact e3 (snapA_cor h _ _)
  ·split
   ·exact e3 (cloneA_cor h _ _)
   ·split
    ·exact e3 (promA_cor h _)
    ·split
     ·exact es (backA_cor h _)
     ·split
      ·exact es (dropVolA_cor h _)
      ·split
       ·rw[lookOf_cor h]
        exact el (dropSnapA_cor h _ _)
       ·split
        ·exact el (killA_cor h _ _)
        ·exact⟨rfl,h,rfl,rfl⟩
end
end Go.Am
/-
 ANYTHING DONE TO ANY FAMILY:the law,as the abstract machine runs it.
-/
set_option linter.unusedVariables false
set_option linter.unusedSimpArgs false
set_option maxRecDepth 100000
namespace Go.Am
open Go.Proofs
theorem killD_len {fl:Int}:∀{l d g d' g' : List PtI},killD fl l d g=some (d',g')→g'.length≤g.length+l.length
 | [],d,g,d',g',h=>by
   rw[killD_nil] at h
   cases h
   exact Nat.le_refl _
 | q :: l,d,g,d',g',h=>by
   by_cases hq:fl < q.2.1
   ·rw[killD_gone hq] at h
    have:=killD_len h
    simp only[List.length_append,List.length_cons,List.length_nil] at this ⊢
    omega
   ·cases ha:addD d q with
    | none=>rw[killD_none hq ha] at h; cases h
    | some d2=>
      by_cases hl:4000 < d2.length
      ·rw[killD_many hq ha hl] at h; cases h
      ·rw[killD_keep hq ha hl] at h
       have:=killD_len h
       simp only[List.length_cons]
       omega
theorem actA_len {nx:Int} {rs:List SetR} (R:RightP nx rs) (hdn:∀r∈rs,r.dn=r.dead.length) (kind k:Int) (f f2:ByteArray) (id:Int) (l:List PtI):(actA nx rs kind k f f2 id l).2.2.2.1.length≤4000+l.length:=by
 unfold actA
 split
 ·exact Nat.zero_le _
 ·split
  ·exact Nat.zero_le _
  ·split
   ·exact Nat.zero_le _
   ·split
    ·exact Nat.zero_le _
    ·split
     ·exact Nat.zero_le _
     ·split
      ·exact Nat.zero_le _
      ·split
       ·unfold dropSnapA
        split
        ·exact Nat.zero_le _
        ·cases lookOf rs (spl f) with
         | none=>exact Nat.zero_le _
         | some i=>
           simp only
           cases rs[i]? with
           | none=>exact Nat.zero_le _
           | some s=>
             simp only
             split
             ·exact Nat.zero_le _
             ·cases plcN rs (nextR rs s.id) with
              | none=>exact Nat.zero_le _
              | some j=>
                simp only
                cases hz:rs[j]? with
                | none=>exact Nat.zero_le _
                | some z=>
                  simp only
                  cases mrg (oldD (flr rs s.id) z.dead) s.dead with
                  | none=>exact Nat.zero_le _
                  | some d=>
                    simp only
                    split
                    ·exact Nat.zero_le _
                    ·have hzm:=List.mem_of_getElem? hz
                     have h1:=(R.ent hzm).2.2.2.2.2.2.1
                     have h2:=hdn z hzm
                     have h3:(yngD (flr rs s.id) z.dead).length≤z.dead.length:=List.length_filter_le _ _
                     show (yngD (flr rs s.id) z.dead).length≤_
                     omega
       ·split
        ·unfold killA
         cases plcN rs id with
         | none=>exact Nat.zero_le _
         | some i=>
           simp only
           cases rs[i]? with
           | none=>exact Nat.zero_le _
           | some v=>
             simp only
             cases hk:killD (flr rs id) l v.dead [] with
             | none=>exact Nat.zero_le _
             | some x=>
               have:=killD_len hk
               simp only[List.length_nil] at this
               show x.2.length≤_
               omega
        ·exact Nat.zero_le _
section
variable {K:Xs} {h:AH} {p:Option Addr} {n c:Nat} {rs:List SetR} {nx:Int}
end
end Go.Am
/-
 ANYTHING DONE TO ANY FAMILY:the arguments.
-/
set_option linter.unusedVariables false
set_option linter.unusedSimpArgs false
set_option maxRecDepth 100000
namespace Go.Am
open Go.Proofs
theorem rd_actZ {h:AH} {g:Nat} {v:Value} (r:RdV Try.prog h (g+6) 58 v):∃kind kN f f2 id pl m cl l,v=.agg #[.int .i64 kind,.int .i64 kN,.string f,.string f2,.int .u64 id,.slice pl m cl]∧f.size≤9223372036854775806∧f2.size≤9223372036854775806∧(Lit.int .u64 id).wf=true∧DL h pl m l:=by
 unfold RdV at r
 rw[Try.underlying58] at r
 obtain⟨cs,rfl,r⟩:=r
 unfold Rd at r
 rw[Try.underlying58] at r
 have hc1:Try.prog.cellsOf 3=1:=by simp
 have hc2:Try.prog.cellsOf 22=1:=by simp
 have hc3:Try.prog.cellsOf 9=1:=by simp
 have hc6:Try.prog.cellsOf 26=1:=by simp
 simp only[List.map_cons,List.map_nil,RdL,hc1,hc2,hc3,hc6,List.drop_drop] at r
 obtain⟨k1,r1,k2,r2,k3,r3,k4,r4,k5,r5,k6,r6,r7⟩:=r
 unfold Rd at r1 r2 r3 r4 r5
 rw[Try.underlying3] at r1 r2
 rw[Try.underlying9] at r3 r4
 rw[Try.underlying22] at r5
 obtain⟨x1,e1,w1⟩:=r1
 obtain⟨x2,e2,w2⟩:=r2
 obtain⟨x3,e3,-,w3⟩:=r3
 obtain⟨x4,e4,-,w4⟩:=r4
 obtain⟨x5,e5,w5⟩:=r5
 have hre:reachBytes=140737488351232:=rfl
 match cs,e1,e2,e3,e4,e5,r6,r7,k6 with
 | [c0,c1,c2,c3,c4,c5],e1,e2,e3,e4,e5,r6,r7,k6=>
   have r6' : Rd Try.prog h (g+5) 26 [c5]:=r6
   obtain⟨p,n,c,ds,rfl,f1,f2,f3,f4,f5⟩:=rd_ptrsX (g:=g+2) r6'
   simp at e1 e2 e3 e4 e5
   subst e1 e2 e3 e4 e5
   exact⟨x1,x2,x3,x4,x5,p,n,c,ds,rfl,by omega,by omega,w5,⟨f4,f5,f3,f1⟩⟩
 | c0 :: c1 :: c2 :: c3 :: c4 :: c5 :: c6 :: l,e1,e2,e3,e4,e5,r6,r7,k6=>simp at r7
end Go.Am
