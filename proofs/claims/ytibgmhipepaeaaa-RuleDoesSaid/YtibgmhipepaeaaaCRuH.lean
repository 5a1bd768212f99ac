/-
  BOOKS: a copy, the same.
-/
import Derived.Test.YtibgmhipepaeaaaCRuG
set_option linter.unusedVariables false
set_option linter.unusedSimpArgs false
set_option maxRecDepth 100000
namespace Go.Am
open Go.Proofs
def OwnK (lim:Nat) (g:AH) (p:Option Addr) (xs:List SetR):Prop:=∀r∈xs,RecOk g r∧∀a,r.dp=some a→lim≤a.block∧apart p a.block
section
variable {K:Xs} {h:AH} {p:Option Addr} {n c:Nat} {rs:List SetR} {nx:Int}
theorem copy15K (kk:KRef15 K) (T:Sets h p n rs) (hn40:n≤1000):Wf Try.prog K 24 [.slice p n c] h fun v h'=>∃p' c' rs',v=.slice p' n c'∧Grow h.next h' 28 11 p' n c' (setsC rs')∧OwnK h.next h' p' rs'∧rs'.map cor=rs.map cor∧Old h h':=by
 have hn:=T.1
 refine vc_aquiferref15_Copy kk.copy _ _ _ h _ fun g0 e0=>?_
 have o0:=old_of_alloc e0
 have n0:=next_of_alloc e0
 refine⟨fun p n' c i k g=>∃(u:Nat) (xs:List SetR),i=u∧n'= u∧u≤n∧n - u=k∧Old h g∧Grow h.next g 28 11 p n' c (setsC xs)∧OwnK h.next g p xs∧xs.map cor=(rs.take u).map cor,⟨_,0,[],rfl,rfl,Nat.zero_le _,rfl,o0,Grow.lit e0 rfl (Nat.le_refl _),fun r hr=>(List.not_mem_nil hr).elim,rfl⟩,?_⟩
 rintro k2 g3 p5 n6 c7 i8 ⟨u,xs,rfl,rfl,hu,rfl,o3,G3,hok,hx⟩
 refine⟨fun z=>?_,fun z=>?_⟩
 ·obtain⟨b,off,rfl,hi',hl,h1,ok⟩:=(T.old o3).at (i:=n6) (by omega)
  have hru:=List.getElem?_eq_getElem hi'
  have htk:=List.take_succ_eq_append_getElem hi'
  have hr0:=ok.room
  generalize rs[n6]=r at hl h1 ok hru htk hr0
  refine derefP_at ⟨by omega,z,_,_,_,_,_,_,_,_,_,_,_,_,_,by rw[Int.toNat_natCast]; exact hl,fun g24 e24=>?_⟩
  obtain⟨g25,k25,n25,o25,v25⟩:=put_new e24 (vs:=setC r) rfl
  have w25:=v25 [] (fun c hc=>by cases hc)
  refine⟨rfl,g25,k25,fun g26 e26=>?_⟩
  have o26:=old_of_alloc e26
  have n26:=next_of_alloc e26
  have w26:=w25.old o26
  obtain⟨p30,c30,g33,k33,G33,hob,-,-⟩:=(Grow.lit (n:=0) (sz:=3) e26 rfl (Nat.le_refl _)).append ePtrF (by omega) (x:=.slice r.dp r.dn r.dc) (m:=r.dn) rfl (((ok.shows.old o25).old o26).firstC ok.form) ok.shows.1 (by simp only[reachBytes,roomMax] at *; omega) (by simp only[reachBytes] at *; omega) ⟨_,ePtrF.1⟩
  rw[Nat.zero_add] at k33 G33
  rw[List.nil_append] at G33
  have w33:g33.get g3.next=some (.cells (setC r) 28 false):=(hob.2 _ (by omega)).trans w26.1
  have nr34:=near_set g3.next g33 (.cells (setC { r with dp:=p30,dc:=c30 }) 28 false)
  have w34:(g33.set g3.next (.cells (setC { r with dp:=p30,dc:=c30 }) 28 false)).get g3.next=_:=get_set_self _ _ _
  refine⟨_,_,_,ld1_at w26.1 rfl,_,_,_,g33,k33,g33.set g3.next (.cells (setC { r with dp:=p30,dc:=c30 }) 28 false),st1_of w33 (by simp[setC]),?_⟩
  generalize g33.set g3.next (.cells (setC { r with dp:=p30,dc:=c30 }) 28 false)=g34 at nr34 w34
  have l33:=hob.1
  have o34:Old g3 g34:=⟨by rw[nr34.1]; omega,fun c hc=>by rw[nr34.2 c (by omega),hob.2 c (by omega),o26.2 c (by omega),o25.2 c hc]⟩
  have G34:Grow g25.next g34 25 3 p30 r.dn c30 (ptI r.dead):=G33.near nr34 (by omega) (Nat.le_refl _)
  have ok34:SetOk g34 { r with dp:=p30,dc:=c30 }:={ id:=ok.id,own:=ok.own,prev:=ok.prev,stamp:=ok.stamp,root:=ok.root,dead:=ok.dead,form:=G34.form,room:=ok.room,len:=ok.len,shows:=G34.shows }
  have o3':=o3.1
  have o34':=o34.1
  refine⟨_,_,_,_,_,_,_,_,_,_,_,_,_,ldN_all w34 rfl,fun g48 e48=>?_⟩
  obtain⟨p49,c51,g52,k52,G52,hob2,hap,hnew⟩:=(G3.old o34).push eSetF (by omega) (m:=1) (ns:=setC { r with dp:=p30,dc:=c30 }) e48 rfl (by simp only[roomMax]; omega) (by omega)
  have l52:=hob2.1
  refine⟨_,_,_,g52,k52,fun i53 e53=>?_⟩
  have e53:=i64w e53 (by omega) (by omega)
  obtain⟨bn,rfl,hbn⟩:=hnew (by omega)
  have p5b:∀a,p5=some a→a.block < g3.next:=fun a e=>(G3.block e).2
  refine⟨n - (n6+1),by omega,n6+1,xs ++ [{ r with dp:=p30,dc:=c30 }],by omega,rfl,by omega,rfl,⟨by omega,fun c hc=>by rw[hob2.2 c hc,o34.2 c (by omega),o3.2 c hc]⟩,by rw[setsC_app,setsC_one]; exact G52,fun r' hr'=>?_,?_⟩
  ·rcases List.mem_append.1 hr' with hm | hm
   ·obtain⟨q1,q2⟩:=hok r' hm
    refine⟨(q1.old o34).kept l52 fun a e=>hap _ (by have:=q1.2.2 a e; omega) (q2 a e).2,fun a e=>⟨(q2 a e).1,?_⟩⟩
    show bn≠a.block
    have:=q1.2.2 a e
    omega
   ·rw[List.mem_singleton] at hm
    subst hm
    refine⟨RecOk.kept (g:=g34) ⟨ok34,G34.cutQ (by simp only[reachBytes,openCap] at *; omega),fun a e=>(G34.block e).2⟩ l52 fun a e=>hap _ (G34.block e).2 ?_,fun a e=>⟨by have:=(G34.block e).1; omega,?_⟩⟩
    ·have hb:=(G34.block e).1
     cases p5 with
     | none=>trivial
     | some a5=>
       have:=p5b a5 rfl
       show a5.block≠_
       omega
    ·show bn≠a.block
     have:=(G34.block e).2
     omega
  ·rw[htk,List.map_append,List.map_append,hx]
   rfl
 ·obtain rfl:n6=n:=by omega
  rw[List.take_of_length_le (by omega)] at hx
  exact⟨_,_,xs,rfl,G3,hok,hx,o3⟩
theorem copy17 (kk:KRef17 K) (T:Sets h p n rs) (hn40:n≤1000):Wf Try.prog K 35 [.agg #[.int .u64 nx,.slice p n c]] h fun v h'=>∃p' c' rs',v=.agg #[.int .u64 nx,.slice p' n c']∧BookOk h' p' n rs'∧rs'.map cor=rs.map cor∧Old h h':=by
 refine vc_aquiferref17_Copy kk.copy _ _ _ _ h _ fun g0 e0 g1 e1=>?_
 have d1:=HdB.of e0 e1
 have l1:=d1.lt
 have l0:=d1.n0
 refine⟨_,_,_,d1.sl,(copy15K kk.r16.r15 (c:=c) (T.old d1.o) hn40).mono ?_⟩
 rintro _ g6 ⟨p',c',rs',rfl,G,O,hc,o6⟩
 have d6:=d1.old o6
 have l6:=o6.1
 have s1:=near_set g0.next g6 (.cells [.int .u64 nx,.slice p' n c'] 36 false)
 have G':=G.near s1 (by omega) (Nat.le_refl _)
 refine⟨_,_,_,rfl,_,d6.nx,rfl,_,stN_all d6.c1 rfl,d1.nx,d6.nx,_,_,_,_,ldN_all (get_set_self _ _ _) rfl,p',c',rs',rfl,?_,hc,near_old d6.o s1 (by omega)⟩
 have ok:∀r∈rs',RecOk (g6.set g0.next (.cells [.int .u64 nx,.slice p' n c'] 36 false)) r:=fun r hr=>(O r hr).1.kept (by rw[s1.1]; exact Nat.le_refl _) fun a ha=>s1.2 _ (by have:=((O r hr).2 a ha).1; omega)
 exact⟨grow_sets G' (by omega) fun r hr=>(ok r hr).1,ok⟩
theorem same17 (kk:KRef17 K) {i j:Int} {xs ys:List SetR} {p2:Option Addr} {n2 c2:Nat} (S:Sets h p n xs) (T:Sets h p2 n2 ys):Wf Try.prog K 38 [.agg #[.int .u64 i,.slice p n c],.agg #[.int .u64 j,.slice p2 n2 c2]] h fun v h'=>BoolIs v (i=j∧xs.map cor=ys.map cor)∧Old h h':=by
 refine vc_aquiferref17_Same kk.same _ _ _ _ _ _ _ _ h _ fun g0 e0 g1 e1=>?_
 have o0:=old_of_alloc e0
 have o1:=old_of_alloc e1
 have n0:=next_of_alloc e0
 have o01:=o0.trans o1
 have w0:=(o1.2 h.next (by omega)).trans (get_of_alloc e0)
 have w1:=get_of_alloc e1
 refine⟨_,ld1_at w0 rfl,_,ld1_at w1 rfl,fun q=>⟨_,_,_,ld1_at w0 rfl,_,_,_,ld1_at w1 rfl,(sameList15 kk.r16.r15 (c:=c) (c2:=c2) (S.old o01) (T.old o01)).mono ?_⟩,fun q=>⟨.inr ⟨rfl,fun z=>q z.1⟩,o01⟩⟩
 rintro _ g11 ⟨⟨rfl,k⟩ | ⟨rfl,k⟩,o11⟩
 ·exact .inl ⟨rfl,.inl ⟨rfl,q,k⟩,o01.trans o11⟩
 ·exact .inr ⟨rfl,.inr ⟨rfl,fun z=>k z.2⟩,o01.trans o11⟩
theorem put2 {g g1 g2:AH} {i:Int} {p' : Option Addr} {n' c' : Nat} {s:SetR} (e1:g1=g.alloc (.cells [.int .u64 0,.slice none 0 0] 36 false)) (e2:g2=g1.alloc (.cells (setC zeroR) 28 false)):
 ∃g3 g4,stN g2 g.next 0 [.int .u64 i,.slice p' n' c']=some g3∧stN g3 g1.next 0 (setC s)=some g4∧Old g g4∧g.next < g4.next∧g1.next < g4.next∧g4.get g.next=some (.cells [.int .u64 i,.slice p' n' c'] 36 false)∧g4.get g1.next=some (.cells (setC s) 28 false):=by
 have o1:=old_of_alloc e1
 have o2:=old_of_alloc e2
 have n1:=next_of_alloc e1
 have n2:=next_of_alloc e2
 have w1:=(o2.2 g.next (by omega)).trans (get_of_alloc e1)
 have s1:=near_set g.next g2 (.cells [.int .u64 i,.slice p' n' c'] 36 false)
 have w2:=(s1.2 g1.next (by omega)).trans (get_of_alloc e2)
 have s2:=near_set g1.next (g2.set g.next (.cells [.int .u64 i,.slice p' n' c'] 36 false)) (.cells (setC s) 28 false)
 have hx:((g2.set g.next (.cells [.int .u64 i,.slice p' n' c'] 36 false)).set g1.next (.cells (setC s) 28 false)).next=g2.next:=rfl
 exact⟨_,_,stN_all w1 rfl,stN_all w2 rfl,near_old (near_old (o1.trans o2) s1 (Nat.le_refl _)) s2 (by omega),by rw[hx]; omega,by rw[hx]; omega,(s2.2 _ (by omega)).trans (get_set_self _ _ _),get_set_self _ _ _⟩
end
end Go.Am
/-
 BOOKS:acts on copies.
-/
set_option linter.unusedVariables false
set_option linter.unusedSimpArgs false
set_option maxRecDepth 100000
namespace Go.Am
open Go.Proofs
theorem getc {xs ys:List SetR} (h:xs.map cor=ys.map cor) (i:Nat):(xs[i]?= none∧ys[i]?= none)∨∃a b,xs[i]?= some a∧ys[i]?= some b∧cor a=cor b:=by
 cases hx:xs[i]? with
 | none=>
   refine .inl ⟨rfl,?_⟩
   rw[List.getElem?_eq_none_iff] at hx ⊢
   rw[←cor_len h]
   exact hx
 | some a=>
   obtain⟨b,hb,hc⟩:=cor_at h hx
   exact .inr ⟨a,b,rfl,hb,hc⟩
theorem map_fcor {f g:SetR→SetR} (hf:∀a b,cor a=cor b→cor (f a)=cor (g b)):∀{xs ys:List SetR},xs.map cor=ys.map cor→(xs.map f).map cor=(ys.map g).map cor
 | [],[],_=>rfl
 | [],_ :: _,h=>by cases h
 | _ :: _,[],h=>by cases h
 | a :: xs,b :: ys,h=>by
   rw[List.map_cons,List.map_cons] at h
   injection h with h1 h2
   rw[List.map_cons,List.map_cons,List.map_cons,List.map_cons,hf a b h1,map_fcor hf h2]
section
variable {xs ys:List SetR} {nx:Int}
theorem lookOf_cor (h:xs.map cor=ys.map cor) (o:Option (ByteArray×ByteArray)):lookOf xs o=lookOf ys o:=by
 unfold lookOf
 cases o with
 | none=>rfl
 | some q=>exact lookN_cor h q.1 q.2
def E3 (a b:Int×List SetR×Int):Prop:=a.1=b.1∧a.2.1.map cor=b.2.1.map cor∧a.2.2=b.2.2
def ES (a b:Int×List SetR×SetR×Int):Prop:=a.1=b.1∧a.2.1.map cor=b.2.1.map cor∧cor a.2.2.1=cor b.2.2.1∧a.2.2.2=b.2.2.2
def EL (a b:Int×List SetR×List PtI×Int):Prop:=a.1=b.1∧a.2.1.map cor=b.2.1.map cor∧a.2.2=b.2.2
theorem createF_cor (h:xs.map cor=ys.map cor) (o:Option (ByteArray×ByteArray)) (k:Int):E3 (createF nx xs o k) (createF nx ys o k):=by
 unfold createF
 rw[lookOf_cor h,cor_len h]
 cases volOf o with
 | none=>exact⟨rfl,h,rfl⟩
 | some a=>
   simp only
   split
   ·exact⟨rfl,h,rfl⟩
   ·split
    ·exact⟨rfl,h,rfl⟩
    ·cases lookOf ys o with
     | some i=>exact⟨rfl,h,rfl⟩
     | none=>exact⟨rfl,by simp only[List.map_append,h],rfl⟩
theorem snapA_cor (h:xs.map cor=ys.map cor) (o:Option (ByteArray×ByteArray)) (st:Int):E3 (snapA nx xs o st) (snapA nx ys o st):=by
 unfold snapA
 cases snapOf o with
 | none=>exact⟨rfl,h,rfl⟩
 | some q=>
   obtain⟨a,b⟩:=q
   simp only
   rw[lookN_cor h,lookOf_cor h,cor_len h]
   cases lookN ys a noB with
   | none=>exact⟨rfl,h,rfl⟩
   | some i=>
     simp only
     split
     ·exact⟨rfl,h,rfl⟩
     ·cases lookOf ys o with
      | some j=>exact⟨rfl,h,rfl⟩
      | none=>
        simp only
        rcases getc h i with ⟨h1,h2⟩ | ⟨v,w,h1,h2,hc⟩
        ·rw[h1,h2]
         exact⟨rfl,h,rfl⟩
        ·rw[h1,h2]
         simp only
         have q:=cor_eq hc
         rw[flr_cor h,q.1]
         split
         ·exact⟨rfl,h,rfl⟩
         ·refine⟨rfl,?_,rfl⟩
          rw[List.map_append,List.map_append]
          congr 1
          ·refine map_fcor (fun a b hab=>?_) h
           have e:=cor_eq hab
           unfold snapF
           rw[e.1,q.1]
           split
           ·exact cor_mk ⟨e.1,e.2.1,e.2.2.1,e.2.2.2.1,rfl,e.2.2.2.2.2.1,e.2.2.2.2.2.2.1,e.2.2.2.2.2.2.2.1,rfl,rfl⟩
           ·exact hab
          ·show [cor _]=[cor _]
           congr 1
           exact cor_mk ⟨rfl,rfl,rfl,q.1,q.2.2.2.2.1,rfl,q.2.2.2.2.2.2.1,q.2.2.2.2.2.2.2.1,q.2.2.2.2.2.2.2.2.1,q.2.2.2.2.2.2.2.2.2⟩
theorem cloneA_cor (h:xs.map cor=ys.map cor) (o o2:Option (ByteArray×ByteArray)):E3 (cloneA nx xs o o2) (cloneA nx ys o o2):=by
 unfold cloneA
 cases snapOf o with
 | none=>exact⟨rfl,h,rfl⟩
 | some q=>
   simp only
   cases volOf o2 with
   | none=>exact⟨rfl,h,rfl⟩
   | some a=>
     simp only
     rw[lookOf_cor h,lookOf_cor h,cor_len h]
     cases lookOf ys o with
     | none=>exact⟨rfl,h,rfl⟩
     | some i=>
       simp only
       split
       ·exact⟨rfl,h,rfl⟩
       ·cases lookOf ys o2 with
        | some j=>exact⟨rfl,h,rfl⟩
        | none=>
          simp only
          rcases getc h i with ⟨h1,h2⟩ | ⟨v,w,h1,h2,hc⟩
          ·rw[h1,h2]
           exact⟨rfl,h,rfl⟩
          ·rw[h1,h2]
           simp only
           have q:=cor_eq hc
           rw[q.1,q.2.2.2.2.2.2.1,q.2.2.2.2.2.2.2.1]
           exact⟨rfl,by simp only[List.map_append,h],rfl⟩
theorem clash_cor (h:xs.map cor=ys.map cor) {vid m:Int} (c:Clash xs vid m):Clash ys vid m:=by
 obtain⟨s,hs,h1,h2,j,x,h3,h4,h5⟩:=c
 obtain⟨k,hk⟩:=List.mem_iff_getElem?.1 hs
 obtain⟨s',hk',hcs⟩:=cor_at h hk
 obtain⟨x',hx',hcx⟩:=cor_at h h4
 have e:=cor_eq hcs
 exact⟨s',List.mem_of_getElem? hk',by rw[←e.2.2.1]; exact h1,by rw[←e.2.2.2.1]; exact h2,j,x',by rw[←plcN_cor h]; exact h3,hx',by rw[←e.2.1,h5,(cor_eq hcx).2.1]⟩
open Classical in
theorem promA_cor (h:xs.map cor=ys.map cor) (o:Option (ByteArray×ByteArray)):E3 (promA nx xs o) (promA nx ys o):=by
 unfold promA
 cases volOf o with
 | none=>exact⟨rfl,h,rfl⟩
 | some a=>
   simp only
   rw[lookOf_cor h]
   cases lookOf ys o with
   | none=>exact⟨rfl,h,rfl⟩
   | some i=>
     simp only
     rcases getc h i with ⟨h1,h2⟩ | ⟨v,w,h1,h2,hc⟩
     ·rw[h1,h2]
      exact⟨rfl,h,rfl⟩
     ·rw[h1,h2]
      simp only
      have q:=cor_eq hc
      rw[q.1,wayR_cor h,plcN_cor h]
      cases plcN ys (wayR ys w.id).2 with
      | none=>exact⟨rfl,h,rfl⟩
      | some jo=>
        simp only
        rcases getc h jo with ⟨g1,g2⟩ | ⟨og,oh,g1,g2,gc⟩
        ·rw[g1,g2]
         exact⟨rfl,h,rfl⟩
        ·rw[g1,g2]
         simp only
         have e:=cor_eq gc
         rw[e.1,e.2.2.2.1,wayW_cor h]
         by_cases hcl:∃m∈(wayW ys oh.own 32 oh.id []).1,Clash ys w.id m
         ·rw[if_pos hcl,if_pos (hcl.imp fun m hm=>⟨hm.1,clash_cor h.symm hm.2⟩)]
          exact⟨rfl,h,rfl⟩
         ·rw[if_neg hcl,if_neg fun z=>hcl (z.imp fun m hm=>⟨hm.1,clash_cor h hm.2⟩)]
          refine⟨rfl,map_fcor (fun a b hab=>?_) h,rfl⟩
          have e2:=cor_eq hab
          unfold promF
          rw[e2.1]
          split
          ·exact cor_mk ⟨rfl,e2.2.1,e2.2.2.1,rfl,e2.2.2.2.2⟩
          ·exact hab
theorem backA_cor (h:xs.map cor=ys.map cor) (o:Option (ByteArray×ByteArray)):ES (backA nx xs o) (backA nx ys o):=by
 unfold backA
 cases volOf o with
 | none=>exact⟨rfl,h,rfl,rfl⟩
 | some a=>
   simp only
   rw[lookOf_cor h]
   cases lookOf ys o with
   | none=>exact⟨rfl,h,rfl,rfl⟩
   | some i=>
     simp only
     rcases getc h i with ⟨h1,h2⟩ | ⟨v,w,h1,h2,hc⟩
     ·rw[h1,h2]
      exact⟨rfl,h,rfl,rfl⟩
     ·rw[h1,h2]
      simp only
      have q:=cor_eq hc
      rw[q.2.2.2.2.1,plcN_cor h]
      cases plcN ys w.prev with
      | none=>exact⟨rfl,h,rfl,rfl⟩
      | some jo=>
        simp only
        rcases getc h jo with ⟨g1,g2⟩ | ⟨og,oh,g1,g2,gc⟩
        ·rw[g1,g2]
         exact⟨rfl,h,rfl,rfl⟩
        ·rw[g1,g2]
         simp only
         have e:=cor_eq gc
         refine⟨rfl,map_fcor (fun a b hab=>?_) h,hc,rfl⟩
         have e2:=cor_eq hab
         unfold backF
         rw[e2.1,q.1]
         split
         ·exact cor_mk ⟨e2.1,e2.2.1,e2.2.2.1,e2.2.2.2.1,e2.2.2.2.2.1,e2.2.2.2.2.2.1,e2.2.2.2.2.2.2.1,e.2.2.2.2.2.2.2.1,rfl,rfl⟩
         ·exact hab
theorem dropVolA_cor (h:xs.map cor=ys.map cor) (o:Option (ByteArray×ByteArray)):ES (dropVolA nx xs o) (dropVolA nx ys o):=by
 unfold dropVolA
 cases volOf o with
 | none=>exact⟨rfl,h,rfl,rfl⟩
 | some a=>
   simp only
   rw[lookOf_cor h]
   cases lookOf ys o with
   | none=>exact⟨rfl,h,rfl,rfl⟩
   | some i=>
     simp only
     rcases getc h i with ⟨h1,h2⟩ | ⟨v,w,h1,h2,hc⟩
     ·rw[h1,h2]
      exact⟨rfl,h,rfl,rfl⟩
     ·rw[h1,h2]
      simp only
      have q:=cor_eq hc
      have hf:=congrArg List.length (filter_cor h (fun x=>x.snap && decide (x.own=w.id)) (fun a=>rfl) cor (fun a=>rfl))
      rw[List.length_map,List.length_map] at hf
      rw[q.1,hf]
      split
      ·exact⟨rfl,h,rfl,rfl⟩
      ·exact⟨rfl,filter_cor h (fun r=>!decide (r.id=w.id)) (fun a=>rfl) cor (fun a=>rfl),hc,rfl⟩
theorem dropF_cor {z z' : SetR} (hz:cor z=cor z') (pr:Int) (d:List PtI) (h:xs.map cor=ys.map cor):(xs.map (dropF z pr d)).map cor=(ys.map (dropF z' pr d)).map cor:=by
 refine map_fcor (fun a b hab=>?_) h
 have e2:=cor_eq hab
 unfold dropF
 rw[e2.1,(cor_eq hz).1]
 split
 ·exact cor_mk ⟨e2.1,e2.2.1,e2.2.2.1,e2.2.2.2.1,rfl,e2.2.2.2.2.2.1,e2.2.2.2.2.2.2.1,e2.2.2.2.2.2.2.2.1,rfl,rfl⟩
 ·exact hab
theorem dropSnapA_cor (h:xs.map cor=ys.map cor) (lo:Option Nat) (ok:Bool):EL (dropSnapA nx xs lo ok) (dropSnapA nx ys lo ok):=by
 unfold dropSnapA
 split
 ·exact⟨rfl,h,rfl⟩
 ·cases lo with
  | none=>exact⟨rfl,h,rfl⟩
  | some i=>
    simp only
    rcases getc h i with ⟨h1,h2⟩ | ⟨v,w,h1,h2,hc⟩
    ·rw[h1,h2]
     exact⟨rfl,h,rfl⟩
    ·rw[h1,h2]
     simp only
     have q:=cor_eq hc
     rw[q.1,clL_cor h,nextR_cor h,plcN_cor h,flr_cor h]
     split
     ·exact⟨rfl,h,rfl⟩
     ·cases plcN ys (nextR ys w.id) with
      | none=>exact⟨rfl,h,rfl⟩
      | some j=>
        simp only
        rcases getc h j with ⟨g1,g2⟩ | ⟨z,z',g1,g2,gc⟩
        ·rw[g1,g2]
         exact⟨rfl,h,rfl⟩
        ·rw[g1,g2]
         simp only
         have e:=cor_eq gc
         rw[e.2.2.2.2.2.2.2.2.2,q.2.2.2.2.2.2.2.2.2,q.2.2.2.2.1]
         cases mrg (oldD (flr ys w.id) z'.dead) w.dead with
         | none=>exact⟨rfl,h,rfl⟩
         | some d=>
           simp only
           split
           ·exact⟨rfl,h,rfl⟩
           ·exact⟨rfl,filter_cor (dropF_cor gc _ _ h) (fun r=>!decide (r.id=w.id)) (fun a=>rfl) cor (fun a=>rfl),rfl⟩
theorem killA_cor (h:xs.map cor=ys.map cor) (id:Int) (l:List PtI):EL (killA nx xs id l) (killA nx ys id l):=by
 unfold killA
 rw[plcN_cor h,flr_cor h]
 cases plcN ys id with
 | none=>exact⟨rfl,h,rfl⟩
 | some i=>
   simp only
   rcases getc h i with ⟨h1,h2⟩ | ⟨v,w,h1,h2,hc⟩
   ·rw[h1,h2]
    exact⟨rfl,h,rfl⟩
   ·rw[h1,h2]
    simp only
    have q:=cor_eq hc
    rw[q.2.2.2.2.2.2.2.2.2,q.2.2.2.2.1]
    cases killD (flr ys id) l w.dead [] with
    | none=>exact⟨rfl,h,rfl⟩
    | some x=>exact⟨rfl,dropF_cor hc _ _ h,rfl⟩
theorem actA_cor (h:xs.map cor=ys.map cor) (kind k:Int) (f f2:ByteArray) (id:Int) (l:List PtI):(actA nx xs kind k f f2 id l).1=(actA nx ys kind k f f2 id l).1∧(actA nx xs kind k f f2 id l).2.1.map cor=(actA nx ys kind k f f2 id l).2.1.map cor∧cor (actA nx xs kind k f f2 id l).2.2.1=cor (actA nx ys kind k f f2 id l).2.2.1∧(actA nx xs kind k f f2 id l).2.2.2=(actA nx ys kind k f f2 id l).2.2.2:=by
 have e3:∀{a b:Int×List SetR×Int},E3 a b→a.1=b.1∧a.2.1.map cor=b.2.1.map cor∧cor zeroR=cor zeroR∧(([]:List PtI),a.2.2)=([],b.2.2):=fun q=>⟨q.1,q.2.1,rfl,by rw[q.2.2]⟩
 have es:∀{a b:Int×List SetR×SetR×Int},ES a b→a.1=b.1∧a.2.1.map cor=b.2.1.map cor∧cor a.2.2.1=cor b.2.2.1∧(([]:List PtI),a.2.2.2)=([],b.2.2.2):=fun q=>⟨q.1,q.2.1,q.2.2.1,by rw[q.2.2.2]⟩
 have el:∀{a b:Int×List SetR×List PtI×Int},EL a b→a.1=b.1∧a.2.1.map cor=b.2.1.map cor∧cor zeroR=cor zeroR∧(a.2.2.1,a.2.2.2)=(b.2.2.1,b.2.2.2):=fun q=>⟨q.1,q.2.1,rfl,by rw[q.2.2]⟩
 unfold actA
 split
 ·exact e3 (createF_cor h _ _)
 ·split
  ·exact e3 (snapA_cor h _ _)
  ·split
   ·exact e3 (cloneA_cor h _ _)
   ·split
    ·exact e3 (promA_cor h _)
    ·split
     ·exact es (backA_cor h _)
     ·split
      ·exact es (dropVolA_cor h _)
      ·split
       ·rw[lookOf_cor h]
        exact el (dropSnapA_cor h _ _)
       ·split
        ·exact el (killA_cor h _ _)
        ·exact⟨rfl,h,rfl,rfl⟩
end
end Go.Am
/-
 ANYTHING DONE TO ANY FAMILY:the law,as the abstract machine runs it.
-/
set_option linter.unusedVariables false
set_option linter.unusedSimpArgs false
set_option maxRecDepth 100000
namespace Go.Am
open Go.Proofs
theorem killD_len {fl:Int}:∀{l d g d' g' : List PtI},killD fl l d g=some (d',g')→g'.length≤g.length+l.length
 | [],d,g,d',g',h=>by
   rw[killD_nil] at h
   cases h
   exact Nat.le_refl _
 | q :: l,d,g,d',g',h=>by
   by_cases hq:fl < q.2.1
   ·rw[killD_gone hq] at h
    have:=killD_len h
    simp only[List.length_append,List.length_cons,List.length_nil] at this ⊢
    omega
   ·cases ha:addD d q with
    | none=>rw[killD_none hq ha] at h; cases h
    | some d2=>
      by_cases hl:4000 < d2.length
      ·rw[killD_many hq ha hl] at h; cases h
      ·rw[killD_keep hq ha hl] at h
       have:=killD_len h
       simp only[List.length_cons]
       omega
theorem actA_len {nx:Int} {rs:List SetR} (R:RightP nx rs) (hdn:∀r∈rs,r.dn=r.dead.length) (kind k:Int) (f f2:ByteArray) (id:Int) (l:List PtI):(actA nx rs kind k f f2 id l).2.2.2.1.length≤4000+l.length:=by
 unfold actA
 split
 ·exact Nat.zero_le _
 ·split
  ·exact Nat.zero_le _
  ·split
   ·exact Nat.zero_le _
   ·split
    ·exact Nat.zero_le _
    ·split
     ·exact Nat.zero_le _
     ·split
      ·exact Nat.zero_le _
      ·split
       ·unfold dropSnapA
        split
        ·exact Nat.zero_le _
        ·cases lookOf rs (spl f) with
         | none=>exact Nat.zero_le _
         | some i=>
           simp only
           cases rs[i]? with
           | none=>exact Nat.zero_le _
           | some s=>
             simp only
             split
             ·exact Nat.zero_le _
             ·cases plcN rs (nextR rs s.id) with
              | none=>exact Nat.zero_le _
              | some j=>
                simp only
                cases hz:rs[j]? with
                | none=>exact Nat.zero_le _
                | some z=>
                  simp only
                  cases mrg (oldD (flr rs s.id) z.dead) s.dead with
                  | none=>exact Nat.zero_le _
                  | some d=>
                    simp only
                    split
                    ·exact Nat.zero_le _
                    ·have hzm:=List.mem_of_getElem? hz
                     have h1:=(R.ent hzm).2.2.2.2.2.2.1
                     have h2:=hdn z hzm
                     have h3:(yngD (flr rs s.id) z.dead).length≤z.dead.length:=List.length_filter_le _ _
                     show (yngD (flr rs s.id) z.dead).length≤_
                     omega
       ·split
        ·unfold killA
         cases plcN rs id with
         | none=>exact Nat.zero_le _
         | some i=>
           simp only
           cases rs[i]? with
           | none=>exact Nat.zero_le _
           | some v=>
             simp only
             cases hk:killD (flr rs id) l v.dead [] with
             | none=>exact Nat.zero_le _
             | some x=>
               have:=killD_len hk
               simp only[List.length_nil] at this
               show x.2.length≤_
               omega
        ·exact Nat.zero_le _
section
variable {K:Xs} {h:AH} {p:Option Addr} {n c:Nat} {rs:List SetR} {nx:Int}
theorem doesTrue (hk:K 9=none) (ha:K 15=some (.sum xTrue)) (kl:KLaw17 K) (kp:KActs6 K) (kk:KRef17 K) (kr:K 23=none) (T:Sets h p n rs) (form:FormP p) (kind kN:Int) (f f2:ByteArray) (hf:f.size≤9223372036854775806) (hf2:f2.size≤9223372036854775806) (id:Int) (hid:(Lit.int .u64 id).wf=true) {pl:Option Addr} {m cl:Nat} {l:List PtI} (DLl:DL h pl m l):
 Wf Try.prog K 9 [.agg #[.int .u64 nx,.slice p n c],.agg #[.int .i64 kind,.int .i64 kN,.string f,.string f2,.int .u64 id,.slice pl m cl]] h fun v _=>v=.bool true:=by
 have hn:=T.1
 refine vc_aquiferlaw17_RuleDoes hk _ _ _ _ _ _ _ _ _ _ _ _ h _ fun g0 e0 g1 e1=>Wf_sum ha (v:=.bool true) (h':=g1) rfl (Nat.le_refl _) (.inl ⟨rfl,?_⟩)
 have o0:=old_of_alloc e0
 have o1:=old_of_alloc e1
 have n0:=next_of_alloc e0
 have n1:=next_of_alloc e1
 have o01:=o0.trans o1
 have cb:∀{g:AH},Old g1 g→g.get h.next=some (.cells [.int .u64 nx,.slice p n c] 36 false):=fun o=>(o.2 _ (by omega)).trans ((o1.2 _ (by omega)).trans (get_of_alloc e0))
 have ca:∀{g:AH},Old g1 g→g.get g0.next=some (.cells [.int .i64 kind,.int .i64 kN,.string f,.string f2,.int .u64 id,.slice pl m cl] 58 false):=fun o=>(o.2 _ (by omega)).trans (get_of_alloc e1)
 have r1:=Old.refl g1
 refine⟨_,_,_,ld1_at (cb r1) rfl,fun _=>rfl,fun h40=>⟨_,_,_,ld1_at (ca r1) rfl,fun _=>rfl,fun h100=>⟨_,ld1_at (cb r1) rfl,fun _=>rfl,fun hn1=>⟨_,ld1_at (cb r1) rfl,fun _=>rfl,fun hn2=>⟨_,ld1_at (cb r1) rfl,_,_,_,ld1_at (cb r1) rfl,(right16 kk.r16 kr (T.old o01) nx).mono ?_⟩⟩⟩⟩⟩
 rintro _ g17 ⟨⟨rfl,R⟩ | ⟨rfl,-⟩,o17⟩
 rotate_left
 ·exact .inr ⟨rfl,rfl⟩
 have oA:=o01.trans o17
 have hbn:0≤nx∧nx < 281474976710655:=by omega
 refine .inl ⟨rfl,_,_,_,_,ldN_all (cb o17) rfl,(copy17 kk (c:=c) (nx:=nx) (T.old oA) (by omega)).mono ?_⟩
 rintro _ g23 ⟨p',c',rs',rfl,B,hc,o23⟩
 have R' : RightP nx rs':=R.cor hc.symm
 refine⟨_,_,_,_,rfl,fun g28 e28=>?_⟩
 obtain⟨g29,k29,n29,o29,v29⟩:=put_new e28 (vs:=[.int .u64 nx,.slice p' n c']) rfl
 have w29:=(v29 [] (fun c hc=>by cases hc)).1
 have oB:=(o17.trans o23).trans o29
 have ohB:=o01.trans oB
 refine⟨rfl,g29,k29,_,_,_,_,ldN_all w29 rfl,_,_,_,_,_,_,_,_,ldN_all (ca oB) rfl,(doSpec kl kp (B.old o29) R' (by omega) hbn (by omega) kind kN f f2 hf hf2 id hid (DLl.old ohB) (by omega)).mono ?_⟩
 rintro _ g43 ⟨⟨i,px,n',cx,s,ql,qn,qc,rfl,bx,oks,hcs,dl⟩,o43⟩
 refine⟨_,_,_,_,_,_,_,_,_,_,_,_,_,_,_,_,_,_,_,_,_,rfl,fun g65 e65 g66 e66=>?_⟩
 obtain⟨g67,g68,k67,k68,o68,l43,l65,wx,ws⟩:=put2 (i:=i) (p':=px) (n':=n') (c':=cx) (s:=s) e65 e66
 have oC:=(oB.trans o43).trans o68
 refine⟨rfl,g67,k67,rfl,g68,k68,_,_,_,_,ldN_all (cb oC) rfl,_,_,_,_,_,_,_,_,ldN_all (ca oC) rfl,(wantSpec kl kk (T.old (o01.trans oC)) form R (by omega) hbn (by omega) kind kN f f2 hf hf2 id hid (DLl.old (o01.trans oC)) (by omega)).mono ?_⟩
 rintro _ g82 ⟨⟨j,py,ny,cy,t,rl,rn,rc,rfl,byy,okt,hct,dlt⟩,o82⟩
 refine⟨_,_,_,_,_,_,_,_,_,_,_,_,_,_,_,_,_,_,_,_,_,rfl,fun g104 e104 g105 e105=>?_⟩
 obtain⟨g106,g107,k106,k107,o107,l82,l104,wy,wt⟩:=put2 (i:=j) (p':=py) (n':=ny) (c':=cy) (s:=t) e104 e105
 obtain⟨q1,q2,q3,q4⟩:=actA_cor (nx:=nx) hc kind kN f f2 id l
 have oD:=o82.trans o107
 have aR:=actA_right R T.dn (by omega) hbn.2 kind kN f f2 id l
 obtain⟨hx1,xs,hx2,hx3⟩:=bx
 obtain⟨hy1,ys,hy2,hy3⟩:=byy
 refine⟨rfl,g106,k106,rfl,g107,k107,_,_,_,_,ldN_all ((oD.2 _ l43).trans wx) rfl,_,_,_,_,ldN_all wy rfl,(same17 kk (hx2.old (o68.trans oD)) (hy2.old o107)).mono ?_⟩
 have heq:i=j∧xs.map cor=ys.map cor:=⟨by rw[hx1,hy1,q1],by rw[hx3,hy3,q2]⟩
 rintro _ g117 ⟨⟨rfl,-⟩ | ⟨rfl,k⟩,o117⟩
 rotate_left
 ·exact absurd heq k
 have oE:=oD.trans o117
 refine .inl ⟨rfl,_,_,_,_,_,_,_,_,_,_,_,_,_,ldN_all ((oE.2 _ l65).trans ws) rfl,_,_,_,_,_,_,_,_,_,_,_,_,_,ldN_all ((o117.2 _ l104).trans wt) rfl,(same15 kk.r16.r15 (oks.old (o68.trans oE)) (okt.old (o107.trans o117))).mono ?_⟩
 rintro _ g145 ⟨⟨rfl,-⟩ | ⟨rfl,k⟩,o145⟩
 rotate_left
 ·exact absurd (by rw[hcs,hct,q3]) k
 have dl2:=(dl.old (o68.trans oE)).old o145
 have dlt2:=(dlt.old (o107.trans o117)).old o145
 refine .inl ⟨rfl,(same11 kk.r16.r15.r1 dl2.shows dl2.wf (by have h1:=dl2.len; have h2:=actA_len R' B.1.dn kind kN f f2 id l; have h3:=DLl.len; omega) dlt2.shows dlt2.wf).mono ?_⟩
 rintro _ g147 ⟨⟨rfl,-⟩ | ⟨rfl,k⟩,rfl⟩
 rotate_left
 ·exact absurd (by rw[q4]) k
 have oF:=oE.trans o145
 have lB:g23.next < g43.next:=by have:=o43.1; omega
 have wB:g145.get g23.next=some (.cells [.int .u64 nx,.slice p' n c'] 36 false):=((o68.trans oF).2 _ lB).trans ((o43.2 _ (by omega)).trans w29)
 refine .inl ⟨rfl,fun _=>⟨_,_,_,_,ldN_all wB rfl,_,_,_,_,ldN_all (cb (oC.trans oF)) rfl,(same17 kk ((B.1.old o29).old (o43.trans (o68.trans oF))) (T.old (o01.trans (oC.trans oF)))).mono ?_⟩,fun z=>absurd (by rw[q4]) z⟩
 rintro _ g157 ⟨⟨rfl,-⟩ | ⟨rfl,k⟩,o157⟩
 rotate_left
 ·exact absurd ⟨rfl,hc⟩ k
 have wx157:=(o157.2 g43.next (by have:=oF.1; omega)).trans ((oF.2 _ l43).trans wx)
 refine .inl ⟨rfl,_,ld1_at wx157 rfl,_,_,_,ld1_at wx157 rfl,(right16 kk.r16 kr (hx2.old ((o68.trans oF).trans o157)) i).mono ?_⟩
 rintro _ g163 ⟨⟨rfl,-⟩ | ⟨rfl,k⟩,o163⟩
 ·exact .inl ⟨rfl,rfl⟩
 ·refine absurd ?_ k
  rw[hx1,q1]
  exact aR.cor (by rw[hx3,q2])
end
end Go.Am
/-
 ANYTHING DONE TO ANY FAMILY:the arguments.
-/
set_option linter.unusedVariables false
set_option linter.unusedSimpArgs false
set_option maxRecDepth 100000
namespace Go.Am
open Go.Proofs
theorem rd_setsZ {h:AH} {g:Nat} {v:Value} (r:Rd Try.prog h (g+5) 34 [v]):∃p n c rs,v=.slice p n c∧Sets h p n rs∧FormP p:=by
 have r0:=r
 unfold Rd at r
 rw[Try.underlying34] at r
 obtain⟨p,n,c,al,e,hp,-⟩:=r
 obtain⟨p2,n2,c2,rs,e2,T⟩:=rd_setsX r0
 have e:v=.slice p n c:=by simpa using e
 rw[e] at e2
 injection e2 with e3 e4 e5
 subst e3 e4 e5
 exact⟨p,n,c,rs,e,T,hp⟩
theorem rd_bookZ {h:AH} {g:Nat} {v:Value} (r:RdV Try.prog h (g+6) 36 v):∃nx p n c rs,v=.agg #[.int .u64 nx,.slice p n c]∧Sets h p n rs∧FormP p:=by
 unfold RdV at r
 rw[Try.underlying36] at r
 obtain⟨cs,rfl,r⟩:=r
 unfold Rd at r
 rw[Try.underlying36] at r
 have hc2:Try.prog.cellsOf 22=1:=by simp
 have hc6:Try.prog.cellsOf 34=1:=by kernel_rfl
 simp only[List.map_cons,List.map_nil,RdL,hc2,hc6,List.drop_drop] at r
 obtain⟨k1,r1,k2,r2,r3⟩:=r
 unfold Rd at r1
 rw[Try.underlying22] at r1
 obtain⟨x1,e1,w1⟩:=r1
 match cs,e1,r2,r3,k2 with
 | [c0,c1],e1,r2,r3,k2=>
   have r2' : Rd Try.prog h (g+5) 34 [c1]:=r2
   obtain⟨p,n,c,rs,rfl,T,f⟩:=rd_setsZ (g:=g) r2'
   simp at e1
   subst e1
   exact⟨x1,p,n,c,rs,rfl,T,f⟩
 | c0 :: c1 :: c2 :: l,e1,r2,r3,k2=>simp at r3
theorem rd_actZ {h:AH} {g:Nat} {v:Value} (r:RdV Try.prog h (g+6) 58 v):∃kind kN f f2 id pl m cl l,v=.agg #[.int .i64 kind,.int .i64 kN,.string f,.string f2,.int .u64 id,.slice pl m cl]∧f.size≤9223372036854775806∧f2.size≤9223372036854775806∧(Lit.int .u64 id).wf=true∧DL h pl m l:=by
 unfold RdV at r
 rw[Try.underlying58] at r
 obtain⟨cs,rfl,r⟩:=r
 unfold Rd at r
 rw[Try.underlying58] at r
 have hc1:Try.prog.cellsOf 3=1:=by simp
 have hc2:Try.prog.cellsOf 22=1:=by simp
 have hc3:Try.prog.cellsOf 9=1:=by simp
 have hc6:Try.prog.cellsOf 26=1:=by simp
 simp only[List.map_cons,List.map_nil,RdL,hc1,hc2,hc3,hc6,List.drop_drop] at r
 obtain⟨k1,r1,k2,r2,k3,r3,k4,r4,k5,r5,k6,r6,r7⟩:=r
 unfold Rd at r1 r2 r3 r4 r5
 rw[Try.underlying3] at r1 r2
 rw[Try.underlying9] at r3 r4
 rw[Try.underlying22] at r5
 obtain⟨x1,e1,w1⟩:=r1
 obtain⟨x2,e2,w2⟩:=r2
 obtain⟨x3,e3,-,w3⟩:=r3
 obtain⟨x4,e4,-,w4⟩:=r4
 obtain⟨x5,e5,w5⟩:=r5
 have hre:reachBytes=140737488351232:=rfl
 match cs,e1,e2,e3,e4,e5,r6,r7,k6 with
 | [c0,c1,c2,c3,c4,c5],e1,e2,e3,e4,e5,r6,r7,k6=>
   have r6' : Rd Try.prog h (g+5) 26 [c5]:=r6
   obtain⟨p,n,c,ds,rfl,f1,f2,f3,f4,f5⟩:=rd_ptrsX (g:=g+2) r6'
   simp at e1 e2 e3 e4 e5
   subst e1 e2 e3 e4 e5
   exact⟨x1,x2,x3,x4,x5,p,n,c,ds,rfl,by omega,by omega,w5,⟨f4,f5,f3,f1⟩⟩
 | c0 :: c1 :: c2 :: c3 :: c4 :: c5 :: c6 :: l,e1,e2,e3,e4,e5,r6,r7,k6=>simp at r7
theorem does_args {h:AH} {vs:List Value} (r:RdA Try.prog h 8 [36,58] vs):∃nx p n c rs kind kN f f2 id pl m cl l,vs=[.agg #[.int .u64 nx,.slice p n c],.agg #[.int .i64 kind,.int .i64 kN,.string f,.string f2,.int .u64 id,.slice pl m cl]]∧Sets h p n rs∧FormP p∧f.size≤9223372036854775806∧f2.size≤9223372036854775806∧(Lit.int .u64 id).wf=true∧DL h pl m l:=by
 obtain⟨a,b,rfl,r1,r2⟩:=rda2 r
 obtain⟨nx,p,n,c,rs,rfl,T,fm⟩:=rd_bookZ (g:=2) r1
 obtain⟨kind,kN,f,f2,id,pl,m,cl,l,rfl,h1,h2,h3,h4⟩:=rd_actZ (g:=2) r2
 exact⟨nx,p,n,c,rs,kind,kN,f,f2,id,pl,m,cl,l,rfl,T,fm,h1,h2,h3,h4⟩
end Go.Am
