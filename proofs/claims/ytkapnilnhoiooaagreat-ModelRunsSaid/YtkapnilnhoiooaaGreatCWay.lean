/-
  CLONES; A VOLUME'S CHAIN AND ITS ORIGIN.
-/
import Derived.Test.YtkapnilnhoiooaaGreatCFamA
set_option linter.unusedVariables false
set_option linter.unusedSimpArgs false
set_option maxRecDepth 100000
namespace Go.Am
open Go.Proofs
def zgi (l:List Int):List Value:=l.map fun x=>.int .u64 x
theorem zdl (l:List Int):(zgi l).length=l.length:=by simp[zgi]
theorem zk8 {l:List Int} {i:Nat} (h:i < l.length):(zgi l)[i]?= some (.int .u64 l[i]):=by simp[zgi,h]
theorem zeZ (l:List Int) (x:Int):zgi (l ++ [x])=zgi l ++ [.int .u64 x]:=by simp[zgi]
theorem zvq:zcZ Tryz.prog 102 26 1 8:=zc0 (by kernel_rfl)
def clL (rs:List zaj) (id:Int):List Int:=match plcN rs id with
 | none=>[]
 | some i=>match rs[i]? with
   | none=>[]
   | some r=>if r.snap=true then (rs.filter fun x=>(!decide (x.own=r.own)) && decide (x.prev=id)).map (·.id) else []
def zcz (rs:List zaj) (id:Int):Nat→Int→List Int→List Int×Int
 | 0,pr,ch=>(ch,pr)
 | k+1,pr,ch=>if pr=0 then (ch,pr) else match plcN rs pr with
   | none=>(ch,pr)
   | some i=>match rs[i]? with
     | none=>(ch,pr)
     | some x=>if x.own=id then zcz rs id k x.prev (ch ++ [pr]) else (ch,pr)
theorem ze0 (rs:List zaj) (id:Int) (k:Nat) (ch:List Int):zcz rs id k 0 ch=(ch,0):=by
 cases k with
 | zero=>rfl
 | succ k=>unfold zcz; rw[if_pos rfl]
def wayR (rs:List zaj) (id:Int):List Int×Int:=match plcN rs id with
 | none=>([],0)
 | some i=>match rs[i]? with
   | none=>([],0)
   | some r=>if r.snap=true then ([],0) else zcz rs id 32 r.prev []
section
variable {K:Xs} {h:AH} {p:Option Addr} {n c:Nat} {rs:List zaj}
theorem zrb (hk:K 82=none) (hp:K 80=none) (T:zbL h p n rs) (id:Int):
 Wf Tryz.prog K 82 [.slice p n c,.int .u64 id] h fun v h'=>∃pp m cc,v=.tuple #[.slice pp m cc,.int .u64 (wayR rs id).2]∧zaY h.next h' 26 1 pp m cc (zgi (wayR rs id).1)∧Old h h':=by
 have hn:=T.1
 refine zkT hk _ _ _ _ h _ ((zcb hp T id).mono ?_)
 rintro _ _ ⟨rfl,rfl⟩
 refine⟨_,rfl,fun z=>?_,fun z=>?_⟩
 ·cases e:plcN rs id with
  | none=>
    have hw:wayR rs id=([],0):=by unfold wayR; rw[e]
    rw[hw]
    exact⟨_,_,_,rfl,zaY.nil _ _ _ _,Old.refl _⟩
  | some i=>rw[zaS e] at z; omega
 cases e:plcN rs id with
 | none=>rw[zcc e] at z; omega
 | some i=>
   obtain⟨hi, -⟩:=zbv e
   rw[zaS e] at z ⊢
   obtain⟨b,off,rfl,hi',hl,h1,ok⟩:=T.at (i:=i) (by omega)
   have hri:=List.getElem?_eq_getElem hi'
   refine zag ⟨by omega,by omega,?_⟩
   rw[Int.toNat_natCast]
   cases hs:rs[i].snap with
   | true=>
     have hw:wayR rs id=([],0):=by
      unfold wayR
      simp only[e,hri,hs,if_true]
     rw[hw]
     exact .inl ⟨h1 2 _ (by simp[setC,hs]),_,_,_,rfl,zaY.nil _ _ _ _,Old.refl _⟩
   | false=>
     have hw:wayR rs id=zcz rs id 32 rs[i].prev []:=by
      unfold wayR
      simp only[e,hri,hs]
      rfl
     rw[hw]
     refine .inr ⟨h1 2 _ (by simp[setC,hs]),zag ⟨by omega,by omega,_,h1 4 _ rfl,?_⟩⟩
     refine⟨fun pp m cc i15 k g=>∃ch:List Int,m=ch.length∧m≤32∧32 - m=k∧zaY h.next g 26 1 pp m cc (zgi ch)∧Old h g∧zcz rs id 32 rs[i].prev []=zcz rs id (32 - m) i15 ch,⟨_,[],rfl,by decide,rfl,zaY.nil _ _ _ _,Old.refl _,rfl⟩,?_⟩
     rintro k9 g10 p12 n13 c14 i15 ⟨ch,rfl,hm,rfl,G10,o10,hW⟩
     have stop:zcz rs id (32 - ch.length) i15 ch=(ch,i15)→∀g,Old g10 g→∃pp m cc,Value.tuple #[.slice p12 ch.length c14,.int .u64 i15]=.tuple #[.slice pp m cc,.int .u64 (zcz rs id 32 rs[i].prev []).2]∧zaY h.next g 26 1 pp m cc (zgi (zcz rs id 32 rs[i].prev []).1)∧Old h g:=fun q g o=>by
      rw[hW,q]
      exact⟨_,_,_,rfl,G10.old o,o10.trans o⟩
     refine⟨fun y=>stop (by rw[y]; exact ze0 _ _ _ _) _ (Old.refl _),fun y=>⟨fun w=>?_,fun w=>stop (by rw[show 32 - ch.length=0 by omega]; rfl) _ (Old.refl _)⟩⟩
     obtain⟨f,hf⟩:∃f,32 - ch.length=f+1:=⟨31 - ch.length,by omega⟩
     refine (zcb hp (T.old o10) i15).mono ?_
     rintro _ _ ⟨rfl,rfl⟩
     refine⟨_,rfl,fun x=>stop ?_ _ (Old.refl _),fun x=>?_⟩
     ·rw[hf]
      unfold zcz
      rw[if_neg y]
      cases e2:plcN rs i15 with
      | none=>rfl
      | some j=>rw[zaS e2] at x; omega
     cases e2:plcN rs i15 with
     | none=>rw[zcc e2] at x; omega
     | some j=>
       obtain⟨hj, -⟩:=zbv e2
       rw[zaS e2] at x ⊢
       have hrj:=List.getElem?_eq_getElem hj
       obtain⟨hj2,hl2,h2,ok2⟩:=(T.old o10).at' (i:=j) (by omega)
       refine zag ⟨by omega,by omega,_,by rw[Int.toNat_natCast]; exact h2 3 _ rfl,fun a g22 e22=>?_,fun a=>stop ?_ _ (Old.refl _)⟩
       ·obtain⟨p',c',g26,k26,G26,ob26, -, -⟩:=G10.push zvq o10.1 (m:=1) (ns:=[.int .u64 i15]) e22 rfl (by unfold zaU; omega) (by omega)
        have o26:Old h g26:=(Old.toB o10 (Nat.le_refl _)).trans ob26
        obtain⟨hj3,hl3,h3,ok3⟩:=(T.old o26).at' (i:=j) (by omega)
        refine⟨p',_,c',g26,k26,zag ⟨by omega,by omega,_,by rw[Int.toNat_natCast]; exact h3 4 _ rfl,f,by omega,ch ++ [i15],by simp,by omega,by omega,by rw[zeZ]; exact G26,o26,?_⟩⟩
        rw[hW,hf]
        conv=>lhs; unfold zcz
        rw[if_neg y]
        simp only[e2,hrj,a,if_true]
        rw[show 32 - (ch.length+1)=f by omega]
       ·rw[hf]
        unfold zcz
        rw[if_neg y]
        simp only[e2,hrj,if_neg a]
theorem zmz (hk:K 58=none) (hw:K 82=none) (hp:K 80=none) (T:zbL h p n rs) (id:Int):
 Wf Tryz.prog K 58 [.slice p n c,.int .u64 id] h fun v h'=>∃pp m cc,v=.slice pp m cc∧zaY h.next h' 26 1 pp m cc (zgi (wayR rs id).1)∧Old h h':=by
 refine ziQ hk _ _ _ _ h _ ((zrb hw hp T id).mono ?_)
 rintro _ g ⟨pp,m,cc,rfl,G,o⟩
 exact⟨_,_,_,_,rfl,_,_,_,rfl,G,o⟩
theorem zkc (hk:K 41=none) (hw:K 82=none) (hp:K 80=none) (T:zbL h p n rs) (id:Int):
 Wf Tryz.prog K 41 [.slice p n c,.int .u64 id] h fun v h'=>v=.int .u64 (wayR rs id).2∧Old h h':=by
 refine zhJ hk _ _ _ _ h _ ((zrb hw hp T id).mono ?_)
 rintro _ g ⟨pp,m,cc,rfl,G,o⟩
 exact⟨_,_,_,_,rfl,rfl,o⟩
theorem zpL (hk:K 89=none) (kk:zq1 K) (T:zbL h p n rs) (hn40:n≤1000) (id:Int):
 Wf Tryz.prog K 89 [.slice p n c,.int .u64 id] h fun v h'=>∃pp m cc,v=.slice pp m cc∧zaY h.next h' 26 1 pp m cc (zgi (clL rs id))∧Old h h':=by
 have hn:=T.1
 have hn2:=T.2.1
 refine zhI hk _ _ _ _ h _ fun g0 e0=>⟨_,_,_,zae (zaf e0) rfl,(zcb kk.place (T.old (zab e0)) id).mono ?_⟩
 have o0:=zab e0
 have n0:=zaa e0
 rintro _ _ ⟨rfl,rfl⟩
 refine⟨_,rfl,fun g7 e7=>?_⟩
 have o7:=zab e7
 have n7:=zaa e7
 have nr8:=zak g0.next g7 (.cells [.int .i64 (plc rs id)] 3 false)
 have c8:(g7.set g0.next (.cells [.int .i64 (plc rs id)] 3 false)).get g0.next=_:=zad _ _ _
 refine⟨g7.set g0.next (.cells [.int .i64 (plc rs id)] 3 false),zbi (zaf e7) (by simp),?_⟩
 generalize g7.set g0.next (.cells [.int .i64 (plc rs id)] 3 false)=g8 at nr8 c8
 have o8:Old g0 g8:=⟨by rw[nr8.1]; omega,fun x hx=>by rw[nr8.2 x (by omega),o7.2 x hx]⟩
 have n8:g8.next=g0.next+1:=by rw[nr8.1,n7]
 have oh8:=o0.trans o8
 have cl8:g8.get h.next=_:=(o8.2 _ (by omega)).trans (zaf e0)
 refine⟨_,zae c8 rfl,fun z=>?_,fun z=>⟨_,_,_,zae cl8 rfl,_,zae c8 rfl,?_⟩⟩
 ·cases e:plcN rs id with
  | none=>
    have hw:clL rs id=[]:=by unfold clL; rw[e]
    rw[hw]
    exact⟨_,_,_,rfl,zaY.nil _ _ _ _,oh8⟩
  | some i=>rw[zaS e] at z; omega
 cases e:plcN rs id with
 | none=>rw[zcc e] at z; omega
 | some i=>
   obtain⟨hi, -⟩:=zbv e
   rw[zaS e] at z c8 ⊢
   obtain⟨b,off,rfl,hi',hl,h1,ok⟩:=(T.old oh8).at (i:=i) (by omega)
   have hri:=List.getElem?_eq_getElem hi'
   have hat:∀{g:AH},Old h g→∀(j:Nat) v,(setC rs[i])[j]?= some v→ld1 g b (off+i * 11+j)=some v:=fun o j v hj=>by
    obtain⟨hi3,hl3,h2,ok3⟩:=(T.old o).at' (i:=i) (by omega)
    exact h2 j v hj
   generalize hrr:rs[i]=r at h1 ok hat
   refine zag ⟨by omega,by omega,?_⟩
   rw[Int.toNat_natCast]
   cases hs:r.snap with
   | false=>
     have hw:clL rs id=[]:=by
      unfold clL
      simp only[e,hri,hrr,hs]
      rfl
     rw[hw]
     exact .inr ⟨h1 2 _ (by simp[setC,hs]),_,_,_,rfl,zaY.nil _ _ _ _,oh8⟩
   | true=>
     have hw:clL rs id=(rs.filter fun x=>(!decide (x.own=r.own)) && decide (x.prev=id)).map (·.id):=by
      unfold clL
      simp only[e,hri,hrr,hs,if_true]
     rw[hw]
     refine .inl ⟨h1 2 _ (by simp[setC,hs]),fun g16 e16=>?_⟩
     have o16:=zab e16
     have n16:=zaa e16
     refine⟨_,_,_,zae ((o16.2 _ (by omega)).trans cl8) rfl,zdI kk.hanging _ _ _ _ g16 _ fun g17 e17 g18 e18=>?_⟩
     have o17:=zab e17
     have n17:=zaa e17
     have o18:=zab e18
     have n18:=zaa e18
     have o2':=o17.trans o18
     have cp0:g18.get g16.next=_:=(o18.2 _ (by omega)).trans (zaf e17)
     have cp1:=zaf e18
     have cm:g18.get g8.next=_:=(o2'.2 _ (by omega)).trans (zaf e16)
     have cs0:g18.get h.next=_:=(o2'.2 _ (by omega)).trans ((o16.2 _ (by omega)).trans cl8)
     have ci:g18.get g0.next=_:=(o2'.2 _ (by omega)).trans ((o16.2 _ (by omega)).trans c8)
     have oh18:=(oh8.trans o16).trans o2'
     have oldJ:∀{g:AH},g18.next < g.next→(∀c,c < g18.next→c≠g8.next→g.get c=g18.get c)→Old h g:=fun l k=>⟨by have:=oh18.1; omega,fun c hc=>by rw[k c (by omega) (by omega),oh18.2 c hc]⟩
     let ids:Nat→List Int:=fun k=>(((hang id 0 rs).take k).filter fun q=>!decide (q.2.own=r.own)).map fun q=>q.2.id
     have hlen:(hang id 0 rs).length≤rs.length:=by
      have:=congrArg List.length (zhW id rs 0)
      rw[List.length_map] at this
      rw[this]
      exact List.length_filter_le _ _
     refine⟨_,[.pointer (some ⟨g16.next,0,none⟩),.pointer (some ⟨g17.next,0,none⟩)],rfl,
      fun k g=>∃pp m cc,g18.next < g.next∧(∀c,c < g18.next→c≠g8.next→g.get c=g18.get c)∧g.get g8.next=some (.cells [.slice pp m cc] 102 false)∧zaY (g18.next+1) g 26 1 pp m cc (zgi (ids k)),
      fun _ _=>False,(hang id 0 rs).length,zta id rs,fun _ _=>False,fun _ _=>True,⟨kk.hanging1,rfl⟩,fun i hi=>?_,fun g q1 q2=>⟨none,0,0,by omega,fun c hc _=>q2 c (by omega),by rw[q2 _ (by omega)]; exact cm,zaY.nil _ _ _ _⟩,
      fun i g g' jj nr=>?_,fun x g g' q=>q.elim,fun i g g' j r=>r.elim,fun x g g' q=>q.elim,fun g g' r=>r.elim,?_,?_,?_,fun x g _ q=>q.elim⟩
     ·exact⟨_,zcQ (List.getElem?_eq_getElem hi)⟩
     ·obtain⟨pp,m,cc,j1,j2,j3,j4⟩:=jj
      exact⟨pp,m,cc,by rw[nr.1]; exact j1,fun c hc hne=>by rw[nr.2 c (by omega)]; exact j2 c hc hne,by rw[nr.2 _ (by omega)]; exact j3,j4.near nr (Nat.lt_succ_self _) (Nat.le_refl _)⟩
     ·rintro k g29 hk29 ⟨pp,m,cc,j1,j2,j3,j4⟩ - i41 hit
      refine⟨rfl,rfl,fun g34 nr hL=>?_⟩
      have hq:=List.getElem?_eq_getElem hk29
      rw[zcQ hq] at hit
      simp only[List.cons.injEq,Value.int.injEq,and_true,true_and] at hit
      obtain⟨-,hm2,hm3⟩:=zhX (List.getElem_mem hk29)
      rw[Nat.sub_zero] at hm2
      have htk:=List.take_succ_eq_append_getElem hk29
      generalize (hang id 0 rs)[k]=q at hit hm2 hm3 htk
      subst hit
      have k1:g18.next < g34.next:=by rw[nr.1]; exact j1
      have k2:∀c,c < g18.next→c≠g8.next→g34.get c=g18.get c:=fun c hc hne=>by rw[nr.2 c (by omega)]; exact j2 c hc hne
      have k3:g34.get g8.next=some (.cells [.slice pp m cc] 102 false):=by rw[nr.2 _ (by omega)]; exact j3
      have G34:=j4.near nr (Nat.lt_succ_self _) (Nat.le_refl (g18.next+1))
      have o34:=oldJ k1 k2
      have hqn:=(List.getElem?_eq_some_iff.1 hm2).1
      obtain⟨hq2,hl4,h4,ok4⟩:=(T.old o34).at' (i:=q.1) (by omega)
      have e4:rs[q.1]=q.2:=by
       have:=List.getElem?_eq_getElem hq2
       rw[hm2] at this
       exact (Option.some.inj this).symm
      rw[e4] at h4
      have hmk:m≤k:=by
       have:=G34.1
       rw[zdl] at this
       have h5:(ids k).length≤k:=by
        simp only[ids,List.length_map]
        exact Nat.le_trans (List.length_filter_le _ _) (by rw[List.length_take]; omega)
       omega
      refine⟨_,_,_,zae ((k2 _ (by omega) (by omega)).trans cs0) rfl,zag ⟨by omega,by omega,_,by rw[Int.toNat_natCast]; exact h4 3 _ rfl,_,_,_,zae ((k2 _ (by omega) (by omega)).trans cs0) rfl,_,zae ((k2 _ (by omega) (by omega)).trans ci) rfl,zag ⟨by omega,by omega,_,by rw[Int.toNat_natCast]; exact hat o34 3 _ rfl,fun a=>⟨rfl,⟨pp,m,cc,k1,k2,k3,?_⟩,fun _ _=>trivial⟩,fun a=>⟨_,_,_,zae k3 rfl,_,_,_,zae ((k2 _ (by omega) (by omega)).trans cs0) rfl,zag ⟨by omega,by omega,_,by rw[Int.toNat_natCast]; exact h4 0 _ rfl,fun g57 e57=>?_⟩⟩⟩⟩⟩
      ·have:ids (k+1)=ids k:=by
        simp only[ids]
        rw[htk,List.filter_append]
        simp[a]
       rw[this]
       exact G34
      ·obtain⟨p',c',g61,k61,G61,ob61,ap61,fr61⟩:=G34.push zvq (by omega) (m:=1) (ns:=[.int .u64 q.2.id]) e57 rfl (by unfold zaU; omega) (by omega)
       have k3' : g61.get g8.next=some (.cells [.slice pp m cc] 102 false):=by rw[ob61.2 _ (by omega)]; exact k3
       have nr62:=zak g8.next g61 (.cells [.slice p' (m+1) c'] 102 false)
       refine⟨p',_,c',g61,k61,g61.set g8.next (.cells [.slice p' (m+1) c'] 102 false),zbi k3' (by simp),?_,⟨p',m+1,c',by rw[nr62.1]; have:=ob61.1; omega,fun c hc hne=>by rw[nr62.2 c hne,ob61.2 c (by omega)]; exact k2 c hc hne,zad _ _ _,?_⟩,fun _ _=>trivial⟩
       ·rw[nr62.2 _ (by omega),ob61.2 _ (by omega)]
       ·have:ids (k+1)=ids k ++ [q.2.id]:=by
         simp only[ids]
         rw[htk,List.filter_append,List.map_append]
         simp[a]
        rw[this,zeZ]
        exact G61.near nr62 (by omega) (Nat.le_refl _)
     ·intro JJ DD hJ hG hDG hround g61 hj0
      refine zq0 kk.hanging1 (ya:=g18.next) (pb0:=g16.next) (pb1:=g17.next) (p:=some ⟨b,off,none⟩) (n:=n) (c:=c) (rs:=rs) (id:=id) (JJ:=JJ) (DD:=DD) (BB:=fun _ _=>True) (fun i g1' jj=>?_) (fun k g1' q hq jj=>?_) hj0
      ·obtain⟨pp,m,cc,q1,q2,q3, -⟩:=hJ i g1' jj
       exact⟨⟨_,_,(q2 _ (by omega) (by omega)).trans cp0⟩,⟨_,_,(q2 _ (by omega) (by omega)).trans cp1⟩,T.old (oldJ q1 q2)⟩
      ·have:=hround k g1' (List.getElem?_eq_some_iff.1 hq).1 jj
       rw[zcQ hq] at this
       exact this
     ·rintro g71 ⟨pp,m,cc,q1,q2,q3,G71⟩
      have dl:∀c,c≠g18.next→(g71.del g18.next).get c=g71.get c:=fun c hc=>by rw[AH.get_del,if_neg hc]
      have o71:Old h (g71.del g18.next):=⟨(oldJ q1 q2).1,fun c hc=>by rw[dl c (by have:=oh18.1; omega)]; exact (oldJ q1 q2).2 c hc⟩
      have hids:ids (hang id 0 rs).length=(rs.filter fun x=>(!decide (x.own=r.own)) && decide (x.prev=id)).map (·.id):=by
       simp only[ids]
       rw[List.take_of_length_le (Nat.le_refl _),←List.filter_filter,←zhW id rs 0,List.filter_map,List.map_map]
       rfl
      rw[hids] at G71
      refine⟨pp,m,cc,zae ((dl _ (by omega)).trans q3) rfl,pp,m,cc,rfl,?_,o71⟩
      refine⟨G71.1,G71.2.imp (fun x=>x) ?_⟩
      rintro⟨b',z1,z2,z3,z4,z5⟩
      exact⟨b',z1,by have:=oh18.1; omega,z3,by rw[dl b' (by omega)]; exact z4,z5⟩
end
end Go.Am
