/-
  WHICH LISTS ARE FAMILIES: a family is told to be one.
-/
import Derived.Test.YtibgmhipepaeaaaCRuH
set_option linter.unusedVariables false
set_option linter.unusedSimpArgs false
set_option maxRecDepth 100000
namespace Go.Am
open Go.Proofs
theorem MapK.lookNo {h:AH} {m:Nat} {cs:List Cal} (M:MapK h m cs) {k:Cal} (hk:CalOk k) (hn:k∉cs):aLookup Try.prog h 76 (.map (some m)) (calV k) true=some (.tuple #[.int .i64 0,.bool false]):=by
 obtain⟨⟨es,clock,hg,hE⟩,ho⟩:=M
 unfold aLookup
 rw[Try.underlying76]
 simp only[keyTCal,kCal hk,zeroCal,hg]
 rcases findCal (k:=k) (i:=0) hE ho with ⟨h1,h2⟩ | ⟨h1,j,v,h2⟩
 ·rw[h2]
  rfl
 ·exact absurd h1 hn
section
variable {K:Xs} {h:AH} {p:Option Addr} {n c:Nat} {rs:List SetR}
theorem deadLoopT {Q:Value→AH→Prop} {pd:Option Addr} {nd:Nat} {ds:List PtI} (S:Shows h pd nd 3 (ptI ds)) (hnd:nd≤1000000000000000) (fl:Int) (hQ:∀g,Old h g→Q (.bool true) g) (hd:∀q∈ds,q.2.1≤fl):
 ∃I8:Int→Nat→AH→Prop,(∃n,I8 0 n h)∧∀(k9:Nat) (h10:AH) (i12:Int),I8 i12 k9 h10→
  ((i12:Int) < ((nd:Nat):Int)→derefP pd fun b13 o14=>(((0:Int)≤i12)∧((i12:Int) < ((nd:Nat):Int))∧
    (∃i15:Int,∃i16:Int,∃i17:Int,ldN h10 b13 (o14+Int.toNat i12 * 3) 3=some ([(.int .i64 i15),(.int .u64 i16),(.int .u32 i17)]:List Value)∧
    (∀h18:AH,h18=h10.alloc (.cells ([(.int .i64 0),(.int .u64 0),(.int .u32 0)]:List Value) 25 false)→
    (List.length ([(.int .i64 i15),(.int .u64 i16),(.int .u32 i17)]:List Value)=3)∧∃h19:AH,stN h18 h10.next 0 ([(.int .i64 i15),(.int .u64 i16),(.int .u32 i17)]:List Value)=some h19∧
    (∃i20:Int,ld1 h19 h10.next 1=some (.int .u64 i20)∧
    (((fl:Int) < i20→Q (.bool false) h19)∧
    (¬(fl:Int) < i20→∀i21:Int,i21=IntKind.wrap .i64 (i12+1)→∃j11,j11 < k9∧I8 i21 j11 h19)))))))∧
  (¬(i12:Int) < ((nd:Nat):Int)→Q (.bool true) h10):=by
 have hn:nd=ds.length:=by have:=S.1; rw[ptI_len] at this; omega
 refine⟨fun i k g=>∃u:Nat,i=u∧u≤nd∧nd - u=k∧Old h g∧∀(j:Nat) q,j < u→ds[j]?= some q→q.2.1≤fl,⟨_,0,rfl,Nat.zero_le _,rfl,Old.refl _,fun j q hj=>absurd hj (Nat.not_lt_zero _)⟩,?_⟩
 rintro k1 g2 i4 ⟨u,rfl,hu,rfl,o2,hb⟩
 refine⟨fun z=>?_,fun z=>hQ g2 o2⟩
 ·have hud:u < ds.length:=by omega
  obtain⟨b,off,rfl,hld,-⟩:=(S.old o2).getN (i:=u) (by omega)
  rw[ptI_get ds u hud] at hld
  refine derefP_at ⟨by omega,z,_,_,_,by rw[Int.toNat_natCast]; exact hld,fun g10 e10=>?_⟩
  obtain⟨g11,k11,n11,o11,v11⟩:=put_new e10 (vs:=[.int .i64 ds[u].1,.int .u64 ds[u].2.1,.int .u32 ds[u].2.2]) rfl
  have w11:=v11 [] (fun c hc=>by cases hc)
  refine⟨rfl,g11,k11,_,ld1_at w11.1 rfl,fun y=>absurd (hd _ (List.getElem_mem hud)) (by omega),fun y i21 e21=>?_⟩
  have e21:=i64w e21 (by omega) (by omega)
  refine⟨nd - (u+1),by omega,u+1,by omega,by omega,rfl,o2.trans o11,fun j q hj hq=>?_⟩
  rcases Nat.lt_succ_iff_lt_or_eq.1 hj with hj | rfl
  ·exact hb j q hj hq
  ·rw[List.getElem?_eq_getElem hud] at hq
   cases hq
   omega
theorem elderFull (hk:K 46=none) (hp:K 54=none) {b off:Nat} (T:Sets h (some ⟨b,off,none⟩) n rs) {i:Nat} (hi:i < n) (hi' : i < rs.length) (E:ElderR rs rs[i]):
 Wf Try.prog K 46 [.slice (some ⟨b,off,none⟩) n c,.pointer (some ⟨b,off+i * 11,none⟩)] h fun v h'=>v=.bool true∧Old h h':=by
 have hn:=T.1
 obtain⟨hi2,hl2,h1,ok⟩:=T.at' hi
 have hri:=List.getElem?_eq_getElem hi'
 generalize rs[i]=r at h1 ok hri E ⊢
 have hroom:r.dn≤1000000000000000:=by have:=ok.room; simp only[reachBytes] at this; omega
 refine vc_family_elderRight hk _ _ _ _ h _ (derefP_at ⟨_,h1 4 _ rfl,fun z=>derefP_at ⟨_,_,_,h1 10 _ rfl,deadLoopT (Q:=fun v h'=>v=.bool true∧Old h h') ok.shows hroom 0 (fun g o=>⟨rfl,o⟩) ?_⟩,fun z=>derefP_at ⟨_,h1 4 _ rfl,(placeSpec hp T _).mono ?_⟩⟩)
 ·intro x hx
  have:=E.2 x hx
  unfold flrOf at this
  rw[if_pos z] at this
  exact this
 ·rintro _ _ ⟨rfl,rfl⟩
  obtain⟨j0,x0,e0,hr0,hs0,ht0⟩:=E.1 z
  refine⟨_,rfl,fun y=>by rw[plc_some e0] at y; omega,fun y=>?_⟩
  cases e:plcN rs r.prev with
  | none=>rw[plc_none e] at y; omega
  | some j=>
    obtain⟨hj,-⟩:=plcN_at e
    obtain⟨hj2,hl3,h2,ok3⟩:=T.at' (i:=j) (by omega)
    have hrj:=List.getElem?_eq_getElem hj
    rw[plc_some e] at y ⊢
    generalize rs[j]=x at h2 hrj
    rw[e] at e0
    cases e0
    rw[hrj] at hr0
    have hxx:=Option.some.inj hr0
    subst hxx
    have hfl:flrOf rs r=x.stamp:=by
     unfold flrOf
     simp only[if_neg z,e,hrj]
    refine derefP_at ⟨by omega,by omega,?_⟩
    rw[Int.toNat_natCast]
    cases hx:x.snap with
    | false=>rw[hx] at hs0; cases hs0
    | true=>
      refine .inl ⟨h2 2 _ (by simp[setC,hx]),derefP_at ⟨by omega,by omega,_,h2 5 _ rfl,derefP_at ?_⟩⟩
      cases hr:r.snap with
      | true=>
        refine .inl ⟨h1 2 _ (by simp[setC,hr]),derefP_at ⟨_,h1 5 _ rfl,fun w=>absurd (ht0 hr) (by omega),fun w=>derefP_at ⟨_,_,_,h1 10 _ rfl,deadLoopT (Q:=fun v h'=>v=.bool true∧Old h h') ok.shows hroom _ (fun g o=>⟨rfl,o⟩) (fun a ha=>by rw[←hfl]; exact E.2 a ha)⟩⟩⟩
      | false=>
        refine .inr ⟨h1 2 _ (by simp[setC,hr]),derefP_at ⟨_,_,_,h1 10 _ rfl,deadLoopT (Q:=fun v h'=>v=.bool true∧Old h h') ok.shows hroom _ (fun g o=>⟨rfl,o⟩) (fun a ha=>by rw[←hfl]; exact E.2 a ha)⟩⟩
theorem ownerFull (hk:K 47=none) (kk:KHang K) {b off:Nat} (T:Sets h (some ⟨b,off,none⟩) n rs) {i:Nat} (hi:i < n) (hi' : i < rs.length) (O:OwnerR rs rs[i]):
 Wf Try.prog K 47 [.slice (some ⟨b,off,none⟩) n c,.pointer (some ⟨b,off+i * 11,none⟩)] h fun v h'=>v=.bool true∧Old h h':=by
 have hn:=T.1
 have hn2:=T.2.1
 refine vc_family_ownerRight hk _ _ _ _ h _ fun g0 e0 g1 e1=>?_
 have o0:=old_of_alloc e0
 have n0:=next_of_alloc e0
 have o1:=old_of_alloc e1
 have n1:=next_of_alloc e1
 have oh:=o0.trans o1
 have c0:g1.get h.next=_:=(o1.2 _ (by omega)).trans (get_of_alloc e0)
 have c1:=get_of_alloc e1
 obtain⟨hi2,hl2,h1,ok⟩:=(T.old oh).at' hi
 have hat:∀{g:AH},Old h g→∀(j:Nat) v,(setC rs[i])[j]?= some v→ld1 g b (off+i * 11+j)=some v:=fun o j v hj=>by
  obtain⟨hi3,hl3,h2,ok3⟩:=(T.old o).at' hi
  exact h2 j v hj
 generalize rs[i]=s at h1 ok hat O ⊢
 refine⟨_,ld1_at c1 rfl,derefP_at ?_⟩
 cases hs:s.snap with
 | false=>exact .inr ⟨h1 2 _ (by simp[setC,hs]),rfl,oh⟩
 | true=>
   refine .inl ⟨h1 2 _ (by simp[setC,hs]),_,_,_,ld1_at c0 rfl,_,ld1_at c1 rfl,derefP_at ⟨_,h1 3 _ rfl,(placeSpec kk.place (T.old oh) _).mono ?_⟩⟩
   rintro _ _ ⟨rfl,rfl⟩
   obtain⟨⟨j0,x0,e0',hr0,hs0⟩,hone⟩:=O hs
   refine⟨_,rfl,fun y=>by rw[plc_some e0'] at y; omega,fun y=>⟨_,_,_,ld1_at c0 rfl,derefP_at ?_⟩⟩
   cases e:plcN rs s.own with
   | none=>rw[plc_none e] at y; omega
   | some j=>
     obtain⟨hj,-⟩:=plcN_at e
     obtain⟨hj2,hl3,h2,ok3⟩:=(T.old oh).at' (i:=j) (by omega)
     have hrj:=List.getElem?_eq_getElem hj
     rw[plc_some e]
     generalize rs[j]=x at h2 hrj
     rw[e] at e0'
     cases e0'
     rw[hrj] at hr0
     have hxx:=Option.some.inj hr0
     subst hxx
     refine⟨by omega,by omega,?_⟩
     rw[Int.toNat_natCast]
     cases hx:x.snap with
     | true=>rw[hx] at hs0; cases hs0
     | false=>
       refine .inr ⟨h2 2 _ (by simp[setC,hx]),fun g20 e20=>?_⟩
       have o20:=old_of_alloc e20
       have n20:=next_of_alloc e20
       have nr21:=near_set g1.next g20 (.cells [.int .i64 0] 3 false)
       have c21:(g20.set g1.next (.cells [.int .i64 0] 3 false)).get g1.next=_:=get_set_self _ _ _
       refine⟨g20.set g1.next (.cells [.int .i64 0] 3 false),st1_of (get_of_alloc e20) (by simp),?_⟩
       generalize g20.set g1.next (.cells [.int .i64 0] 3 false)=g21 at nr21 c21
       have o21:Old g1 g21:=⟨by rw[nr21.1]; omega,fun c hc=>by rw[nr21.2 c (by omega),o20.2 c hc]⟩
       have l21:g21.next=g1.next+1:=by rw[nr21.1,n20]
       have oh21:=oh.trans o21
       refine⟨_,_,_,ld1_at ((o21.2 _ (by omega)).trans c0) rfl,_,ld1_at ((o21.2 _ (by omega)).trans c1) rfl,derefP_at ⟨_,hat oh21 0 _ rfl,vc_family_hanging kk.hanging _ _ _ _ g21 _ fun g22 e22 g23 e23=>?_⟩⟩
       have o22:=old_of_alloc e22
       have n22:=next_of_alloc e22
       have o23:=old_of_alloc e23
       have n23:=next_of_alloc e23
       have o2':=o22.trans o23
       have cp0:g23.get g21.next=_:=(o23.2 _ (by omega)).trans (get_of_alloc e22)
       have cp1:=get_of_alloc e23
       have cm:g23.get g1.next=_:=(o2'.2 _ (by omega)).trans c21
       have cs0:g23.get h.next=_:=(o2'.2 _ (by omega)).trans ((o21.2 _ (by omega)).trans c0)
       have cs1:g23.get g0.next=_:=(o2'.2 _ (by omega)).trans ((o21.2 _ (by omega)).trans c1)
       have oh23:=oh21.trans o2'
       have oldJ:∀{g:AH},g23.next < g.next→(∀c,c < g23.next→c≠g1.next→g.get c=g23.get c)→Old h g:=fun l k=>⟨by have:=oh23.1; omega,fun c hc=>by rw[k c (by omega) (by omega),oh23.2 c hc]⟩
       refine⟨_,[.pointer (some ⟨g21.next,0,none⟩),.pointer (some ⟨g22.next,0,none⟩)],rfl,
        fun k g=>g23.next < g.next∧(∀c,c < g23.next→c≠g1.next→g.get c=g23.get c)∧g.get g1.next=some (.cells [.int .i64 (((hang s.id 0 rs).take k).filter fun q=>decide (q.2.own=s.own)).length] 3 false),
        fun _ _=>False,(hang s.id 0 rs).length,hItem s.id rs,fun _ _=>False,fun _ _=>True,⟨kk.hanging1,rfl⟩,fun i hi=>?_,fun g q1 q2=>⟨by omega,fun c hc _=>q2 c (by omega),by rw[q2 _ (by omega)]; exact cm⟩,fun i g g' jj nr=>⟨by rw[nr.1]; exact jj.1,fun c hc hne=>by rw[nr.2 c (by omega)]; exact jj.2.1 c hc hne,by rw[nr.2 _ (by omega)]; exact jj.2.2⟩,
        fun x g g' q=>q.elim,fun i g g' j r=>r.elim,fun x g g' q=>q.elim,fun g g' r=>r.elim,?_,?_,?_,fun x g _ q=>q.elim⟩
       ·exact⟨_,hItem_some (List.getElem?_eq_getElem hi)⟩
       ·rintro k g29 hk29 J29 - i41 hit
        refine⟨rfl,rfl,fun g43 nr hL=>?_⟩
        have hq:=List.getElem?_eq_getElem hk29
        rw[hItem_some hq] at hit
        simp only[List.cons.injEq,Value.int.injEq,and_true,true_and] at hit
        obtain⟨-,hm2,hm3⟩:=hang_mem (List.getElem_mem hk29)
        rw[Nat.sub_zero] at hm2
        have htk:=List.take_succ_eq_append_getElem hk29
        generalize (hang s.id 0 rs)[k]=q at hit hm2 hm3 htk
        subst hit
        have J43:g23.next < g43.next∧(∀c,c < g23.next→c≠g1.next→g43.get c=g23.get c)∧g43.get g1.next=some (.cells [.int .i64 (((hang s.id 0 rs).take k).filter fun q=>decide (q.2.own=s.own)).length] 3 false):=⟨by rw[nr.1]; exact J29.1,fun c hc hne=>by rw[nr.2 c (by omega)]; exact J29.2.1 c hc hne,by rw[nr.2 _ (by omega)]; exact J29.2.2⟩
        have o43:=oldJ J43.1 J43.2.1
        have hqn:=(List.getElem?_eq_some_iff.1 hm2).1
        obtain⟨hq2,hl4,h4,ok4⟩:=(T.old o43).at' (i:=q.1) (by omega)
        have e4:rs[q.1]=q.2:=by
         have:=List.getElem?_eq_getElem hq2
         rw[hm2] at this
         exact (Option.some.inj this).symm
        rw[e4] at h4
        refine⟨_,_,_,ld1_at ((J43.2.1 _ (by omega) (by omega)).trans cs0) rfl,derefP_at ⟨by omega,by omega,_,by rw[Int.toNat_natCast]; exact h4 3 _ rfl,_,ld1_at ((J43.2.1 _ (by omega) (by omega)).trans cs1) rfl,derefP_at ⟨_,hat o43 3 _ rfl,fun a=>⟨_,ld1_at J43.2.2 rfl,fun i55 e55=>⟨_,st1_of J43.2.2 (by simp),?_,⟨?_,?_,?_⟩,fun _ _=>trivial⟩⟩,fun a=>⟨rfl,⟨J43.1,J43.2.1,?_⟩,fun _ _=>trivial⟩⟩⟩⟩
        ·rw[(near_set _ _ _).2 _ (by omega)]
        ·rw[(near_set _ _ _).1]; exact J43.1
        ·intro c hc hne
         rw[(near_set _ _ _).2 c hne]
         exact J43.2.1 c hc hne
        ·have hle:(((hang s.id 0 rs).take k).filter fun q=>decide (q.2.own=s.own)).length≤k:=Nat.le_trans (List.length_filter_le _ _) (by rw[List.length_take]; omega)
         have hlen:(hang s.id 0 rs).length≤rs.length:=by
          have:=congrArg List.length (hang_snd s.id rs 0)
          rw[List.length_map] at this
          rw[this]
          exact List.length_filter_le _ _
         simp only[reachBytes] at hn2
         have e55:=i64w e55 (by omega) (by omega)
         rw[get_set_self,htk,List.filter_append,List.length_append,List.set_cons_zero]
         have:([q].filter fun q=>decide (q.2.own=s.own)).length=1:=by simp[a]
         rw[this,e55]
         rfl
        ·rw[htk,List.filter_append,List.length_append]
         have:([q].filter fun q=>decide (q.2.own=s.own)).length=0:=by simp[a]
         rw[this]
         exact J43.2.2
       ·intro JJ DD hJ hG hDG hround g61 hj0
        refine hangGen kk.hanging1 (ya:=g23.next) (pb0:=g21.next) (pb1:=g22.next) (p:=some ⟨b,off,none⟩) (n:=n) (c:=c) (rs:=rs) (id:=s.id) (JJ:=JJ) (DD:=DD) (BB:=fun _ _=>True) (fun i g1' jj=>?_) (fun k g1' q hq jj=>?_) hj0
        ·obtain⟨q1,q2,q3⟩:=hJ i g1' jj
         exact⟨⟨_,_,(q2 _ (by omega) (by omega)).trans cp0⟩,⟨_,_,(q2 _ (by omega) (by omega)).trans cp1⟩,T.old (oldJ q1 q2)⟩
        ·have:=hround k g1' (List.getElem?_eq_some_iff.1 hq).1 jj
         rw[hItem_some hq] at this
         exact this
       ·rintro g65 ⟨q1,q2,q3⟩
        have dl:∀c,c≠g23.next→(g65.del g23.next).get c=g65.get c:=fun c hc=>by rw[AH.get_del,if_neg hc]
        have o65:Old h (g65.del g23.next):=⟨(oldJ q1 q2).1,fun c hc=>by rw[dl c (by have:=oh23.1; omega)]; exact (oldJ q1 q2).2 c hc⟩
        rw[List.take_of_length_le (Nat.le_refl _)] at q3
        have hcnt:((hang s.id 0 rs).filter fun q=>decide (q.2.own=s.own)).length=(rs.filter fun x=>decide (x.own=s.own) && decide (x.prev=s.id)).length:=by
         rw[←List.filter_filter,←hang_snd s.id rs 0,List.filter_map,List.length_map]
         rfl
        rw[hcnt] at q3
        refine⟨_,ld1_at ((dl _ (by omega)).trans q3) rfl,fun a=>⟨rfl,o65⟩,fun a=>absurd (by rw[hone]; rfl) a⟩
theorem rightFull (kk:KRight K) (T:Sets h p n rs) {nx:Int} (R:RightP nx rs):Wf Try.prog K 13 [.int .u64 nx,.slice p n c] h fun v h'=>v=.bool true∧Old h h':=by
 have hn:=T.1
 refine vc_family_Right kk.right _ _ _ _ h _ ⟨fun q=>absurd R.1 (by omega),fun z1=>⟨fun q=>absurd R.2.1 (by omega),fun z2 g0 e0=>?_⟩⟩
 have o0:=old_of_alloc e0
 have n0:=next_of_alloc e0
 refine⟨fun i5 i6 k g=>∃u:Nat,i6=u∧u≤n∧n - u=k∧Old h g∧h.next < g.next∧MapK g h.next ((rs.take u).map calK)∧(u=0→i5=0)∧(∀(j:Nat) x,u=j+1→rs[j]?= some x→i5=x.id),⟨_,0,rfl,Nat.zero_le _,rfl,o0,by omega,⟨⟨_,_,get_of_alloc e0,trivial⟩,fun c hc=>by cases hc⟩,fun _=>rfl,fun j x hj=>by omega⟩,?_⟩
 rintro k2 g3 i5 i6 ⟨u,rfl,hu,rfl,o3,l3,M3,hzero,hlast⟩
 refine⟨fun z=>?_,fun z=>?_⟩
 ·obtain⟨b,off,rfl,hi',hl,h1,ok⟩:=(T.old o3).at (i:=u) (by omega)
  have hru:=List.getElem?_eq_getElem hi'
  have hTu:(rs.take (u+1)).map calK=(rs.take u).map calK ++ [calK rs[u]]:=by rw[List.take_succ_eq_append_getElem hi',List.map_append]; rfl
  have hcall:∀{g:AH},Old h g→Wf Try.prog K 45 [.pointer (some ⟨b,off+u * 11,none⟩)] g fun v h'=>v=.agg #[.int .u64 (calK rs[u]).1,.string (calK rs[u]).2]∧Old g h':=fun o=>callOfSpec kk.callOf (T.old o) (by omega) hi'
  refine derefP_at ⟨by omega,z,_,_,_,_,_,_,_,_,_,_,_,_,_,by rw[Int.toNat_natCast]; exact hl,(entRight kk.ent ok).mono ?_⟩
  have hat:∀{g:AH},Old h g→∀(j:Nat) v,(setC rs[u])[j]?= some v→ld1 g b (off+u * 11+j)=some v:=fun o j v hj=>by
   obtain⟨hi3,hl3,h2,ok3⟩:=(T.old o).at' (i:=u) (by omega)
   exact h2 j v hj
  have hR:=R.2.2.1 u _ hru
  have hnd:=R.2.2.2.1
  have hni:calK rs[u]∉(rs.take u).map calK:=by
   have h2:(rs.map calK)=(rs.take u).map calK ++ (calK rs[u] :: (rs.drop (u+1)).map calK):=by
    conv=>lhs; rw[←List.take_append_drop u rs,List.map_append,List.drop_eq_getElem_cons hi',List.map_cons]
   rw[h2,List.nodup_append] at hnd
   exact fun q=>hnd.2.2 _ q _ (List.mem_cons_self ..) rfl
  have hlow:i5 < rs[u].id:=by
   cases u with
   | zero=>
     have:=hzero rfl
     have:=hR.1.1.1
     omega
   | succ w=>
     have hw:rs[w]?= some (rs[w]'(by omega)):=List.getElem?_eq_getElem _
     have h3:=hlast w _ rfl hw
     have h4:=hR.2.2 w _ rfl hw
     omega
  generalize rs[u]=r at h1 ok hru hTu hcall hat hR hni hlow
  rintro _ g23 ⟨⟨rfl,kE⟩ | ⟨rfl,kN⟩,o23⟩
  rotate_left
  ·exact absurd hR.1 kN
  have o23':=o3.trans o23
  have id23:=hat o23' 0 _ rfl
  refine .inl ⟨rfl,_,by rw[Int.toNat_natCast]; exact id23,fun a=>absurd a (by omega),fun a=>⟨_,by rw[Int.toNat_natCast]; exact id23,fun y=>absurd y (by omega),fun y=>⟨_,by rw[Int.toNat_natCast]; exact id23,?_⟩⟩⟩
  rw[Int.toNat_natCast]
  refine (hcall o23').mono ?_
  rintro _ g28 ⟨rfl,o28⟩
  refine⟨_,_,rfl,fun g31 e31=>?_⟩
  obtain⟨g32,k32,n32,o32,v32⟩:=put_new e31 (vs:=[.int .u64 (calK r).1,.string (calK r).2]) rfl
  have w32:=v32 [] (fun c hc=>by cases hc)
  have hck:CalOk (calK r):=by
   have hsz:=kE.2.2.2.2.1.2.1
   refine⟨?_,?_⟩
   ·unfold calK
    simp only
    split
    ·exact ok.own
    ·decide
   ·show r.name.size≤maxLen
    simp only[maxLen]
    omega
  have om:Old g3 g32:=(o23.trans o28).trans o32
  have M32:MapK g32 h.next ((rs.take u).map calK):=⟨by
   obtain⟨⟨es,clock,hg,hE⟩,-⟩:=M3
   exact⟨es,clock,by rw[om.2 _ l3]; exact hg,hE⟩,M3.2⟩
  refine⟨rfl,g32,k32,_,_,w32.ld rfl,0,false,M32.lookNo hck hni,?_⟩
  ·skip
   obtain⟨g39,k39,nr39,M39⟩:=M32.put hck hni (u:Int)
   refine⟨_,_,w32.ld rfl,g39,k39,fun i40 e40=>?_⟩
   have e40:=i64w e40 (by omega) (by omega)
   refine⟨n - (u+1),by omega,u+1,by omega,by omega,rfl,⟨by rw[nr39.1]; exact (o3.trans om).1,fun c hc=>by rw[nr39.2 c (by omega),(o3.trans om).2 c hc]⟩,by rw[nr39.1]; have:=om.1; omega,by rw[hTu]; exact M39,fun q=>by omega,fun j x hj hx=>?_⟩
   obtain rfl:j=u:=by omega
   rw[hru] at hx
   cases hx
   rfl
 ·obtain rfl:u=n:=by omega
  refine⟨fun i k g=>∃v:Nat,i=v∧v≤u∧u - v=k∧Old h g,⟨_,0,rfl,Nat.zero_le _,rfl,o3⟩,?_⟩
  rintro k42 g43 i45 ⟨v,rfl,hv,rfl,o43⟩
  refine⟨fun y=>?_,fun y=>?_⟩
  ·have hvn:v < u:=by omega
   obtain⟨b,off,rfl⟩:=T.some (by omega)
   have hvr:v < rs.length:=by omega
   refine derefP_at ⟨by omega,y,?_⟩
   rw[Int.toNat_natCast]
   have hEO:=R.2.2.2.2 _ (List.getElem_mem hvr)
   refine (elderFull kk.elder kk.hang.place (T.old o43) hvn hvr hEO.1).mono ?_
   rintro _ g49 ⟨rfl,o49⟩
   refine .inl ⟨rfl,derefP_at ⟨by omega,y,?_⟩⟩
   refine (ownerFull kk.owner kk.hang (T.old (o43.trans o49)) hvn hvr hEO.2).mono ?_
   rintro _ g53 ⟨rfl,o53⟩
   refine .inl ⟨rfl,fun i54 e54=>?_⟩
   have e54:=i64w e54 (by omega) (by omega)
   exact⟨u - (v+1),by omega,v+1,by omega,by omega,rfl,(o43.trans o49).trans o53⟩
  ·exact⟨rfl,o43⟩
end
end Go.Am
/-
 WHATEVER IS DONE TO A BOOK,one after the other:the law,xa the abstract machine runs it.
-/
set_option linter.unusedVariables false
set_option linter.unusedSimpArgs false
set_option maxRecDepth 100000
namespace Go.Am
open Go.Proofs
structure ActR where
 kind:Int
 kN:Int
 f:ByteArray
 f2:ByteArray
 id:Int
 pl:Option Addr
 m:Nat
 cl:Nat
 l:List PtI
def actC (a:ActR):List Value:=[.int .i64 a.kind,.int .i64 a.kN,.string a.f,.string a.f2,.int .u64 a.id,.slice a.pl a.m a.cl]
def ActOk (h:AH) (a:ActR):Prop:=a.f.size≤9223372036854775806∧a.f2.size≤9223372036854775806∧(Lit.int .u64 a.id).wf=true∧DL h a.pl a.m a.l
def ActsR (h:AH) (p:Option Addr) (n:Nat) (xa:List ActR):Prop:=n=xa.length∧∃cells,Shows h p n 6 cells∧∀(i:Nat) (hi:i < xa.length),(cells.drop (i * 6)).take 6=actC xa[i]∧ActOk h xa[i]
theorem ActsR.at2 {h g:AH} {p:Option Addr} {n:Nat} {xa:List ActR} (t:ActsR h p n xa) (o:Old h g) {i:Nat} (hi:i < n):∃b off,p=some ⟨b,off,none⟩∧∃(hi' : i < xa.length),ldN g b (off+i * 6) 6=some (actC xa[i])∧ActOk h xa[i]:=by
 obtain⟨t2,cells,t3,t4⟩:=t
 obtain⟨b,off,hp,hld,-⟩:=(t3.old o).getN hi
 obtain⟨q1,q2⟩:=t4 i (by omega)
 exact⟨b,off,hp,by omega,by rw[hld,q1],q2⟩
theorem actA_nx (nx:Int) (rs:List SetR) (kind k:Int) (f f2:ByteArray) (id:Int) (l:List PtI):(actA nx rs kind k f f2 id l).1=nx∨(actA nx rs kind k f f2 id l).1=nx+1:=by
 unfold actA
 split
 ·unfold createF
  simp only
  repeat' split
  all_goals first | exact .inl rfl | exact .inr rfl
 ·split
  ·unfold snapA
   simp only
   repeat' split
   all_goals first | exact .inl rfl | exact .inr rfl
  ·split
   ·unfold cloneA
    simp only
    repeat' split
    all_goals first | exact .inl rfl | exact .inr rfl
   ·split
    ·unfold promA
     simp only
     repeat' split
     all_goals exact .inl rfl
    ·split
     ·unfold backA
      simp only
      repeat' split
      all_goals exact .inl rfl
     ·split
      ·unfold dropVolA
       simp only
       repeat' split
       all_goals exact .inl rfl
      ·split
       ·unfold dropSnapA
        simp only
        repeat' split
        all_goals exact .inl rfl
       ·split
        ·unfold killA
         simp only
         repeat' split
         all_goals exact .inl rfl
        ·exact .inl rfl
theorem rightNil:RightP 1 []:=⟨by decide,Nat.zero_le _,fun i r h=>by simp at h,List.nodup_nil,fun r h=>by cases h⟩
theorem bookNil (h:AH):BookOk h none 0 []:=⟨⟨rfl,Nat.zero_le _,[],⟨rfl,.inl rfl⟩,fun i hi=>absurd hi (Nat.not_lt_zero _)⟩,fun r hr=>by cases hr⟩
structure RunI (h:AH) (gb wb t:Nat) (p:AH):Prop where
 o:Old h p
 lt:wb < p.next
 st:∃nx p1 n1 c1 p2 n2 c2 xs rs,p.get gb=some (.cells [.int .u64 nx,.slice p1 n1 c1] 36 false)∧p.get wb=some (.cells [.int .u64 nx,.slice p2 n2 c2] 36 false)∧BookOk p p1 n1 xs∧Sets p p2 n2 rs∧FormP p2∧xs.map cor=rs.map cor∧RightP nx xs∧1≤nx∧nx≤1+(t:Int)
section
variable {K:Xs} {h:AH} {p:Option Addr} {n c:Nat} {rs:List SetR} {nx:Int}
theorem runsTrue (hk:K 10=none) (ha:K 15=some (.sum xTrue)) (kl:KLaw17 K) (kp:KActs6 K) (kk:KRef17 K) (kr:KRight K) {xa:List ActR} (A:ActsR h p n xa):
 Wf Try.prog K 10 [.slice p n c] h fun v _=>v=.bool true:=by
 refine vc_aquiferlaw17_RuleRuns hk _ _ _ h _ (Wf_sum ha (v:=.bool true) (h':=h) rfl (Nat.le_refl _) (.inl ⟨rfl,fun _=>rfl,fun h60 g0 e0=>?_⟩))
 have hn:n≤60:=by omega
 obtain⟨g1,k1,n1,o1,v1⟩:=put_new e0 (vs:=[.int .u64 1,.slice none 0 0]) rfl
 refine⟨rfl,g1,k1,fun g2 e2=>?_⟩
 obtain⟨g3,k3,n3,o3,v3⟩:=put_new e2 (vs:=[.int .u64 1,.slice none 0 0]) rfl
 have w1:=(v1 [] (fun c hc=>by cases hc)).1
 have w3:=(v3 [] (fun c hc=>by cases hc)).1
 refine⟨rfl,g3,k3,fun i k g=>∃t:Nat,i=t∧t≤n∧n - t=k∧RunI h h.next g1.next t g,⟨_,0,rfl,Nat.zero_le _,rfl,o1.trans o3,by omega,1,none,0,0,none,0,0,[],[],(o3.2 _ (by omega)).trans w1,w3,bookNil _,(bookNil _).1,.inl rfl,rfl,rightNil,by decide,by decide⟩,?_⟩
 rintro k4 g4 i4 ⟨t,rfl,ht,rfl,I⟩
 refine⟨fun z=>?_,fun z=>rfl⟩
 obtain⟨oh,hlt,nx,p1,m1,c1,p2,m2,c2,xs,rs,wB,wW,B,T,fm,hc,R,nx1,nx2⟩:=I
 obtain⟨b,off,rfl,hi',hld,aok1,aok2,aok3,DLl⟩:=A.at2 oh (i:=t) (by omega)
 generalize xa[t]=a at hld aok1 aok2 aok3 DLl
 refine derefP_at ⟨by omega,z,_,_,_,_,_,_,_,_,by rw[Int.toNat_natCast]; exact hld,fun g5 e5=>?_⟩
 obtain⟨g6,k6,n6,o6,v6⟩:=put_new e5 (vs:=actC a) rfl
 have w6:=(v6 [] (fun c hc=>by cases hc)).1
 have oh6:=oh.trans o6
 have hgb:h.next < g4.next:=by have:=o1.1; omega
 have round:∀{g:AH} {i:Int},i=IntKind.wrap .i64 ((t:Int)+1)→RunI h h.next g1.next (t+1) g→∃j,j < n - t∧∃u:Nat,i=u∧u≤n∧n - u=j∧RunI h h.next g1.next u g:=fun {g i} e I=>by
  have e:=i64w e (by omega) (by omega)
  exact⟨n - (t+1),by omega,t+1,by omega,by omega,rfl,I⟩
 refine⟨rfl,g6,k6,_,_,_,ld1_at w6 rfl,fun y i e=>?_,fun y=>?_⟩
 ·refine round e ⟨oh6,by omega,nx,p1,m1,c1,p2,m2,c2,xs,rs,(o6.2 _ hgb).trans wB,(o6.2 _ hlt).trans wW,B.old o6,T.old o6,fm,hc,R,nx1,by omega⟩
 have hm20:a.m≤20:=by omega
 have hbn:0≤nx∧nx < 281474976710655:=by omega
 have hr32:=R.2.1
 have Rr:RightP nx rs:=R.cor hc
 have hr32':=Rr.2.1
 have hm1:=B.1.1
 have hm2:=T.1
 refine⟨_,_,_,_,ldN_all ((o6.2 _ hgb).trans wB) rfl,_,_,_,_,_,_,_,_,ldN_all w6 rfl,(doSpec kl kp (B.old o6) R (by omega) hbn (by omega) a.kind a.kN a.f a.f2 aok1 aok2 a.id aok3 (DLl.old oh6) (by omega)).mono ?_⟩
 rintro _ g7 ⟨⟨i,px,n',cx,s,ql,qn,qc,rfl,bx,oks,hcs,dl⟩,o7⟩
 refine⟨_,_,_,_,_,_,_,_,_,_,_,_,_,_,_,_,_,_,_,_,_,rfl,fun g8 e8 g9 e9=>?_⟩
 obtain⟨g10,g11,k10,k11,o11,l7,l8,wx,ws⟩:=put2 (i:=i) (p':=px) (n':=n') (c':=cx) (s:=s) e8 e9
 have oA:=o7.trans o11
 have o46:=o6.trans oA
 have ohA:=oh6.trans oA
 refine⟨rfl,g10,k10,rfl,g11,k11,_,_,_,_,ldN_all ((o46.2 _ hlt).trans wW) rfl,_,_,_,_,_,_,_,_,ldN_all ((oA.2 _ (by omega)).trans w6) rfl,(wantSpec kl kk (T.old o46) fm Rr (by omega) hbn (by omega) a.kind a.kN a.f a.f2 aok1 aok2 a.id aok3 (DLl.old ohA) (by omega)).mono ?_⟩
 rintro _ g12 ⟨⟨j,py,ny,cy,s2,rl,rn,rc,rfl,byy,okt,hct,dlt⟩,o12⟩
 refine⟨_,_,_,_,_,_,_,_,_,_,_,_,_,_,_,_,_,_,_,_,_,rfl,fun g13 e13 g14 e14=>?_⟩
 obtain⟨g15,g16,k15,k16,o16,l12,l13,wy,wt⟩:=put2 (i:=j) (p':=py) (n':=ny) (c':=cy) (s:=s2) e13 e14
 obtain⟨q1,q2,q3,q4⟩:=actA_cor (nx:=nx) hc a.kind a.kN a.f a.f2 a.id a.l
 have oD:=o12.trans o16
 have aR:=actA_right R B.1.dn (by omega) hbn.2 a.kind a.kN a.f a.f2 a.id a.l
 have aX:=actA_nx nx xs a.kind a.kN a.f a.f2 a.id a.l
 have bx16:=bx.old (o11.trans oD)
 have by16:BookD _ _ j py ny g16:=⟨byy.1,byy.2.1,byy.2.2.elim fun rs' z=>⟨rs',z.1.old o16,z.2⟩⟩
 obtain⟨hx1,xs',hx2,hx3⟩:=bx16
 obtain⟨hy1,fy,ys',hy2,hy3⟩:=by16
 refine⟨rfl,g15,k15,rfl,g16,k16,_,_,_,_,ldN_all ((oD.2 _ l7).trans wx) rfl,_,_,_,_,ldN_all wy rfl,(same17 kk hx2.1 hy2).mono ?_⟩
 have heq:i=j∧xs'.map cor=ys'.map cor:=⟨by rw[hx1,hy1,q1],by rw[hx3,hy3,q2]⟩
 rintro _ g17 ⟨⟨rfl,-⟩ | ⟨rfl,k⟩,o17⟩
 rotate_left
 ·exact absurd heq k
 have oE:=oD.trans o17
 refine .inl ⟨rfl,_,_,_,_,_,_,_,_,_,_,_,_,_,ldN_all ((oE.2 _ l8).trans ws) rfl,_,_,_,_,_,_,_,_,_,_,_,_,_,ldN_all ((o17.2 _ l13).trans wt) rfl,(same15 kk.r16.r15 (oks.old (o11.trans oE)) (okt.old (o16.trans o17))).mono ?_⟩
 rintro _ g18 ⟨⟨rfl,-⟩ | ⟨rfl,k⟩,o18⟩
 rotate_left
 ·exact absurd (by rw[hcs,hct,q3]) k
 have dl2:=(dl.old (o11.trans oE)).old o18
 have dlt2:=(dlt.old (o16.trans o17)).old o18
 refine .inl ⟨rfl,(same11 kk.r16.r15.r1 dl2.shows dl2.wf (by have h1:=dl2.len; have h2:=actA_len R B.1.dn a.kind a.kN a.f a.f2 a.id a.l; have h3:=DLl.len; omega) dlt2.shows dlt2.wf).mono ?_⟩
 rintro _ g19 ⟨⟨rfl,-⟩ | ⟨rfl,k⟩,rfl⟩
 rotate_left
 ·exact absurd (by rw[q4]) k
 refine .inl ⟨rfl,fun _=>?_,fun z=>absurd (by rw[q4]) z⟩
 have o168:=o17.trans o18
 have wx18:=(o168.2 _ (Nat.lt_of_lt_of_le l7 oD.1)).trans ((oD.2 _ l7).trans wx)
 have Ri:RightP i xs':=by rw[hx1]; exact aR.cor hx3.symm
 refine⟨_,ld1_at wx18 rfl,_,_,_,ld1_at wx18 rfl,(rightFull kr (hx2.1.old o168) Ri).mono ?_⟩
 rintro _ g20 ⟨rfl,o20⟩
 have o1620:=o168.trans o20
 have o420:Old g4 g20:=(o46.trans oD).trans o1620
 have cB:=(o420.2 _ hgb).trans wB
 have cW:=(o420.2 _ hlt).trans wW
 have wx20:=(o20.2 _ (Nat.lt_of_lt_of_le l7 (Nat.le_trans oD.1 o168.1))).trans wx18
 have wy20:=(o1620.2 _ l12).trans wy
 have s1:=near_set h.next g20 (.cells [.int .u64 i,.slice px n' cx] 36 false)
 have hne:h.next≠g1.next:=by omega
 have l1220:h.next≠g12.next:=by have:=ohA.1; have:=o12.1; have:=oh6.1; have:=o7.1; omega
 have s2:=near_set g1.next (g20.set h.next (.cells [.int .u64 i,.slice px n' cx] 36 false)) (.cells [.int .u64 j,.slice py ny cy] 36 false)
 refine .inl ⟨rfl,_,_,_,_,ldN_all wx20 rfl,rfl,_,stN_all cB rfl,_,_,_,_,ldN_all ((s1.2 _ (Ne.symm l1220)).trans wy20) rfl,rfl,_,stN_all ((s1.2 _ (Ne.symm hne)).trans cW) rfl,fun i21 e21=>round e21 ?_⟩
 have st:Stays g20 ((g20.set h.next (.cells [.int .u64 i,.slice px n' cx] 36 false)).set g1.next (.cells [.int .u64 j,.slice py ny cy] 36 false)):=by
  refine⟨Nat.le_refl _,fun y hy=>?_⟩
  by_cases a1:y=h.next
  ·exact .inr ⟨_,_,_,by rw[a1]; exact cB,.inl (by simp),by simp⟩
  ·by_cases a2:y=g1.next
   ·exact .inr ⟨_,_,_,by rw[a2]; exact cW,.inl (by simp),by simp⟩
   ·exact .inl ((s2.2 y a2).trans (s1.2 y a1))
 have hij:=heq.1
 subst hij
 have bF:BookR i xs' i px n' g20:=⟨rfl,xs',hx2.old o1620,rfl⟩
 obtain⟨-,xs3,hx4,hx5⟩:=bF.stays Ri st
 have Rj:RightP i ys':=Ri.cor heq.2
 have dF:BookD i ys' i py ny g20:=⟨rfl,fy,ys',hy2.old o1620,rfl⟩
 obtain⟨-,-,ys3,hy4,hy5⟩:=dF.stays Rj st
 refine⟨⟨Nat.le_trans oh.1 o420.1,fun y hy=>?_⟩,Nat.lt_of_lt_of_le hlt o420.1,i,px,n',cx,py,ny,cy,xs3,ys3,(s2.2 _ hne).trans (get_set_self _ _ _),get_set_self _ _ _,hx4,hy4,fy,by rw[hx5,hy5]; exact heq.2,Ri.cor hx5.symm,by omega,by omega⟩
 rw[s2.2 y (by omega),s1.2 y (by omega),o420.2 y (Nat.lt_of_lt_of_le hy oh.1),oh.2 y hy]
end
theorem rd_actX {h:AH} {g:Nat} {cs:List Value} (r:Rd Try.prog h (g+6) 58 cs):∃a:ActR,cs=actC a∧ActOk h a:=by
 obtain⟨kind,kN,f,f2,id,pl,m,cl,l,e,h1,h2,h3,h4⟩:=rd_actZ (h:=h) (g:=g) (v:=.agg cs.toArray) (by unfold RdV; rw[Try.underlying58]; exact⟨cs,rfl,r⟩)
 refine⟨⟨kind,kN,f,f2,id,pl,m,cl,l⟩,?_,h1,h2,h3,h4⟩
 have:=congrArg (fun v:Value=>match v with | .agg a=>a.toList | _=>[]) e
 simpa[actC] using this
theorem runs_args {h:AH} {vs:List Value} (r:RdA Try.prog h 9 [67] vs):∃p n c xa,vs=[.slice p n c]∧ActsR h p n xa:=by
 obtain⟨a,rfl,r1⟩:=rda1 r
 unfold RdV at r1
 rw[Try.underlying67] at r1
 have r2:Rd Try.prog h (2+7) 67 [a]:=r1
 unfold Rd at r2
 rw[Try.underlying67] at r2
 obtain⟨p,n,c,al,e,hp,hn,hb,hs,hr⟩:=r2
 have hc2:Try.prog.cellsOf 58=6:=by simp
 obtain⟨hl,hi⟩:=hr.rep
 rw[hc2] at hs hi hl
 obtain⟨xa,hrs,hq⟩:=list_ofX (fun i (s:ActR)=>(al.drop (i * 6)).take 6=actC s∧ActOk h s) n fun i hin=>rd_actX (hi i hin)
 exact⟨p,n,c,xa,by simpa using e,hrs.symm,al,hs,fun i hi=>hq i hi⟩
end Go.Am
