/-
  THE DOCUMENT'S ANSWERS of layer 16: of records in a row.
-/
import Derived.Test.YtkapnilnhoiooaaGreatCRef2
set_option linter.unusedVariables false
set_option linter.unusedSimpArgs false
set_option maxRecDepth 100000
namespace Go.Am
open Go.Proofs
theorem zaY.keep {lim:Nat} {h h' : AH} {elem:TypeId} {sz:Nat} {p:Option Addr} {n c:Nat} {cs:List Value} (g:zaY lim h elem sz p n c cs) (hn:h.next≤h'.next) (k:∀a,p=some a→h'.get a.block=h.get a.block):zaY lim h' elem sz p n c cs:=by
 refine⟨g.1,?_⟩
 rcases g.2 with hp | ⟨b,hp,hl,hb,hg,hc⟩
 ·exact .inl hp
 ·exact .inr ⟨b,hp,hl,Nat.lt_of_lt_of_le hb hn,by rw[k _ hp,hg],hc⟩
def zlz (rs:List zaj) (id:Int):List Int:=match plcN rs id with
 | none=>[]
 | some i=>match rs[i]? with
   | none=>[]
   | some r=>if r.snap=true then (rs.filter fun x=>decide (x.own=r.own) && decide (x.prev=id)).map (·.id) else []
structure zhz (K:Xs):Prop where
 r15:zvV K
 find:K 75=none
 floor:K 73=none
 kids:K 76=none
 back:K 42=none
 full:K 43=none
 named:K 45=none
section
variable {K:Xs} {h:AH} {p:Option Addr} {n c:Nat} {rs:List zaj}
def zwU (rs:List zaj) (id:Int) (v:Value):Prop:=(∃i r,plcN rs id=some i∧rs[i]?= some r∧v=.tuple #[.agg (setC r).toArray,.bool true])∨(plcN rs id=none∧v=.tuple #[.agg (setC zaq).toArray,.bool false])
theorem ze1 (kk:zhz K) (T:zbL h p n rs) (id:Int):Wf Tryz.prog K 75 [.slice p n c,.int .u64 id] h fun v h'=>zwU rs id v∧Old h h':=by
 have hn:=T.1
 have hn2:=T.2.1
 simp only[reachBytes] at hn2
 refine zfv kk.find _ _ _ _ h _ fun g0 e0=>⟨fun i k g=>∃u:Nat,i=u∧u≤n∧n - u=k∧Old g0 g∧∀(j:Nat) r,j < u→rs[j]?= some r→r.id≠id,⟨_,0,rfl,Nat.zero_le _,rfl,Old.refl _,fun j r hj=>absurd hj (Nat.not_lt_zero _)⟩,?_⟩
 have o0:=zab e0
 have n0:=zaa e0
 have c0:g0.get h.next=some (.cells (setC zaq) 81 false):=zaf e0
 rintro k1 g3 i4 ⟨u,rfl,hu,rfl,o3,hb⟩
 have c3:=(o3.2 h.next (by omega)).trans c0
 have l3:=o3.1
 refine⟨fun z=>?_,fun z=>?_⟩
 ·obtain⟨b,off,rfl,hi',hl,h1,ok⟩:=(T.old (o0.trans o3)).at (i:=u) (by omega)
  have hru:=List.getElem?_eq_getElem hi'
  generalize rs[u]=r at hl h1 ok hru
  refine zag ⟨by omega,z,_,_,_,_,_,_,_,_,_,_,_,_,_,by rw[Int.toNat_natCast]; exact hl,fun g21 e21=>?_⟩
  obtain⟨g22,k22,n22,o22,v22⟩:=zap e21 (vs:=setC r) rfl
  have w22:=v22 [] (fun c hc=>by cases hc)
  have c22:=(o22.2 h.next (by omega)).trans c3
  refine⟨rfl,g22,k22,_,zae w22.1 rfl,fun e=>?_,fun e i51 e51=>?_⟩
  ·have nr:=zak h.next g22 (.cells (setC r) 81 false)
   refine⟨_,_,_,_,_,_,_,_,_,_,_,_,_,zah w22.1 rfl,rfl,g22.set h.next (.cells (setC r) 81 false),zat c22 rfl,_,_,_,_,_,_,_,_,_,_,_,_,_,zah (zad _ _ _) rfl,.inl ⟨u,r,zdO hru e hb,hru,rfl⟩,by rw[nr.1]; have:=o22.1; omega,fun c hc=>by rw[nr.2 c (by omega),o22.2 c (by omega),o3.2 c (by omega),o0.2 c hc]⟩
  ·have e51:=zcj e51 (by omega) (by omega)
   refine⟨n - (u+1),by omega,u+1,by omega,by omega,rfl,o3.trans o22,fun j x hj hx=>?_⟩
   rcases Nat.lt_succ_iff_lt_or_eq.1 hj with hj | rfl
   ·exact hb j x hj hx
   ·rw[hru] at hx
    cases hx
    exact e
 ·have nr:=zak h.next g3 (.cells (setC zaq) 81 false)
  refine⟨rfl,g3.set h.next (.cells (setC zaq) 81 false),zat c3 rfl,_,_,_,_,_,_,_,_,_,_,_,_,_,zah (zad _ _ _) rfl,.inr ⟨zeX fun r hr=>?_,rfl⟩,by rw[nr.1]; omega,fun c hc=>by rw[nr.2 c (by omega),o3.2 c (by omega),o0.2 c hc]⟩
  obtain⟨j,hj⟩:=List.mem_iff_getElem?.1 hr
  exact hb j r (by have:=(List.getElem?_eq_some_iff.1 hj).1; omega) hj
theorem zre (kk:zhz K) (T:zbL h p n rs) (hz:plcN rs 0=none) (id:Int):Wf Tryz.prog K 73 [.slice p n c,.int .u64 id] h fun v h'=>v=.int .u64 (flr rs id)∧Old h h':=by
 refine zeM kk.floor _ _ _ _ h _ ((ze1 kk T id).mono ?_)
 rintro _ g1 ⟨⟨i,r,e1,e2,rfl⟩ | ⟨e1,rfl⟩,o1⟩
 ·refine⟨_,_,_,_,_,_,_,_,_,_,_,_,_,.inl ⟨rfl,fun g15 e15=>?_⟩⟩
  obtain⟨g16,k16,n16,o16,v16⟩:=zap e15 (vs:=setC r) rfl
  have w16:=v16 [] (fun c hc=>by cases hc)
  refine⟨rfl,g16,k16,_,zae w16.1 rfl,(ze1 kk (T.old (o1.trans o16)) r.prev).mono ?_⟩
  rintro _ g19 ⟨⟨j,x,f1,f2,rfl⟩ | ⟨f1,rfl⟩,o19⟩
  ·refine⟨_,_,_,_,_,_,_,_,_,_,_,_,_,.inl ⟨rfl,fun g33 e33=>?_⟩⟩
   obtain⟨g34,k34,n34,o34,v34⟩:=zap e33 (vs:=setC x) rfl
   have w34:=v34 [] (fun c hc=>by cases hc)
   refine⟨rfl,g34,k34,_,zae w34.1 rfl,?_,((o1.trans o16).trans o19).trans o34⟩
   have hp:r.prev≠0:=fun e=>by rw[e,hz] at f1; cases f1
   unfold flr
   simp only[e1,e2,if_neg hp,f1,f2]
  ·refine⟨_,_,_,_,_,_,_,_,_,_,_,_,_,.inr ⟨rfl,fun g33 e33=>?_⟩⟩
   obtain⟨g34,k34,n34,o34,v34⟩:=zap e33 (vs:=setC zaq) rfl
   refine⟨rfl,g34,k34,?_,((o1.trans o16).trans o19).trans o34⟩
   unfold flr
   simp only[e1,e2,f1]
   split <;> rfl
 ·refine⟨_,_,_,_,_,_,_,_,_,_,_,_,_,.inr ⟨rfl,fun g15 e15=>?_⟩⟩
  obtain⟨g16,k16,n16,o16,v16⟩:=zap e15 (vs:=setC zaq) rfl
  refine⟨rfl,g16,k16,?_,o1.trans o16⟩
  unfold flr
  simp only[e1]
theorem zvW (kk:zhz K) (T:zbL h p n rs) (hn40:n≤1000) (id:Int):Wf Tryz.prog K 76 [.slice p n c,.int .u64 id] h fun v h'=>∃p1 n1 c1 p2 n2 c2,v=.tuple #[.slice p1 n1 c1,.slice p2 n2 c2]∧zaR h' p1 n1 1 (zgi (zlz rs id))∧zaR h' p2 n2 1 (zgi (clL rs id))∧Old h h':=by
 have hn:=T.1
 refine zfx kk.kids _ _ _ _ h _ fun g0 e0 g1 e1=>?_
 have o0:=zab e0
 have n0:=zaa e0
 have o1:=zab e1
 have n1:=zaa e1
 have oo:=o0.trans o1
 have G0:zaY h.next g1 26 1 (some ⟨h.next,0,none⟩) 0 0 []:=(zaY.lit (n:=0) (sz:=1) e0 rfl (Nat.le_refl _)).old o1
 have G1:zaY h.next g1 26 1 (some ⟨g0.next,0,none⟩) 0 0 []:=zaY.lit (n:=0) (sz:=1) e1 rfl (by omega)
 refine (ze1 kk (T.old oo) id).mono ?_
 rintro _ g3 ⟨⟨i,r,q1,q2,rfl⟩ | ⟨q1,rfl⟩,o3⟩
 ·refine⟨_,_,_,_,_,_,_,_,_,_,_,_,_,.inl ⟨rfl,fun g17 e17=>?_⟩⟩
  obtain⟨g18,k18,n18,o18,v18⟩:=zap e17 (vs:=setC r) rfl
  have w18:=v18 [] (fun c hc=>by cases hc)
  refine⟨rfl,g18,k18,?_⟩
  have o318:=o3.trans o18
  have l3:=o3.1
  have l18:=w18.2.1
  cases hs:r.snap with
  | false=>
    refine .inr ⟨zae w18.1 (by simp[setC,hs]),_,_,_,_,_,_,rfl,?_,?_,oo.trans o318⟩
    ·have:zlz rs id=[]:=by unfold zlz; simp[q1,q2,hs]
     rw[this]
     exact (G0.old o318).shows
    ·have:clL rs id=[]:=by unfold clL; simp[q1,q2,hs]
     rw[this]
     exact (G1.old o318).shows
  | true=>
    have hw1:zlz rs id=(rs.filter fun x=>decide (x.own=r.own) && decide (x.prev=id)).map (·.id):=by unfold zlz; simp only[q1,q2,hs,if_true]
    have hw2:clL rs id=(rs.filter fun x=>(!decide (x.own=r.own)) && decide (x.prev=id)).map (·.id):=by unfold clL; simp only[q1,q2,hs,if_true]
    rw[hw1,hw2]
    refine .inl ⟨zae w18.1 (by simp[setC,hs]),fun p1 n1 c1 p2 n2 c2 i k g=>∃u:Nat,i=u∧u≤n∧n - u=k∧Old h g∧g18.next≤g.next∧(g.get g3.next=some (.cells (setC r) 81 false))∧
     zaY h.next g 26 1 p1 n1 c1 (zgi (((rs.take u).filter fun x=>decide (x.own=r.own) && decide (x.prev=id)).map (·.id)))∧n1≤u∧
     zaY h.next g 26 1 p2 n2 c2 (zgi (((rs.take u).filter fun x=>(!decide (x.own=r.own)) && decide (x.prev=id)).map (·.id)))∧n2≤u∧
     ∃b1 b2,p1=some ⟨b1,0,none⟩∧p2=some ⟨b2,0,none⟩∧b1≠b2∧b1≠g3.next∧b2≠g3.next,⟨_,0,rfl,Nat.zero_le _,rfl,oo.trans o318,Nat.le_refl _,w18.1,G0.old o318,Nat.le_refl _,G1.old o318,Nat.le_refl _,_,_,rfl,rfl,by omega,by omega,by omega⟩,?_⟩
    rintro k20 g21 p23 n24 c25 p26 n27 c28 i29 ⟨u,rfl,hu,rfl,o21,l21,c21,Ga,ha,Gb,hb,b1,b2,rfl,rfl,hne,hb1,hb2⟩
    refine⟨fun z=>?_,fun z=>?_⟩
    ·obtain⟨b,off,rfl,hi',hl,h1,ok⟩:=(T.old o21).at (i:=u) (by omega)
     have htk:=List.take_succ_eq_append_getElem hi'
     generalize rs[u]=x at hl h1 ok htk
     refine zag ⟨by omega,z,_,_,_,_,_,_,_,_,_,_,_,_,_,by rw[Int.toNat_natCast]; exact hl,fun g45 e45=>?_⟩
     obtain⟨g46,k46,n46,o46,v46⟩:=zap e45 (vs:=setC x) rfl
     have w46:=v46 [] (fun c hc=>by cases hc)
     have c46:=(o46.2 g3.next (by omega)).trans c21
     have lb1:b1 < g21.next:=(Ga.block (a:=⟨b1,0,none⟩) rfl).2
     have lb2:b2 < g21.next:=(Gb.block (a:=⟨b2,0,none⟩) rfl).2
     have lim1:h.next≤b1:=(Ga.block (a:=⟨b1,0,none⟩) rfl).1
     have lim2:h.next≤b2:=(Gb.block (a:=⟨b2,0,none⟩) rfl).1
     have pushA:x.own=r.own→x.prev=id→∀g51:AH,g51=g46.alloc (.cells ([(.int .u64 x.id)]:List Value) 26 false)→
      ∃(p52:Option Addr) (n53 c54:Nat) (h55:AH),zan Tryz.prog g51 .append #[102,102] [(.slice (some ⟨b1,0,none⟩) n24 c25),(.slice (some ⟨g46.next,0,none⟩) 1 1)]=some (.slice p52 n53 c54,h55)∧
      (∀i56:Int,i56=IntKind.wrap .i64 ((u:Int)+1)→∃j22,j22 < n - u∧(∃u:Nat,i56=u∧u≤n∧n - u=j22∧Old h h55∧g18.next≤h55.next∧(h55.get g3.next=some (.cells (setC r) 81 false))∧
        zaY h.next h55 26 1 p52 n53 c54 (zgi (((rs.take u).filter fun x=>decide (x.own=r.own) && decide (x.prev=id)).map (·.id)))∧n53≤u∧
        zaY h.next h55 26 1 (some ⟨b2,0,none⟩) n27 c28 (zgi (((rs.take u).filter fun x=>(!decide (x.own=r.own)) && decide (x.prev=id)).map (·.id)))∧n27≤u∧
        ∃b1 b2',p52=some ⟨b1,0,none⟩∧(some ⟨b2,0,none⟩:Option Addr)=some ⟨b2',0,none⟩∧b1≠b2'∧b1≠g3.next∧b2'≠g3.next)):=by
      intro y1 y2 g51 e51
      obtain⟨p52,c54,g55,k55,G55,hob,hap,hnew⟩:=(Ga.old o46).push zvq (by have:=o21.1; omega) (m:=1) (ns:=[.int .u64 x.id]) e51 rfl (by simp only[zaU]; omega) (by omega)
      obtain⟨bn,rfl,hbn⟩:=hnew (by omega)
      have l55:=hob.1
      refine⟨_,_,_,g55,k55,fun i56 e56=>?_⟩
      have e56:=zcj e56 (by omega) (by omega)
      have o55:∀c,c < g46.next→c≠b1→g55.get c=g46.get c:=fun c hc hne=>hap c hc (fun e=>hne e.symm)
      refine⟨n - (u+1),by omega,u+1,by omega,by omega,rfl,⟨by have:=o21.1; omega,fun c hc=>by rw[o55 c (by have:=o21.1; omega) (by omega),o46.2 c (by have:=o21.1; omega),o21.2 c hc]⟩,by omega,by rw[o55 _ (by omega) (by omega)]; exact c46,?_,by omega,?_,by omega,bn,b2,rfl,rfl,by omega,by omega,hb2⟩
      ·rw[htk,List.filter_append,List.map_append]
       have:(([x].filter fun x=>decide (x.own=r.own) && decide (x.prev=id)).map (·.id))=[x.id]:=by simp[y1,y2]
       rw[this,zeZ]
       exact G55
      ·rw[htk,List.filter_append,List.map_append]
       have:(([x].filter fun x=>(!decide (x.own=r.own)) && decide (x.prev=id)).map (·.id))=[]:=by simp[y1]
       rw[this,List.append_nil]
       refine (Gb.old o46).keep l55 fun a e=>?_
       cases e
       exact o55 _ (by show b2 < _; omega) (fun e=>hne e.symm)
     have pushB:x.own≠r.own→x.prev=id→∀g51:AH,g51=g46.alloc (.cells ([(.int .u64 x.id)]:List Value) 26 false)→
      ∃(p52:Option Addr) (n53 c54:Nat) (h55:AH),zan Tryz.prog g51 .append #[102,102] [(.slice (some ⟨b2,0,none⟩) n27 c28),(.slice (some ⟨g46.next,0,none⟩) 1 1)]=some (.slice p52 n53 c54,h55)∧
      (∀i56:Int,i56=IntKind.wrap .i64 ((u:Int)+1)→∃j22,j22 < n - u∧(∃u:Nat,i56=u∧u≤n∧n - u=j22∧Old h h55∧g18.next≤h55.next∧(h55.get g3.next=some (.cells (setC r) 81 false))∧
        zaY h.next h55 26 1 (some ⟨b1,0,none⟩) n24 c25 (zgi (((rs.take u).filter fun x=>decide (x.own=r.own) && decide (x.prev=id)).map (·.id)))∧n24≤u∧
        zaY h.next h55 26 1 p52 n53 c54 (zgi (((rs.take u).filter fun x=>(!decide (x.own=r.own)) && decide (x.prev=id)).map (·.id)))∧n53≤u∧
        ∃b1' b2,(some ⟨b1,0,none⟩:Option Addr)=some ⟨b1',0,none⟩∧p52=some ⟨b2,0,none⟩∧b1'≠b2∧b1'≠g3.next∧b2≠g3.next)):=by
      intro y1 y2 g51 e51
      obtain⟨p52,c54,g55,k55,G55,hob,hap,hnew⟩:=(Gb.old o46).push zvq (by have:=o21.1; omega) (m:=1) (ns:=[.int .u64 x.id]) e51 rfl (by simp only[zaU]; omega) (by omega)
      obtain⟨bn,rfl,hbn⟩:=hnew (by omega)
      have l55:=hob.1
      refine⟨_,_,_,g55,k55,fun i56 e56=>?_⟩
      have e56:=zcj e56 (by omega) (by omega)
      have o55:∀c,c < g46.next→c≠b2→g55.get c=g46.get c:=fun c hc hne=>hap c hc (fun e=>hne e.symm)
      refine⟨n - (u+1),by omega,u+1,by omega,by omega,rfl,⟨by have:=o21.1; omega,fun c hc=>by rw[o55 c (by have:=o21.1; omega) (by omega),o46.2 c (by have:=o21.1; omega),o21.2 c hc]⟩,by omega,by rw[o55 _ (by omega) (by omega)]; exact c46,?_,by omega,?_,by omega,b1,bn,rfl,rfl,by omega,hb1,by omega⟩
      ·rw[htk,List.filter_append,List.map_append]
       have:(([x].filter fun x=>decide (x.own=r.own) && decide (x.prev=id)).map (·.id))=[]:=by simp[y1]
       rw[this,List.append_nil]
       refine (Ga.old o46).keep l55 fun a e=>?_
       cases e
       exact o55 _ (by show b1 < _; omega) hne
      ·rw[htk,List.filter_append,List.map_append]
       have:(([x].filter fun x=>(!decide (x.own=r.own)) && decide (x.prev=id)).map (·.id))=[x.id]:=by simp[y1,y2]
       rw[this,zeZ]
       exact G55
     have skip:x.prev≠id→∀i65:Int,i65=IntKind.wrap .i64 ((u:Int)+1)→∃j22,j22 < n - u∧(∃u:Nat,i65=u∧u≤n∧n - u=j22∧Old h g46∧g18.next≤g46.next∧(g46.get g3.next=some (.cells (setC r) 81 false))∧
      zaY h.next g46 26 1 (some ⟨b1,0,none⟩) n24 c25 (zgi (((rs.take u).filter fun x=>decide (x.own=r.own) && decide (x.prev=id)).map (·.id)))∧n24≤u∧
      zaY h.next g46 26 1 (some ⟨b2,0,none⟩) n27 c28 (zgi (((rs.take u).filter fun x=>(!decide (x.own=r.own)) && decide (x.prev=id)).map (·.id)))∧n27≤u∧
      ∃b1' b2',(some ⟨b1,0,none⟩:Option Addr)=some ⟨b1',0,none⟩∧(some ⟨b2,0,none⟩:Option Addr)=some ⟨b2',0,none⟩∧b1'≠b2'∧b1'≠g3.next∧b2'≠g3.next):=by
      intro y2 i65 e65
      have e65:=zcj e65 (by omega) (by omega)
      refine⟨n - (u+1),by omega,u+1,by omega,by omega,rfl,o21.trans o46,by omega,c46,?_,by omega,?_,by omega,b1,b2,rfl,rfl,hne,hb1,hb2⟩
      ·rw[htk,List.filter_append,List.map_append]
       have:(([x].filter fun x=>decide (x.own=r.own) && decide (x.prev=id)).map (·.id))=[]:=by simp[y2]
       rw[this,List.append_nil]
       exact Ga.old o46
      ·rw[htk,List.filter_append,List.map_append]
       have:(([x].filter fun x=>(!decide (x.own=r.own)) && decide (x.prev=id)).map (·.id))=[]:=by simp[y2]
       rw[this,List.append_nil]
       exact Gb.old o46
     exact⟨rfl,g46,k46,_,zae w46.1 rfl,fun y1=>⟨_,zae w46.1 rfl,_,zae c46 rfl,fun y2=>⟨_,zae w46.1 rfl,pushA y2 y1⟩,fun y2=>⟨_,zae w46.1 rfl,fun y3=>⟨_,zae w46.1 rfl,pushB y2 y3⟩,fun y3=>skip y3⟩⟩,fun y1=>⟨_,zae w46.1 rfl,fun y3=>absurd y3 y1,fun y3=>skip y3⟩⟩
    ·obtain rfl:u=n:=by omega
     rw[List.take_of_length_le (by omega)] at Ga Gb
     exact⟨_,_,_,_,_,_,rfl,Ga.shows,Gb.shows,o21⟩
 ·refine⟨_,_,_,_,_,_,_,_,_,_,_,_,_,.inr ⟨rfl,fun g75 e75=>?_⟩⟩
  obtain⟨g76,k76,n76,o76,v76⟩:=zap e75 (vs:=setC zaq) rfl
  refine⟨rfl,g76,k76,_,_,_,_,_,_,rfl,?_,?_,oo.trans (o3.trans o76)⟩
  ·have:zlz rs id=[]:=by unfold zlz; simp only[q1]
   rw[this]
   exact (G0.old (o3.trans o76)).shows
  ·have:clL rs id=[]:=by unfold clL; simp only[q1]
   rw[this]
   exact (G1.old (o3.trans o76)).shows
def hdI:List Int→Int
 | []=>0
 | a :: _=>a
theorem zu2 {l:List Int} (hne:0 < l.length):l[0]=hdI l:=by
 cases l with
 | nil=>simp at hne
 | cons a l=>rfl
theorem zmE (rs:List zaj) (id:Int):nextR rs id=hdI (zlz rs id):=by
 unfold nextR zlz
 cases plcN rs id with
 | none=>rfl
 | some i=>
   simp only
   cases rs[i]? with
   | none=>rfl
   | some r=>
     simp only
     cases hs:r.snap with
     | false=>rfl
     | true=>
       simp only[if_true]
       have h1:(rs.filter fun x=>decide (x.own=r.own) && decide (x.prev=id))=((hang id 0 rs).filter fun q=>decide (q.2.own=r.own)).map (·.2):=by
        rw[←List.filter_filter,←zhW id rs 0,List.filter_map]
        rfl
       rw[h1]
       have h2:(hang id 0 rs).find? (fun q=>decide (q.2.own=r.own))=((hang id 0 rs).filter fun q=>decide (q.2.own=r.own)).head?:=List.head?_filter.symm
       rw[h2]
       cases (hang id 0 rs).filter fun q=>decide (q.2.own=r.own) with
       | nil=>rfl
       | cons q l=>rfl
def zhf (rs:List zaj) (id:Int):List Int×Int:=match plcN rs id with
 | none=>([],0)
 | some i=>match rs[i]? with
   | none=>([],0)
   | some r=>if r.snap=true then ([],0) else zcz rs id rs.length r.prev []
theorem zuc (kk:zhz K) (T:zbL h p n rs) (hz:plcN rs 0=none) (hn40:n≤1000) (id:Int):Wf Tryz.prog K 42 [.slice p n c,.int .u64 id] h fun v h'=>∃p1 n1 c1,v=.tuple #[.slice p1 n1 c1,.int .u64 (zhf rs id).2]∧zaR h' p1 n1 1 (zgi (zhf rs id).1)∧Old h h':=by
 have hn:=T.1
 refine zfy kk.back _ _ _ _ h _ fun g0 e0=>?_
 have o0:=zab e0
 have n0:=zaa e0
 have G0:zaY h.next g0 26 1 (some ⟨h.next,0,none⟩) 0 0 []:=zaY.lit (n:=0) (sz:=1) e0 rfl (Nat.le_refl _)
 refine (ze1 kk (T.old o0) id).mono ?_
 rintro _ g2 ⟨⟨i,r,q1,q2,rfl⟩ | ⟨q1,rfl⟩,o2⟩
 rotate_left
 ·refine⟨_,_,_,_,_,_,_,_,_,_,_,_,_,.inr ⟨rfl,fun g16 e16=>?_⟩⟩
  obtain⟨g17,k17,n17,o17,v17⟩:=zap e16 (vs:=setC zaq) rfl
  have:zhf rs id=([],0):=by unfold zhf; simp only[q1]
  rw[this]
  exact⟨rfl,g17,k17,_,_,_,rfl,(G0.old (o2.trans o17)).shows,(o0.trans o2).trans o17⟩
 refine⟨_,_,_,_,_,_,_,_,_,_,_,_,_,.inl ⟨rfl,fun g16 e16=>?_⟩⟩
 obtain⟨g17,k17,n17,o17,v17⟩:=zap e16 (vs:=setC r) rfl
 have w17:=v17 [] (fun c hc=>by cases hc)
 refine⟨rfl,g17,k17,?_⟩
 have o217:=o2.trans o17
 cases hs:r.snap with
 | true=>
   have:zhf rs id=([],0):=by unfold zhf; simp[q1,q2,hs]
   rw[this]
   exact .inl ⟨zae w17.1 (by simp[setC,hs]),_,_,_,rfl,(G0.old o217).shows,o0.trans o217⟩
 | false=>
   have hb:zhf rs id=zcz rs id n r.prev []:=by unfold zhf; simp[q1,q2,hs,hn]
   rw[hb]
   refine .inr ⟨zae w17.1 (by simp[setC,hs]),_,zae w17.1 rfl,fun p1 n1 c1 at' i k g=>∃(u:Nat) (out:List Int),i=u∧u≤n∧n - u=k∧Old h g∧zaY h.next g 26 1 p1 n1 c1 (zgi out)∧out.length≤u∧zcz rs id n r.prev []=zcz rs id (n - u) at' out,⟨_,0,[],rfl,Nat.zero_le _,rfl,o0.trans o217,G0.old o217,Nat.le_refl _,rfl⟩,?_⟩
   rintro k20 g21 p23 n24 c25 i26 i27 ⟨u,out,rfl,hu,rfl,o21,G21,hol,hw⟩
   have hol2:n24=out.length:=by have:=G21.1; rw[zdl] at this; omega
   refine⟨fun z=>(ze1 kk (T.old o21) i26).mono ?_,fun z=>?_⟩
   ·obtain⟨f,hf⟩:∃f,n - u=f+1:=⟨n - u - 1,by omega⟩
    rintro _ g29 ⟨⟨j,x,f1,f2,rfl⟩ | ⟨f1,rfl⟩,o29⟩
    ·have hne:i26≠0:=fun e=>by rw[e,hz] at f1; cases f1
     refine⟨_,_,_,_,_,_,_,_,_,_,_,_,_,.inl ⟨rfl,fun g43 e43=>?_⟩⟩
     obtain⟨g44,k44,n44,o44,v44⟩:=zap e43 (vs:=setC x) rfl
     have w44:=v44 [] (fun c hc=>by cases hc)
     have o2144:=(o29.trans o44)
     refine⟨rfl,g44,k44,_,zae w44.1 rfl,fun y g46 e46=>?_,fun y=>?_⟩
     ·obtain⟨p47,c49,g50,k50,G50,hob,hap,hnew⟩:=(G21.old o2144).push zvq (by have:=o21.1; have:=o2144.1; omega) (m:=1) (ns:=[.int .u64 i26]) e46 rfl (by simp only[zaU]; omega) (by omega)
      have l50:=hob.1
      have lo:=o21.1
      have lo2:=o29.1
      refine⟨_,_,_,g50,k50,_,zae ((hap _ w44.2.1 ?_).trans w44.1) rfl,fun i52 e52=>?_⟩
      ·cases p23 with
       | none=>trivial
       | some a=>
         have:=(G21.block (a:=a) rfl).2
         show a.block≠_
         omega
      ·replace e52:=zcj e52 (by omega) (by omega)
       have ln1:n - (u+1) < n - u:=by clear e52 k50; omega
       refine⟨n - (u+1),ln1,u+1,out ++ [i26],by rw[e52]; rfl,by omega,rfl,⟨by have:=w44.2.1; omega,fun c hc=>by rw[hob.2 c (by omega),o2144.2 c (by omega),o21.2 c hc]⟩,by rw[zeZ]; exact G50,by simp; omega,?_⟩
       rw[hw,hf,show n - (u+1)=f by omega]
       conv=>lhs; unfold zcz
       rw[if_neg hne]
       simp only[f1,f2,if_pos y]
     ·have e2:zcz rs id n r.prev []=(out,i26):=by
       rw[hw,hf]
       conv=>lhs; unfold zcz
       rw[if_neg hne]
       simp only[f1,f2,if_neg y]
      rw[e2]
      exact⟨_,_,_,rfl,(G21.old o2144).shows,o21.trans o2144⟩
    ·refine⟨_,_,_,_,_,_,_,_,_,_,_,_,_,.inr ⟨rfl,fun g43 e43=>?_⟩⟩
     obtain⟨g44,k44,n44,o44,v44⟩:=zap e43 (vs:=setC zaq) rfl
     have e2:zcz rs id n r.prev []=(out,i26):=by
      rw[hw,hf]
      conv=>lhs; unfold zcz
      split
      ·rfl
      ·simp only[f1]
     rw[e2]
     exact⟨rfl,g44,k44,_,_,_,rfl,(G21.old (o29.trans o44)).shows,o21.trans (o29.trans o44)⟩
   ·have e2:zcz rs id n r.prev []=(out,i26):=by rw[hw,show n - u=0 by omega]; rfl
    rw[e2]
    exact⟨_,_,_,rfl,G21.shows,o21⟩
end
end Go.Am
