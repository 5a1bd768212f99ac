/-
  WHAT A FAMILY'S RECORDS ARE CALLED, what is next to a snapshot, and what a volume's chain is.
-/
import Derived.Test.YtkapnilnhoiooaaGreatCNamed
import Derived.Test.YtkapnilnhoiooaaGreatCClones
set_option linter.unusedVariables false
set_option linter.unusedSimpArgs false
set_option maxRecDepth 100000
namespace Go.Am
open Go.Proofs
section
variable {nx:Int} {rs:List zaj}
theorem zam.plcC (R:zam nx rs) {i:Nat} {r:zaj} (h:rs[i]?= some r):plcC rs (zdk r)=some i:=by
 refine zmy h rfl fun j x hj hx e=>?_
 have hn:=R.2.2.2.1
 rw[List.nodup_iff_pairwise_ne,List.pairwise_iff_getElem] at hn
 obtain⟨hi,hi2⟩:=List.getElem?_eq_some_iff.1 h
 obtain⟨hjl,hj2⟩:=List.getElem?_eq_some_iff.1 hx
 have:=hn j i (by simpa using hjl) (by simpa using hi) hj
 simp only[List.getElem_map,hi2,hj2] at this
 exact this e
theorem zam.calOk (R:zam nx rs):∀r∈rs,zk5 (zdk r):=zk5.of fun r hr=>R.ent hr
theorem zam.names (R:zam nx rs):∀r∈rs,zbf r.name:=fun r hr=>(R.ent hr).2.2.2.2.1
def nextR (rs:List zaj) (id:Int):Int:=match plcN rs id with
 | none=>0
 | some i=>match rs[i]? with
   | none=>0
   | some r=>if r.snap=true then (match (hang id 0 rs).find? (fun q=>decide (q.2.own=r.own)) with
     | none=>0
     | some q=>q.2.id) else 0
theorem zkd {id:Int} {i:Nat} {r:zaj} (h1:plcN rs id=some i) (h2:rs[i]?= some r) (h3:r.snap=true):nextR rs id=(match (hang id 0 rs).find? (fun q=>decide (q.2.own=r.own)) with | none=>0 | some q=>q.2.id):=by
 unfold nextR
 simp only[h1,h2,h3,if_true]
theorem zam.nextOk (R:zam nx rs) {i:Nat} {r:zaj} (h:rs[i]?= some r) (hs:r.snap=true):∃j z,plcN rs (nextR rs r.id)=some j∧rs[j]?= some z∧z.own=r.own∧z.prev=r.id∧(z.snap=true→r.stamp < z.stamp):=by
 have hr:=List.mem_of_getElem? h
 obtain⟨z,hz,z1,z2⟩:=R.next hr hs
 rw[zkd (R.uniq h) h hs]
 cases hq:(hang r.id 0 rs).find? (fun q=>decide (q.2.own=r.own)) with
 | none=>
   rw[List.find?_eq_none] at hq
   obtain⟨j,hj⟩:=List.mem_iff_getElem?.1 hz
   have hjl:=(List.getElem?_eq_some_iff.1 hj).1
   have hjz:=List.getElem?_eq_getElem hjl
   rw[hj] at hjz
   have hjz:=Option.some.inj hjz
   have:=List.mem_of_getElem? (zqZ (id:=r.id) hjl (by rw[←hjz]; exact z2))
   have:=hq _ this
   rw[←hjz] at this
   simp[z1] at this
 | some q=>
   have h1:=List.find?_some hq
   have h2:=List.mem_of_find?_eq_some hq
   obtain⟨-,h3,h4⟩:=zhX h2
   rw[Nat.sub_zero] at h3
   simp only[decide_eq_true_eq] at h1
   refine⟨q.1,q.2,R.uniq h3,h3,h1,h4,fun w=>?_⟩
   have e:=(R.ent hr).1.1
   obtain⟨j,x,q1,q2, -,q4⟩:=(R.2.2.2.2 q.2 (List.mem_of_getElem? h3)).1.1 (by omega)
   rw[h4,R.uniq h] at q1
   cases q1
   rw[h] at q2
   cases q2
   exact q4 w
theorem zam.climbI (R:zam nx rs) {o:Int} {jv:Nat} {v:zaj} (hv1:plcN rs o=some jv) (hv2:rs[jv]?= some v):∀(N:Nat) (y:zaj),y∈rs→y.own=o→y.snap=true→(rs.filter fun z=>z.snap && decide (y.stamp < z.stamp)).length≤N→
 ∃m l,m≤N+1∧y.id∈l∧∀k ch,zcz rs o (k+m) v.prev ch=zcz rs o k y.prev (ch ++ l):=by
 intro N
 induction N with
 | zero=>
   intro y hy ho hs hN
   obtain⟨z,hz,z1,z2⟩:=R.next hy hs
   have ez:=R.ent hz
   cases hzs:z.snap with
   | true=>
     have ey:=(R.ent hy).1.1
     obtain⟨j,x',q1,q2,q3,q4⟩:=(R.2.2.2.2 z hz).1.1 (by omega)
     obtain⟨i,hi⟩:=List.mem_iff_getElem?.1 hy
     rw[z2,R.uniq hi] at q1
     cases q1
     rw[hi] at q2
     cases q2
     have:z∈rs.filter fun z=>z.snap && decide (y.stamp < z.stamp):=List.mem_filter.2 ⟨hz,by rw[hzs]; simpa using q4 hzs⟩
     have:=List.length_pos_of_mem this
     omega
   | false=>
     have hzv:z=v:=by
      rcases ez.2.2.2.2.2.2.2.2 with q | q
      ·rw[hzs] at q; cases q.1
      ·obtain⟨i,hi⟩:=List.mem_iff_getElem?.1 hz
       have hu:=R.uniq hi
       rw[←q.2.2,z1,ho,hv1] at hu
       cases hu
       rw[hv2] at hi
       exact (Option.some.inj hi).symm
     subst hzv
     exact⟨1,[y.id],by omega,by simp,fun k ch=>by rw[z2]; exact R.way1 hy ho k ch⟩
 | succ N ih=>
   intro y hy ho hs hN
   obtain⟨z,hz,z1,z2⟩:=R.next hy hs
   have ez:=R.ent hz
   cases hzs:z.snap with
   | true=>
     have ey:=(R.ent hy).1.1
     obtain⟨j,x',q1,q2,q3,q4⟩:=(R.2.2.2.2 z hz).1.1 (by omega)
     obtain⟨i,hi⟩:=List.mem_iff_getElem?.1 hy
     rw[z2,R.uniq hi] at q1
     cases q1
     rw[hi] at q2
     cases q2
     have hst:=q4 hzs
     have hlt:=zdR (P:=fun a:zaj=>a.snap && decide (z.stamp < a.stamp)) (Q:=fun a:zaj=>a.snap && decide (y.stamp < a.stamp)) (l:=rs) (fun a _ h=>by simp at h ⊢; exact⟨h.1,by omega⟩) ⟨z,hz,by rw[hzs]; simpa using hst,by simp⟩
     obtain⟨m,l,hm,hl,hw⟩:=ih z hz (by rw[z1]; exact ho) hzs (by omega)
     refine⟨m+1,l ++ [y.id],by omega,by simp,fun k ch=>?_⟩
     rw[show k+(m+1)=(k+1)+m by omega,hw,z2,R.way1 hy ho,List.append_assoc]
   | false=>
     have hzv:z=v:=by
      rcases ez.2.2.2.2.2.2.2.2 with q | q
      ·rw[hzs] at q; cases q.1
      ·obtain⟨i,hi⟩:=List.mem_iff_getElem?.1 hz
       have hu:=R.uniq hi
       rw[←q.2.2,z1,ho,hv1] at hu
       cases hu
       rw[hv2] at hi
       exact (Option.some.inj hi).symm
     subst hzv
     exact⟨1,[y.id],by omega,by simp,fun k ch=>by rw[z2]; exact R.way1 hy ho k ch⟩
theorem zoS (o:Int):∀(k:Nat) (pr:Int) (ch:List Int),∃l,(zcz rs o k pr ch).1=ch ++ l
 | 0,pr,ch=>⟨[],by simp[zcz]⟩
 | k+1,pr,ch=>by
   unfold zcz
   split
   ·exact⟨[],by simp⟩
   ·split
    ·exact⟨[],by simp⟩
    ·split
     ·exact⟨[],by simp⟩
     ·split
      ·obtain⟨l,hl⟩:=zoS o k _ (ch ++ [pr])
       exact⟨pr :: l,by rw[hl]; simp⟩
      ·exact⟨[],by simp⟩
def zjK (rs:List zaj) (o:Int):Int→List Int→Prop
 | _,[]=>True
 | B,id :: l=>∃j x,plcN rs id=some j∧rs[j]?= some x∧x.own=o∧x.snap=true∧x.stamp < B∧zjK rs o x.stamp l
def zub (rs:List zaj) (o e:Int):Prop:=e=0∨∃j x,plcN rs e=some j∧rs[j]?= some x∧x.snap=true∧x.own≠o
theorem zam.down (R:zam nx rs) {o:Int}:∀(k:Nat) (pr B:Int) (ch:List Int),(pr=0∨∃j x,plcN rs pr=some j∧rs[j]?= some x∧x.snap=true∧x.stamp < B)→(rs.filter fun x=>x.snap && decide (x.stamp < B)).length≤k→
 ∃l e,zcz rs o k pr ch=(ch ++ l,e)∧zjK rs o B l∧zub rs o e
 | k,pr,B,ch,.inl h0,hk=>⟨[],0,by rw[h0,ze0,List.append_nil],trivial,.inl rfl⟩
 | 0,pr,B,ch,.inr ⟨j,x,h1,h2,h3,h4⟩,hk=>by
   have:x∈rs.filter fun x=>x.snap && decide (x.stamp < B):=List.mem_filter.2 ⟨List.mem_of_getElem? h2,by simp[h3,h4]⟩
   have:=List.length_pos_of_mem this
   omega
 | k+1,pr,B,ch,.inr ⟨j,x,h1,h2,h3,h4⟩,hk=>by
   have hx:=List.mem_of_getElem? h2
   have hid:x.id=pr:=by
    obtain⟨hj,hid⟩:=zbv h1
    rw[List.getElem?_eq_getElem hj] at h2
    cases h2
    exact hid
   have hne:pr≠0:=by have:=(R.ent hx).1.1; omega
   unfold zcz
   rw[if_neg hne]
   simp only[h1,h2]
   by_cases ho:x.own=o
   ·rw[if_pos ho]
    have hlt:=zdR (P:=fun a:zaj=>a.snap && decide (a.stamp < x.stamp)) (Q:=fun a:zaj=>a.snap && decide (a.stamp < B)) (l:=rs) (fun a _ h=>by simp at h ⊢; exact⟨h.1,by omega⟩) ⟨x,hx,by simp[h3,h4],by simp⟩
    obtain⟨l,e,q1,q2,q3⟩:=R.down (o:=o) k x.prev x.stamp (ch ++ [pr]) (by
     by_cases hp:x.prev=0
     ·exact .inl hp
     ·obtain⟨j',x',k1,k2,k3,k4⟩:=(R.2.2.2.2 x hx).1.1 hp
      exact .inr ⟨j',x',k1,k2,k3,k4 h3⟩) (by omega)
    exact⟨pr :: l,e,by rw[q1]; simp,⟨j,x,h1,h2,ho,h3,h4,q2⟩,q3⟩
   ·rw[if_neg ho]
    exact⟨[],pr,by simp,trivial,.inr ⟨j,x,h1,h2,h3,ho⟩⟩
theorem zjK.mem {o:Int}:∀{l:List Int} {B:Int},zjK rs o B l→∀id∈l,∃j x,plcN rs id=some j∧rs[j]?= some x∧x.own=o∧x.snap=true∧x.stamp < B
 | a :: l,B,⟨j,x,h1,h2,h3,h4,h5,h6⟩,id,hm=>by
   rcases List.mem_cons.1 hm with rfl | hm
   ·exact⟨j,x,h1,h2,h3,h4,h5⟩
   ·obtain⟨j',x',k1,k2,k3,k4,k5⟩:=zjK.mem h6 id hm
    exact⟨j',x',k1,k2,k3,k4,by omega⟩
theorem zjK.nodup {o:Int}:∀{l:List Int} {B:Int},zjK rs o B l→l.Nodup
 | [],B,_=>List.nodup_nil
 | a :: l,B,⟨j,x,h1,h2,h3,h4,h5,h6⟩=>by
   refine List.nodup_cons.2 ⟨fun hm=>?_,zjK.nodup h6⟩
   obtain⟨j',x',k1,k2,k3,k4,k5⟩:=zjK.mem h6 a hm
   rw[h1] at k1
   cases k1
   rw[h2] at k2
   cases k2
   omega
theorem zam.ids (R:zam nx rs):(rs.map (·.id)).Nodup:=by
 rw[List.nodup_iff_pairwise_ne,List.pairwise_iff_getElem]
 intro i j hi hj hij
 rw[List.getElem_map,List.getElem_map]
 have:=R.incr (j - i - 1) i _ _ (List.getElem?_eq_getElem (by simpa using hi)) (by rw[show i+(j - i - 1)+1=j by omega]; exact List.getElem?_eq_getElem (by simpa using hj))
 omega
theorem zmA {α β:Type} (f:α→β) (P:α→Bool):∀(l:List α),(l.map f).Nodup→((l.filter P).map f).Nodup
 | [],_=>List.nodup_nil
 | a :: l,h=>by
   rw[List.map_cons,List.nodup_cons] at h
   have ih:=zmA f P l h.2
   rw[List.filter_cons]
   split
   ·rw[List.map_cons,List.nodup_cons]
    refine⟨fun hm=>h.1 ?_,ih⟩
    obtain⟨x,hx,e⟩:=List.mem_map.1 hm
    exact List.mem_map.2 ⟨x,(List.mem_filter.1 hx).1,e⟩
   ·exact ih
theorem zam.chain (R:zam nx rs) {i:Nat} {v:zaj} (h:rs[i]?= some v) (hs:v.snap=false):
 zjK rs v.id 281474976710656 (wayR rs v.id).1∧zub rs v.id (wayR rs v.id).2∧(wayR rs v.id).1.length=(rs.filter fun x=>x.snap && decide (x.own=v.id)).length:=by
 have hv:=List.mem_of_getElem? h
 have hu:=R.uniq h
 have ev:=R.ent hv
 have hown:v.own=v.id:=by
  rcases ev.2.2.2.2.2.2.2.2 with q | q
  ·rw[hs] at q; cases q.1
  ·exact q.2.2
 have hst:∀x∈rs,x.snap=true→x.stamp < 281474976710656:=fun x hx hxs=>by
  rcases (R.ent hx).2.2.2.2.2.2.2.2 with q | q
  ·omega
  ·rw[hxs] at q; cases q.1
 obtain⟨l,e,q1,q2,q3⟩:=R.down (o:=v.id) 32 v.prev 281474976710656 [] (by
  by_cases hp:v.prev=0
  ·exact .inl hp
  ·obtain⟨j',x',k1,k2,k3,k4⟩:=(R.2.2.2.2 v hv).1.1 hp
   exact .inr ⟨j',x',k1,k2,k3,hst x' (List.mem_of_getElem? k2) k3⟩) (Nat.le_trans (List.length_filter_le _ _) R.2.1)
 have hw:wayR rs v.id=zcz rs v.id 32 v.prev []:=by
  unfold wayR
  simp only[hu,h,hs]
  rfl
 rw[hw,q1]
 refine⟨q2,q3,?_⟩
 simp only[List.nil_append]
 have hp:l.Perm ((rs.filter fun x=>x.snap && decide (x.own=v.id)).map (·.id)):=by
  rw[List.perm_ext_iff_of_nodup q2.nodup (zmA _ _ _ R.ids)]
  intro id
  constructor
  ·intro hm
   obtain⟨j,x,k1,k2,k3,k4, -⟩:=q2.mem id hm
   refine List.mem_map.2 ⟨x,List.mem_filter.2 ⟨List.mem_of_getElem? k2,by simp[k3,k4]⟩,?_⟩
   obtain⟨hj,hid⟩:=zbv k1
   rw[List.getElem?_eq_getElem hj] at k2
   cases k2
   exact hid
  ·intro hm
   obtain⟨y,hy,rfl⟩:=List.mem_map.1 hm
   obtain⟨hy1,hy2⟩:=List.mem_filter.1 hy
   simp at hy2
   obtain⟨m,l',hm',hl',hk⟩:=R.climbI hu h 31 y hy1 hy2.2 hy2.1 (R.room hy1)
   have:=hk (32 - m) []
   rw[show 32 - m+m=32 by omega,q1] at this
   obtain⟨l2,hl2⟩:=zoS (rs:=rs) v.id (32 - m) y.prev ([] ++ l')
   rw[←this] at hl2
   simp only[List.nil_append] at hl2
   rw[hl2]
   exact List.mem_append_left _ hl'
 have:=hp.length_eq
 rw[List.length_map] at this
 exact this
end
section
variable {K:Xs} {h:AH} {p:Option Addr} {n c:Nat} {rs:List zaj}
theorem ztb (kx:K 90=none) (kk:zq1 K) (T:zbL h p n rs) (id:Int):
 Wf Tryz.prog K 90 [.slice p n c,.int .u64 id] h fun v h'=>v=.int .u64 (nextR rs id)∧Old h h':=by
 have hn:=T.1
 have hn2:=T.2.1
 refine zjE kx _ _ _ _ h _ fun g0 e0 g1 e1=>?_
 have o0:=zab e0
 have n0:=zaa e0
 have o1:=zab e1
 have n1:=zaa e1
 have oh:=o0.trans o1
 have c0:g1.get h.next=_:=(o1.2 _ (by omega)).trans (zaf e0)
 have c1:=zaf e1
 refine⟨_,_,_,zae c0 rfl,(zcb kk.place (T.old oh) id).mono ?_⟩
 rintro _ _ ⟨rfl,rfl⟩
 refine⟨_,rfl,fun g8 e8=>?_⟩
 have o8:=zab e8
 have n8:=zaa e8
 have nr9:=zak g1.next g8 (.cells [.int .i64 (plc rs id)] 3 false)
 have c9:(g8.set g1.next (.cells [.int .i64 (plc rs id)] 3 false)).get g1.next=_:=zad _ _ _
 refine⟨g8.set g1.next (.cells [.int .i64 (plc rs id)] 3 false),zbi (zaf e8) (by simp),?_⟩
 generalize g8.set g1.next (.cells [.int .i64 (plc rs id)] 3 false)=g9 at nr9 c9
 have o9:Old g1 g9:=⟨by rw[nr9.1]; omega,fun x hx=>by rw[nr9.2 x (by omega),o8.2 x hx]⟩
 have n9:g9.next=g1.next+1:=by rw[nr9.1,n8]
 have oh9:=oh.trans o9
 have ca:g9.get h.next=_:=(o9.2 _ (by omega)).trans c0
 have cr:g9.get g0.next=_:=(o9.2 _ (by omega)).trans c1
 have out:∀(g:AH) (v:Int),Old h g→g0.next < g.next→g.get g0.next=some (.cells [.int .u64 0] 26 false)→∃g',st1 g g0.next 0 (.int .u64 v)=some g'∧(∃i,ld1 g' g0.next 0=some (.int .u64 i)∧(Value.int .u64 i=.int .u64 v∧Old h g')):=by
  intro g v o l q
  have nr:=zak g0.next g (.cells [.int .u64 v] 26 false)
  exact⟨g.set g0.next (.cells [.int .u64 v] 26 false),zbi q (by simp),v,zae (zad _ _ _) rfl,rfl,by rw[nr.1]; exact o.1,fun c hc=>by rw[nr.2 c (by omega),o.2 c hc]⟩
 refine⟨_,zae c9 rfl,fun z=>?_,fun z=>⟨_,_,_,zae ca rfl,_,zae c9 rfl,?_⟩⟩
 ·cases e:plcN rs id with
  | none=>
    have hw:nextR rs id=0:=by unfold nextR; rw[e]
    rw[hw]
    exact out g9 0 oh9 (by omega) cr
  | some i=>rw[zaS e] at z; omega
 cases e:plcN rs id with
 | none=>rw[zcc e] at z; omega
 | some i=>
   obtain⟨hi, -⟩:=zbv e
   rw[zaS e] at z c9 ⊢
   obtain⟨b,off,rfl,hi',hl,h1,ok⟩:=(T.old oh9).at (i:=i) (by omega)
   have hri:=List.getElem?_eq_getElem hi'
   generalize hrr:rs[i]=r at h1 hri
   refine zag ⟨by omega,by omega,?_⟩
   rw[Int.toNat_natCast]
   cases hs:r.snap with
   | false=>
     have hw:nextR rs id=0:=by unfold nextR; simp[e,hri,hs]
     rw[hw]
     exact .inr ⟨h1 2 _ (by simp[setC,hs]),out g9 0 oh9 (by omega) cr⟩
   | true=>
     rw[zkd e hri hs]
     refine .inl ⟨h1 2 _ (by simp[setC,hs]),_,_,_,zae ca rfl,zdI kk.hanging _ _ _ _ g9 _ fun g22 e22 g23 e23=>?_⟩
     have o22:=zab e22
     have n22:=zaa e22
     have o23:=zab e23
     have n23:=zaa e23
     have o2':=o22.trans o23
     have cp0:g23.get g9.next=_:=(o23.2 _ (by omega)).trans (zaf e22)
     have cp1:=zaf e23
     have cs0:g23.get h.next=_:=(o2'.2 _ (by omega)).trans ca
     have csr:g23.get g0.next=_:=(o2'.2 _ (by omega)).trans cr
     have csi:g23.get g1.next=_:=(o2'.2 _ (by omega)).trans c9
     have oh23:=oh9.trans o2'
     have oldJ:∀{g:AH},g23.next < g.next→(∀c,c < g23.next→c≠g0.next→g.get c=g23.get c)→Old h g:=fun l k=>⟨by have:=oh23.1; omega,fun c hc=>by rw[k c (by have:=oh23.1; omega) (by omega),oh23.2 c hc]⟩
     refine⟨_,[.pointer (some ⟨g9.next,0,none⟩),.pointer (some ⟨g22.next,0,none⟩)],rfl,
      fun k g=>g23.next < g.next∧(∀c,c < g23.next→c≠g0.next→g.get c=g23.get c)∧g.get g0.next=some (.cells [.int .u64 0] 26 false)∧∀(j:Nat) q,j < k→(hang id 0 rs)[j]?= some q→q.2.own≠r.own,
      fun x g=>x=.ret∧g23.next < g.next∧(∀c,c < g23.next→c≠g0.next→g.get c=g23.get c)∧∃q,(hang id 0 rs).find? (fun q=>decide (q.2.own=r.own))=some q∧g.get g0.next=some (.cells [.int .u64 q.2.id] 26 false),
      (hang id 0 rs).length,zta id rs,fun _ _=>False,fun _ _=>True,⟨kk.hanging1,rfl⟩,fun i hi=>⟨_,zcQ (List.getElem?_eq_getElem hi)⟩,fun g q1 q2=>⟨by omega,fun c hc _=>q2 c (by omega),by rw[q2 _ (by omega)]; exact csr,fun j q hj=>absurd hj (Nat.not_lt_zero _)⟩,
      fun i g g' jj nr=>⟨by rw[nr.1]; exact jj.1,fun c hc hne=>by rw[nr.2 c (by omega)]; exact jj.2.1 c hc hne,by rw[nr.2 _ (by omega)]; exact jj.2.2.1,jj.2.2.2⟩,
      fun x g g' q nr=>⟨q.1,by rw[nr.1]; exact q.2.1,fun c hc hne=>by rw[nr.2 c (by omega)]; exact q.2.2.1 c hc hne,by rw[nr.2 _ (by omega)]; exact q.2.2.2⟩,
      fun i g g' j r=>r.elim,fun x g g' q r=>r.elim,fun g g' r=>r.elim,?_,?_,?_,?_,fun x g hx q=>by rw[q.1]; rfl⟩
     ·rintro k g31 hk31 J31 - i34 hit
      refine⟨rfl,rfl,fun g36 nr hL=>?_⟩
      have hq:=List.getElem?_eq_getElem hk31
      rw[zcQ hq] at hit
      simp only[List.cons.injEq,Value.int.injEq,and_true,true_and] at hit
      obtain⟨-,hm2,hm3⟩:=zhX (List.getElem_mem hk31)
      rw[Nat.sub_zero] at hm2
      generalize hqq:(hang id 0 rs)[k]=q at hit hm2 hm3 hq
      subst hit
      have J36:g23.next < g36.next∧(∀c,c < g23.next→c≠g0.next→g36.get c=g23.get c)∧g36.get g0.next=some (.cells [.int .u64 0] 26 false)∧∀(j:Nat) q,j < k→(hang id 0 rs)[j]?= some q→q.2.own≠r.own:=⟨by rw[nr.1]; exact J31.1,fun c hc hne=>by rw[nr.2 c (by omega)]; exact J31.2.1 c hc hne,by rw[nr.2 _ (by omega)]; exact J31.2.2.1,J31.2.2.2⟩
      have o36:=oldJ J36.1 J36.2.1
      have hqn:=(List.getElem?_eq_some_iff.1 hm2).1
      obtain⟨hq2,hl4,h4,ok4⟩:=(T.old o36).at' (i:=q.1) (by omega)
      have e4:rs[q.1]=q.2:=by
       have:=List.getElem?_eq_getElem hq2
       rw[hm2] at this
       exact (Option.some.inj this).symm
      rw[e4] at h4
      obtain⟨hi3,hl5,h5,ok5⟩:=(T.old o36).at' (i:=i) (by omega)
      rw[hrr] at h5
      have cA:=(J36.2.1 h.next (by omega) (by omega)).trans cs0
      have cI:=(J36.2.1 g1.next (by omega) (by omega)).trans csi
      refine⟨_,_,_,zae cA rfl,zag ⟨by omega,by omega,_,by rw[Int.toNat_natCast]; exact h4 3 _ rfl,_,_,_,zae cA rfl,_,zae cI rfl,zag ⟨by omega,by omega,_,by rw[Int.toNat_natCast]; exact h5 3 _ rfl,fun a=>⟨_,_,_,zae cA rfl,zag ⟨by omega,by omega,_,by rw[Int.toNat_natCast]; exact h4 0 _ rfl,_,zbi J36.2.2.1 (by simp),?_,⟨rfl,?_,?_,q,?_,zad _ _ _⟩,fun _ _=>trivial⟩⟩,fun a=>⟨rfl,⟨J36.1,J36.2.1,J36.2.2.1,fun j x hj hx=>?_⟩,fun _ _=>trivial⟩⟩⟩⟩
      ·rw[(zak _ _ _).2 _ (by omega)]
      ·rw[(zak _ _ _).1]; exact J36.1
      ·intro c hc hne
       rw[(zak _ _ _).2 c hne]
       exact J36.2.1 c hc hne
      ·rw[List.find?_eq_some_iff_getElem]
       refine⟨by simpa using a,k,hk31,hqq,fun j hj=>?_⟩
       have:=J36.2.2.2 j _ hj (List.getElem?_eq_getElem (by omega))
       simpa using this
      ·rcases Nat.lt_succ_iff_lt_or_eq.1 hj with hj | rfl
       ·exact J36.2.2.2 j x hj hx
       ·rw[hq] at hx
        cases hx
        exact a
     ·intro JJ DD hJ hG hDG hround g61 hj0
      refine zq0 kk.hanging1 (ya:=g23.next) (pb0:=g9.next) (pb1:=g22.next) (p:=some ⟨b,off,none⟩) (n:=n) (c:=c) (rs:=rs) (id:=id) (JJ:=JJ) (DD:=DD) (BB:=fun _ _=>True) (fun i g1' jj=>?_) (fun k g1' q hq jj=>?_) hj0
      ·obtain⟨q1,q2, -⟩:=hJ i g1' jj
       exact⟨⟨_,_,(q2 _ (by omega) (by omega)).trans cp0⟩,⟨_,_,(q2 _ (by omega) (by omega)).trans cp1⟩,T.old (oldJ q1 q2)⟩
      ·have:=hround k g1' (List.getElem?_eq_some_iff.1 hq).1 jj
       rw[zcQ hq] at this
       exact this
     ·rintro g65 ⟨q1,q2,q3,q4⟩
      have dl:∀c,c≠g23.next→(g65.del g23.next).get c=g65.get c:=fun c hc=>by rw[AH.get_del,if_neg hc]
      have o65:Old h (g65.del g23.next):=⟨(oldJ q1 q2).1,fun c hc=>by rw[dl c (by have:=oh23.1; omega)]; exact (oldJ q1 q2).2 c hc⟩
      have hf:(hang id 0 rs).find? (fun q=>decide (q.2.own=r.own))=none:=by
       rw[List.find?_eq_none]
       intro q hq
       obtain⟨j,hj⟩:=List.mem_iff_getElem?.1 hq
       have:=q4 j q (List.getElem?_eq_some_iff.1 hj).1 hj
       simpa using this
      rw[hf]
      exact out _ 0 o65 (show g0.next < g65.next by omega) ((dl _ (by omega)).trans q3)
     ·rintro g68 ⟨-,q1,q2,q,hf,q3⟩
      have dl:∀c,c≠g23.next→(g68.del g23.next).get c=g68.get c:=fun c hc=>by rw[AH.get_del,if_neg hc]
      have o65:Old h (g68.del g23.next):=⟨(oldJ q1 q2).1,fun c hc=>by rw[dl c (by have:=oh23.1; omega)]; exact (oldJ q1 q2).2 c hc⟩
      rw[hf]
      exact⟨_,zae ((dl _ (by omega)).trans q3) rfl,rfl,o65⟩
end
end Go.Am
