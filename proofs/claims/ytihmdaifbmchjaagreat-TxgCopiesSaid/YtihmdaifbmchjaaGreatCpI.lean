/-
  SETS CUT, LISTED, as moves and back: span and slog in this program.
-/
import Derived.Test.YtihmdaifbmchjaaGreatCpF
import Derived.Test.YtihmdaifbmchjaaGreatVSlg
import Derived.Test.YtihmdaifbmchjaaGreatCpH
set_option linter.unusedVariables false
set_option linter.unusedSimpArgs false
set_option maxRecDepth 100000
namespace Go.Am
open Go.Proofs
def zhh (f:Nat→Bool):List Value:=(List.range 4096).map fun j=>.bool (f j)
theorem zcb (f:Nat→Bool):(zhh f).length=4096:=by simp[zhh]
theorem zfL {f:Nat→Bool} {x:Nat} (hx:x < 4096):(zhh f)[x]?= some (.bool (f x)):=by simp[zhh,hx]
theorem zlq {f:Nat→Bool} {x:Nat} {v:Bool}:(zhh f).set x (.bool v)=zhh fun j=>if j=x then v else f j:=by
 apply List.ext_getElem?
 intro j
 rw[List.getElem?_set]
 by_cases hj:j < 4096
 ·have r:(zhh fun j=>if j=x then v else f j)[j]?= some (.bool (if j=x then v else f j)):=zfL hj
  rw[r]
  by_cases e:x=j
  ·subst e; rw[if_pos rfl,if_pos (by rw[zcb]; exact hj),if_pos rfl]
  ·rw[if_neg e,zfL hj,if_neg (Ne.symm e)]
 ·rw[List.getElem?_eq_none (l:=zhh fun j=>if j=x then v else f j) (by rw[zcb]; omega)]
  split
  ·rw[if_neg (by rw[zcb]; omega)]
  ·exact List.getElem?_eq_none (by rw[zcb]; omega)
theorem zb5 {f g:Nat→Bool} (h:∀x,f x=g x):zhh f=zhh g:=by rw[show f=g from funext h]
theorem zkd:List.replicate 4096 (Value.bool false)=zhh fun _=>false:=by
 apply List.ext_getElem?
 intro j
 by_cases hj:j < 4096
 ·rw[zfL hj,List.getElem?_replicate,if_pos hj]
 ·rw[List.getElem?_eq_none (by simp; omega),List.getElem?_eq_none (by rw[zcb]; omega)]
theorem zgx:∀{e:Int} {a b:List (Nat×Nat)},Gap e a→Gap e b→(∀x,x∈exN a↔x∈exN b)→a=b
 | e,[],[],_,_,_=>rfl
 | e,[],(s,l) :: r,_,g,h=>by
   have:s∈exN ((s,l) :: r):=by
    show s∈List.range' s l ++ exN r
    rw[List.mem_append,List.mem_range'_1]
    exact .inl (by have:=g.2.1; omega)
   have:=(h s).2 this
   cases this
 | e,(s,l) :: r,[],g,_,h=>by
   have:s∈exN ((s,l) :: r):=by
    show s∈List.range' s l ++ exN r
    rw[List.mem_append,List.mem_range'_1]
    exact .inl (by have:=g.2.1; omega)
   have:=(h s).1 this
   cases this
 | e,(s,l) :: r,(s2,l2) :: r2,⟨g1,g2,g3,g4⟩,⟨k1,k2,k3,k4⟩,h=>by
   have m1:∀x,x∈exN ((s,l) :: r)↔(s≤x∧x < s+l)∨x∈exN r:=fun x=>by
    show x∈List.range' s l ++ exN r↔_
    rw[List.mem_append,List.mem_range'_1]
   have m2:∀x,x∈exN ((s2,l2) :: r2)↔(s2≤x∧x < s2+l2)∨x∈exN r2:=fun x=>by
    show x∈List.range' s2 l2 ++ exN r2↔_
    rw[List.mem_append,List.mem_range'_1]
   have hh:∀x,((s≤x∧x < s+l)∨x∈exN r)↔((s2≤x∧x < s2+l2)∨x∈exN r2):=fun x=>by rw[←m1,←m2]; exact h x
   have lo1:=znh g4
   have lo2:=znh k4
   have es:s=s2:=by
    have a1:=(hh s).1 (.inl (by omega))
    have a2:=(hh s2).2 (.inl (by omega))
    rcases a1 with a1 | a1
    ·rcases a2 with a2 | a2
     ·omega
     ·have:=lo1 _ a2; omega
    ·rcases a2 with a2 | a2
     ·have:=lo2 _ a1; omega
     ·have:=lo1 _ a2; have:=lo2 _ a1; omega
   subst es
   have el:l=l2:=by
    rcases Nat.lt_trichotomy l l2 with z | z | z
    ·have a1:=(hh (s+l)).2 (.inl (by omega))
     rcases a1 with a1 | a1
     ·omega
     ·have:=lo1 _ a1; omega
    ·exact z
    ·have a1:=(hh (s+l2)).1 (.inl (by omega))
     rcases a1 with a1 | a1
     ·omega
     ·have:=lo2 _ a1; omega
   subst el
   have:r=r2:=zgx g4 k4 fun x=>⟨fun hx=>by
    have:=lo1 _ hx
    exact ((hh x).1 (.inr hx)).resolve_left (by omega),fun hx=>by
    have:=lo2 _ hx
    exact ((hh x).2 (.inr hx)).resolve_left (by omega)⟩
   rw[this]
theorem zxi:∀{e:Int} {sp:List (Nat×Nat)},Gap e sp→e≤4096→((exN sp).length:Int)≤4096 - e
 | e,[],_,he=>by show ((0:Nat):Int)≤_; omega
 | e,(s,l) :: r,⟨g1,g2,g3,g4⟩,he=>by
   have:=zxi g4 (by omega)
   have e1:(exN ((s,l) :: r)).length=l+(exN r).length:=by
    show (List.range' s l ++ exN r).length=_
    rw[List.length_append,List.length_range']
   omega
theorem zqj {sp:List (Nat×Nat)} (g:Gap (-1) sp) {x:Nat} (hx:x∈exN sp):x < 4096:=by
 unfold exN at hx
 rw[List.mem_flatten] at hx
 obtain⟨l,hl,hx⟩:=hx
 obtain⟨q,hq,rfl⟩:=List.mem_map.1 hl
 obtain⟨i,hi,rfl⟩:=List.mem_iff_getElem.1 hq
 have:=g.at i hi
 rw[List.mem_range'_1] at hx
 omega
theorem zgy {sp:List (Nat×Nat)} (g:Gap (-1) sp):(exN sp).length≤4097:=by have:=zxi g (by decide); omega
structure zrJ (K:Xs):Prop where
 sRight:K 140=none
 sSingle:K 161=none
 sEach:K 111=none
 sEach1:K 143=none
 sCount:K 110=none
 sList:K 70=none
 sCut:K 171=none
 sMark:K 175=none
 sSpans:K 82=some (.sum (zeG 90))
 sOf:K 57=some (.sum (xOf 90))
 fPut:K 119=none
 fGet:K 96=none
 fRoom:K 129=none
 lDiff:K 162=none
 lCond:K 141=none
 lBytes:K 142=none
 lRead:K 106=none
 lReplay:K 107=none
 lRight:K 139=none
 lWidths:K 138=none
section
variable {K:Xs} {h:AH}
theorem zuk (kk:zrJ K) {b:Nat} {f:Nat→Bool} {ty:TypeId} {ro:Bool} (hg:h.get b=some (.cells (zhh f) ty ro)) (hb:b < h.next):
 Wf Tryz.prog K 82 [.pointer (some ⟨b,0,none⟩)] h fun v h'=>zhe h' v (fun x=>x < 4096∧f x=true)∧Old h h':=by
 obtain⟨acc,h1,h2,h3⟩:=zes f 4096 0 [] (Nat.le_refl _) trivial (fun q r e=>by cases e)
 have hgp:=zoV h2
 have hl:=ziG hgp
 have hl2:=zgy hgp
 have e0:exN ([]:List (Nat×Nat)).reverse=[]:=rfl
 have hm:∀x,x∈exN acc.reverse↔x < 4096∧f x=true:=fun x=>by
  rw[h3,e0,List.nil_append,List.mem_filter,List.mem_range'_1]
  simp
 have e1:zbU (((zhh f).drop 0).take 4096) 0 []=some acc:=by
  rw[List.drop_zero,List.take_of_length_le (by rw[zcb]; exact Nat.le_refl _),←h1]
  unfold zhh
  rw[List.range_eq_range']
 have e2:(Nat.beq 0 0 && Nat.ble 4096 (zhh f).length && Nat.blt b h.next)=true:=by
  have q2:Nat.blt b h.next=true:=by rw[Nat.blt_eq]; exact hb
  rw[zcb,q2]
  rfl
 cases acc with
 | nil=>
   refine zdS kk.sSpans (v:=.slice none 0 0) (h':=h) ?_ (Nat.le_refl _) ⟨⟨none,0,0,[],rfl,.inl rfl,⟨rfl,.inl rfl⟩,trivial,by decide,hm⟩,Old.refl h⟩
   unfold zeG
   simp only[hg,e1,e2]
   rfl
 | cons q r=>
   rw[List.length_reverse,List.length_cons] at hl
   refine zdS kk.sSpans (v:=.slice (some ⟨h.next+2 * r.length+1,0,none⟩) (r.length+1) zak) (h':={ tr:=h.tr.set (h.next+2 * r.length+1) (.cells (zeV (q :: r)) 90 false),next:=h.next+2 * r.length+2 }) ?_ (by show h.next≤h.next+2 * r.length+2; omega) ⟨⟨_,_,_,(q :: r).reverse,rfl,.inr ⟨_,0,rfl⟩,⟨by rw[zb1,List.length_reverse]; rfl,.inr ⟨_,0,zeV (q :: r),90,false,rfl,?_,?_,?_,?_⟩⟩,hgp,by omega,hm⟩,?_⟩
   ·unfold zeG
    simp only[hg,e1,e2]
    rfl
   ·show h.next+2 * r.length+1 < h.next+2 * r.length+2; omega
   ·show Tr.get (Tr.set _ _ _) _=_
    rw[Tr.get_set,if_pos rfl]
   ·rw[zcT]; simp only[List.length_cons]; omega
   ·rw[List.drop_zero,zlo,List.take_of_length_le]
    rw[zb1,List.length_reverse]; simp only[List.length_cons]; omega
   ·refine⟨by show h.next≤h.next+2 * r.length+2; omega,fun c hc=>?_⟩
    show Tr.get (Tr.set _ _ _) _=Tr.get _ _
    rw[Tr.get_set,if_neg (by omega)]
theorem zul (kk:zrJ K) {p:Option Addr} {n c:Nat} {sp:List (Nat×Nat)} (hs:zaq h p n 2 (spC sp)) (hg:Gap (-1) sp) (hn:n≤1000000):
 Wf Tryz.prog K 110 [.slice p n c] h fun v h'=>v=.int .i64 ((exN sp).length:Nat)∧Old h h':=by
 have hl:n=sp.length:=by have:=hs.1; rw[zb1] at this; omega
 have hx:=zgy hg
 refine zk1 kk.sCount _ _ _ h _ ((zcJ kk.sRight kk.sSingle hs hg hn).mono ?_)
 rintro _ g1 ⟨rfl,o1⟩
 refine .inl ⟨rfl,fun m i k g=>∃u:Nat,i=u∧u≤n∧n - u=k∧m=(pre sp u:Nat)∧Old h g,⟨n,0,rfl,Nat.zero_le _,rfl,by rw[zp7]; rfl,o1⟩,?_⟩
 rintro k g m i ⟨u,rfl,hu,rfl,rfl,o⟩
 refine⟨fun z=>?_,fun z=>?_⟩
 ·have hul:u < sp.length:=by omega
  have hs2:=zp8 sp hul
  have hpl:pre sp (u+1)≤(exN sp).length:=by
   rw[←zoU]
   unfold pre exN
   rw[List.map_take,List.map_take,←List.take_append_drop (u+1) (sp.map fun q=>List.range' q.1 q.2)]
   rw[List.take_left' (by rw[List.length_take,List.length_map]; omega)]
   rw[List.take_of_length_le (l:=List.take (u+1) _ ++ List.drop (u+1) _) (by rw[List.take_append_drop,List.length_map]; omega),List.flatten_append,List.length_append]
   omega
  obtain⟨b,off,rfl,hld, -⟩:=(hs.old o).getN (i:=u) (by omega)
  rw[zd8 sp u hul] at hld
  refine zae ⟨by omega,z,_,_,hld,fun g12 e12=>⟨rfl,_,zaB (zac e12) rfl,_,zah (zag _ _ _) rfl,fun i15 e15 i16 e16=>?_⟩⟩
  have e15:=zaJ e15 (by omega) (by omega)
  have e16:=zaJ e16 (by omega) (by omega)
  refine⟨n - (u+1),by omega,u+1,by omega,by omega,rfl,by rw[e15,hs2]; rfl,(o.trans (zaa e12)).near (zaj _ _ _) o.1⟩
 ·have:u=sp.length:=by omega
  subst this
  rw[zoU]
  exact⟨rfl,o⟩
theorem zBits:zan Tryz.prog 139=some (List.replicate 4096 (.bool false)):=by kernel_rfl
theorem zum {l:List Nat} {k y x:Nat} (hk:l[k]?= some y):x∈l.take (k+1)↔x∈l.take k∨x=y:=by
 rw[List.take_add_one,hk]
 simp
theorem zwl (kk:zrJ K) {p:Option Addr} {n c:Nat} {sp:List (Nat×Nat)} (hs:zaq h p n 2 (spC sp)) (hg:Gap (-1) sp) (hn:n≤1000000):
 Wf Tryz.prog K 175 [.slice p n c] h fun v h'=>v=.pointer (some ⟨h.next,0,none⟩)∧h'.get h.next=some (.cells (zhh fun x=>decide (x∈exN sp)) 139 false)∧Old h h'∧h.next < h'.next:=by
 refine zmV kk.sMark _ _ _ h _ ⟨_,zBits,fun g1 e1=>zcY kk.sEach _ _ _ g1 _ fun g3 e3=>⟨143,[.pointer (some ⟨g1.next,0,none⟩)],rfl,?_⟩⟩
 have o1:=zaa e1
 have n1:=zab e1
 have o3:=zaa e3
 have n3:=zab e3
 have c3:=zac e3
 have b3:g3.get h.next=some (.cells (zhh fun _=>false) 139 false):=by rw[o3.2 _ (by omega),zac e1,zkd]
 have o13:Old h g3:=o1.trans o3
 have old:∀{g:AH},g3.next < g.next→(∀c,c < g3.next→c≠h.next→g.get c=g3.get c)→Old h g:=fun q1 q2=>⟨by omega,fun c hc=>by rw[q2 c (by omega) (by omega),o13.2 c hc]⟩
 refine⟨fun k g=>g3.next < g.next∧(∀c,c < g3.next→c≠h.next→g.get c=g3.get c)∧g.get h.next=some (.cells (zhh fun x=>decide (x∈(exN sp).take k)) 139 false),fun a g=>False,
  (exN sp).length,fun i=>[.int .i64 ((exN sp)[i]?.getD 0:Nat)],fun h1 h2=>g3.next < h1.next∧Old h1 h2,fun h1 h2=>h1.next≤h2.next∧∀c,g3.next < c→c < h1.next→h2.get c=h1.get c,
  ⟨kk.sEach1,rfl⟩,fun i hi=>⟨_,rfl⟩,fun h1 q1 q2=>⟨by omega,fun c hc _=>q2 c (by omega),by rw[q2 _ (by omega),b3]; exact congrArg (fun l=>some (zb7.cells l _ _)) (zb5 fun x=>by simp)⟩,
  fun i h1 h2 q nr=>⟨by rw[nr.1]; exact q.1,fun c hc hne=>by rw[nr.2 c (by omega),q.2.1 c hc hne],by rw[nr.2 _ (by omega)]; exact q.2.2⟩,
  fun a h1 h2 q nr=>q.elim,fun i h1 h2 q r=>⟨Nat.lt_of_lt_of_le q.1 r.2.1,fun c hc hne=>by have:=q.1; rw[r.2.2 c (by omega),q.2.1 c hc hne],by have:=q.1; rw[r.2.2 _ (by omega)]; exact q.2.2⟩,
  fun a h1 h2 q r=>q.elim,fun h1 h2 r=>r.2.2 _ r.1,?_,?_,?_,fun a h1 _ q=>q.elim⟩
 ·rintro k g11 hkN ⟨q1,q2,q3⟩ - i14 ei
  refine⟨rfl,rfl,fun g16 nr hL=>?_⟩
  dsimp only at ei
  obtain⟨y,hy⟩:∃y,(exN sp)[k]?= some y:=⟨_,List.getElem?_eq_getElem hkN⟩
  rw[hy] at ei
  simp only[Option.getD_some,List.cons.injEq,Value.int.injEq,true_and,and_true] at ei
  subst ei
  have hyl:y < 4096:=zqj hg (List.mem_of_getElem? hy)
  have d16:g16.get h.next=_:=(nr.2 _ (by omega)).trans q3
  have ns:=zaj h.next g16 (.cells ((zhh fun x=>decide (x∈(exN sp).take k)).set (0+Int.toNat (y:Int) * 1) (.bool true)) 139 false)
  refine⟨by omega,by omega,_,zbm d16 (by rw[zcb,Int.toNat_natCast]; omega),ns.2 _ (by omega),⟨by rw[ns.1,nr.1]; exact q1,fun c hc hne=>by rw[ns.2 c hne,nr.2 c (by omega),q2 c hc hne],?_⟩,fun h5 n5=>⟨by rw[n5.1,ns.1,nr.1]; exact Nat.le_refl _,fun c hc1 hc2=>by rw[n5.2 c (by omega),ns.2 c (by omega),nr.2 c (by omega)]⟩⟩
  rw[zag,Int.toNat_natCast,Nat.zero_add,Nat.mul_one,zlq]
  refine congrArg (fun l=>some (zb7.cells l _ _)) (zb5 fun x=>?_)
  have:=zum (x:=x) hy
  by_cases e:x=y
  ·rw[if_pos e]; exact (decide_eq_true (this.2 (.inr e))).symm
  ·rw[if_neg e]; exact decide_eq_decide.2 ⟨fun z=>this.2 (.inl z),fun z=>(this.1 z).resolve_right e⟩
 ·intro JJ DD hJJ hG hDG hround h25 hj0
  exact zhx (h:=h25) kk.sEach1 kk.sRight kk.sSingle hg hn (ya:=g3.next) (pb:=g1.next) (lim:=g3.next+1) (JJ:=JJ) (DD:=DD) (B:=fun h1 h2=>h1.next≤h2.next∧∀c,g3.next < c→c < h1.next→h2.get c=h1.get c) (p:=p) (n:=n) (c:=c) (sp:=sp)
   (fun i h1 h2 q o=>hG i h1 h2 q ⟨(hJJ _ _ q).1,o⟩) (fun i h1 q=>⟨⟨_,_,((hJJ _ _ q).2.1 _ (by omega) (by omega)).trans c3⟩,hs.old (old (hJJ _ _ q).1 (hJJ _ _ q).2.1),(hJJ _ _ q).1⟩)
   (fun h1 h2 b=>⟨b.1,fun c hc1 hc2=>b.2 c hc1 hc2⟩) (fun k h1 hk1 q y hy=>by have:=hround k h1 hk1 q; dsimp only at this; rw[hy] at this; exact this) hj0
 ·rintro g26 ⟨q1,q2,q3⟩
  refine⟨rfl,?_,⟨by show h.next≤g26.next; omega,fun c hc=>by rw[zbY _ (by omega),q2 c (by omega) (by omega),o13.2 c hc]⟩,by show h.next < g26.next; omega⟩
  rw[zbY _ (by omega),q3,List.take_length]
theorem zun (kk:zrJ K) {pa:Option Addr} {na ca:Nat} {sa:List (Nat×Nat)} (ha:zaq h pa na 2 (spC sa)) (ga:Gap (-1) sa) (hna:na≤1000000) {p:Option Addr} {n c:Nat} {sp:List (Nat×Nat)} (hs:zaq h p n 2 (spC sp)) (hg:Gap (-1) sp) (hn:n≤1000000):
 Wf Tryz.prog K 171 [.slice pa na ca,.slice p n c] h fun v h'=>zhe h' v (fun x=>x∈exN sa∧x∉exN sp)∧Old h h':=by
 refine zoN kk.sCut _ _ _ _ _ _ h _ ((zwl kk ha ga hna).mono ?_)
 rintro _ g1 ⟨rfl,w1,o1,l1⟩
 refine⟨_,rfl,fun g3 e3=>?_⟩
 have o3:=zaa e3
 have n3:=zab e3
 refine⟨_,zbm (zac e3) (by simp),?_⟩
 have ns:=zaj g1.next g3 (.cells ([Value.pointer none].set 0 (.pointer (some ⟨h.next,0,none⟩))) 186 false)
 have w4:=zag g1.next g3 (.cells ([Value.pointer none].set 0 (.pointer (some ⟨h.next,0,none⟩))) 186 false)
 have b4:=(ns.2 h.next (by omega)).trans ((o3.2 _ (by omega)).trans w1)
 have o4:Old h (g3.set g1.next (.cells ([Value.pointer none].set 0 (.pointer (some ⟨h.next,0,none⟩))) 186 false)):=(o1.trans o3).near ns (by omega)
 have n4:=ns.1
 generalize g3.set g1.next (.cells ([Value.pointer none].set 0 (.pointer (some ⟨h.next,0,none⟩))) 186 false)=g4 at w4 b4 o4 n4
 clear ns
 refine zcY kk.sEach _ _ _ g4 _ fun g6 e6=>⟨143,[.pointer (some ⟨g4.next,0,none⟩)],rfl,?_⟩
 have o6:=zaa e6
 have n6:=zab e6
 have c6:=zac e6
 have b6:g6.get h.next=_:=(o6.2 _ (by omega)).trans b4
 have w6:g6.get g1.next=_:=(o6.2 _ (by omega)).trans w4
 have o46:Old h g6:=o4.trans o6
 have old:∀{g:AH},g6.next < g.next→(∀c,c < g6.next→c≠h.next→g.get c=g6.get c)→Old h g:=fun q1 q2=>⟨by omega,fun c hc=>by rw[q2 c (by omega) (by omega),o46.2 c hc]⟩
 refine⟨fun k g=>g6.next < g.next∧(∀c,c < g6.next→c≠h.next→g.get c=g6.get c)∧g.get h.next=some (.cells (zhh fun x=>decide (x∈exN sa∧x∉(exN sp).take k)) 139 false),fun a g=>False,
  (exN sp).length,fun i=>[.int .i64 ((exN sp)[i]?.getD 0:Nat)],fun h1 h2=>g6.next < h1.next∧Old h1 h2,fun h1 h2=>h1.next≤h2.next∧∀c,g6.next < c→c < h1.next→h2.get c=h1.get c,
  ⟨kk.sEach1,rfl⟩,fun i hi=>⟨_,rfl⟩,fun h1 q1 q2=>⟨by omega,fun c hc _=>q2 c (by omega),by rw[q2 _ (by omega),b6]; exact congrArg (fun l=>some (zb7.cells l _ _)) (zb5 fun x=>by simp)⟩,
  fun i h1 h2 q nr=>⟨by rw[nr.1]; exact q.1,fun c hc hne=>by rw[nr.2 c (by omega),q.2.1 c hc hne],by rw[nr.2 _ (by omega)]; exact q.2.2⟩,
  fun a h1 h2 q nr=>q.elim,fun i h1 h2 q r=>⟨Nat.lt_of_lt_of_le q.1 r.2.1,fun c hc hne=>by have:=q.1; rw[r.2.2 c (by omega),q.2.1 c hc hne],by have:=q.1; rw[r.2.2 _ (by omega)]; exact q.2.2⟩,
  fun a h1 h2 q r=>q.elim,fun h1 h2 r=>r.2.2 _ r.1,?_,?_,?_,fun a h1 _ q=>q.elim⟩
 ·rintro k g11 hkN ⟨q1,q2,q3⟩ - i14 ei
  refine⟨rfl,rfl,fun g16 nr hL=>?_⟩
  dsimp only at ei
  obtain⟨y,hy⟩:∃y,(exN sp)[k]?= some y:=⟨_,List.getElem?_eq_getElem hkN⟩
  rw[hy] at ei
  simp only[Option.getD_some,List.cons.injEq,Value.int.injEq,true_and,and_true] at ei
  subst ei
  have hyl:y < 4096:=zqj hg (List.mem_of_getElem? hy)
  have v16:g16.get g1.next=_:=(nr.2 _ (by omega)).trans ((q2 _ (by omega) (by omega)).trans w6)
  have d16:g16.get h.next=_:=(nr.2 _ (by omega)).trans q3
  have ns:=zaj h.next g16 (.cells ((zhh fun x=>decide (x∈exN sa∧x∉(exN sp).take k)).set (0+Int.toNat (y:Int) * 1) (.bool false)) 139 false)
  refine⟨_,zah v16 rfl,zae ⟨by omega,by omega,_,zbm d16 (by rw[zcb,Int.toNat_natCast]; omega),ns.2 _ (by omega),⟨by rw[ns.1,nr.1]; exact q1,fun c hc hne=>by rw[ns.2 c hne,nr.2 c (by omega),q2 c hc hne],?_⟩,fun h5 n5=>⟨by rw[n5.1,ns.1,nr.1]; exact Nat.le_refl _,fun c hc1 hc2=>by rw[n5.2 c (by omega),ns.2 c (by omega),nr.2 c (by omega)]⟩⟩⟩
  rw[zag,Int.toNat_natCast,Nat.zero_add,Nat.mul_one,zlq]
  refine congrArg (fun l=>some (zb7.cells l _ _)) (zb5 fun x=>?_)
  have:=zum (x:=x) hy
  by_cases e:x=y
  ·rw[if_pos e]; exact (decide_eq_false fun z=>z.2 (this.2 (.inr e))).symm
  ·rw[if_neg e]; exact decide_eq_decide.2 ⟨fun z=>⟨z.1,fun y=>z.2 ((this.1 y).resolve_right e)⟩,fun z=>⟨z.1,fun y=>z.2 (this.2 (.inl y))⟩⟩
 ·intro JJ DD hJJ hG hDG hround h25 hj0
  exact zhx (h:=h25) kk.sEach1 kk.sRight kk.sSingle hg hn (ya:=g6.next) (pb:=g4.next) (lim:=g6.next+1) (JJ:=JJ) (DD:=DD) (B:=fun h1 h2=>h1.next≤h2.next∧∀c,g6.next < c→c < h1.next→h2.get c=h1.get c) (p:=p) (n:=n) (c:=c) (sp:=sp)
   (fun i h1 h2 q o=>hG i h1 h2 q ⟨(hJJ _ _ q).1,o⟩) (fun i h1 q=>⟨⟨_,_,((hJJ _ _ q).2.1 _ (by omega) (by omega)).trans c6⟩,hs.old (old (hJJ _ _ q).1 (hJJ _ _ q).2.1),(hJJ _ _ q).1⟩)
   (fun h1 h2 b=>⟨b.1,fun c hc1 hc2=>b.2 c hc1 hc2⟩) (fun k h1 hk1 q y hy=>by have:=hround k h1 hk1 q; dsimp only at this; rw[hy] at this; exact this) hj0
 ·rintro g32 ⟨q1,q2,q3⟩
  have v32:(g32.del g6.next).get g1.next=_:=(zbY _ (by omega)).trans ((q2 _ (by omega) (by omega)).trans w6)
  have d32:(g32.del g6.next).get h.next=some (.cells (zhh fun x=>decide (x∈exN sa∧x∉exN sp)) 139 false):=by rw[zbY _ (by omega),q3,List.take_length]
  have od:Old h (g32.del g6.next):=⟨by show h.next≤g32.next; omega,fun c hc=>by rw[zbY _ (by omega),q2 c (by omega) (by omega),o46.2 c hc]⟩
  refine⟨_,zah v32 rfl,(zuk kk d32 (by show h.next < g32.next; omega)).mono ?_⟩
  rintro v g35 ⟨⟨p,n,c,sp',rfl,q4,q5,q6,q7,q8⟩,o35⟩
  refine⟨p,n,c,rfl,⟨p,n,c,sp',rfl,q4,q5,q6,q7,fun x=>(q8 x).trans ⟨fun z=>of_decide_eq_true z.2,fun z=>⟨zqj ga z.1,decide_eq_true z⟩⟩⟩,od.trans o35⟩
end
theorem zuo {P:Program} {h:AH} {st elem:TypeId} {sz by' : Nat} (E:zaZ P st elem sz by') {b off n c lo hi:Nat} (hsz:P.cellsOf elem=sz) (hc:zbu P h elem b n c) (hlo:lo≤hi) (hhi:hi≤n):
 ∃off' c',zar P h st (.slice (some ⟨b,off,none⟩) n c) (some (.int .i64 (lo:Int))) (some (.int .i64 (hi:Int))) none=some (.slice (some ⟨b,off',none⟩) (hi - lo) c')∧(lo < n→off'= off+lo * sz)∧zbu P h elem b (hi - lo) c':=by
 obtain⟨hu,i,z,hi',hz,hzs,hpos,rfl,rfl⟩:=E
 unfold zar
 rw[hu]
 simp only[hi',Option.isSome_some,if_true]
 rcases hc with ⟨h1,h2⟩ | ⟨rfl,cs,e,ro,hg,he⟩
 ·rw[if_neg (by omega),if_pos h2]
  unfold aBounds
  simp only[zbO,if_pos (show hi≤c by omega),if_pos hlo]
  refine⟨_,_,rfl,fun q=>?_,.inl ⟨by omega,by omega⟩⟩
  rw[if_neg (by omega),hsz]
 ·rw[if_pos rfl]
  unfold aBounds
  simp only[zbO,if_pos hhi,if_pos hlo,hg,he,if_true]
  exact⟨_,_,rfl,fun _=>by rw[hsz],.inr ⟨rfl,cs,e,ro,hg,he⟩⟩
theorem zno {P:Program} {h:AH} {st elem:TypeId} {sz by' : Nat} (E:zaZ P st elem sz by') {b off n c hi:Nat} (hsz:P.cellsOf elem=sz) (hc:zbu P h elem b n c) (hhi:hi≤n):
 ∃off' c',zar P h st (.slice (some ⟨b,off,none⟩) n c) none (some (.int .i64 (hi:Int))) none=some (.slice (some ⟨b,off',none⟩) hi c')∧(0 < n→off'= off)∧zbu P h elem b hi c':=by
 obtain⟨hu,i,z,hi',hz,hzs,hpos,rfl,rfl⟩:=E
 unfold zar
 rw[hu]
 simp only[hi',Option.isSome_some,if_true]
 rcases hc with ⟨h1,h2⟩ | ⟨rfl,cs,e,ro,hg,he⟩
 ·rw[if_neg (by omega),if_pos h2]
  unfold aBounds
  simp only[zbO,if_pos (show hi≤c by omega)]
  refine⟨_,_,rfl,fun q=>?_,.inl ⟨by omega,by omega⟩⟩
  split <;> simp
 ·rw[if_pos rfl]
  unfold aBounds
  simp only[zbO,if_pos hhi,hg,he,if_true]
  exact⟨_,_,rfl,fun _=>by simp,.inr ⟨rfl,cs,e,ro,hg,he⟩⟩
theorem zaW.keep {lim:Nat} {h h' : AH} {elem:TypeId} {sz b n c:Nat} {cs:List Value} (g:zaW lim h elem sz b n c cs) (hn:h.next≤h'.next) (hb:h'.get b=h.get b):zaW lim h' elem sz b n c cs:=by
 obtain⟨h1,h2,h3,h4,h5,rest,h6,h7⟩:=g
 exact⟨h1,h2,Nat.lt_of_lt_of_le h3 hn,h4,h5,rest,by rw[hb,h6],h7⟩
section
variable {K:Xs} {h:AH}
theorem zAz:zaZ Tryz.prog 48 3 1 8:=zaG (by kernel_rfl)
theorem zqk (kk:zrJ K) {p:Option Addr} {n c:Nat} {sp:List (Nat×Nat)} (hs:zaq h p n 2 (spC sp)) (hg:Gap (-1) sp) (hn:n≤1000000):
 Wf Tryz.prog K 70 [.slice p n c] h fun v h'=>(∃b c',v=.slice (some ⟨b,0,none⟩) (exN sp).length c'∧zaq h' (some ⟨b,0,none⟩) (exN sp).length 1 (zav .i64 (exN sp)))∧Old h h':=by
 have hx:=zgy hg
 refine zmU kk.sList _ _ _ h _ ((zul kk hs hg hn).mono ?_)
 rintro _ g1 ⟨rfl,o1⟩
 generalize hm:(exN sp).length=m at hx
 refine⟨_,rfl,⟨by decide,by omega,by omega,by omega⟩,fun g3 e3 g4 e4=>?_⟩
 have o3:=zaa e3
 have o4:=zaa e4
 have n3:=zab e3
 have n4:=zab e4
 have h1:=o1.1
 have G3:zaW g1.next g3 3 1 g1.next 0 m []:=zaW.make e3 (by simp) (by unfold zak; omega)
 refine⟨_,zbm (zac e4) (by simp),zcY kk.sEach _ _ _ _ _ fun g6 e6=>?_⟩
 have ns:=zaj g3.next g4 (.cells ([Value.slice none 0 0].set 0 (.slice (some ⟨g1.next,0,none⟩) (Int.toNat 0) (Int.toNat (m:Int)))) 48 false)
 have w5:(g4.set g3.next (.cells ([Value.slice none 0 0].set 0 (.slice (some ⟨g1.next,0,none⟩) (Int.toNat 0) (Int.toNat (m:Int)))) 48 false)).get g3.next=some (.cells [.slice (some ⟨g1.next,0,none⟩) 0 m] 48 false):=zag _ _ _
 generalize hg5:(g4.set g3.next (.cells ([Value.slice none 0 0].set 0 (.slice (some ⟨g1.next,0,none⟩) (Int.toNat 0) (Int.toNat (m:Int)))) 48 false))=g5 at ns w5 e6 ⊢
 have o6:=zaa e6
 have n6:=zab e6
 have n5:=ns.1
 have w6:=(o6.2 _ (by omega)).trans w5
 have c6:=zac e6
 have G6:zaW g1.next g6 3 1 g1.next 0 m []:=G3.keep (by omega) (by rw[o6.2 _ (by omega),ns.2 _ (by omega),o4.2 _ (by omega)])
 have oh6:Old h g6:=⟨by have:=o6.1; omega,fun y hy=>by rw[o6.2 y (by omega),ns.2 y (by omega),o4.2 y (by omega),o3.2 y (by omega),o1.2 y hy]⟩
 have old:∀{g:AH},g6.next < g.next→(∀c,c < g6.next→c≠g1.next→c≠g3.next→g.get c=g6.get c)→Old h g:=fun q1 q2=>⟨by have:=oh6.1; omega,fun c hc=>by rw[q2 c (by have:=oh6.1; omega) (by omega) (by omega),oh6.2 c hc]⟩
 refine⟨143,[.pointer (some ⟨g5.next,0,none⟩)],rfl,fun k g=>g6.next < g.next∧(∀c,c < g6.next→c≠g1.next→c≠g3.next→g.get c=g6.get c)∧g.get g3.next=some (.cells [.slice (some ⟨g1.next,0,none⟩) k m] 48 false)∧zaW g1.next g 3 1 g1.next k m (zav .i64 ((exN sp).take k)),fun a g=>False,
  m,fun i=>[.int .i64 ((exN sp)[i]?.getD 0:Nat)],fun h1 h2=>g6.next < h1.next∧Old h1 h2,fun h1 h2=>h1.next≤h2.next∧∀c,g6.next < c→c < h1.next→h2.get c=h1.get c,
  ⟨kk.sEach1,rfl⟩,fun i hi=>⟨_,rfl⟩,fun h1 q1 q2=>⟨by omega,fun c hc _ _=>q2 c (by omega),by rw[q2 _ (by omega),w6],G6.keep (by omega) (q2 _ (by omega))⟩,
  fun i h1 h2 q nr=>⟨by rw[nr.1]; exact q.1,fun c hc y1 y2=>by rw[nr.2 c (by omega),q.2.1 c hc y1 y2],by rw[nr.2 _ (by omega)]; exact q.2.2.1,q.2.2.2.keep (by rw[nr.1]; exact Nat.le_refl _) (nr.2 _ (by omega))⟩,
  fun a h1 h2 q nr=>q.elim,fun i h1 h2 q r=>⟨Nat.lt_of_lt_of_le q.1 r.2.1,fun c hc y1 y2=>by have:=q.1; rw[r.2.2 c (by omega),q.2.1 c hc y1 y2],by have:=q.1; rw[r.2.2 _ (by omega)]; exact q.2.2.1,q.2.2.2.old r.2⟩,
  fun a h1 h2 q r=>q.elim,fun h1 h2 r=>r.2.2 _ r.1,?_,?_,?_,fun a h1 _ q=>q.elim⟩
 ·rintro k g11 hkN ⟨q1,q2,q3,q4⟩ - i14 ei
  refine⟨rfl,rfl,fun g20 nr hL=>?_⟩
  dsimp only at ei
  obtain⟨y,hy⟩:∃y,(exN sp)[k]?= some y:=⟨_,List.getElem?_eq_getElem (by omega)⟩
  rw[hy] at ei
  simp only[Option.getD_some,List.cons.injEq,Value.int.injEq,true_and,and_true] at ei
  subst ei
  have v20:g20.get g3.next=_:=(nr.2 _ (by omega)).trans q3
  have G20:=q4.keep (h':=g20) (by rw[nr.1]; exact Nat.le_refl _) (nr.2 _ (by omega))
  refine⟨_,_,_,zah v20 rfl,fun g24 e24=>?_⟩
  obtain⟨g28,k28,G28,n28,f28⟩:=G20.push zAz (m:=1) (ns:=zav .i64 [y]) e24 rfl (by decide) (by omega)
  have r28:g28.get g3.next=_:=(f28 _ (by have:=nr.1; omega) (by omega)).trans v20
  have ns2:=zaj g3.next g28 (.cells ([Value.slice (some ⟨g1.next,0,none⟩) k m].set 0 (.slice (some ⟨g1.next,0,none⟩) (k+1) m)) 48 false)
  refine⟨_,_,_,g28,k28,_,zbm r28 (by simp),?_,⟨by rw[ns2.1,n28,nr.1]; omega,fun c hc y1 y2=>by rw[ns2.2 c y2,f28 c (by have:=nr.1; omega) y1,nr.2 c (by omega),q2 c hc y1 y2],zag _ _ _,?_⟩,fun h5 n5=>⟨by rw[n5.1,ns2.1,n28,nr.1]; omega,fun c hc1 hc2=>by rw[n5.2 c (by omega),ns2.2 c (by omega),f28 c (by have:=nr.1; omega) (by omega),nr.2 c (by omega)]⟩⟩
  ·rw[ns2.2 _ (by omega),f28 _ (by have:=nr.1; omega) (by omega)]
  ·have e1:(exN sp).take (k+1)=(exN sp).take k ++ [y]:=by rw[List.take_add_one,hy]; rfl
   rw[e1,zaI]
   exact G28.keep (by rw[ns2.1]; exact Nat.le_refl _) (ns2.2 _ (by omega))
 ·intro JJ DD hJJ hG hDG hround h25 hj0
  have:=zhx (h:=h25) kk.sEach1 kk.sRight kk.sSingle hg hn (ya:=g6.next) (pb:=g5.next) (lim:=g6.next+1) (JJ:=JJ) (DD:=DD) (B:=fun h1 h2=>h1.next≤h2.next∧∀c,g6.next < c→c < h1.next→h2.get c=h1.get c) (p:=p) (n:=n) (c:=c) (sp:=sp)
   (fun i h1 h2 q o=>hG i h1 h2 q ⟨(hJJ _ _ q).1,o⟩) (fun i h1 q=>⟨⟨_,_,((hJJ _ _ q).2.1 _ (by omega) (by omega) (by omega)).trans c6⟩,hs.old (old (hJJ _ _ q).1 (hJJ _ _ q).2.1),(hJJ _ _ q).1⟩)
   (fun h1 h2 b=>⟨b.1,fun c hc1 hc2=>b.2 c hc1 hc2⟩) (fun k h1 hk1 q y hy=>by have:=hround k h1 (by omega) q; dsimp only at this; rw[hy] at this; exact this) hj0
  rw[hm] at this
  exact this
 ·rintro g38 ⟨q1,q2,q3,q4⟩
  have d38:(g38.del g6.next).get g3.next=_:=(zbY _ (by omega)).trans q3
  have G38:zaW g1.next (g38.del g6.next) 3 1 g1.next m m (zav .i64 ((exN sp).take m)):=q4.keep (Nat.le_refl _) (zbY _ (by omega))
  rw[List.take_of_length_le (by omega)] at G38
  exact⟨_,_,_,zah d38 rfl,⟨_,_,rfl,G38.shows⟩,by show h.next≤g38.next; have:=oh6.1; omega,fun y hy=>by rw[zbY _ (by have:=oh6.1; omega),q2 y (by have:=oh6.1; omega) (by omega) (by omega),oh6.2 y hy]⟩
end
section
variable {α β:Type} {f:α→List β} {m:Nat}
theorem ziS (hf:∀a,(f a).length=m):∀l:List α,((l.map f).flatten).length=l.length * m
 | []=>by simp
 | a :: l=>by
   simp only[List.map_cons,List.flatten_cons,List.length_append,hf,List.length_cons,ziS hf l]
   rw[Nat.succ_mul]; omega
theorem ziT (hf:∀a,(f a).length=m):∀(l:List α) (i:Nat) (hi:i < l.length),(((l.map f).flatten).drop (i * m)).take m=f l[i]
 | a :: l,0,_=>by
   rw[Nat.zero_mul,List.drop_zero]
   exact List.take_left' (hf a)
 | a :: l,i+1,hi=>by
   rw[Nat.succ_mul,Nat.add_comm,←List.drop_drop]
   have:((a :: l).map f).flatten.drop m=(l.map f).flatten:=List.drop_left' (hf a)
   rw[this]
   exact ziT hf l i (by simpa using hi)
theorem zgz {l:List α} {i:Nat} (hi:i < l.length):((l.take (i+1)).map f).flatten=((l.take i).map f).flatten ++ f l[i]:=by
 rw[List.take_succ_eq_append_getElem hi]
 simp only[List.map_append,List.flatten_append,List.map_cons,List.map_nil,List.flatten_cons,List.flatten_nil,List.append_nil]
end
def mv1 (q:Nat×Nat):List Value:=[.bool true,.int .i64 q.1,.int .i64 q.2]
def mvC (sp:List (Nat×Nat)):List Value:=(sp.map mv1).flatten
def mb1 (q:Nat×Nat):List Nat:=enc [1,2,2] [1,q.1,q.2]
def mvB (sp:List (Nat×Nat)):List Nat:=(sp.map mb1).flatten
theorem zo2 (q:Nat×Nat):(mv1 q).length=3:=rfl
theorem zlr (q:Nat×Nat):(mb1 q).length=5:=(zeY [1,2,2] [1,q.1,q.2] rfl).trans (by simp)
theorem ziU (sp:List (Nat×Nat)):(mvB sp).length=sp.length * 5:=ziS zlr sp
theorem zup (sp:List (Nat×Nat)):(mvC sp).length=sp.length * 3:=ziS zo2 sp
theorem zAA {sp:List (Nat×Nat)} {x:Nat} (h:x∈mvB sp):x < 256:=by
 unfold mvB at h
 rw[List.mem_flatten] at h
 obtain⟨l,hl,hx⟩:=h
 obtain⟨q, -,rfl⟩:=List.mem_map.1 hl
 exact zgT _ _ hx
section
variable {K:Xs} {h:AH}
theorem ziV (kk:zrJ K) {b:Bool} {s l:Nat} (h1:1≤l) (h2:s+l≤4096):Wf Tryz.prog K 139 [.agg #[.bool b,.int .i64 s,.int .i64 l]] h fun v h'=>v=.bool true∧Old h h':=by
 refine zk5 kk.lRight _ _ _ h _ fun g0 e0=>⟨_,_,zcl (off:=1) (n:=2) (zac e0) (Nat.le_of_ble_eq_true rfl),fun g3 e3=>?_⟩
 have o3:=(zaa e0).trans (zaa e3)
 have S:zaq g3 (some ⟨g0.next,0,none⟩) 1 2 (spC [(s,l)]):=⟨rfl,.inr ⟨_,_,_,_,_,rfl,by rw[zab e3]; omega,zac e3,Nat.le_refl 2,rfl⟩⟩
 refine (zcJ kk.sRight kk.sSingle S ⟨by omega,h1,h2,trivial⟩ (by decide)).mono ?_
 rintro _ g5 ⟨rfl,o5⟩
 exact .inl ⟨rfl,rfl,o3.trans o5⟩
theorem ziW (h:AH):zaq h none 0 2 (spC []):=⟨rfl,.inl rfl⟩
theorem zAB:zaZ Tryz.prog 170 205 3 24:=zaG (by kernel_rfl)
theorem zwm (kk:zrJ K) {p:Option Addr} {n c:Nat} {sp:List (Nat×Nat)} (hs:zaq h p n 2 (spC sp)) (hg:Gap (-1) sp) (hn:n≤1000000):
 Wf Tryz.prog K 141 [.slice p n c] h fun v h'=>∃p' c',v=.slice p' sp.length c'∧zbe h.next h' 205 3 p' sp.length c' (mvC sp)∧Old h h':=by
 have hx:=zgy hg
 have hgl:=ziG hg
 refine zhb kk.lCond _ _ _ h _ (zm1 kk.lDiff _ _ _ _ _ _ h _ ((zcJ kk.sRight kk.sSingle (ziW h) trivial (by decide)).mono ?_))
 rintro _ g1 ⟨rfl,o1⟩
 refine .inl ⟨rfl,(zcJ kk.sRight kk.sSingle (hs.old o1) hg hn).mono ?_⟩
 rintro _ g3 ⟨rfl,o3⟩
 have o13:=o1.trans o3
 refine .inl ⟨rfl,(zun kk (ziW g3) trivial (by decide) (hs.old o13) hg hn).mono ?_⟩
 rintro _ g5 ⟨⟨p6,n6,c6,sp6,rfl, -,S6,q6, -,m6⟩,o5⟩
 have e6:sp6=[]:=zgx q6 trivial fun x=>by rw[m6 x]; exact⟨fun z=>z.1,fun z=>(by cases z)⟩
 subst e6
 have z6:n6=0:=by have:=S6.1; simp[spC] at this; omega
 subst z6
 have o5:=o13.trans o5
 refine⟨_,_,_,rfl,fun p n c i k g=>p=none∧n=0∧c=0∧i=0∧g=g5,⟨0,rfl,rfl,rfl,rfl,rfl⟩,?_⟩
 rintro k g p7 n7 c7 i ⟨rfl,rfl,rfl,rfl,rfl⟩
 refine⟨fun z=>absurd z (by decide),fun _=>(zun kk (hs.old o5) hg hn (ziW g) trivial (by decide)).mono ?_⟩
 rintro _ g32 ⟨⟨p33,n33,c33,sp33,rfl, -,S33,q33, -,m33⟩,o32⟩
 have e33:sp33=sp:=zgx q33 hg fun x=>by rw[m33 x]; exact⟨fun z=>z.1,fun z=>⟨z,fun y=>(by cases y)⟩⟩
 subst e33
 have hl:n33=sp33.length:=by have:=S33.1; rw[zb1] at this; omega
 have oh:=o5.trans o32
 refine⟨_,_,_,rfl,fun p n c i k g=>∃u:Nat,i=u∧u≤n33∧n33 - u=k∧n=u∧zbe g32.next g 205 3 p u c (mvC (sp33.take u))∧Old g32 g,⟨n33,0,rfl,Nat.zero_le _,rfl,rfl,zbe.nil _ _ _ _,Old.refl _⟩,?_⟩
 rintro k g p40 n41 c42 i ⟨u,rfl,hu,rfl,en,G,o⟩
 obtain rfl:u=n41:=en.symm
 have oo:=oh.trans o
 refine⟨fun z=>?_,fun z=>?_⟩
 ·have hul:u < sp33.length:=by omega
  obtain⟨b,off,rfl,hld, -⟩:=(S33.old o).getN (i:=u) (by omega)
  rw[zd8 sp33 u hul] at hld
  refine zae ⟨by omega,z,_,_,hld,fun g48 e48=>⟨rfl,_,zaB (zac e48) rfl,_,_,zao (zag _ _ _) rfl,fun g52 e52=>?_⟩⟩
  have o49:=(zaa e48).near (zaj g.next g48 (.cells [.int .i64 (sp33[u].1:Nat),.int .i64 (sp33[u].2:Nat)] 90 false)) (Nat.le_refl _)
  obtain⟨p',c',g56,k56,G56,o56,hap, -⟩:=(G.old o49).push zAB (Nat.le_trans o.1 o49.1) (m:=1) (ns:=mv1 sp33[u]) e52 rfl (by simp only[zaE]; omega) (by omega)
  refine⟨p',_,c',g56,k56,fun i57 e57=>?_⟩
  have e57:=zaJ e57 (by omega) (by omega)
  refine⟨n33 - (u+1),by omega,u+1,by omega,by omega,rfl,rfl,?_,?_⟩
  ·have e1:mvC (sp33.take (u+1))=mvC (sp33.take u) ++ mv1 sp33[u]:=zgz hul
   rw[e1]; exact G56
  ·exact⟨Nat.le_trans o.1 (Nat.le_trans o49.1 o56.1),fun b hb=>by rw[o56.2 b hb,o49.2 b (Nat.lt_of_lt_of_le hb o.1),o.2 b hb]⟩
 ·have:u=sp33.length:=by omega
  subst this
  rw[List.take_length] at G
  exact⟨_,_,_,rfl,_,_,rfl,G.weak oh.1,oo⟩
theorem zDN {s l:Nat} (h1:s≤4096) (h2:l≤4096):∀(i w z:Nat),([1,2,2]:List Nat)[i]?= some w→([1,s,l]:List Nat)[i]?= some z→z < 256 ^ w:=by
 intro i w z hw hz
 match i with
 | 0=>simp at hw hz; subst hw hz; decide
 | 1=>simp at hw hz; subst hw hz; omega
 | 2=>simp at hw hz; subst hw hz; omega
 | i+3=>simp at hw
theorem zuq (kk:zrJ K) {p:Option Addr} {n c:Nat} {sp:List (Nat×Nat)} (hs:zaq h p n 3 (mvC sp)) (hg:Gap (-1) sp) (hn:n≤4096):
 Wf Tryz.prog K 142 [.slice p n c] h fun v h'=>v=.tuple #[.slice (some ⟨h.next,0,none⟩) (n * 5) (n * 5),.int .i64 0]∧zaW h.next h' 5 1 h.next (n * 5) (n * 5) (zav .u8 (mvB sp))∧Old h h':=by
 have hl:n=sp.length:=by have:=hs.1; rw[zup] at this; omega
 refine zk4 kk.lBytes _ _ _ h _ ⟨fun z=>absurd z (by omega),fun _ i0 e0=>?_⟩
 have e0:=zaJ e0 (by omega) (by omega)
 subst e0
 refine⟨⟨by decide,by omega,by omega,by omega⟩,fun g1 e1=>?_⟩
 have en:Int.toNat (5 * (n:Int))=n * 5:=by omega
 rw[en] at e1 ⊢
 have G1:zaW h.next g1 5 1 h.next 0 (n * 5) []:=zaW.make e1 (by simp) (by unfold zak; omega)
 have o1:=zaa e1
 have n1:=zab e1
 refine⟨fun p m c i k g=>∃u:Nat,i=u∧u≤n∧n - u=k∧p=some ⟨h.next,0,none⟩∧m=u * 5∧c=n * 5∧zaW h.next g 5 1 h.next (u * 5) (n * 5) (zav .u8 (mvB (sp.take u)))∧Old h g,⟨n,0,rfl,Nat.zero_le _,rfl,rfl,by simp,rfl,by rw[Nat.zero_mul]; exact G1,o1⟩,?_⟩
 rintro k g p6 n7 c8 i ⟨u,rfl,hu,rfl,rfl,rfl,rfl,G,o⟩
 refine⟨fun z=>?_,fun z=>?_⟩
 ·have hul:u < sp.length:=by omega
  obtain⟨b,off,rfl,hld, -⟩:=(hs.old o).getN (i:=u) (by omega)
  have eg:((mvC sp).drop (u * 3)).take 3=mv1 sp[u]:=ziT zo2 sp u hul
  rw[eg] at hld
  have hat:=hg.at u hul
  have e5:mvB (sp.take (u+1))=mvB (sp.take u) ++ mb1 sp[u]:=zgz hul
  generalize sp[u]=q at hld hat e5
  obtain⟨s,l⟩:=q
  simp only at hat
  refine zae ⟨by omega,z,_,_,_,hld,fun g15 e15=>⟨rfl,?_⟩⟩
  obtain⟨g16,k16,n16,o16,m16⟩:=zaF e15 (vs:=mv1 (s,l)) rfl
  have w16:=(m16 [] (fun c hc=>by cases hc)).1
  refine⟨g16,k16,_,_,_,zao w16 rfl,(ziV kk hat.1 hat.2).mono ?_⟩
  rintro _ g21 ⟨rfl,o21⟩
  have l21:=o21.1
  have w21:g21.get g.next=_:=(o21.2 _ (by omega)).trans w16
  refine .inl ⟨rfl,.inl ⟨zah w21 rfl,zeK kk.lWidths g21 _ fun g23 e23=>⟨_,_,_,rfl,?_⟩⟩⟩
  have o23:=zaa e23
  have n23:=zab e23
  have w23:g23.get g.next=_:=(o23.2 _ (by omega)).trans w21
  refine⟨_,zah w23 rfl,fun i28 e28=>⟨_,zah w23 rfl,fun i30 e30 g31 e31=>?_⟩⟩
  have e28:=zoz e28 (by omega) (by omega)
  have e30:=zoz e30 (by omega) (by omega)
  subst e28
  subst e30
  have o31:=zaa e31
  have n31:=zab e31
  refine (zep kk.fPut kk.fRoom (ws:=[1,2,2]) (ns:=[1,s,l]) (za7 ((o31.2 _ (by omega)).trans (zac e23)) (by omega) rfl) (za7 (zac e31) (by omega) rfl) (by decide) (by decide) rfl (zDN (by omega) (by omega))).mono ?_
  rintro _ g33 ⟨⟨b3,rfl,hb3,S3⟩,o33⟩
  have o2:Old g g33:=o16.trans (o21.trans (o23.trans (o31.trans o33)))
  obtain⟨g41,k41,G41,nr41⟩:=(G.old o2).pushS eU8 (cx:=[1,2,2].sum) S3 (.inr ⟨_,_,rfl⟩) (show u * 5+5≤n * 5 by omega)
  refine⟨_,_,_,_,rfl,zah w21 rfl,zah w23 rfl,zah w21 rfl,zah w23 rfl,fun _=>⟨_,_,_,g41,k41,fun i42 e42=>?_⟩,fun z=>absurd rfl z⟩
  have e42:=zaJ e42 (by omega) (by omega)
  have e6:(u+1) * 5=u * 5+5:=by omega
  refine⟨n - (u+1),by omega,u+1,by omega,by omega,rfl,rfl,e6.symm,rfl,?_,(o.trans o2).near nr41 (Nat.le_refl _)⟩
  rw[e5,zaI,e6]
  exact G41
 ·have:u=sp.length:=by omega
  subst this
  rw[List.take_length] at G
  rw[←hl] at G ⊢
  exact⟨rfl,G,o⟩
theorem zeb {P:Program} {h h' : AH} {st elem:TypeId} (hu:P.underlying st=some (.slice elem)) {b off n c:Nat} {lo hi mx:Option Value} (hb:h'.get b=h.get b):zar P h' st (.slice (some ⟨b,off,none⟩) n c) lo hi mx=zar P h st (.slice (some ⟨b,off,none⟩) n c) lo hi mx:=by
 unfold zar
 rw[hu]
 simp only[hb]
theorem zwn (kk:zrJ K) {b off n c:Nat} {sp:List (Nat×Nat)} (hs:zaq h (some ⟨b,off,none⟩) n 1 (zav .u8 (mvB sp))) (hc:zbu Tryz.prog h 5 b n c) (hb:b < h.next) (hg:Gap (-1) sp) (hn:sp.length≤4096):
 Wf Tryz.prog K 106 [.slice (some ⟨b,off,none⟩) n c] h fun v h'=>v=.tuple #[.slice (some ⟨h.next,0,none⟩) sp.length sp.length,.int .i64 0]∧zaq h' (some ⟨h.next,0,none⟩) sp.length 3 (mvC sp)∧Old h h':=by
 have hl:n=sp.length * 5:=by have:=hs.1; rw[zam,ziU] at this; omega
 generalize hN:sp.length=N at hl hn
 subst hl
 refine zm2 kk.lRead _ _ _ h _ ⟨by decide,fun i0 e0=>?_⟩
 have e0:i0=0:=by rw[e0]; have:=zz4 (N * 5) 5; rw[show ((5:Nat):Int)=5 from rfl] at this; rw[this]; omega
 subst e0
 refine⟨fun _=>⟨fun z=>absurd z (by omega),fun _=>⟨by decide,fun i1 e1=>?_⟩⟩,fun z=>absurd rfl z⟩
 have e1:i1=(N:Nat):=by
  have:=zvT (N * 5) 5
  rw[show ((5:Nat):Int)=5 from rfl] at this
  rw[this] at e1
  have:=zaJ e1 (by omega) (by omega)
  omega
 subst e1
 refine⟨⟨by decide,by omega,by omega,by omega⟩,fun g2 e2=>?_⟩
 rw[Int.toNat_natCast] at e2 ⊢
 have G2:zaW h.next g2 205 3 h.next 0 N []:=zaW.make e2 (by simp[List.length_flatten]) (by unfold zak; omega)
 have o2:=zaa e2
 refine⟨fun p7 n8 c9 p10 n11 c12 k g=>∃u off9:Nat,u≤N∧N - u=k∧p7=some ⟨b,off9,none⟩∧n8=(N - u) * 5∧zbu Tryz.prog h 5 b ((N - u) * 5) c9∧zaq h (some ⟨b,off9,none⟩) ((N - u) * 5) 1 (zav .u8 (mvB (sp.drop u)))∧p10=some ⟨h.next,0,none⟩∧n11=u∧c12=N∧zaW h.next g 205 3 h.next u N (mvC (sp.take u))∧Old h g,
  ⟨N,0,off,Nat.zero_le _,rfl,rfl,rfl,hc,hs,rfl,rfl,rfl,G2,o2⟩,?_⟩
 rintro k g5 p7 n8 c9 p10 n11 c12 ⟨u,off9,hu,rfl,rfl,rfl,C,S,rfl,en,ec,G,o⟩
 obtain rfl:u=n11:=en.symm
 obtain rfl:N=c12:=ec.symm
 have uB:=Tryz.underlying53
 refine⟨fun z=>?_,fun z=>?_⟩
 ·have huN:u < N:=by omega
  have hul:u < sp.length:=by omega
  have ed:sp.drop u=sp[u] :: sp.drop (u+1):=List.drop_eq_getElem_cons hul
  have hat:=hg.at u hul
  have e5:mvC (sp.take (u+1))=mvC (sp.take u) ++ mv1 sp[u]:=zgz hul
  generalize sp[u]=q at ed hat e5
  obtain⟨s,l⟩:=q
  simp only at hat
  have em:mvB (sp.drop u)=mb1 (s,l) ++ mvB (sp.drop (u+1)):=by rw[ed]; rfl
  have hb5:=Nat.lt_of_lt_of_le hb o.1
  refine zeK kk.lWidths g5 _ fun g14 e14=>⟨_,_,_,rfl,?_⟩
  have o14:=zaa e14
  have n14:=zab e14
  have oh14:=o.trans o14
  obtain⟨off18,c20,k18,ho18,C18⟩:=zno (off:=off9) eU8 (by simp) C (show 5≤(N - u) * 5 by omega)
  rw[ho18 (by omega)] at k18
  have S18:zaq h (some ⟨b,off9,none⟩) 5 1 (zav .u8 (mb1 (s,l))):=by
   have:=S.take (m:=5) (by omega)
   rw[em,zaI,List.take_left' (by rw[zam,zlr])] at this
   exact this
  have k5:=(zeb (lo:=none) (hi:=some (.int .i64 ((5:Nat):Int))) (mx:=none) (off:=off9) (n:=(N - u) * 5) (c:=c9) uB (o.2 b hb)).trans k18
  have k14:=(zeb (lo:=none) (hi:=some (.int .i64 ((5:Nat):Int))) (mx:=none) (off:=off9) (n:=(N - u) * 5) (c:=c9) uB (oh14.2 b hb)).trans k18
  refine⟨_,_,_,k14,(zdx kk.fGet kk.fRoom (ws:=[1,2,2]) (za7 (zac e14) (by omega) rfl) (S18.old oh14) (Nat.lt_of_lt_of_le hb oh14.1) (C18.old oh14 hb) (by decide) (by decide) (fun x hx=>zgT _ _ hx) (zlr _)).mono ?_⟩
  rintro _ g22 ⟨⟨b23,rfl,hb23,S23⟩,o22⟩
  have ee:dec [1,2,2] (mb1 (s,l))=[1,s,l]:=zdV _ _ rfl (zDN (by omega) (by omega))
  rw[ee] at S23
  obtain⟨b4,off4,hq4,hd4⟩:=S23.get (i:=0) (by decide)
  obtain⟨b5,off5,hq5,hd5⟩:=S23.get (i:=1) (by decide)
  obtain⟨b6,off6,hq6,hd6⟩:=S23.get (i:=2) (by decide)
  simp only[Option.some.injEq,Addr.mk.injEq,and_true] at hq4 hq5 hq6
  obtain⟨rfl,rfl⟩:=hq4
  obtain⟨rfl,rfl⟩:=hq5
  obtain⟨rfl,rfl⟩:=hq6
  refine⟨_,_,_,_,rfl,k5,k14,fun _=>zae ⟨by decide,by decide,_,hd4,fun z=>absurd z (by decide),fun _=>zae ⟨by decide,by decide,_,hd4,fun _=>zae ⟨by decide,by decide,_,hd5,fun i36 e36=>zae ⟨by decide,by decide,_,hd6,fun i40 e40 g41 e41=>⟨rfl,?_⟩⟩⟩,fun z=>absurd rfl z⟩⟩,fun z=>absurd rfl z⟩
  have e36:=zaJ e36 (by omega) (by omega)
  have e40:=zaJ e40 (by omega) (by omega)
  subst e36
  subst e40
  obtain⟨g42,k42,n42,o42,m42⟩:=zaF e41 (vs:=mv1 (s,l)) rfl
  have w42:=(m42 [] (fun c hc=>by cases hc)).1
  refine⟨g42,k42,_,_,_,zao w42 rfl,(ziV kk hat.1 hat.2).mono ?_⟩
  rintro _ g47 ⟨rfl,o47⟩
  have w47:g47.get g22.next=_:=(o47.2 _ (by omega)).trans w42
  refine .inl ⟨rfl,_,_,_,zao w47 rfl,fun g51 e51=>?_⟩
  have o5:Old g5 g47:=o14.trans (o22.trans (o42.trans o47))
  obtain⟨g55,k55,G55,n55,f55⟩:=(G.old o5).push zAB (m:=1) (ns:=mv1 (s,l)) e51 rfl (by decide) (by omega)
  have oh47:=o.trans o5
  have oh55:Old h g55:=⟨by have:=oh47.1; omega,fun x hx=>by rw[f55 x (Nat.lt_of_lt_of_le hx oh47.1) (by omega),oh47.2 x hx]⟩
  obtain⟨off56,c58,k56,ho56,C56⟩:=zdD (off:=off9) eU8 (by simp) C (show 5≤(N - u) * 5 by omega)
  have k56':=(zeb (lo:=some (.int .i64 ((5:Nat):Int))) (hi:=none) (mx:=none) (off:=off9) (n:=(N - u) * 5) (c:=c9) uB (oh55.2 b hb)).trans k56
  have S56:=S.cut (off2:=off56) (lo:=5) (by omega) ho56
  rw[em,zaI,List.drop_left' (by rw[zam,zlr])] at S56
  have e6:(N - u) * 5 - 5=(N - (u+1)) * 5:=by omega
  rw[e6] at S56 C56 k56'
  refine⟨_,_,_,g55,k55,_,_,_,k56',N - (u+1),by omega,u+1,off56,by omega,rfl,rfl,rfl,C56,S56,rfl,rfl,rfl,?_,oh55⟩
  rw[e5]
  exact G55
 ·have:u=N:=by omega
  subst this
  rw[List.take_of_length_le (by omega)] at G
  exact⟨rfl,G.shows,o⟩
theorem zEs:zan Tryz.prog 138=some (List.replicate 4096 (.bool false)):=by kernel_rfl
theorem zke:∀{N:List Nat},(∀x∈N,x < 4096)→zeH (zav .i64 N)=some N
 | [],_=>rfl
 | x :: N,h=>by
   have hx:Nat.blt x 4096=true:=by rw[Nat.blt_eq]; exact h x (List.mem_cons_self ..)
   show cond (Nat.blt x 4096) (match zeH (zav .i64 N) with | some l=>some (x :: l) | none=>none) none=_
   rw[hx,zke fun y hy=>h y (List.mem_cons_of_mem _ hy)]
   rfl
theorem zAC (kk:zrJ K) {lim:Nat} {p:Option Addr} {n c:Nat} {N:List Nat} (G:zbe lim h 3 1 p n c (zav .i64 N)) (hlt:∀x∈N,x < 4096) (hn:n≤1000000):
 Wf Tryz.prog K 57 [.slice p n c] h fun v h'=>zhe h' v (fun x=>x∈N)∧Old h h':=by
 obtain⟨acc,h1,h2,h3⟩:=zni 90 (h:=h) (N:=N) (n:=h.next+1) (by omega) hlt
 obtain⟨hl,⟨rfl,rfl,rfl⟩ | ⟨b,rfl, -,hb,hg, -⟩⟩:=G
 ·have:N=[]:=List.eq_nil_of_length_eq_zero (by rw[zam] at hl; omega)
  subst this
  exact zdS kk.sOf (v:=.slice none 0 0) (h':=⟨h.tr,h.next+1⟩) rfl (Nat.le_succ _) ⟨⟨none,0,0,[],rfl,.inl rfl,⟨rfl,.inl rfl⟩,trivial,by decide,fun x=>Iff.rfl⟩,Nat.le_succ _,fun _ _=>rfl⟩
 ·have hn2:N.length=n:=by rw[zam] at hl; omega
  refine zdS kk.sOf (v:=(zaD 90 acc h.tr (h.next+1)).1) (h':=(zaD 90 acc h.tr (h.next+1)).2) ?_ (h3 rfl).1 ⟨h2,h3 rfl⟩
  unfold xOf
  simp only[hg]
  rw[List.drop_zero,List.take_of_length_le (by rw[zam]; omega),zke hlt]
  have hcc:(Nat.ble (0+n) (zav .i64 N).length && Nat.blt n 9223372036854775807 && Nat.blt b h.next)=true:=by
   rw[Bool.and_eq_true,Bool.and_eq_true,Nat.blt_eq,Nat.blt_eq]
   exact⟨⟨Nat.ble_eq_true_of_le (by rw[zam]; omega),by omega⟩,hb⟩
  simp only[hcc,h1,cond_true]
theorem zur (sp:List (Nat×Nat)) (u:Nat):exN sp=exN (sp.take u) ++ exN (sp.drop u):=by
 unfold exN
 rw[←List.flatten_append,←List.map_append,List.take_append_drop]
theorem zus {sp:List (Nat×Nat)} (hg:Gap (-1) sp) {u:Nat} (hu:u < sp.length) {x:Nat} (hx:x∈exN (sp.take u)):x < sp[u].1:=by
 have hr:=zln hg
 rw[zur sp u,List.pairwise_append] at hr
 refine hr.2.2 x hx _ ?_
 rw[List.drop_eq_getElem_cons hu]
 have:=(hg.at u hu).1
 show sp[u].1∈List.range' sp[u].1 sp[u].2 ++ exN (sp.drop (u+1))
 rw[List.mem_append,List.mem_range'_1]
 exact .inl (by omega)
theorem zwo {sp:List (Nat×Nat)} {u:Nat} (hu:u < sp.length) (x:Nat):x∈exN (sp.take (u+1))↔x∈exN (sp.take u)∨(sp[u].1≤x∧x < sp[u].1+sp[u].2):=by
 rw[List.take_succ_eq_append_getElem hu]
 unfold exN
 rw[List.map_append,List.flatten_append,List.mem_append]
 simp[List.mem_range'_1]
theorem zAD (kk:zrJ K) {p:Option Addr} {n c:Nat} {sp:List (Nat×Nat)} (hs:zaq h p n 3 (mvC sp)) (hg:Gap (-1) sp) (hn:n≤4096):
 Wf Tryz.prog K 107 [.slice none 0 0,.slice p n c] h fun v h'=>∃v1,v=.tuple #[v1,.int .i64 0]∧zhe h' v1 (fun x=>x∈exN sp)∧Old h h':=by
 have hl:n=sp.length:=by have:=hs.1; rw[zup] at this; omega
 refine zjq kk.lReplay _ _ _ _ _ _ h _ ((zcJ kk.sRight kk.sSingle (ziW h) trivial (by decide)).mono ?_)
 rintro _ g1 ⟨rfl,o1⟩
 refine .inl ⟨rfl,_,zEs,fun g3 e3=>(zqk kk (ziW g3) trivial (by decide)).mono ?_⟩
 have o3:=zaa e3
 have n3:=zab e3
 rintro _ g5 ⟨⟨b6,c6,rfl, -⟩,o5⟩
 have l5:=o5.1
 have b5:g5.get g1.next=some (.cells (zhh fun _=>false) 138 false):=by rw[o5.2 _ (by omega),zac e3,zkd]
 have oh5:=(o1.trans o3).trans o5
 have lh:=o1.1
 refine⟨_,_,_,rfl,fun i k g=>i=0∧g=g5,⟨0,rfl,rfl⟩,?_⟩
 rintro k10 g11 i13 ⟨rfl,rfl⟩
 refine⟨fun z=>absurd z (by show ¬(0:Int) < ((0:Nat):Int); decide),fun _=>⟨fun i k g=>∃u:Nat,i=u∧u≤n∧n - u=k∧g11.next≤g.next∧(∀c,c < g11.next→c≠g1.next→g.get c=g11.get c)∧g.get g1.next=some (.cells (zhh fun x=>decide (x∈exN (sp.take u))) 138 false),⟨n,0,rfl,Nat.zero_le _,rfl,Nat.le_refl _,fun _ _ _=>rfl,by rw[b5]; exact congrArg (fun l=>some (zb7.cells l _ _)) (zb5 fun x=>(decide_eq_false (by simp[exN])).symm)⟩,?_⟩⟩
 rintro k20 g21 i23 ⟨u,rfl,hu,rfl,l21,f21,w21⟩
 have old21:∀{g:AH},g11.next≤g.next→(∀c,c < g11.next→c≠g1.next→g.get c=g11.get c)→Old h g:=fun q1 q2=>⟨by have:=oh5.1; omega,fun c hc=>by rw[q2 c (by have:=oh5.1; omega) (by omega),oh5.2 c hc]⟩
 have oh21:=old21 l21 f21
 refine⟨fun z=>?_,fun z=>?_⟩
 ·have hul:u < sp.length:=by omega
  obtain⟨b,off,rfl,hld, -⟩:=(hs.old oh21).getN (i:=u) (by omega)
  have eg:((mvC sp).drop (u * 3)).take 3=mv1 sp[u]:=ziT zo2 sp u hul
  rw[eg] at hld
  have hat:=hg.at u hul
  have hah:=fun x=>zus hg hul (x:=x)
  have hnx:=zwo hul
  generalize sp[u]=q at hld hat hah hnx
  obtain⟨s,l⟩:=q
  simp only at hat hah hnx
  refine zae ⟨by omega,z,_,_,_,hld,fun g29 e29=>⟨rfl,?_⟩⟩
  obtain⟨g30,k30,n30,o30,m30⟩:=zaF e29 (vs:=mv1 (s,l)) rfl
  have w30:=(m30 [] (fun c hc=>by cases hc)).1
  refine⟨g30,k30,_,_,_,zao w30 rfl,(ziV kk hat.1 hat.2).mono ?_⟩
  rintro _ g35 ⟨rfl,o35⟩
  have l35:=o35.1
  have w35:g35.get g21.next=_:=(o35.2 _ (by omega)).trans w30
  have o2:=o30.trans o35
  have v35:g35.get g1.next=_:=(o2.2 _ (by omega)).trans w21
  refine .inl ⟨rfl,_,zah w35 rfl,fun i k g=>∃t:Nat,i=t∧t≤l∧l - t=k∧za9 g1.next g35 g∧g.get g1.next=some (.cells (zhh fun x=>decide (x∈exN (sp.take u)∨(s≤x∧x < s+t))) 138 false),⟨l,0,rfl,Nat.zero_le _,rfl,za9.refl _ _,by rw[v35]; exact congrArg (fun l=>some (zb7.cells l _ _)) (zb5 fun x=>decide_eq_decide.2 ⟨fun z=>.inl z,fun z=>z.resolve_right (by omega)⟩)⟩,?_⟩
  rintro k38 g39 i41 ⟨t,rfl,ht,rfl,nr,w39⟩
  have v39:g39.get g21.next=_:=(nr.2 _ (by omega)).trans w35
  refine⟨fun y=>⟨_,zah v39 rfl,fun i43 e43=>?_⟩,fun y i52 e52=>?_⟩
  ·have e43:=zaJ e43 (by omega) (by omega)
   have e43:i43=((s+t:Nat):Int):=by rw[e43]; rfl
   subst e43
   have hno:¬(s+t∈exN (sp.take u)∨(s≤s+t∧s+t < s+t)):=fun z=>z.elim (fun z=>by have:=hah _ z; omega) (fun z=>by omega)
   have hin:ld1 g39 g1.next (0+Int.toNat ((s+t:Nat):Int) * 1)=some (.bool false):=by
    refine zah w39 ?_
    rw[Int.toNat_natCast,Nat.zero_add,Nat.mul_one,zfL (by omega),decide_eq_false hno]
   refine⟨by omega,by omega,.inr ⟨hin,.inl ⟨zah v39 rfl,.inl ⟨zah v39 rfl,by omega,by omega,_,zbm w39 (by rw[zcb,Int.toNat_natCast]; omega),fun i49 e49=>?_⟩⟩⟩⟩
   have e49:=zaJ e49 (by omega) (by omega)
   refine⟨l - (t+1),by omega,t+1,by omega,by omega,rfl,nr.trans (zaj _ _ _),?_⟩
   rw[zag,Int.toNat_natCast,Nat.zero_add,Nat.mul_one,zlq]
   refine congrArg (fun l=>some (zb7.cells l _ _)) (zb5 fun x=>?_)
   by_cases e:x=s+t
   ·rw[if_pos e]; exact (decide_eq_true (.inr (by omega))).symm
   ·rw[if_neg e]; exact decide_eq_decide.2 ⟨fun z=>z.imp id (fun z=>by omega),fun z=>z.imp id (fun z=>by omega)⟩
  ·have e52:=zaJ e52 (by omega) (by omega)
   have:t=l:=by omega
   subst this
   refine⟨n - (u+1),by omega,u+1,by omega,by omega,rfl,by rw[nr.1]; omega,fun c hc hne=>by rw[nr.2 c hne,o2.2 c (by omega),f21 c hc hne],?_⟩
   rw[w39]
   exact congrArg (fun l=>some (zb7.cells l _ _)) (zb5 fun x=>decide_eq_decide.2 (hnx x).symm)
 ·have:u=sp.length:=by omega
  subst this
  rw[List.take_length] at w21
  refine⟨_,zao w21 (zcb _),fun p m c i k g=>∃u:Nat,i=u∧u≤4096∧4096 - u=k∧zbe h.next g 3 1 p m c (zav .i64 ((List.range u).filter fun x=>decide (x∈exN sp)))∧Old h g,⟨4096,0,rfl,by decide,rfl,zbe.nil _ _ _ _,oh21⟩,?_⟩
  rintro k55 g56 p58 n59 c60 i61 ⟨u,rfl,hu2,rfl,G,o⟩
  have hnl:n59≤u:=by
   have:=G.1
   rw[zam] at this
   have h2:=List.length_filter_le (fun x=>decide (x∈exN sp)) (List.range u)
   rw[List.length_range] at h2
   omega
  have ers:(List.range (u+1)).filter (fun x=>decide (x∈exN sp))=(List.range u).filter (fun x=>decide (x∈exN sp)) ++ (if u∈exN sp then [u] else []):=by
   rw[List.range_succ,List.filter_append]
   congr 1
   by_cases e:u∈exN sp <;> simp[e]
  refine⟨fun z2=>⟨by omega,z2,?_⟩,fun z2=>?_⟩
  ·have hu3:u < 4096:=by omega
   rw[Int.toNat_natCast,Nat.mul_one,zfL hu3]
   by_cases e:u∈exN sp
   ·refine .inl ⟨by rw[decide_eq_true e],fun g62 e62=>?_⟩
    obtain⟨p63,c65,g66,k66,G66,o66, -, -⟩:=G.push zAz o.1 (m:=1) (ns:=[.int .i64 u]) e62 rfl (by simp only[zaE]; omega) (by omega)
    refine⟨p63,_,c65,g66,k66,fun i67 e67=>⟨4096 - (u+1),by omega,u+1,(zaJ e67 (by omega) (by omega)).trans rfl,by omega,rfl,?_,⟨Nat.le_trans o.1 o66.1,fun y hy=>(o66.2 y hy).trans (o.2 y hy)⟩⟩⟩
    rw[ers,if_pos e,zaI]
    exact G66
   ·refine .inr ⟨by rw[decide_eq_false e],fun i68 e68=>⟨4096 - (u+1),by omega,u+1,(zaJ e68 (by omega) (by omega)).trans rfl,by omega,rfl,?_,o⟩⟩
    rw[ers,if_neg e,List.append_nil]
    exact G
  ·have hu4:u=4096:=by omega
   subst hu4
   refine (zAC kk G (fun x hx=>List.mem_range.1 (List.mem_filter.1 hx).1) (by omega)).mono ?_
   rintro v g70 ⟨⟨p,m,c,sp',rfl,q4,q5,q6,q7,q8⟩,o70⟩
   refine⟨p,m,c,rfl,_,rfl,⟨p,m,c,sp',rfl,q4,q5,q6,q7,fun x=>(q8 x).trans ?_⟩,o.trans o70⟩
   exact⟨fun z=>of_decide_eq_true (List.mem_filter.1 z).2,fun z=>List.mem_filter.2 ⟨List.mem_range.2 (zqj hg z),decide_eq_true z⟩⟩
end
end Go.Am
