/-
  BOOKS: a volume more, a snapshot more, a clone more.
-/
import Derived.Test.YtkapnilnhoiooaaGreatCRuB
set_option linter.unusedVariables false
set_option linter.unusedSimpArgs false
set_option maxRecDepth 100000
namespace Go.Am
open Go.Proofs
def zb2 (nx:Int) (R:List zaj) (i:Int) (p:Option Addr) (n:Nat) (g:AH):Prop:=i=nx∧∃rs',zb0 g p n rs'∧rs'.map cor=R.map cor
theorem zb2.old {nx:Int} {R:List zaj} {i:Int} {p:Option Addr} {n:Nat} {g g' : AH} (q:zb2 nx R i p n g) (o:Old g g'):zb2 nx R i p n g':=by
 obtain⟨e,rs',h1,h2⟩:=q
 exact⟨e,rs',h1.old o,h2⟩
structure HdB (h g0 g:AH) (bn:Int) (p:Option Addr) (n c:Nat):Prop where
 o:Old h g
 n0:g0.next=h.next+1
 lt:h.next+2≤g.next
 c0:g.get h.next=some (.cells [.int .u64 bn,.slice p n c] 29 false)
 c1:g.get g0.next=some (.cells [.int .u64 0,.slice none 0 0] 29 false)
section
variable {h g0 g:AH} {bn:Int} {p:Option Addr} {n c:Nat}
theorem HdB.old {g' : AH} (d:HdB h g0 g bn p n c) (o:Old g g'):HdB h g0 g' bn p n c:=by
 have:=d.n0
 have:=d.lt
 exact⟨d.o.trans o,d.n0,Nat.le_trans d.lt o.1,(o.2 _ (by omega)).trans d.c0,(o.2 _ (by omega)).trans d.c1⟩
theorem HdB.of {g1:AH} (e0:g0=h.alloc (.cells [.int .u64 bn,.slice p n c] 29 false)) (e1:g1=g0.alloc (.cells [.int .u64 0,.slice none 0 0] 29 false)):HdB h g0 g1 bn p n c:=by
 have o0:=zab e0
 have o1:=zab e1
 have n0:=zaa e0
 have n1:=zaa e1
 exact⟨o0.trans o1,n0,by omega,(o1.2 _ (by omega)).trans (zaf e0),zaf e1⟩
theorem HdB.ldN (d:HdB h g0 g bn p n c):ldN g h.next 0 2=some [.int .u64 bn,.slice p n c]:=zah d.c0 rfl
theorem HdB.nx (d:HdB h g0 g bn p n c):ld1 g h.next 0=some (.int .u64 bn):=zae d.c0 rfl
theorem HdB.sl (d:HdB h g0 g bn p n c):ld1 g h.next 1=some (.slice p n c):=zae d.c0 rfl
theorem zao {x:Nat} {h g g' : AH} (o:Old h g) (nr:zbR x g g') (hx:h.next≤x):Old h g':=⟨by rw[nr.1]; exact o.1,fun y hy=>(nr.2 y (by omega)).trans (o.2 y hy)⟩
theorem zuh (hl:g0.next < g.next) {cs:List Value} {t:TypeId} (c1:g.get g0.next=some (.cells cs t false)) (hc:cs.length=2) {i:Int} {p' : Option Addr} {n' c' : Nat} {C:Int→Option Addr→Nat→Nat→AH→Prop} (HC:∀g',zbR g0.next g g'→C i p' n' c' g'):
 ∃h17:AH,stN g g0.next 0 [.int .u64 i,.slice p' n' c']=some h17∧∃i18:Int,∃(p19:Option Addr) (n20 c21:Nat),Am.ldN h17 g0.next 0 2=some [.int .u64 i18,.slice p19 n20 c21]∧C i18 p19 n20 c21 h17:=
 ⟨_,zat c1 (by simp[hc]),_,_,_,_,zah (zad _ _ _) rfl,HC _ (zak _ _ _)⟩
theorem zgk.temp {lim b x:Nat} {g g' : AH} {xs:List zaj} (w:zgk lim g b xs) (hx:x≠b) (hf:∀r∈xs,∀a,r.dp=some a→a.block≠x) (nr:zbR x g g'):zgk lim g' b xs:=
 ⟨w.lo,by rw[nr.1]; exact w.hi,(nr.2 b (Ne.symm hx)).trans w.get,fun r hr=>⟨(w.recs r hr).1.kept (by rw[nr.1]; exact Nat.le_refl _) fun a ha=>nr.2 _ (hf r hr a ha),(w.recs r hr).2⟩⟩
end
section
variable {K:Xs} {h g0 g:AH} {p:Option Addr} {n c:Nat} {rs:List zaj} {nx:Int}
theorem zhj (kk:zhh K) (d:HdB h g0 g nx p n c) (T:zb0 h p n rs) (hn40:n≤1000) {C:Int→Option Addr→Nat→Nat→AH→Prop} (HC:∀i p' n' c' g',zb2 nx rs i p' n' g'→Old h g'→g.next≤g'.next→(∀y,y < g.next→y≠g0.next→g'.get y=g.get y)→C i p' n' c' g'):
 ∃i7:Int,∃(p8:Option Addr) (n9 c10:Nat),ldN g h.next 0 2=some [.int .u64 i7,.slice p8 n9 c10]∧
 (Wf Tryz.prog K 47 [.agg #[.int .u64 i7,.slice p8 n9 c10]] g fun r11 h12=>
   ∃i13:Int,∃(p14:Option Addr) (n15 c16:Nat),r11=.agg #[.int .u64 i13,.slice p14 n15 c16]∧(List.length [Value.int .u64 i13,.slice p14 n15 c16]=2)∧
    ∃h17:AH,stN h12 g0.next 0 [.int .u64 i13,.slice p14 n15 c16]=some h17∧∃i18:Int,∃(p19:Option Addr) (n20 c21:Nat),ldN h17 g0.next 0 2=some [.int .u64 i18,.slice p19 n20 c21]∧C i18 p19 n20 c21 h17):=by
 refine⟨_,_,_,_,d.ldN,(zfm kk (T.old d.o) hn40 nx).mono ?_⟩
 rintro _ g' ⟨⟨b,rs',rfl,w,hc,hnew⟩,o'⟩
 have d':=d.old o'
 have l1:=d.lt
 have l2:=d.n0
 have l3:=o'.1
 have l4:=w.lo
 have hl:rs'.length=n:=by rw[T.1.1]; exact za5 hc
 refine⟨_,_,_,_,rfl,rfl,zuh (by omega) d'.c1 rfl fun g'' nr=>?_⟩
 refine HC _ _ _ _ _ ⟨rfl,rs',?_,hc⟩ (zao d'.o nr (by omega)) (by rw[nr.1]; exact l3) fun y hy hne=>(nr.2 y hne).trans (o'.2 y hy)
 rw[←hl]
 exact (w.temp (by omega) (fun r hr a ha=>by have:=hnew r hr a ha; omega) nr).book (by omega)
def zu7 (o:Int×List zaj×Int) (v:Value) (g:AH):Prop:=∃i p' n' c',v=.tuple #[.agg #[.int .u64 i,.slice p' n' c'],.int .i64 o.2.2]∧zb2 o.1 o.2.1 i p' n' g
noncomputable def zax (nx:Int) (rs:List zaj) (o:Option (ByteArray×ByteArray)) (k:Int):Int×List zaj×Int:=match volOf o with
 | none=>(nx,rs,141)
 | some a=>if k < 1∨64 < k then (nx,rs,176) else if 32≤rs.length then (nx,rs,175) else match lookOf rs o with
   | some _=>(nx,rs,171)
   | none=>(nx+1,rs ++ [zsk nx a 0 k (0,0,0)],0)
theorem zlf (h:AH) {n pr bl:Int} (hn:0≤n∧n < 1000000000000000) (hp:(Lit.int .u64 pr).wf=true) {root:PtI} (hr:zc9 root) (nm:ByteArray):zbh h (zsk n nm pr bl root):=by
 have e:(Lit.int .u64 n).wf=true:=by
  simp[Lit.wf,IntKind.min,IntKind.max,IntKind.signed,IntKind.bits]
  omega
 have z:=zef h
 exact⟨⟨e,e,hp,z.stamp,hr,z.dead,z.form,z.room,z.len,z.shows⟩,.inl ⟨rfl,rfl,by show (0:Nat) < zar; simp[zar]⟩,fun a ha=>by cases ha⟩
structure ztk (K:Xs):Prop where
 r:zhh K
 create:K 17=none
 snap:K 22=none
 clone:K 23=none
 floor:K 55=none
 fplace:K 80=none
theorem zo2 (kk:zhh K) (d:HdB h g0 g nx p n c) (T:zb0 h p n rs) (hn40:n≤1000) (hbn:0≤nx∧nx < 1000000000000000) {r:zaj} (ok:zbh g r) (hr:∀a,r.dp=some a→a.block≠g0.next) {C:Int→Option Addr→Nat→Nat→AH→Prop} (HC:∀i p' n' c' g',zb2 (nx+1) (rs ++ [r]) i p' n' g'→Old h g'→C i p' n' c' g'):
 Wf Tryz.prog K 49 [.agg #[.int .u64 nx,.slice p n c],.agg (setC r).toArray] g fun r11 h12=>
  ∃i13:Int,∃(p14:Option Addr) (n15 c16:Nat),r11=.agg #[.int .u64 i13,.slice p14 n15 c16]∧(List.length [Value.int .u64 i13,.slice p14 n15 c16]=2)∧
   ∃h17:AH,stN h12 g0.next 0 [.int .u64 i13,.slice p14 n15 c16]=some h17∧∃i18:Int,∃(p19:Option Addr) (n20 c21:Nat),ldN h17 g0.next 0 2=some [.int .u64 i18,.slice p19 n20 c21]∧C i18 p19 n20 c21 h17:=by
 refine (zmH kk (T.old d.o) hn40 nx hbn ok).mono ?_
 rintro _ g' ⟨⟨b,c',rs',rfl,w,hc,hnew⟩,o'⟩
 have d':=d.old o'
 have l1:=d.lt
 have l2:=d.n0
 have l3:=o'.1
 have l4:=w.lo
 have hl:rs'.length=n:=by rw[T.1.1]; exact za5 hc
 refine⟨_,_,_,_,rfl,rfl,zuh (by omega) d'.c1 rfl fun g'' nr=>?_⟩
 refine HC _ _ _ _ _ ⟨rfl,rs' ++ [r],?_,by rw[List.map_append,List.map_append,hc]⟩ (zao d'.o nr (by omega))
 have hl2:n+1=(rs' ++ [r]).length:=by simp[hl]
 rw[hl2]
 refine (w.temp (by omega) (fun x hx a ha=>?_) nr).book (by rw[←hl2]; omega)
 rcases za1.1 hx with hx | rfl
 ·have:=hnew x hx a ha
  omega
 ·exact hr a ha
theorem zpT (kk:ztk K) (T:zb0 h p n rs) (R:zam nx rs) (hn40:n≤1000) (hbn:0≤nx∧nx < 1000000000000000) (f:ByteArray) (hf:f.size≤9223372036854775806) (k:Int):
 Wf Tryz.prog K 17 [.agg #[.int .u64 nx,.slice p n c],.string f,.int .i64 k] h fun v h'=>zu7 (zax nx rs (spl f) k) v h'∧Old h h':=by
 refine zjI kk.create _ _ _ _ _ _ h _ fun g0 e0 g1 e1=>?_
 have d1:=HdB.of e0 e1
 have hn:=T.1.1
 refine (zgl kk.r f hf).mono ?_
 rintro _ g3 ⟨⟨a,ha,hs,rfl⟩ | ⟨ha,rfl⟩,o3⟩
 ·have d3:=d1.old o3
  refine⟨_,_,rfl,fun _=>⟨fun q=>?_,fun q=>⟨fun q2=>?_,fun q2=>⟨_,_,_,d3.sl,fun q3=>?_,fun q3=>⟨_,_,_,_,d3.ldN,(zcs kk.r (c:=c) (T.1.old d3.o) R f hf nx).mono ?_⟩⟩⟩⟩,fun z=>absurd rfl z⟩
  ·exact zhj kk.r d3 T hn40 fun i p' n' c' g' br o _ _=>⟨⟨i,p',n',c',by unfold zax; rw[ha]; simp only; rw[if_pos (.inl q)],by unfold zax; rw[ha]; simp only; rw[if_pos (.inl q)]; exact br⟩,o⟩
  ·exact zhj kk.r d3 T hn40 fun i p' n' c' g' br o _ _=>⟨⟨i,p',n',c',by unfold zax; rw[ha]; simp only; rw[if_pos (.inr q2)],by unfold zax; rw[ha]; simp only; rw[if_pos (.inr q2)]; exact br⟩,o⟩
  ·have e:zax nx rs (spl f) k=(nx,rs,175):=by unfold zax; rw[ha]; simp only; rw[if_neg (by omega),if_pos (by omega)]
   exact zhj kk.r d3 T hn40 fun i p' n' c' g' br o _ _=>⟨⟨i,p',n',c',by rw[e],by rw[e]; exact br⟩,o⟩
  ·rintro _ g59 ⟨rfl,o59⟩
   have d59:=d3.old o59
   refine⟨_,rfl,fun q4=>?_,fun q4=>⟨_,_,_,_,d59.ldN,_,d59.nx,_,d59.nx,?_⟩⟩
   ·cases hl:lookOf rs (spl f) with
    | none=>rw[hl] at q4; exact absurd q4 (by decide)
    | some i=>
      have e:zax nx rs (spl f) k=(nx,rs,171):=by unfold zax; rw[ha]; simp only; rw[if_neg (by omega),if_neg (by omega),hl]
      exact zhj kk.r d59 T hn40 fun i p' n' c' g' br o _ _=>⟨⟨i,p',n',c',by rw[e],by rw[e]; exact br⟩,o⟩
   ·cases hl:lookOf rs (spl f) with
    | some i=>rw[hl] at q4; exact absurd (by show (0:Int)≤(i:Int); omega) q4
    | none=>
      have e:zax nx rs (spl f) k=(nx+1,rs ++ [zsk nx a 0 k (0,0,0)],0):=by unfold zax; rw[ha]; simp only; rw[if_neg (by omega),if_neg (by omega),hl]
      exact zo2 kk.r d59 T hn40 hbn (r:=zsk nx a 0 k (0,0,0)) (zlf _ hbn rfl ⟨rfl,rfl,rfl⟩ a) (fun a ha=>by cases ha) fun i p' n' c' g' br o=>⟨⟨i,p',n',c',by rw[e],by rw[e]; exact br⟩,o⟩
 ·refine⟨_,_,rfl,fun z=>absurd z (by decide),fun _=>?_⟩
  have e:zax nx rs (spl f) k=(nx,rs,141):=by unfold zax; rw[ha]
  exact zhj kk.r (d1.old o3) T hn40 fun i p' n' c' g' br o _ _=>⟨⟨i,p',n',c',by rw[e],by rw[e]; exact br⟩,o⟩
end
theorem zmI {g:AH} {l i:Nat} {cs:List Value} {t:TypeId} {v:Value} (w:g.get l=some (.cells cs t false)) (hi:i < cs.length):∃g',st1 g l i v=some g'∧zbR l g g'∧g'.get l=some (.cells (cs.set i v) t false):=⟨_,zbi w hi,zak _ _ _,zad _ _ _⟩
theorem zja {g:AH} {b off n:Nat} {cs:List Value} (h:ldN g b off n=some cs) (k m:Nat) (hk:k+m≤n):ldN g b (off+k) m=some ((cs.drop k).take m):=by
 unfold ldN at h ⊢
 split at h
 ·rename_i cs' e ro hg
  split at h
  ·rename_i hl
   simp only[Option.some.injEq] at h
   subst h
   rw[if_pos (by omega),List.drop_take,List.drop_drop,List.take_take,Nat.min_eq_left (show m≤n - k by omega)]
  ·cases h
 ·cases h
theorem zbh.prev {g:AH} {r:zaj} (k:zbh g r) {pr:Int} (hp:(Lit.int .u64 pr).wf=true):zbh g { r with prev:=pr }:=⟨⟨k.1.id,k.1.own,hp,k.1.stamp,k.1.root,k.1.dead,k.1.form,k.1.room,k.1.len,k.1.shows⟩,k.2.1,k.2.2⟩
theorem zbh.own {g:AH} {r:zaj} (k:zbh g r) {o:Int} (hp:(Lit.int .u64 o).wf=true):zbh g { r with own:=o }:=⟨⟨k.1.id,hp,k.1.prev,k.1.stamp,k.1.root,k.1.dead,k.1.form,k.1.room,k.1.len,k.1.shows⟩,k.2.1,k.2.2⟩
theorem zbh.root {g:AH} {r:zaj} (k:zbh g r) {q:PtI} (hp:zc9 q):zbh g { r with root:=q }:=⟨⟨k.1.id,k.1.own,k.1.prev,k.1.stamp,hp,k.1.dead,k.1.form,k.1.room,k.1.len,k.1.shows⟩,k.2.1,k.2.2⟩
theorem zbh.none {g:AH} {r:zaj} (k:zbh g r):zbh g { r with dp:=.none,dn:=0,dc:=0,dead:=[] }:=by
 have z:=zef g
 exact⟨⟨k.1.id,k.1.own,k.1.prev,k.1.stamp,k.1.root,z.dead,z.form,z.room,z.len,z.shows⟩,.inl ⟨rfl,rfl,by show (0:Nat) < zar; simp[zar]⟩,fun a ha=>by cases ha⟩
theorem zbh.mk' {g:AH} {r:zaj} (k:zbh g r) {id own pr st:Int} (nm:ByteArray) (sn:Bool) (h1:(Lit.int .u64 id).wf=true) (h2:(Lit.int .u64 own).wf=true) (h3:(Lit.int .u64 pr).wf=true) (h4:(Lit.int .u64 st).wf=true):zbh g { r with id:=id,name:=nm,snap:=sn,own:=own,prev:=pr,stamp:=st }:=⟨⟨h1,h2,h3,h4,k.1.root,k.1.dead,k.1.form,k.1.room,k.1.len,k.1.shows⟩,k.2.1,k.2.2⟩
theorem zlg {x:Int} (h:0≤x∧x < 1000000000000000):(Lit.int .u64 x).wf=true:=by
 simp[Lit.wf,IntKind.min,IntKind.max,IntKind.signed,IntKind.bits]
 omega
theorem zn1 {nx:Int} {rs xs:List zaj} (R:zam nx rs) (h:xs.map cor=rs.map cor) {i:Nat} {v:zaj} (hi:rs[i]?= some v) {f:zaj→zaj} (hf:∀r∈rs,r.id≠v.id→f r=r) {x:zaj} (hx:cor x=cor (f v)):(xs.set i x).map cor=(rs.map f).map cor:=by
 have hl:=za5 h
 apply List.ext_getElem?
 intro j
 rw[List.getElem?_map,List.getElem?_map,List.getElem?_map,List.getElem?_set]
 by_cases e:i=j
 ·subst e
  have hlt:i < xs.length:=by rw[hl]; exact (List.getElem?_eq_some_iff.1 hi).1
  rw[if_pos rfl,if_pos hlt,hi]
  simp[hx]
 ·rw[if_neg e]
  have hj:=congrArg (fun l=>l[j]?) h
  simp only[List.getElem?_map] at hj
  rw[hj]
  cases hr:rs[j]? with
  | none=>rfl
  | some r=>
    simp only[Option.map_some]
    rw[hf r (List.mem_of_getElem? hr) fun q=>e ?_]
    have a:=R.uniq hr
    have b:=R.uniq hi
    rw[q,b] at a
    exact Option.some.inj a
structure Bkc (h g0 g:AH) (bn:Int) (p:Option Addr) (n c lc b:Nat) (nx:Int) (m c' : Nat) (xs:List zaj):Prop where
 hd:HdB h g0 g bn p n c
 own:zgk (h.next+2) g b xs
 loc:g.get lc=some (.cells [.int .u64 nx,.slice (some ⟨b,0,none⟩) m c'] 29 false)
 lcl:h.next+2≤lc
 lch:lc < g.next
 lcb:lc≠b
 far:∀r∈xs,∀a,r.dp=some a→a.block≠lc∧a.block≠g0.next
 ml:m=xs.length
section
variable {h g0 g:AH} {bn:Int} {p:Option Addr} {n c lc b:Nat} {nx:Int} {m c' : Nat} {xs:List zaj}
theorem Bkc.old {g' : AH} (u:Bkc h g0 g bn p n c lc b nx m c' xs) (o:Old g g'):Bkc h g0 g' bn p n c lc b nx m c' xs:=⟨u.hd.old o,u.own.old o,(o.2 _ u.lch).trans u.loc,u.lcl,Nat.lt_of_lt_of_le u.lch o.1,u.lcb,u.far,u.ml⟩
theorem Bkc.sl (u:Bkc h g0 g bn p n c lc b nx m c' xs):ld1 g lc 1=some (.slice (some ⟨b,0,none⟩) m c'):=zae u.loc rfl
theorem HdB.near {g' : AH} (d:HdB h g0 g bn p n c) {x:Nat} (nr:zbR x g g') (hx:h.next+2≤x):HdB h g0 g' bn p n c:=by
 have:=d.n0
 exact⟨zao d.o nr (by omega),d.n0,by rw[nr.1]; exact d.lt,(nr.2 _ (by omega)).trans d.c0,(nr.2 _ (by omega)).trans d.c1⟩
theorem Bkc.moved {g' : AH} {xs' : List zaj} (u:Bkc h g0 g bn p n c lc b nx m c' xs) (nr:zbR b g g') (w:zgk (h.next+2) g' b xs') (hl:xs'.length=xs.length) (hf:∀r∈xs',∀a,r.dp=some a→a.block≠lc∧a.block≠g0.next):Bkc h g0 g' bn p n c lc b nx m c' xs':=
 ⟨u.hd.near nr u.own.lo,w,(nr.2 _ u.lcb).trans u.loc,u.lcl,by rw[nr.1]; exact u.lch,u.lcb,hf,by rw[hl]; exact u.ml⟩
theorem Bkc.st1 (u:Bkc h g0 g bn p n c lc b nx m c' xs) {i k:Nat} {v:Value} {r' : zaj} (hi:i < xs.length) (hk:k < 11) (he:(setC xs[i]).set k v=setC r') (ok:zbh g r') (ha:∀a,r'.dp=some a→a.block≠b∧a.block≠lc∧a.block≠g0.next):
 ∃g',Am.st1 g b (0+Int.toNat (i:Int) * 11+k) v=some g'∧zbR b g g'∧Bkc h g0 g' bn p n c lc b nx m c' (xs.set i r'):=by
 obtain⟨g',e,nr,w⟩:=u.own.st1 hi hk he ok fun a q=>(ha a q).1
 refine⟨g',by rw[Int.toNat_natCast,Nat.zero_add]; exact e,nr,u.moved nr w (by simp) fun r hr a q=>?_⟩
 rcases List.mem_or_eq_of_mem_set hr with hr | rfl
 ·exact u.far r hr a q
 ·exact (ha a q).2
theorem Bkc.stN (u:Bkc h g0 g bn p n c lc b nx m c' xs) {i k:Nat} {vs:List Value} {r' : zaj} (hi:i < xs.length) (hk:k+vs.length≤11) (he:(setC xs[i]).take k ++ vs ++ (setC xs[i]).drop (k+vs.length)=setC r') (ok:zbh g r') (ha:∀a,r'.dp=some a→a.block≠b∧a.block≠lc∧a.block≠g0.next):
 ∃g',Am.stN g b (0+Int.toNat (i:Int) * 11+k) vs=some g'∧zbR b g g'∧Bkc h g0 g' bn p n c lc b nx m c' (xs.set i r'):=by
 obtain⟨g',e,nr,w⟩:=u.own.stN hi hk he ok fun a q=>(ha a q).1
 refine⟨g',by rw[Int.toNat_natCast,Nat.zero_add]; exact e,nr,u.moved nr w (by simp) fun r hr a q=>?_⟩
 rcases List.mem_or_eq_of_mem_set hr with hr | rfl
 ·exact u.far r hr a q
 ·exact (ha a q).2
theorem zgk.bookR {lim b m:Nat} {nx:Int} {g:AH} {xs R:List zaj} (w:zgk lim g b xs) (hm:m=xs.length) (hm2:m≤100000) (hc:xs.map cor=R.map cor):zb2 nx R nx (some ⟨b,0,.none⟩) m g:=⟨rfl,xs,by rw[hm]; exact w.book (by rw[←hm]; exact hm2),hc⟩
theorem Bkc.ret' (u:Bkc h g0 g bn p n c lc b nx m c' xs) {C:Int→Option Addr→Nat→Nat→AH→Prop} (HC:∀g',zgk (h.next+2) g' b xs→Old h g'→zbR g0.next g g'→C nx (some ⟨b,0,.none⟩) m c' g'):
 ∃i13:Int,∃(p14:Option Addr) (n15 c16:Nat),ldN g lc 0 2=some [.int .u64 i13,.slice p14 n15 c16]∧(List.length [Value.int .u64 i13,.slice p14 n15 c16]=2)∧
  ∃h17:AH,Am.stN g g0.next 0 [.int .u64 i13,.slice p14 n15 c16]=some h17∧∃i18:Int,∃(p19:Option Addr) (n20 c21:Nat),ldN h17 g0.next 0 2=some [.int .u64 i18,.slice p19 n20 c21]∧C i18 p19 n20 c21 h17:=by
 have l1:=u.hd.lt
 have l2:=u.hd.n0
 have l3:=u.own.lo
 exact⟨_,_,_,_,zah u.loc rfl,rfl,zuh (by omega) u.hd.c1 rfl fun g'' nr=>HC g'' (u.own.temp (by omega) (fun r hr a ha=>(u.far r hr a ha).2) nr) (zao u.hd.o nr (by omega)) nr⟩
theorem Bkc.ret (u:Bkc h g0 g bn p n c lc b nx m c' xs) (hm:m≤100000) {R:List zaj} (hc:xs.map cor=R.map cor) {C:Int→Option Addr→Nat→Nat→AH→Prop} (HC:∀g',zb2 nx R nx (some ⟨b,0,.none⟩) m g'→Old h g'→zbR g0.next g g'→C nx (some ⟨b,0,.none⟩) m c' g'):
 ∃i13:Int,∃(p14:Option Addr) (n15 c16:Nat),ldN g lc 0 2=some [.int .u64 i13,.slice p14 n15 c16]∧(List.length [Value.int .u64 i13,.slice p14 n15 c16]=2)∧
  ∃h17:AH,Am.stN g g0.next 0 [.int .u64 i13,.slice p14 n15 c16]=some h17∧∃i18:Int,∃(p19:Option Addr) (n20 c21:Nat),ldN h17 g0.next 0 2=some [.int .u64 i18,.slice p19 n20 c21]∧C i18 p19 n20 c21 h17:=
 u.ret' fun g' w o nr=>HC g' (w.bookR u.ml hm hc) o nr
end
section
variable {K:Xs} {h g0 g:AH} {p:Option Addr} {n c:Nat} {rs:List zaj} {nx:Int}
theorem zxs {g1:AH} (d:HdB h g0 g nx p n c) {b m c' : Nat} {nx' : Int} {xs:List zaj} (w:zgk (h.next+2) g b xs) (far:∀r∈xs,∀a,r.dp=some a→a.block≠g0.next) (hm:m=xs.length) (e:g1=g.alloc (.cells [.int .u64 0,.slice none 0 0] 29 false)):
 ∃g',stN g1 g.next 0 [.int .u64 nx',.slice (some ⟨b,0,none⟩) m c']=some g'∧Old g g'∧Bkc h g0 g' nx p n c g.next b nx' m c' xs:=by
 obtain⟨g',k,hn,o,v⟩:=zap e (vs:=[.int .u64 nx',.slice (some ⟨b,0,none⟩) m c']) rfl
 have l1:=d.lt
 have l2:=w.hi
 exact⟨g',k,o,d.old o,w.old o,(v [] (fun c hc=>by cases hc)).1,by omega,by omega,by omega,fun r hr a ha=>⟨by have:=(w.recs r hr).1.2.2 a ha; omega,far r hr a ha⟩,hm⟩
theorem zgM (kk:zhh K) (d:HdB h g0 g nx p n c) (T:zb0 h p n rs) (hn40:n≤1000):
 Wf Tryz.prog K 47 [.agg #[.int .u64 nx,.slice p n c]] g fun v h42=>∃b xs,v=.agg #[.int .u64 nx,.slice (some ⟨b,0,none⟩) n n]∧g.next≤b∧xs.map cor=rs.map cor∧(∀r∈xs,∀a,r.dp=some a→g.next≤a.block)∧Old g h42∧
  ∀h47,h47=h42.alloc (.cells [.int .u64 0,.slice none 0 0] 29 false)→∃h48,stN h47 h42.next 0 [.int .u64 nx,.slice (some ⟨b,0,none⟩) n n]=some h48∧Old h42 h48∧Bkc h g0 h48 nx p n c h42.next b nx n n xs:=by
 refine (zfm kk (T.old d.o) hn40 nx).mono ?_
 rintro _ g' ⟨⟨b,rs',rfl,w,hc,hnew⟩,o'⟩
 have l1:=d.lt
 have l2:=d.n0
 exact⟨b,rs',rfl,w.lo,hc,hnew,o',fun h47 e=>zxs (d.old o') (w.weak l1) (fun r hr a ha=>by have:=hnew r hr a ha; omega) (by rw[T.1.1]; exact (za5 hc).symm) e⟩
end
theorem zdb (i:Nat):zmG (some i)=(i:Int):=rfl
theorem zdc:zmG none= -1:=rfl
theorem zn2 {a:ByteArray} (h:zbf a):spl a=some (a,noB):=zaH (.inl ⟨h,rfl,rfl⟩)
theorem zbf.size {a:ByteArray} (h:zbf a):a.size≤9223372036854775806:=by have:=h.2.1; omega
noncomputable def snapA (nx:Int) (rs:List zaj) (o:Option (ByteArray×ByteArray)) (st:Int):Int×List zaj×Int:=match snapOf o with
 | none=>(nx,rs,141)
 | some (a,b)=>match lookN rs a noB with
   | none=>(nx,rs,172)
   | some i=>if 32≤rs.length then (nx,rs,175) else match lookOf rs o with
     | some _=>(nx,rs,171)
     | none=>match rs[i]? with
       | none=>(nx,rs,0)
       | some v=>if st < 1∨281474976710655 < st∨st≤flr rs v.id then (nx,rs,176) else (nx+1,rs.map (zcp nx v) ++ [zi1 nx v b st],0)
noncomputable def zaK (nx:Int) (rs:List zaj) (o o2:Option (ByteArray×ByteArray)):Int×List zaj×Int:=match snapOf o with
 | none=>(nx,rs,141)
 | some _=>match volOf o2 with
   | none=>(nx,rs,141)
   | some a=>match lookOf rs o with
     | none=>(nx,rs,172)
     | some i=>if 32≤rs.length then (nx,rs,175) else match lookOf rs o2 with
       | some _=>(nx,rs,171)
       | none=>match rs[i]? with
         | none=>(nx,rs,0)
         | some s=>(nx+1,rs ++ [zsk nx a s.id s.blocks s.root],0)
theorem zcB {rs:List zaj} {o:Option (ByteArray×ByteArray)} {i:Nat} (h:lookOf rs o=some i):∃r,rs[i]?= some r:=by
 unfold lookOf at h
 cases o with
 | none=>cases h
 | some q=>exact zk7 h
section
variable {K:Xs} {h:AH} {p:Option Addr} {n c:Nat} {rs:List zaj} {nx:Int}
theorem zrm (kk:ztk K) (T:zb0 h p n rs) (R:zam nx rs) (hn40:n≤1000) (hbn:0≤nx∧nx < 1000000000000000) (f:ByteArray) (hf:f.size≤9223372036854775806) (f2:ByteArray) (hf2:f2.size≤9223372036854775806):
 Wf Tryz.prog K 23 [.agg #[.int .u64 nx,.slice p n c],.string f,.string f2] h fun v h'=>zu7 (zaK nx rs (spl f) (spl f2)) v h'∧Old h h':=by
 refine zk1 kk.clone _ _ _ _ _ _ h _ fun g0 e0 g1 e1=>?_
 have d1:=HdB.of e0 e1
 have hn:=T.1.1
 have err:∀{g:AH} {e:Int},HdB h g0 g nx p n c→zaK nx rs (spl f) (spl f2)=(nx,rs,e)→∀i p' n' c' g',zb2 nx rs i p' n' g'→Old h g'→g.next≤g'.next→(∀y,y < g.next→y≠g0.next→g'.get y=g.get y)→zu7 (zaK nx rs (spl f) (spl f2)) (.tuple #[.agg #[.int .u64 i,.slice p' n' c'],.int .i64 e]) g'∧Old h g':=fun d e i p' n' c' g' br o _ _=>⟨⟨i,p',n',c',by rw[e],by rw[e]; exact br⟩,o⟩
 refine (ze4 kk.r f hf).mono ?_
 rintro _ g3 ⟨⟨a,b,ha,hs,hb,rfl⟩ | ⟨ha,rfl⟩,o3⟩
 ·have d3:=d1.old o3
  refine⟨_,_,_,rfl,fun _=>(zgl kk.r f2 hf2).mono ?_,fun z=>absurd rfl z⟩
  rintro _ g8 ⟨⟨a2,ha2,hs2,rfl⟩ | ⟨ha2,rfl⟩,o8⟩
  ·have d8:=d3.old o8
   refine⟨_,_,rfl,fun _=>⟨_,_,_,_,d8.ldN,(zcs kk.r (c:=c) (T.1.old d8.o) R f hf nx).mono ?_⟩,fun z=>absurd rfl z⟩
   rintro _ g16 ⟨rfl,o16⟩
   have d16:=d8.old o16
   cases hl:lookOf rs (spl f) with
   | none=>exact⟨_,rfl,fun _=>zhj kk.r d16 T hn40 (err d16 (by unfold zaK; rw[ha]; simp only; rw[ha2]; simp only; rw[hl])),fun z=>absurd (by rw[zdc]; decide) z⟩
   | some i=>
     obtain⟨v,hv⟩:=zcB hl
     obtain⟨hi,rfl⟩:=List.getElem?_eq_some_iff.1 hv
     rw[zdb]
     refine⟨_,rfl,fun z=>absurd z (by omega),fun _=>⟨_,_,_,d16.sl,fun q=>zhj kk.r d16 T hn40 (err d16 (by unfold zaK; rw[ha]; simp only; rw[ha2]; simp only; rw[hl]; simp only; rw[if_pos (by omega)])),fun q=>⟨_,_,_,_,d16.ldN,(zcs kk.r (c:=c) (T.1.old d16.o) R f2 hf2 nx).mono ?_⟩⟩⟩
     rintro _ g56 ⟨rfl,o56⟩
     have d56:=d16.old o56
     cases hl2:lookOf rs (spl f2) with
     | some j=>exact⟨_,rfl,fun _=>zhj kk.r d56 T hn40 (err d56 (by unfold zaK; rw[ha]; simp only; rw[ha2]; simp only; rw[hl]; simp only; rw[if_neg (by omega),hl2])),fun z=>absurd (by rw[zdb]; omega) z⟩
     | none=>
       have hcl:zaK nx rs (spl f) (spl f2)=(nx+1,rs ++ [zsk nx a2 rs[i].id rs[i].blocks rs[i].root],0):=by unfold zaK; rw[ha]; simp only; rw[ha2]; simp only; rw[hl]; simp only; rw[if_neg (by omega),hl2]; simp only; rw[hv]
       have hin:i < n:=by omega
       obtain⟨pb,off,rfl,hi',hld,hld1,ok⟩:=(T.1.old d56.o).at hin
       refine⟨_,rfl,fun z=>absurd z (by rw[zdc]; decide),fun _=>⟨_,_,_,d56.sl,zag ⟨by omega,by omega,_,_,_,_,d56.ldN,_,d56.nx,_,d56.nx,_,?_,_,?_,_,_,_,?_,zo2 kk.r d56 T hn40 hbn (r:=zsk nx a2 rs[i].id rs[i].blocks rs[i].root) (zlf _ hbn ok.id ok.root a2) (fun a ha=>by cases ha) fun i p' n' c' g' br o=>⟨⟨i,p',n',c',by rw[hcl],by rw[hcl]; exact br⟩,o⟩⟩⟩⟩
       ·rw[Int.toNat_natCast]; exact hld1 0 _ rfl
       ·rw[Int.toNat_natCast]; exact hld1 6 _ rfl
       ·rw[Int.toNat_natCast]; exact zja hld 7 3 (by omega)
  ·exact⟨_,_,rfl,fun z=>absurd z (by decide),fun _=>zhj kk.r (d3.old o8) T hn40 (err (d3.old o8) (by unfold zaK; rw[ha]; simp only; rw[ha2]))⟩
 ·exact⟨_,_,_,rfl,fun z=>absurd z (by decide),fun _=>zhj kk.r (d1.old o3) T hn40 (err (d1.old o3) (by unfold zaK; rw[ha]))⟩
theorem zrn (kk:ztk K) (T:zb0 h p n rs) (R:zam nx rs) (hn40:n≤1000) (hbn:0≤nx∧nx < 1000000000000000) (f:ByteArray) (hf:f.size≤9223372036854775806) (st:Int) (hst:(Lit.int .u64 st).wf=true):
 Wf Tryz.prog K 22 [.agg #[.int .u64 nx,.slice p n c],.string f,.int .u64 st] h fun v h'=>zu7 (snapA nx rs (spl f) st) v h'∧Old h h':=by
 refine zms kk.snap _ _ _ _ _ _ h _ fun g0 e0 g1 e1=>?_
 have d1:=HdB.of e0 e1
 have hn:=T.1.1
 have err:∀{g:AH} {e:Int},HdB h g0 g nx p n c→snapA nx rs (spl f) st=(nx,rs,e)→∀i p' n' c' g',zb2 nx rs i p' n' g'→Old h g'→g.next≤g'.next→(∀y,y < g.next→y≠g0.next→g'.get y=g.get y)→zu7 (snapA nx rs (spl f) st) (.tuple #[.agg #[.int .u64 i,.slice p' n' c'],.int .i64 e]) g'∧Old h g':=fun d e i p' n' c' g' br o _ _=>⟨⟨i,p',n',c',by rw[e],by rw[e]; exact br⟩,o⟩
 refine (ze4 kk.r f hf).mono ?_
 rintro _ g3 ⟨⟨a,b,ha,hs,hb,rfl⟩ | ⟨ha,rfl⟩,o3⟩
 ·have d3:=d1.old o3
  have na:zbf a:=by
   rcases hs with ⟨-, -,e⟩ | ⟨e, -, -⟩
   ·exact absurd e hb
   ·exact e
  refine⟨_,_,_,rfl,fun _=>⟨_,_,_,_,d3.ldN,(zcs kk.r (c:=c) (T.1.old d3.o) R a na.size nx).mono ?_⟩,fun z=>absurd rfl z⟩
  rintro _ g12 ⟨rfl,o12⟩
  have d12:=d3.old o12
  rw[zn2 na,show lookOf rs (some (a,noB))=lookN rs a noB from rfl]
  cases hl:lookN rs a noB with
  | none=>exact⟨_,rfl,fun _=>zhj kk.r d12 T hn40 (err d12 (by unfold snapA; rw[ha]; simp only; rw[hl])),fun z=>absurd (by rw[zdc]; decide) z⟩
  | some i=>
    obtain⟨v,hv⟩:=zk7 hl
    obtain⟨hi,rfl⟩:=List.getElem?_eq_some_iff.1 hv
    rw[zdb]
    refine⟨_,rfl,fun z=>absurd z (by omega),fun _=>⟨_,_,_,d12.sl,fun q=>zhj kk.r d12 T hn40 (err d12 (by unfold snapA; rw[ha]; simp only; rw[hl]; simp only; rw[if_pos (by omega)])),fun q=>⟨_,_,_,_,d12.ldN,(zcs kk.r (c:=c) (T.1.old d12.o) R f hf nx).mono ?_⟩⟩⟩
    rintro _ g52 ⟨rfl,o52⟩
    have d52:=d12.old o52
    cases hl2:lookOf rs (spl f) with
    | some j=>exact⟨_,rfl,fun _=>zhj kk.r d52 T hn40 (err d52 (by unfold snapA; rw[ha]; simp only; rw[hl]; simp only; rw[if_neg (by omega),hl2])),fun z=>absurd (by rw[zdb]; omega) z⟩
    | none=>
      have hin:i < n:=by omega
      have hsn:snapA nx rs (spl f) st=if st < 1∨281474976710655 < st∨st≤flr rs rs[i].id then (nx,rs,176) else (nx+1,rs.map (zcp nx rs[i]) ++ [zi1 nx rs[i] b st],0):=by
       unfold snapA; rw[ha]; simp only; rw[hl]; simp only; rw[if_neg (by omega),hl2]; simp only; rw[hv]
      obtain⟨pb,off,rfl,hi',hld,hld1,ok⟩:=(T.1.old d52.o).at hin
      refine⟨_,rfl,fun z=>absurd z (by rw[zdc]; decide),fun _=>⟨_,_,_,d52.sl,zag ⟨by omega,by omega,_,by rw[Int.toNat_natCast]; exact hld1 0 _ rfl,fun q1=>zhj kk.r d52 T hn40 (err d52 (by rw[hsn,if_pos (.inl q1)])),fun q1=>⟨fun q2=>zhj kk.r d52 T hn40 (err d52 (by rw[hsn,if_pos (.inr (.inl q2))])),fun q2=>⟨_,_,_,d52.sl,(zmw kk.floor kk.fplace (T.1.old d52.o) rs[i].id).mono ?_⟩⟩⟩⟩⟩
      rintro _ g109 ⟨rfl,rfl⟩
      refine⟨_,rfl,fun q3=>zhj kk.r d52 T hn40 (err d52 (by rw[hsn,if_pos (.inr (.inr q3))])),fun q3=>⟨_,_,_,d52.sl,zag ⟨by omega,by omega,_,_,_,_,_,_,_,_,_,_,_,_,_,by rw[Int.toNat_natCast]; exact hld,(zfj kk.r.named0.copy ok).mono ?_⟩⟩⟩
      rw[if_neg (by omega)] at hsn
      rintro _ g145 ⟨p',c',rfl,ok',G',o145⟩
      refine⟨_,_,_,_,_,_,_,_,_,_,_,_,_,rfl,fun g159 e159=>?_⟩
      obtain⟨g160,k160,n160,o160,v160⟩:=zap e159 (vs:=setC { rs[i] with dp:=p',dc:=c' }) rfl
      have w160:=(v160 [] (fun c hc=>by cases hc)).1
      have d145:=d52.old o145
      have d160:=d145.old o160
      have l145:=d145.lt
      have l52:=d52.lt
      have l0:=d52.n0
      have m145:=o145.1
      obtain⟨g162,k162,nr162,w162⟩:=zmI (v:=.int .u64 nx) w160 (i:=0) (by simp[setC])
      obtain⟨g163,k163,nr163,w163⟩:=zmI (v:=.string b) w162 (i:=1) (by simp[setC])
      obtain⟨g164,k164,nr164,w164⟩:=zmI (v:=.bool true) w163 (i:=2) (by simp[setC])
      obtain⟨g165,k165,nr165,w165⟩:=zmI (v:=.int .u64 rs[i].id) w164 (i:=3) (by simp[setC])
      obtain⟨g166,k166,nr166,w166⟩:=zmI (v:=.int .u64 st) w165 (i:=5) (by simp[setC])
      have nr:=(((nr162.trans nr163).trans nr164).trans nr165).trans nr166
      have d166:=d160.near nr (by omega)
      generalize hrn:({ rs[i] with id:=nx,name:=b,snap:=true,own:=rs[i].id,prev:=rs[i].prev,stamp:=st,dp:=p',dc:=c' }:zaj)=rn at *
      have w166:g166.get g145.next=some (.cells (setC rn) 81 false):=by rw[←hrn]; exact w166
      have hrn2:cor rn=cor (zi1 nx rs[i] b st):=by rw[←hrn]; rfl
      have hp' : ∀a,p'= some a→g52.next≤a.block∧a.block < g145.next:=fun a ha=>G'.block ha
      have rdp:rn.dp=p':=by rw[←hrn]
      have okn:zbh g166 rn:=by
       have ok1:zbh g145 { rs[i] with dp:=p',dc:=c' }:=⟨ok',G'.cutQ (by have:=ok.room; have:reachBytes=140737488351232:=rfl; simp only[zar]; omega),fun a ha=>(hp' a ha).2⟩
       have ok2:=(ok1.old o160).kept (g':=g166) (by rw[nr.1]; exact Nat.le_refl _) fun a ha=>nr.2 _ (by have:=(hp' a ha).2; omega)
       rw[←hrn]
       exact ok2.mk' b true (zlg hbn) ok.id ok.prev hst
      refine⟨rfl,g160,k160,_,d160.nx,g162,k162,g163,k163,g164,k164,g165,k165,g166,k166,_,_,_,_,d166.ldN,_,_,_,_,_,_,_,_,_,_,_,_,_,zah w166 rfl,(zmH kk.r (T.old d166.o) hn40 nx hbn okn).mono ?_⟩
      rintro _ g185 ⟨⟨b0,c0,rs',rfl,w,hc,hnew⟩,o185⟩
      have d185:=d166.old o185
      have l166:=d166.lt
      have lw:=w.lo
      have hl' : rs'.length=n:=by rw[hn]; exact za5 hc
      have n166:=nr.1
      refine⟨_,_,_,_,rfl,fun g190 e190=>?_⟩
      obtain⟨g191,k191,o191,u⟩:=zxs (nx':=nx+1) (m:=n+1) (c':=c0) d185 (w.weak (by omega)) (fun x hx a ha=>(by
       rcases za1.1 hx with hx | rfl
       ·have:=hnew x hx a ha
        omega
       ·rw[rdp] at ha
        have:=(hp' a ha).1
        omega)) (by simp[hl']) e190
      have hw166:g191.get g145.next=some (.cells (setC rn) 81 false):=(o191.2 _ (by have:=o185.1; omega)).trans ((o185.2 _ (by omega)).trans w166)
      refine⟨rfl,g191,k191,_,_,_,u.sl,_,zae hw166 (by rw[←hrn]; rfl),zag ⟨by omega,by omega,?_⟩⟩
      have hix:i < (rs' ++ [rn]).length:=by simp; omega
      have hx0:(rs' ++ [rn])[i]=rs'[i]'(by omega):=List.getElem_append_left _
      generalize hxs:rs' ++ [rn]=xs at *
      have hxm:=List.getElem_mem hix
      obtain⟨g198,k198,nr198,u198⟩:=u.st1 (i:=i) (k:=4) (v:=.int .u64 nx) (r':={ xs[i] with prev:=nx }) hix (by omega) rfl ((u.own.recs _ hxm).1.prev (zlg hbn)) fun a ha=>⟨(u.own.recs _ hxm).2 a ha,u.far _ hxm a ha⟩
      have hix2:i < (xs.set i { xs[i] with prev:=nx }).length:=by simpa using hix
      have hge:(xs.set i { xs[i] with prev:=nx })[i]'hix2={ xs[i] with prev:=nx }:=List.getElem_set_self ..
      have hxm2:=List.getElem_mem hix2
      have rk:=(u198.own.recs _ hxm2).1.none
      rw[hge] at rk
      obtain⟨g204,k204,nr204,u204⟩:=u198.st1 (i:=i) (k:=10) (v:=.slice none 0 0) (r':={ xs[i] with prev:=nx,dp:=none,dn:=0,dc:=0,dead:=[] }) hix2 (by omega) (by rw[hge]; rfl) rk fun a ha=>by cases ha
      refine⟨g198,k198,_,_,_,u198.sl,zag ⟨by omega,by omega,?_⟩⟩
      refine⟨g204,k204,u.sl,u198.sl,u204.ret (by omega) (R:=rs.map (zcp nx rs[i]) ++ [zi1 nx rs[i] b st]) ?_ fun g' br o nr=>⟨⟨_,_,_,_,by rw[hsn],by rw[hsn]; exact br⟩,o⟩⟩
      rw[List.set_set,hx0,←hxs,List.set_append_left _ _ (by omega),List.map_append,List.map_append]
      congr 1
      ·refine zn1 R hc hv (fun r hr hne=>zcO hne) ?_
       rw[zcq]
       obtain⟨y,hy,hcy⟩:=zcA hc (List.getElem?_eq_getElem (show i < rs'.length by omega))
       rw[hv] at hy
       cases hy
       have q:=zaL hcy
       exact zfR ⟨q.1,q.2.1,q.2.2.1,q.2.2.2.1,rfl,q.2.2.2.2.2.1,q.2.2.2.2.2.2.1,q.2.2.2.2.2.2.2.1,rfl,rfl⟩
      ·simp[hrn2]
 ·exact⟨_,_,_,rfl,fun z=>absurd z (by decide),fun _=>zhj kk.r (d1.old o3) T hn40 (err (d1.old o3) (by unfold snapA; rw[ha]))⟩
end
def zwr (o:Int×List zaj×zaj×Int) (v:Value) (g:AH):Prop:=∃i p' n' c' s,v=.tuple #[.agg #[.int .u64 i,.slice p' n' c'],.agg (setC s).toArray,.int .i64 o.2.2.2]∧zb2 o.1 o.2.1 i p' n' g∧zbC g s∧cor s=cor o.2.2.1
def zdU (v:zaj) (q:PtI) (r:zaj):zaj:=if r.id=v.id then { zoV r with root:=q } else r
theorem zfn (v:zaj) (q:PtI):zdU v q v={ zoV v with root:=q }:=if_pos rfl
theorem zlh {v r:zaj} (h:r.id≠v.id) (q:PtI):zdU v q r=r:=if_neg h
noncomputable def zaW (nx:Int) (rs:List zaj) (o:Option (ByteArray×ByteArray)):Int×List zaj×zaj×Int:=match volOf o with
 | none=>(nx,rs,zaq,141)
 | some _=>match lookOf rs o with
   | none=>(nx,rs,zaq,172)
   | some i=>match rs[i]? with
     | none=>(nx,rs,zaq,0)
     | some v=>match plcN rs v.prev with
       | none=>(nx,rs,zaq,174)
       | some j=>match rs[j]? with
         | none=>(nx,rs,zaq,0)
         | some x=>(nx,rs.map (zdU v x.root),v,0)
theorem zgm (rs:List zaj) (o:Option (ByteArray×ByteArray)):(volOf o=none∧ze5 rs o=(-1,141))∨((∃a,volOf o=some a)∧lookOf rs o=none∧ze5 rs o=(-1,172))∨∃a i v,volOf o=some a∧lookOf rs o=some i∧rs[i]?= some v∧ze5 rs o=((i:Int),0):=by
 unfold ze5
 cases hv:volOf o with
 | none=>exact .inl ⟨rfl,rfl⟩
 | some a=>
   refine .inr ?_
   cases hl:lookOf rs o with
   | none=>exact .inl ⟨⟨a,rfl⟩,rfl,rfl⟩
   | some i=>
     obtain⟨v,hr⟩:=zcB hl
     exact .inr ⟨a,i,v,rfl,rfl,hr,rfl⟩
structure zui (K:Xs):Prop where
 a:ztk K
 back:K 63=none
 find:K 50=none
section
variable {K:Xs} {h:AH} {p:Option Addr} {n c:Nat} {rs:List zaj} {nx:Int}
theorem zxt {g0 g:AH} (kk:zhh K) (d:HdB h g0 g nx p n c) (T:zb0 h p n rs) (hn40:n≤1000) {l:Nat} (l1:h.next+2≤l) (l2:l < g.next) (c2:g.get l=some (.cells (setC zaq) 81 false)) {C:Int→Option Addr→Nat→Nat→AH→Prop} (HC:∀i p' n' c' g',zb2 nx rs i p' n' g'→Old h g'→g'.get l=some (.cells (setC zaq) 81 false)→C i p' n' c' g'):
 ∃i7:Int,∃(p8:Option Addr) (n9 c10:Nat),ldN g h.next 0 2=some [.int .u64 i7,.slice p8 n9 c10]∧
 (Wf Tryz.prog K 47 [.agg #[.int .u64 i7,.slice p8 n9 c10]] g fun r11 h12=>
   ∃i13:Int,∃(p14:Option Addr) (n15 c16:Nat),r11=.agg #[.int .u64 i13,.slice p14 n15 c16]∧(List.length [Value.int .u64 i13,.slice p14 n15 c16]=2)∧
    ∃h17:AH,stN h12 g0.next 0 [.int .u64 i13,.slice p14 n15 c16]=some h17∧
    (List.length [(Value.int .u64 0),(.string (ByteArray.mk #[])),(.bool false),(.int .u64 0),(.int .u64 0),(.int .u64 0),(.int .i64 0),(.int .i64 0),(.int .u64 0),(.int .u32 0),(.slice none 0 0)]=11)∧
    ∃h18:AH,stN h17 l 0 [(.int .u64 0),(.string (ByteArray.mk #[])),(.bool false),(.int .u64 0),(.int .u64 0),(.int .u64 0),(.int .i64 0),(.int .i64 0),(.int .u64 0),(.int .u32 0),(.slice none 0 0)]=some h18∧
    ∃i18:Int,∃(p19:Option Addr) (n20 c21:Nat),ldN h18 g0.next 0 2=some [.int .u64 i18,.slice p19 n20 c21]∧C i18 p19 n20 c21 h18):=by
 refine⟨_,_,_,_,d.ldN,(zfm kk (T.old d.o) hn40 nx).mono ?_⟩
 rintro _ g' ⟨⟨b,rs',rfl,w,hc,hnew⟩,o'⟩
 have d':=d.old o'
 have m1:=d.lt
 have m2:=d.n0
 have m3:=o'.1
 have m4:=w.lo
 have hl:rs'.length=n:=by rw[T.1.1]; exact za5 hc
 have s1:=zak g0.next g' (.cells [.int .u64 nx,.slice (some ⟨b,0,none⟩) n n] 29 false)
 have cl:(g'.set g0.next (.cells [.int .u64 nx,.slice (some ⟨b,0,none⟩) n n] 29 false)).get l=some (.cells (setC zaq) 81 false):=(s1.2 _ (by omega)).trans ((o'.2 _ l2).trans c2)
 have s2:=zak l (g'.set g0.next (.cells [.int .u64 nx,.slice (some ⟨b,0,none⟩) n n] 29 false)) (.cells (setC zaq) 81 false)
 have w1:=w.temp (x:=g0.next) (by omega) (fun r hr a ha=>by have:=hnew r hr a ha; omega) s1
 have w2:=w1.temp (x:=l) (by omega) (fun r hr a ha=>by have:=hnew r hr a ha; omega) s2
 refine⟨_,_,_,_,rfl,rfl,_,zat d'.c1 rfl,rfl,_,zat cl rfl,_,_,_,_,zah ((s2.2 _ (by omega)).trans (zad _ _ _)) rfl,HC _ _ _ _ _ (w2.bookR hl.symm (by omega) hc) (zao (zao d'.o s1 (by omega)) s2 (by omega)) (zad _ _ _)⟩
theorem ztl (kk:zui K) (T:zb0 h p n rs) (R:zam nx rs) (hn40:n≤1000) (f:ByteArray) (hf:f.size≤9223372036854775806):
 Wf Tryz.prog K 63 [.agg #[.int .u64 nx,.slice p n c],.string f] h fun v h'=>zwr (zaW nx rs (spl f)) v h'∧Old h h':=by
 refine zmt kk.back _ _ _ _ _ h _ fun g0 e0 g1 e1 g2 e2=>?_
 have o2:=zab e2
 have n2:=zaa e2
 have n1:=zaa e1
 have n0:=zaa e0
 have d2:=(HdB.of e0 e1).old o2
 have hn:=T.1.1
 have c2:∀{g:AH},Old g2 g→g.get g1.next=some (.cells (setC zaq) 81 false):=fun o=>(o.2 _ (by omega)).trans (zaf e2)
 have err:∀{e:Int},zaW nx rs (spl f)=(nx,rs,zaq,e)→∀i p' n' c' g',zb2 nx rs i p' n' g'→Old h g'→g'.get g1.next=some (.cells (setC zaq) 81 false)→
  ∃i41:Int,∃s42:ByteArray,∃b43:Bool,∃i44:Int,∃i45:Int,∃i46:Int,∃i47:Int,∃i48:Int,∃i49:Int,∃i50:Int,∃(p51:Option Addr) (n52 c53:Nat),ldN g' g1.next 0 11=some [.int .u64 i41,.string s42,.bool b43,.int .u64 i44,.int .u64 i45,.int .u64 i46,.int .i64 i47,.int .i64 i48,.int .u64 i49,.int .u32 i50,.slice p51 n52 c53]∧
   (zwr (zaW nx rs (spl f)) (.tuple #[.agg #[.int .u64 i,.slice p' n' c'],.agg #[.int .u64 i41,.string s42,.bool b43,.int .u64 i44,.int .u64 i45,.int .u64 i46,.int .i64 i47,.int .i64 i48,.int .u64 i49,.int .u32 i50,.slice p51 n52 c53],.int .i64 e]) g'∧Old h g'):=fun e i p' n' c' g' br o cz=>
  ⟨_,_,_,_,_,_,_,_,_,_,_,_,_,zah cz rfl,⟨i,p',n',c',zaq,by rw[e]; rfl,by rw[e]; exact br,zef _,by rw[e]⟩,o⟩
 have errB:∀{g:AH} {e:Int},Old g2 g→zaW nx rs (spl f)=(nx,rs,zaq,e)→_:=fun {g} {e} og q=>zxt kk.a.r (d2.old og) T hn40 (l:=g1.next) (by omega) (by have:=og.1; omega) (c2 og) (err q)
 refine⟨_,_,_,_,d2.ldN,(zi9 kk.a.r (c:=c) (T.1.old d2.o) R f hf nx).mono ?_⟩
 rintro _ g8 ⟨rfl,o8⟩
 have d8:=d2.old o8
 rcases zgm rs (spl f) with ⟨hv,e⟩ | ⟨⟨a,hv⟩,hl,e⟩ | ⟨a,i,v,hv,hl,hr,e⟩
 ·rw[e]
  exact⟨_,_,rfl,fun z=>absurd z (by decide),fun _=>errB o8 (by unfold zaW; rw[hv])⟩
 ·rw[e]
  exact⟨_,_,rfl,fun z=>absurd z (by decide),fun _=>errB o8 (by unfold zaW; rw[hv]; simp only; rw[hl])⟩
 ·rw[e]
  obtain⟨hi,rfl⟩:=List.getElem?_eq_some_iff.1 hr
  have hin:i < n:=by omega
  have T8:=T.1.old d8.o
  obtain⟨pb,off,rfl,hi',hld,hld1,ok⟩:=T8.at hin
  refine⟨_,_,rfl,fun _=>⟨_,_,_,d8.sl,_,_,_,d8.sl,zag ⟨by omega,by omega,_,by rw[Int.toNat_natCast]; exact hld1 4 _ rfl,(zk6 kk.find kk.a.fplace kk.a.r.named0.copy T8 rs[i].prev).mono ?_⟩⟩,fun z=>absurd rfl z⟩
  rintro _ g21 ⟨⟨j,x,px,cx,hj,hjx,rfl,okx⟩ | ⟨hj,rfl⟩,o21⟩
  ·have d21:=d8.old o21
   have hb:zaW nx rs (spl f)=(nx,rs.map (zdU rs[i] x.root),rs[i],0):=by unfold zaW; rw[hv]; simp only; rw[hl]; simp only; rw[hr]; simp only; rw[hj]; simp only; rw[hjx]
   refine⟨_,_,_,_,_,_,_,_,_,_,_,_,_,.inl ⟨rfl,fun g35 e35=>?_⟩⟩
   obtain⟨g36,k36,n36,o36,v36⟩:=zap e35 (vs:=setC { x with dp:=px,dc:=cx }) rfl
   have w36:=(v36 [] (fun c hc=>by cases hc)).1
   have d36:=d21.old o36
   refine⟨rfl,g36,k36,_,_,_,_,d36.ldN,(zgM kk.a.r d36 T hn40).mono ?_⟩
   rintro _ g42 ⟨b,xs,rfl,hbl,hc,hnew,o42,F⟩
   refine⟨_,_,_,_,rfl,fun g47 e47=>?_⟩
   obtain⟨g48,k48,o48,u⟩:=F g47 e47
   have o3648:=o42.trans o48
   have hw48:g48.get g21.next=some (.cells (setC { x with dp:=px,dc:=cx }) 81 false):=(o3648.2 _ (by omega)).trans w36
   have hix:i < xs.length:=by rw[za5 hc]; exact hi
   have hxm:=List.getElem_mem hix
   refine⟨rfl,g48,k48,_,_,_,u.sl,_,_,_,zja (zah hw48 rfl:ldN g48 g21.next 0 11=_) 7 3 (by omega),zag ⟨by omega,by omega,?_⟩⟩
   obtain⟨g57,k57,nr57,u57⟩:=u.stN (i:=i) (k:=7) (vs:=[.int .i64 x.root.1,.int .u64 x.root.2.1,.int .u32 x.root.2.2]) (r':={ xs[i] with root:=x.root }) hix (by simp) rfl ((u.own.recs _ hxm).1.root okx.root) fun a ha=>⟨(u.own.recs _ hxm).2 a ha,u.far _ hxm a ha⟩
   have hix2:i < (xs.set i { xs[i] with root:=x.root }).length:=by simpa using hix
   have hge:(xs.set i { xs[i] with root:=x.root })[i]'hix2={ xs[i] with root:=x.root }:=List.getElem_set_self ..
   have hxm2:=List.getElem_mem hix2
   have rk:=(u57.own.recs _ hxm2).1.none
   rw[hge] at rk
   obtain⟨g63,k63,nr63,u63⟩:=u57.st1 (i:=i) (k:=10) (v:=.slice none 0 0) (r':={ xs[i] with root:=x.root,dp:=none,dn:=0,dc:=0,dead:=[] }) hix2 (by omega) (by rw[hge]; rfl) rk fun a ha=>by cases ha
   have T63:=T.1.old u63.hd.o
   obtain⟨pb',off',ep,hi'',hld', -,ok63⟩:=T63.at hin
   obtain⟨rfl,rfl⟩:pb=pb'∧off=off':=by injection ep with ep; injection ep with ep1 ep2; exact⟨ep1,ep2⟩
   refine⟨rfl,g57,k57,_,_,_,u57.sl,zag ⟨by omega,by omega,g63,k63,u.sl,u57.sl,_,_,_,u63.hd.sl,zag ⟨by omega,by omega,_,_,_,_,_,_,_,_,_,_,_,_,_,by rw[Int.toNat_natCast]; exact hld',(zfj kk.a.r.named0.copy ok63).mono ?_⟩⟩⟩
   rintro _ g83 ⟨p',c',rfl,ok83,G',o83⟩
   have u83:=u63.old o83
   have hp' : ∀a,p'= some a→g63.next≤a.block∧a.block < g83.next:=fun a ha=>G'.block ha
   have m0:=d36.lt
   have m1:=d36.n0
   have hb':=u83.own.lo
   have mm:=o36.1
   have mm2:=o21.1
   have mm3:=o8.1
   have m63:=u63.hd.lt
   have nf:g63.next=g48.next:=nr63.1.trans nr57.1
   have m48:=o3648.1
   have far1:∀r∈(xs.set i { xs[i] with root:=x.root }).set i { xs[i] with root:=x.root,dp:=none,dn:=0,dc:=0,dead:=[] },∀a,r.dp=some a→g36.next≤a.block:=fun r hr a ha=>by
    rw[List.set_set] at hr
    rcases List.mem_or_eq_of_mem_set hr with hr | rfl
    ·exact hnew r hr a ha
    ·cases ha
   have s1:=zak g0.next g83 (.cells [.int .u64 nx,.slice (some ⟨b,0,none⟩) n n] 29 false)
   have cl:(g83.set g0.next (.cells [.int .u64 nx,.slice (some ⟨b,0,none⟩) n n] 29 false)).get g1.next=some (.cells (setC zaq) 81 false):=by
    rw[s1.2 _ (by omega),o83.2 _ (by omega),nr63.2 _ (by omega),nr57.2 _ (by omega)]
    exact c2 ((((o8.trans o21).trans o36).trans o42).trans o48)
   have s2:=zak g1.next (g83.set g0.next (.cells [.int .u64 nx,.slice (some ⟨b,0,none⟩) n n] 29 false)) (.cells (setC { rs[i] with dp:=p',dc:=c' }) 81 false)
   have w1:=u83.own.temp (x:=g0.next) (by omega) (fun r hr a ha=>by have:=far1 r hr a ha; omega) s1
   have w2:=w1.temp (x:=g1.next) (by omega) (fun r hr a ha=>by have:=far1 r hr a ha; omega) s2
   have ok84:=(ok83.keep (by rw[s1.1]; exact Nat.le_refl _) fun a ha=>s1.2 _ (by have:=(hp' a ha).1; omega))
   have ok85:=(ok84.keep (by rw[s2.1]; exact Nat.le_refl _) fun a ha=>s2.2 _ (by have:=(hp' a ha).1; omega))
   have hcx:((xs.set i { xs[i] with root:=x.root }).set i { xs[i] with root:=x.root,dp:=none,dn:=0,dc:=0,dead:=[] }).map cor=(rs.map (zdU rs[i] x.root)).map cor:=by
    rw[List.set_set]
    refine zn1 R hc hr (fun r _ hne=>zlh hne _) ?_
    rw[zfn]
    obtain⟨y,hy,hcy⟩:=zcA hc (List.getElem?_eq_getElem hix)
    rw[hr] at hy
    cases hy
    have q:=zaL hcy
    exact zfR ⟨q.1,q.2.1,q.2.2.1,q.2.2.2.1,q.2.2.2.2.1,q.2.2.2.2.2.1,q.2.2.2.2.2.2.1,rfl,rfl,rfl⟩
   exact⟨_,_,_,_,_,_,_,_,_,_,_,_,_,rfl,_,_,_,_,zah u83.loc rfl,rfl,_,zat u83.hd.c1 rfl,rfl,_,zat cl rfl,zah u63.loc rfl,zah u83.loc rfl,_,_,_,_,zah ((s2.2 _ (by omega)).trans (zad _ _ _)) rfl,_,_,_,_,_,_,_,_,_,_,_,_,_,zah (zad _ _ _) rfl,⟨_,_,_,_,{ rs[i] with dp:=p',dc:=c' },by rw[hb]; rfl,by rw[hb]; exact w2.bookR (R:=rs.map (zdU rs[i] x.root)) u83.ml (by omega) hcx,ok85,by rw[hb]; rfl⟩,zao (zao u83.hd.o s1 (by omega)) s2 (by omega)⟩
  ·have d21:=d8.old o21
   refine⟨_,_,_,_,_,_,_,_,_,_,_,_,_,.inr ⟨rfl,fun g35 e35=>?_⟩⟩
   obtain⟨g36,k36,n36,o36,v36⟩:=zap e35 (vs:=setC zaq) rfl
   exact⟨rfl,g36,k36,errB ((o8.trans o21).trans o36) (by unfold zaW; rw[hv]; simp only; rw[hl]; simp only; rw[hr]; simp only; rw[hj])⟩
end
end Go.Am
