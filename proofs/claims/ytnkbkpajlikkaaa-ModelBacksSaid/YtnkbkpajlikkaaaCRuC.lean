/-
  BOOKS: a volume more, a snapshot more, a clone more.
-/
import Derived.Test.YtnkbkpajlikkaaaCRuB
set_option linter.unusedVariables false
set_option linter.unusedSimpArgs false
set_option maxRecDepth 100000
namespace Go.Am
open Go.Proofs
def BookR (nx:Int) (R:List SetR) (i:Int) (p:Option Addr) (n:Nat) (g:AH):Prop:=i=nx∧∃rs',BookOk g p n rs'∧rs'.map cor=R.map cor
theorem BookR.old {nx:Int} {R:List SetR} {i:Int} {p:Option Addr} {n:Nat} {g g' : AH} (q:BookR nx R i p n g) (o:Old g g'):BookR nx R i p n g':=by
 obtain⟨e,rs',h1,h2⟩:=q
 exact⟨e,rs',h1.old o,h2⟩
structure HdB (h g0 g:AH) (bn:Int) (p:Option Addr) (n c:Nat):Prop where
 o:Old h g
 n0:g0.next=h.next+1
 lt:h.next+2≤g.next
 c0:g.get h.next=some (.cells [.int .u64 bn,.slice p n c] 49 false)
 c1:g.get g0.next=some (.cells [.int .u64 0,.slice none 0 0] 49 false)
section
variable {h g0 g:AH} {bn:Int} {p:Option Addr} {n c:Nat}
theorem HdB.old {g' : AH} (d:HdB h g0 g bn p n c) (o:Old g g'):HdB h g0 g' bn p n c:=by
 have:=d.n0
 have:=d.lt
 exact⟨d.o.trans o,d.n0,Nat.le_trans d.lt o.1,(o.2 _ (by omega)).trans d.c0,(o.2 _ (by omega)).trans d.c1⟩
theorem HdB.of {g1:AH} (e0:g0=h.alloc (.cells [.int .u64 bn,.slice p n c] 49 false)) (e1:g1=g0.alloc (.cells [.int .u64 0,.slice none 0 0] 49 false)):HdB h g0 g1 bn p n c:=by
 have o0:=old_of_alloc e0
 have o1:=old_of_alloc e1
 have n0:=next_of_alloc e0
 have n1:=next_of_alloc e1
 exact⟨o0.trans o1,n0,by omega,(o1.2 _ (by omega)).trans (get_of_alloc e0),get_of_alloc e1⟩
theorem HdB.ldN (d:HdB h g0 g bn p n c):ldN g h.next 0 2=some [.int .u64 bn,.slice p n c]:=ldN_all d.c0 rfl
theorem HdB.nx (d:HdB h g0 g bn p n c):ld1 g h.next 0=some (.int .u64 bn):=ld1_at d.c0 rfl
theorem HdB.sl (d:HdB h g0 g bn p n c):ld1 g h.next 1=some (.slice p n c):=ld1_at d.c0 rfl
theorem near_old {x:Nat} {h g g' : AH} (o:Old h g) (nr:Near x g g') (hx:h.next≤x):Old h g':=⟨by rw[nr.1]; exact o.1,fun y hy=>(nr.2 y (by omega)).trans (o.2 y hy)⟩
theorem retK (hl:g0.next < g.next) {cs:List Value} {t:TypeId} (c1:g.get g0.next=some (.cells cs t false)) (hc:cs.length=2) {i:Int} {p' : Option Addr} {n' c' : Nat} {C:Int→Option Addr→Nat→Nat→AH→Prop} (HC:∀g',Near g0.next g g'→C i p' n' c' g'):
 ∃h17:AH,stN g g0.next 0 [.int .u64 i,.slice p' n' c']=some h17∧∃i18:Int,∃(p19:Option Addr) (n20 c21:Nat),Am.ldN h17 g0.next 0 2=some [.int .u64 i18,.slice p19 n20 c21]∧C i18 p19 n20 c21 h17:=
 ⟨_,stN_all c1 (by simp[hc]),_,_,_,_,ldN_all (get_set_self _ _ _) rfl,HC _ (near_set _ _ _)⟩
theorem OwnB.temp {lim b x:Nat} {g g' : AH} {xs:List SetR} (w:OwnB lim g b xs) (hx:x≠b) (hf:∀r∈xs,∀a,r.dp=some a→a.block≠x) (nr:Near x g g'):OwnB lim g' b xs:=
 ⟨w.lo,by rw[nr.1]; exact w.hi,(nr.2 b (Ne.symm hx)).trans w.get,fun r hr=>⟨(w.recs r hr).1.kept (by rw[nr.1]; exact Nat.le_refl _) fun a ha=>nr.2 _ (hf r hr a ha),(w.recs r hr).2⟩⟩
end
section
variable {K:Xs} {h g0 g:AH} {p:Option Addr} {n c:Nat} {rs:List SetR} {nx:Int}
theorem errK (kk:KRule K) (d:HdB h g0 g nx p n c) (T:BookOk h p n rs) (hn40:n≤1000) {C:Int→Option Addr→Nat→Nat→AH→Prop} (HC:∀i p' n' c' g',BookR nx rs i p' n' g'→Old h g'→g.next≤g'.next→(∀y,y < g.next→y≠g0.next→g'.get y=g.get y)→C i p' n' c' g'):
 ∃i7:Int,∃(p8:Option Addr) (n9 c10:Nat),ldN g h.next 0 2=some [.int .u64 i7,.slice p8 n9 c10]∧
 (Wf Try.prog K 35 [.agg #[.int .u64 i7,.slice p8 n9 c10]] g fun r11 h12=>
   ∃i13:Int,∃(p14:Option Addr) (n15 c16:Nat),r11=.agg #[.int .u64 i13,.slice p14 n15 c16]∧(List.length [Value.int .u64 i13,.slice p14 n15 c16]=2)∧
    ∃h17:AH,stN h12 g0.next 0 [.int .u64 i13,.slice p14 n15 c16]=some h17∧∃i18:Int,∃(p19:Option Addr) (n20 c21:Nat),ldN h17 g0.next 0 2=some [.int .u64 i18,.slice p19 n20 c21]∧C i18 p19 n20 c21 h17):=by
 refine⟨_,_,_,_,d.ldN,(copiedSpec kk (T.old d.o) hn40 nx).mono ?_⟩
 rintro _ g' ⟨⟨b,rs',rfl,w,hc,hnew⟩,o'⟩
 have d':=d.old o'
 have l1:=d.lt
 have l2:=d.n0
 have l3:=o'.1
 have l4:=w.lo
 have hl:rs'.length=n:=by rw[T.1.1]; exact cor_len hc
 refine⟨_,_,_,_,rfl,rfl,retK (by omega) d'.c1 rfl fun g'' nr=>?_⟩
 refine HC _ _ _ _ _ ⟨rfl,rs',?_,hc⟩ (near_old d'.o nr (by omega)) (by rw[nr.1]; exact l3) fun y hy hne=>(nr.2 y hne).trans (o'.2 y hy)
 rw[←hl]
 exact (w.temp (by omega) (fun r hr a ha=>by have:=hnew r hr a ha; omega) nr).book (by omega)
def ResQ (o:Int×List SetR×Int) (v:Value) (g:AH):Prop:=∃i p' n' c',v=.tuple #[.agg #[.int .u64 i,.slice p' n' c'],.int .i64 o.2.2]∧BookR o.1 o.2.1 i p' n' g
noncomputable def createF (nx:Int) (rs:List SetR) (o:Option (ByteArray×ByteArray)) (k:Int):Int×List SetR×Int:=match volOf o with
 | none=>(nx,rs,141)
 | some a=>if k < 1∨64 < k then (nx,rs,176) else if 32≤rs.length then (nx,rs,175) else match lookOf rs o with
   | some _=>(nx,rs,171)
   | none=>(nx+1,rs ++ [volR nx a 0 k (0,0,0)],0)
theorem volR_ok (h:AH) {n pr bl:Int} (hn:0≤n∧n < 1000000000000000) (hp:(Lit.int .u64 pr).wf=true) {root:PtI} (hr:PtrWfI root) (nm:ByteArray):RecOk h (volR n nm pr bl root):=by
 have e:(Lit.int .u64 n).wf=true:=by
  simp[Lit.wf,IntKind.min,IntKind.max,IntKind.signed,IntKind.bits]
  omega
 have z:=zeroSet h
 exact⟨⟨e,e,hp,z.stamp,hr,z.dead,z.form,z.room,z.len,z.shows⟩,.inl ⟨rfl,rfl,by show (0:Nat) < openCap; simp[openCap]⟩,fun a ha=>by cases ha⟩
structure KActs (K:Xs):Prop where
 r:KRule K
 create:K 18=none
 snap:K 23=none
 clone:K 24=none
 floor:K 43=none
 fplace:K 31=none
theorem addedRet (kk:KRule K) (d:HdB h g0 g nx p n c) (T:BookOk h p n rs) (hn40:n≤1000) (hbn:0≤nx∧nx < 1000000000000000) {r:SetR} (ok:RecOk g r) (hr:∀a,r.dp=some a→a.block≠g0.next) {C:Int→Option Addr→Nat→Nat→AH→Prop} (HC:∀i p' n' c' g',BookR (nx+1) (rs ++ [r]) i p' n' g'→Old h g'→C i p' n' c' g'):
 Wf Try.prog K 37 [.agg #[.int .u64 nx,.slice p n c],.agg (setC r).toArray] g fun r11 h12=>
  ∃i13:Int,∃(p14:Option Addr) (n15 c16:Nat),r11=.agg #[.int .u64 i13,.slice p14 n15 c16]∧(List.length [Value.int .u64 i13,.slice p14 n15 c16]=2)∧
   ∃h17:AH,stN h12 g0.next 0 [.int .u64 i13,.slice p14 n15 c16]=some h17∧∃i18:Int,∃(p19:Option Addr) (n20 c21:Nat),ldN h17 g0.next 0 2=some [.int .u64 i18,.slice p19 n20 c21]∧C i18 p19 n20 c21 h17:=by
 refine (addedSpec kk (T.old d.o) hn40 nx hbn ok).mono ?_
 rintro _ g' ⟨⟨b,c',rs',rfl,w,hc,hnew⟩,o'⟩
 have d':=d.old o'
 have l1:=d.lt
 have l2:=d.n0
 have l3:=o'.1
 have l4:=w.lo
 have hl:rs'.length=n:=by rw[T.1.1]; exact cor_len hc
 refine⟨_,_,_,_,rfl,rfl,retK (by omega) d'.c1 rfl fun g'' nr=>?_⟩
 refine HC _ _ _ _ _ ⟨rfl,rs' ++ [r],?_,by rw[List.map_append,List.map_append,hc]⟩ (near_old d'.o nr (by omega))
 have hl2:n+1=(rs' ++ [r]).length:=by simp[hl]
 rw[hl2]
 refine (w.temp (by omega) (fun x hx a ha=>?_) nr).book (by rw[←hl2]; omega)
 rcases mem_snoc.1 hx with hx | rfl
 ·have:=hnew x hx a ha
  omega
 ·exact hr a ha
theorem createSpec (kk:KActs K) (T:BookOk h p n rs) (R:RightP nx rs) (hn40:n≤1000) (hbn:0≤nx∧nx < 1000000000000000) (f:ByteArray) (hf:f.size≤9223372036854775806) (k:Int):
 Wf Try.prog K 18 [.agg #[.int .u64 nx,.slice p n c],.string f,.int .i64 k] h fun v h'=>ResQ (createF nx rs (spl f) k) v h'∧Old h h':=by
 refine vc_rule_Create kk.create _ _ _ _ _ _ h _ fun g0 e0 g1 e1=>?_
 have d1:=HdB.of e0 e1
 have hn:=T.1.1
 refine (volNameSpec kk.r f hf).mono ?_
 rintro _ g3 ⟨⟨a,ha,hs,rfl⟩ | ⟨ha,rfl⟩,o3⟩
 ·have d3:=d1.old o3
  refine⟨_,_,rfl,fun _=>⟨fun q=>?_,fun q=>⟨fun q2=>?_,fun q2=>⟨_,_,_,d3.sl,fun q3=>?_,fun q3=>⟨_,_,_,_,d3.ldN,(namedRSpec kk.r (c:=c) (T.1.old d3.o) R f hf nx).mono ?_⟩⟩⟩⟩,fun z=>absurd rfl z⟩
  ·exact errK kk.r d3 T hn40 fun i p' n' c' g' br o _ _=>⟨⟨i,p',n',c',by unfold createF; rw[ha]; simp only; rw[if_pos (.inl q)],by unfold createF; rw[ha]; simp only; rw[if_pos (.inl q)]; exact br⟩,o⟩
  ·exact errK kk.r d3 T hn40 fun i p' n' c' g' br o _ _=>⟨⟨i,p',n',c',by unfold createF; rw[ha]; simp only; rw[if_pos (.inr q2)],by unfold createF; rw[ha]; simp only; rw[if_pos (.inr q2)]; exact br⟩,o⟩
  ·have e:createF nx rs (spl f) k=(nx,rs,175):=by unfold createF; rw[ha]; simp only; rw[if_neg (by omega),if_pos (by omega)]
   exact errK kk.r d3 T hn40 fun i p' n' c' g' br o _ _=>⟨⟨i,p',n',c',by rw[e],by rw[e]; exact br⟩,o⟩
  ·rintro _ g59 ⟨rfl,o59⟩
   have d59:=d3.old o59
   refine⟨_,rfl,fun q4=>?_,fun q4=>⟨_,_,_,_,d59.ldN,_,d59.nx,_,d59.nx,?_⟩⟩
   ·cases hl:lookOf rs (spl f) with
    | none=>rw[hl] at q4; exact absurd q4 (by decide)
    | some i=>
      have e:createF nx rs (spl f) k=(nx,rs,171):=by unfold createF; rw[ha]; simp only; rw[if_neg (by omega),if_neg (by omega),hl]
      exact errK kk.r d59 T hn40 fun i p' n' c' g' br o _ _=>⟨⟨i,p',n',c',by rw[e],by rw[e]; exact br⟩,o⟩
   ·cases hl:lookOf rs (spl f) with
    | some i=>rw[hl] at q4; exact absurd (by show (0:Int)≤(i:Int); omega) q4
    | none=>
      have e:createF nx rs (spl f) k=(nx+1,rs ++ [volR nx a 0 k (0,0,0)],0):=by unfold createF; rw[ha]; simp only; rw[if_neg (by omega),if_neg (by omega),hl]
      exact addedRet kk.r d59 T hn40 hbn (r:=volR nx a 0 k (0,0,0)) (volR_ok _ hbn rfl ⟨rfl,rfl,rfl⟩ a) (fun a ha=>by cases ha) fun i p' n' c' g' br o=>⟨⟨i,p',n',c',by rw[e],by rw[e]; exact br⟩,o⟩
 ·refine⟨_,_,rfl,fun z=>absurd z (by decide),fun _=>?_⟩
  have e:createF nx rs (spl f) k=(nx,rs,141):=by unfold createF; rw[ha]
  exact errK kk.r (d1.old o3) T hn40 fun i p' n' c' g' br o _ _=>⟨⟨i,p',n',c',by rw[e],by rw[e]; exact br⟩,o⟩
end
end Go.Am
/-
 BOOKS:a copy under way.
-/
set_option linter.unusedVariables false
set_option linter.unusedSimpArgs false
set_option maxRecDepth 100000
namespace Go.Am
open Go.Proofs
theorem st1K {g:AH} {l i:Nat} {cs:List Value} {t:TypeId} {v:Value} (w:g.get l=some (.cells cs t false)) (hi:i < cs.length):∃g',st1 g l i v=some g'∧Near l g g'∧g'.get l=some (.cells (cs.set i v) t false):=⟨_,st1_of w hi,near_set _ _ _,get_set_self _ _ _⟩
theorem ldN_sub {g:AH} {b off n:Nat} {cs:List Value} (h:ldN g b off n=some cs) (k m:Nat) (hk:k+m≤n):ldN g b (off+k) m=some ((cs.drop k).take m):=by
 unfold ldN at h ⊢
 split at h
 ·rename_i cs' e ro hg
  split at h
  ·rename_i hl
   simp only[Option.some.injEq] at h
   subst h
   rw[if_pos (by omega),List.drop_take,List.drop_drop,List.take_take,Nat.min_eq_left (show m≤n - k by omega)]
  ·cases h
 ·cases h
theorem RecOk.prev {g:AH} {r:SetR} (k:RecOk g r) {pr:Int} (hp:(Lit.int .u64 pr).wf=true):RecOk g { r with prev:=pr }:=⟨⟨k.1.id,k.1.own,hp,k.1.stamp,k.1.root,k.1.dead,k.1.form,k.1.room,k.1.len,k.1.shows⟩,k.2.1,k.2.2⟩
theorem RecOk.own {g:AH} {r:SetR} (k:RecOk g r) {o:Int} (hp:(Lit.int .u64 o).wf=true):RecOk g { r with own:=o }:=⟨⟨k.1.id,hp,k.1.prev,k.1.stamp,k.1.root,k.1.dead,k.1.form,k.1.room,k.1.len,k.1.shows⟩,k.2.1,k.2.2⟩
theorem RecOk.root {g:AH} {r:SetR} (k:RecOk g r) {q:PtI} (hp:PtrWfI q):RecOk g { r with root:=q }:=⟨⟨k.1.id,k.1.own,k.1.prev,k.1.stamp,hp,k.1.dead,k.1.form,k.1.room,k.1.len,k.1.shows⟩,k.2.1,k.2.2⟩
theorem RecOk.none {g:AH} {r:SetR} (k:RecOk g r):RecOk g { r with dp:=.none,dn:=0,dc:=0,dead:=[] }:=by
 have z:=zeroSet g
 exact⟨⟨k.1.id,k.1.own,k.1.prev,k.1.stamp,k.1.root,z.dead,z.form,z.room,z.len,z.shows⟩,.inl ⟨rfl,rfl,by show (0:Nat) < openCap; simp[openCap]⟩,fun a ha=>by cases ha⟩
theorem RecOk.mk' {g:AH} {r:SetR} (k:RecOk g r) {id own pr st:Int} (nm:ByteArray) (sn:Bool) (h1:(Lit.int .u64 id).wf=true) (h2:(Lit.int .u64 own).wf=true) (h3:(Lit.int .u64 pr).wf=true) (h4:(Lit.int .u64 st).wf=true):RecOk g { r with id:=id,name:=nm,snap:=sn,own:=own,prev:=pr,stamp:=st }:=⟨⟨h1,h2,h3,h4,k.1.root,k.1.dead,k.1.form,k.1.room,k.1.len,k.1.shows⟩,k.2.1,k.2.2⟩
theorem u64Wf {x:Int} (h:0≤x∧x < 1000000000000000):(Lit.int .u64 x).wf=true:=by
 simp[Lit.wf,IntKind.min,IntKind.max,IntKind.signed,IntKind.bits]
 omega
theorem set_map {nx:Int} {rs xs:List SetR} (R:RightP nx rs) (h:xs.map cor=rs.map cor) {i:Nat} {v:SetR} (hi:rs[i]?= some v) {f:SetR→SetR} (hf:∀r∈rs,r.id≠v.id→f r=r) {x:SetR} (hx:cor x=cor (f v)):(xs.set i x).map cor=(rs.map f).map cor:=by
 have hl:=cor_len h
 apply List.ext_getElem?
 intro j
 rw[List.getElem?_map,List.getElem?_map,List.getElem?_map,List.getElem?_set]
 by_cases e:i=j
 ·subst e
  have hlt:i < xs.length:=by rw[hl]; exact (List.getElem?_eq_some_iff.1 hi).1
  rw[if_pos rfl,if_pos hlt,hi]
  simp[hx]
 ·rw[if_neg e]
  have hj:=congrArg (fun l=>l[j]?) h
  simp only[List.getElem?_map] at hj
  rw[hj]
  cases hr:rs[j]? with
  | none=>rfl
  | some r=>
    simp only[Option.map_some]
    rw[hf r (List.mem_of_getElem? hr) fun q=>e ?_]
    have a:=R.uniq hr
    have b:=R.uniq hi
    rw[q,b] at a
    exact Option.some.inj a
structure Bkc (h g0 g:AH) (bn:Int) (p:Option Addr) (n c lc b:Nat) (nx:Int) (m c' : Nat) (xs:List SetR):Prop where
 hd:HdB h g0 g bn p n c
 own:OwnB (h.next+2) g b xs
 loc:g.get lc=some (.cells [.int .u64 nx,.slice (some ⟨b,0,none⟩) m c'] 49 false)
 lcl:h.next+2≤lc
 lch:lc < g.next
 lcb:lc≠b
 far:∀r∈xs,∀a,r.dp=some a→a.block≠lc∧a.block≠g0.next
 ml:m=xs.length
section
variable {h g0 g:AH} {bn:Int} {p:Option Addr} {n c lc b:Nat} {nx:Int} {m c' : Nat} {xs:List SetR}
theorem Bkc.old {g' : AH} (u:Bkc h g0 g bn p n c lc b nx m c' xs) (o:Old g g'):Bkc h g0 g' bn p n c lc b nx m c' xs:=⟨u.hd.old o,u.own.old o,(o.2 _ u.lch).trans u.loc,u.lcl,Nat.lt_of_lt_of_le u.lch o.1,u.lcb,u.far,u.ml⟩
theorem Bkc.sl (u:Bkc h g0 g bn p n c lc b nx m c' xs):ld1 g lc 1=some (.slice (some ⟨b,0,none⟩) m c'):=ld1_at u.loc rfl
theorem HdB.near {g' : AH} (d:HdB h g0 g bn p n c) {x:Nat} (nr:Near x g g') (hx:h.next+2≤x):HdB h g0 g' bn p n c:=by
 have:=d.n0
 exact⟨near_old d.o nr (by omega),d.n0,by rw[nr.1]; exact d.lt,(nr.2 _ (by omega)).trans d.c0,(nr.2 _ (by omega)).trans d.c1⟩
theorem Bkc.moved {g' : AH} {xs' : List SetR} (u:Bkc h g0 g bn p n c lc b nx m c' xs) (nr:Near b g g') (w:OwnB (h.next+2) g' b xs') (hl:xs'.length=xs.length) (hf:∀r∈xs',∀a,r.dp=some a→a.block≠lc∧a.block≠g0.next):Bkc h g0 g' bn p n c lc b nx m c' xs':=
 ⟨u.hd.near nr u.own.lo,w,(nr.2 _ u.lcb).trans u.loc,u.lcl,by rw[nr.1]; exact u.lch,u.lcb,hf,by rw[hl]; exact u.ml⟩
theorem Bkc.st1 (u:Bkc h g0 g bn p n c lc b nx m c' xs) {i k:Nat} {v:Value} {r' : SetR} (hi:i < xs.length) (hk:k < 11) (he:(setC xs[i]).set k v=setC r') (ok:RecOk g r') (ha:∀a,r'.dp=some a→a.block≠b∧a.block≠lc∧a.block≠g0.next):
 ∃g',Am.st1 g b (0+Int.toNat (i:Int) * 11+k) v=some g'∧Near b g g'∧Bkc h g0 g' bn p n c lc b nx m c' (xs.set i r'):=by
 obtain⟨g',e,nr,w⟩:=u.own.st1 hi hk he ok fun a q=>(ha a q).1
 refine⟨g',by rw[Int.toNat_natCast,Nat.zero_add]; exact e,nr,u.moved nr w (by simp) fun r hr a q=>?_⟩
 rcases List.mem_or_eq_of_mem_set hr with hr | rfl
 ·exact u.far r hr a q
 ·exact (ha a q).2
theorem Bkc.stN (u:Bkc h g0 g bn p n c lc b nx m c' xs) {i k:Nat} {vs:List Value} {r' : SetR} (hi:i < xs.length) (hk:k+vs.length≤11) (he:(setC xs[i]).take k ++ vs ++ (setC xs[i]).drop (k+vs.length)=setC r') (ok:RecOk g r') (ha:∀a,r'.dp=some a→a.block≠b∧a.block≠lc∧a.block≠g0.next):
 ∃g',Am.stN g b (0+Int.toNat (i:Int) * 11+k) vs=some g'∧Near b g g'∧Bkc h g0 g' bn p n c lc b nx m c' (xs.set i r'):=by
 obtain⟨g',e,nr,w⟩:=u.own.stN hi hk he ok fun a q=>(ha a q).1
 refine⟨g',by rw[Int.toNat_natCast,Nat.zero_add]; exact e,nr,u.moved nr w (by simp) fun r hr a q=>?_⟩
 rcases List.mem_or_eq_of_mem_set hr with hr | rfl
 ·exact u.far r hr a q
 ·exact (ha a q).2
theorem OwnB.bookR {lim b m:Nat} {nx:Int} {g:AH} {xs R:List SetR} (w:OwnB lim g b xs) (hm:m=xs.length) (hm2:m≤100000) (hc:xs.map cor=R.map cor):BookR nx R nx (some ⟨b,0,.none⟩) m g:=⟨rfl,xs,by rw[hm]; exact w.book (by rw[←hm]; exact hm2),hc⟩
theorem Bkc.ret' (u:Bkc h g0 g bn p n c lc b nx m c' xs) {C:Int→Option Addr→Nat→Nat→AH→Prop} (HC:∀g',OwnB (h.next+2) g' b xs→Old h g'→Near g0.next g g'→C nx (some ⟨b,0,.none⟩) m c' g'):
 ∃i13:Int,∃(p14:Option Addr) (n15 c16:Nat),ldN g lc 0 2=some [.int .u64 i13,.slice p14 n15 c16]∧(List.length [Value.int .u64 i13,.slice p14 n15 c16]=2)∧
  ∃h17:AH,Am.stN g g0.next 0 [.int .u64 i13,.slice p14 n15 c16]=some h17∧∃i18:Int,∃(p19:Option Addr) (n20 c21:Nat),ldN h17 g0.next 0 2=some [.int .u64 i18,.slice p19 n20 c21]∧C i18 p19 n20 c21 h17:=by
 have l1:=u.hd.lt
 have l2:=u.hd.n0
 have l3:=u.own.lo
 exact⟨_,_,_,_,ldN_all u.loc rfl,rfl,retK (by omega) u.hd.c1 rfl fun g'' nr=>HC g'' (u.own.temp (by omega) (fun r hr a ha=>(u.far r hr a ha).2) nr) (near_old u.hd.o nr (by omega)) nr⟩
theorem Bkc.ret (u:Bkc h g0 g bn p n c lc b nx m c' xs) (hm:m≤100000) {R:List SetR} (hc:xs.map cor=R.map cor) {C:Int→Option Addr→Nat→Nat→AH→Prop} (HC:∀g',BookR nx R nx (some ⟨b,0,.none⟩) m g'→Old h g'→Near g0.next g g'→C nx (some ⟨b,0,.none⟩) m c' g'):
 ∃i13:Int,∃(p14:Option Addr) (n15 c16:Nat),ldN g lc 0 2=some [.int .u64 i13,.slice p14 n15 c16]∧(List.length [Value.int .u64 i13,.slice p14 n15 c16]=2)∧
  ∃h17:AH,Am.stN g g0.next 0 [.int .u64 i13,.slice p14 n15 c16]=some h17∧∃i18:Int,∃(p19:Option Addr) (n20 c21:Nat),ldN h17 g0.next 0 2=some [.int .u64 i18,.slice p19 n20 c21]∧C i18 p19 n20 c21 h17:=
 u.ret' fun g' w o nr=>HC g' (w.bookR u.ml hm hc) o nr
end
section
variable {K:Xs} {h g0 g:AH} {p:Option Addr} {n c:Nat} {rs:List SetR} {nx:Int}
theorem putB {g1:AH} (d:HdB h g0 g nx p n c) {b m c' : Nat} {nx' : Int} {xs:List SetR} (w:OwnB (h.next+2) g b xs) (far:∀r∈xs,∀a,r.dp=some a→a.block≠g0.next) (hm:m=xs.length) (e:g1=g.alloc (.cells [.int .u64 0,.slice none 0 0] 49 false)):
 ∃g',stN g1 g.next 0 [.int .u64 nx',.slice (some ⟨b,0,none⟩) m c']=some g'∧Old g g'∧Bkc h g0 g' nx p n c g.next b nx' m c' xs:=by
 obtain⟨g',k,hn,o,v⟩:=put_new e (vs:=[.int .u64 nx',.slice (some ⟨b,0,none⟩) m c']) rfl
 have l1:=d.lt
 have l2:=w.hi
 exact⟨g',k,o,d.old o,w.old o,(v [] (fun c hc=>by cases hc)).1,by omega,by omega,by omega,fun r hr a ha=>⟨by have:=(w.recs r hr).1.2.2 a ha; omega,far r hr a ha⟩,hm⟩
theorem copiedCur (kk:KRule K) (d:HdB h g0 g nx p n c) (T:BookOk h p n rs) (hn40:n≤1000):
 Wf Try.prog K 35 [.agg #[.int .u64 nx,.slice p n c]] g fun v h42=>∃b xs,v=.agg #[.int .u64 nx,.slice (some ⟨b,0,none⟩) n n]∧g.next≤b∧xs.map cor=rs.map cor∧(∀r∈xs,∀a,r.dp=some a→g.next≤a.block)∧Old g h42∧
  ∀h47,h47=h42.alloc (.cells [.int .u64 0,.slice none 0 0] 49 false)→∃h48,stN h47 h42.next 0 [.int .u64 nx,.slice (some ⟨b,0,none⟩) n n]=some h48∧Old h42 h48∧Bkc h g0 h48 nx p n c h42.next b nx n n xs:=by
 refine (copiedSpec kk (T.old d.o) hn40 nx).mono ?_
 rintro _ g' ⟨⟨b,rs',rfl,w,hc,hnew⟩,o'⟩
 have l1:=d.lt
 have l2:=d.n0
 exact⟨b,rs',rfl,w.lo,hc,hnew,o',fun h47 e=>putB (d.old o') (w.weak l1) (fun r hr a ha=>by have:=hnew r hr a ha; omega) (by rw[T.1.1]; exact (cor_len hc).symm) e⟩
end
end Go.Am
/-
 BOOKS:a snapshot more,a clone more.
-/
set_option linter.unusedVariables false
set_option linter.unusedSimpArgs false
set_option maxRecDepth 100000
namespace Go.Am
open Go.Proofs
theorem placeI_some (i:Nat):placeI (some i)=(i:Int):=rfl
theorem placeI_none:placeI none= -1:=rfl
theorem spl_vol {a:ByteArray} (h:NameR a):spl a=some (a,noB):=spl_some (.inl ⟨h,rfl,rfl⟩)
theorem NameR.size {a:ByteArray} (h:NameR a):a.size≤9223372036854775806:=by have:=h.2.1; omega
noncomputable def snapA (nx:Int) (rs:List SetR) (o:Option (ByteArray×ByteArray)) (st:Int):Int×List SetR×Int:=match snapOf o with
 | none=>(nx,rs,141)
 | some (a,b)=>match lookN rs a noB with
   | none=>(nx,rs,172)
   | some i=>if 32≤rs.length then (nx,rs,175) else match lookOf rs o with
     | some _=>(nx,rs,171)
     | none=>match rs[i]? with
       | none=>(nx,rs,0)
       | some v=>if st < 1∨281474976710655 < st∨st≤flr rs v.id then (nx,rs,176) else (nx+1,rs.map (snapF nx v) ++ [snapR nx v b st],0)
noncomputable def cloneA (nx:Int) (rs:List SetR) (o o2:Option (ByteArray×ByteArray)):Int×List SetR×Int:=match snapOf o with
 | none=>(nx,rs,141)
 | some _=>match volOf o2 with
   | none=>(nx,rs,141)
   | some a=>match lookOf rs o with
     | none=>(nx,rs,172)
     | some i=>if 32≤rs.length then (nx,rs,175) else match lookOf rs o2 with
       | some _=>(nx,rs,171)
       | none=>match rs[i]? with
         | none=>(nx,rs,0)
         | some s=>(nx+1,rs ++ [volR nx a s.id s.blocks s.root],0)
theorem lookOf_at {rs:List SetR} {o:Option (ByteArray×ByteArray)} {i:Nat} (h:lookOf rs o=some i):∃r,rs[i]?= some r:=by
 unfold lookOf at h
 cases o with
 | none=>cases h
 | some q=>exact lookN_at h
section
variable {K:Xs} {h:AH} {p:Option Addr} {n c:Nat} {rs:List SetR} {nx:Int}
theorem cloneSpec (kk:KActs K) (T:BookOk h p n rs) (R:RightP nx rs) (hn40:n≤1000) (hbn:0≤nx∧nx < 1000000000000000) (f:ByteArray) (hf:f.size≤9223372036854775806) (f2:ByteArray) (hf2:f2.size≤9223372036854775806):
 Wf Try.prog K 24 [.agg #[.int .u64 nx,.slice p n c],.string f,.string f2] h fun v h'=>ResQ (cloneA nx rs (spl f) (spl f2)) v h'∧Old h h':=by
 refine vc_rule_Clone kk.clone _ _ _ _ _ _ h _ fun g0 e0 g1 e1=>?_
 have d1:=HdB.of e0 e1
 have hn:=T.1.1
 have err:∀{g:AH} {e:Int},HdB h g0 g nx p n c→cloneA nx rs (spl f) (spl f2)=(nx,rs,e)→∀i p' n' c' g',BookR nx rs i p' n' g'→Old h g'→g.next≤g'.next→(∀y,y < g.next→y≠g0.next→g'.get y=g.get y)→ResQ (cloneA nx rs (spl f) (spl f2)) (.tuple #[.agg #[.int .u64 i,.slice p' n' c'],.int .i64 e]) g'∧Old h g':=fun d e i p' n' c' g' br o _ _=>⟨⟨i,p',n',c',by rw[e],by rw[e]; exact br⟩,o⟩
 refine (snapNameSpec kk.r f hf).mono ?_
 rintro _ g3 ⟨⟨a,b,ha,hs,hb,rfl⟩ | ⟨ha,rfl⟩,o3⟩
 ·have d3:=d1.old o3
  refine⟨_,_,_,rfl,fun _=>(volNameSpec kk.r f2 hf2).mono ?_,fun z=>absurd rfl z⟩
  rintro _ g8 ⟨⟨a2,ha2,hs2,rfl⟩ | ⟨ha2,rfl⟩,o8⟩
  ·have d8:=d3.old o8
   refine⟨_,_,rfl,fun _=>⟨_,_,_,_,d8.ldN,(namedRSpec kk.r (c:=c) (T.1.old d8.o) R f hf nx).mono ?_⟩,fun z=>absurd rfl z⟩
   rintro _ g16 ⟨rfl,o16⟩
   have d16:=d8.old o16
   cases hl:lookOf rs (spl f) with
   | none=>exact⟨_,rfl,fun _=>errK kk.r d16 T hn40 (err d16 (by unfold cloneA; rw[ha]; simp only; rw[ha2]; simp only; rw[hl])),fun z=>absurd (by rw[placeI_none]; decide) z⟩
   | some i=>
     obtain⟨v,hv⟩:=lookOf_at hl
     obtain⟨hi,rfl⟩:=List.getElem?_eq_some_iff.1 hv
     rw[placeI_some]
     refine⟨_,rfl,fun z=>absurd z (by omega),fun _=>⟨_,_,_,d16.sl,fun q=>errK kk.r d16 T hn40 (err d16 (by unfold cloneA; rw[ha]; simp only; rw[ha2]; simp only; rw[hl]; simp only; rw[if_pos (by omega)])),fun q=>⟨_,_,_,_,d16.ldN,(namedRSpec kk.r (c:=c) (T.1.old d16.o) R f2 hf2 nx).mono ?_⟩⟩⟩
     rintro _ g56 ⟨rfl,o56⟩
     have d56:=d16.old o56
     cases hl2:lookOf rs (spl f2) with
     | some j=>exact⟨_,rfl,fun _=>errK kk.r d56 T hn40 (err d56 (by unfold cloneA; rw[ha]; simp only; rw[ha2]; simp only; rw[hl]; simp only; rw[if_neg (by omega),hl2])),fun z=>absurd (by rw[placeI_some]; omega) z⟩
     | none=>
       have hcl:cloneA nx rs (spl f) (spl f2)=(nx+1,rs ++ [volR nx a2 rs[i].id rs[i].blocks rs[i].root],0):=by unfold cloneA; rw[ha]; simp only; rw[ha2]; simp only; rw[hl]; simp only; rw[if_neg (by omega),hl2]; simp only; rw[hv]
       have hin:i < n:=by omega
       obtain⟨pb,off,rfl,hi',hld,hld1,ok⟩:=(T.1.old d56.o).at hin
       refine⟨_,rfl,fun z=>absurd z (by rw[placeI_none]; decide),fun _=>⟨_,_,_,d56.sl,derefP_at ⟨by omega,by omega,_,_,_,_,d56.ldN,_,d56.nx,_,d56.nx,_,?_,_,?_,_,_,_,?_,addedRet kk.r d56 T hn40 hbn (r:=volR nx a2 rs[i].id rs[i].blocks rs[i].root) (volR_ok _ hbn ok.id ok.root a2) (fun a ha=>by cases ha) fun i p' n' c' g' br o=>⟨⟨i,p',n',c',by rw[hcl],by rw[hcl]; exact br⟩,o⟩⟩⟩⟩
       ·rw[Int.toNat_natCast]; exact hld1 0 _ rfl
       ·rw[Int.toNat_natCast]; exact hld1 6 _ rfl
       ·rw[Int.toNat_natCast]; exact ldN_sub hld 7 3 (by omega)
  ·exact⟨_,_,rfl,fun z=>absurd z (by decide),fun _=>errK kk.r (d3.old o8) T hn40 (err (d3.old o8) (by unfold cloneA; rw[ha]; simp only; rw[ha2]))⟩
 ·exact⟨_,_,_,rfl,fun z=>absurd z (by decide),fun _=>errK kk.r (d1.old o3) T hn40 (err (d1.old o3) (by unfold cloneA; rw[ha]))⟩
theorem snapASpec (kk:KActs K) (T:BookOk h p n rs) (R:RightP nx rs) (hn40:n≤1000) (hbn:0≤nx∧nx < 1000000000000000) (f:ByteArray) (hf:f.size≤9223372036854775806) (st:Int) (hst:(Lit.int .u64 st).wf=true):
 Wf Try.prog K 23 [.agg #[.int .u64 nx,.slice p n c],.string f,.int .u64 st] h fun v h'=>ResQ (snapA nx rs (spl f) st) v h'∧Old h h':=by
 refine vc_rule_Snap kk.snap _ _ _ _ _ _ h _ fun g0 e0 g1 e1=>?_
 have d1:=HdB.of e0 e1
 have hn:=T.1.1
 have err:∀{g:AH} {e:Int},HdB h g0 g nx p n c→snapA nx rs (spl f) st=(nx,rs,e)→∀i p' n' c' g',BookR nx rs i p' n' g'→Old h g'→g.next≤g'.next→(∀y,y < g.next→y≠g0.next→g'.get y=g.get y)→ResQ (snapA nx rs (spl f) st) (.tuple #[.agg #[.int .u64 i,.slice p' n' c'],.int .i64 e]) g'∧Old h g':=fun d e i p' n' c' g' br o _ _=>⟨⟨i,p',n',c',by rw[e],by rw[e]; exact br⟩,o⟩
 refine (snapNameSpec kk.r f hf).mono ?_
 rintro _ g3 ⟨⟨a,b,ha,hs,hb,rfl⟩ | ⟨ha,rfl⟩,o3⟩
 ·have d3:=d1.old o3
  have na:NameR a:=by
   rcases hs with ⟨-, -,e⟩ | ⟨e, -, -⟩
   ·exact absurd e hb
   ·exact e
  refine⟨_,_,_,rfl,fun _=>⟨_,_,_,_,d3.ldN,(namedRSpec kk.r (c:=c) (T.1.old d3.o) R a na.size nx).mono ?_⟩,fun z=>absurd rfl z⟩
  rintro _ g12 ⟨rfl,o12⟩
  have d12:=d3.old o12
  rw[spl_vol na,show lookOf rs (some (a,noB))=lookN rs a noB from rfl]
  cases hl:lookN rs a noB with
  | none=>exact⟨_,rfl,fun _=>errK kk.r d12 T hn40 (err d12 (by unfold snapA; rw[ha]; simp only; rw[hl])),fun z=>absurd (by rw[placeI_none]; decide) z⟩
  | some i=>
    obtain⟨v,hv⟩:=lookN_at hl
    obtain⟨hi,rfl⟩:=List.getElem?_eq_some_iff.1 hv
    rw[placeI_some]
    refine⟨_,rfl,fun z=>absurd z (by omega),fun _=>⟨_,_,_,d12.sl,fun q=>errK kk.r d12 T hn40 (err d12 (by unfold snapA; rw[ha]; simp only; rw[hl]; simp only; rw[if_pos (by omega)])),fun q=>⟨_,_,_,_,d12.ldN,(namedRSpec kk.r (c:=c) (T.1.old d12.o) R f hf nx).mono ?_⟩⟩⟩
    rintro _ g52 ⟨rfl,o52⟩
    have d52:=d12.old o52
    cases hl2:lookOf rs (spl f) with
    | some j=>exact⟨_,rfl,fun _=>errK kk.r d52 T hn40 (err d52 (by unfold snapA; rw[ha]; simp only; rw[hl]; simp only; rw[if_neg (by omega),hl2])),fun z=>absurd (by rw[placeI_some]; omega) z⟩
    | none=>
      have hin:i < n:=by omega
      have hsn:snapA nx rs (spl f) st=if st < 1∨281474976710655 < st∨st≤flr rs rs[i].id then (nx,rs,176) else (nx+1,rs.map (snapF nx rs[i]) ++ [snapR nx rs[i] b st],0):=by
       unfold snapA; rw[ha]; simp only; rw[hl]; simp only; rw[if_neg (by omega),hl2]; simp only; rw[hv]
      obtain⟨pb,off,rfl,hi',hld,hld1,ok⟩:=(T.1.old d52.o).at hin
      refine⟨_,rfl,fun z=>absurd z (by rw[placeI_none]; decide),fun _=>⟨_,_,_,d52.sl,derefP_at ⟨by omega,by omega,_,by rw[Int.toNat_natCast]; exact hld1 0 _ rfl,fun q1=>errK kk.r d52 T hn40 (err d52 (by rw[hsn,if_pos (.inl q1)])),fun q1=>⟨fun q2=>errK kk.r d52 T hn40 (err d52 (by rw[hsn,if_pos (.inr (.inl q2))])),fun q2=>⟨_,_,_,d52.sl,(floorSpec kk.floor kk.fplace (T.1.old d52.o) rs[i].id).mono ?_⟩⟩⟩⟩⟩
      rintro _ g109 ⟨rfl,rfl⟩
      refine⟨_,rfl,fun q3=>errK kk.r d52 T hn40 (err d52 (by rw[hsn,if_pos (.inr (.inr q3))])),fun q3=>⟨_,_,_,d52.sl,derefP_at ⟨by omega,by omega,_,_,_,_,_,_,_,_,_,_,_,_,_,by rw[Int.toNat_natCast]; exact hld,(copySpec kk.r.named0.copy ok).mono ?_⟩⟩⟩
      rw[if_neg (by omega)] at hsn
      rintro _ g145 ⟨p',c',rfl,ok',G',o145⟩
      refine⟨_,_,_,_,_,_,_,_,_,_,_,_,_,rfl,fun g159 e159=>?_⟩
      obtain⟨g160,k160,n160,o160,v160⟩:=put_new e159 (vs:=setC { rs[i] with dp:=p',dc:=c' }) rfl
      have w160:=(v160 [] (fun c hc=>by cases hc)).1
      have d145:=d52.old o145
      have d160:=d145.old o160
      have l145:=d145.lt
      have l52:=d52.lt
      have l0:=d52.n0
      have m145:=o145.1
      obtain⟨g162,k162,nr162,w162⟩:=st1K (v:=.int .u64 nx) w160 (i:=0) (by simp[setC])
      obtain⟨g163,k163,nr163,w163⟩:=st1K (v:=.string b) w162 (i:=1) (by simp[setC])
      obtain⟨g164,k164,nr164,w164⟩:=st1K (v:=.bool true) w163 (i:=2) (by simp[setC])
      obtain⟨g165,k165,nr165,w165⟩:=st1K (v:=.int .u64 rs[i].id) w164 (i:=3) (by simp[setC])
      obtain⟨g166,k166,nr166,w166⟩:=st1K (v:=.int .u64 st) w165 (i:=5) (by simp[setC])
      have nr:=(((nr162.trans nr163).trans nr164).trans nr165).trans nr166
      have d166:=d160.near nr (by omega)
      generalize hrn:({ rs[i] with id:=nx,name:=b,snap:=true,own:=rs[i].id,prev:=rs[i].prev,stamp:=st,dp:=p',dc:=c' }:SetR)=rn at *
      have w166:g166.get g145.next=some (.cells (setC rn) 59 false):=by rw[←hrn]; exact w166
      have hrn2:cor rn=cor (snapR nx rs[i] b st):=by rw[←hrn]; rfl
      have hp' : ∀a,p'= some a→g52.next≤a.block∧a.block < g145.next:=fun a ha=>G'.block ha
      have rdp:rn.dp=p':=by rw[←hrn]
      have okn:RecOk g166 rn:=by
       have ok1:RecOk g145 { rs[i] with dp:=p',dc:=c' }:=⟨ok',G'.cutQ (by have:=ok.room; have:reachBytes=140737488351232:=rfl; simp only[openCap]; omega),fun a ha=>(hp' a ha).2⟩
       have ok2:=(ok1.old o160).kept (g':=g166) (by rw[nr.1]; exact Nat.le_refl _) fun a ha=>nr.2 _ (by have:=(hp' a ha).2; omega)
       rw[←hrn]
       exact ok2.mk' b true (u64Wf hbn) ok.id ok.prev hst
      refine⟨rfl,g160,k160,_,d160.nx,g162,k162,g163,k163,g164,k164,g165,k165,g166,k166,_,_,_,_,d166.ldN,_,_,_,_,_,_,_,_,_,_,_,_,_,ldN_all w166 rfl,(addedSpec kk.r (T.old d166.o) hn40 nx hbn okn).mono ?_⟩
      rintro _ g185 ⟨⟨b0,c0,rs',rfl,w,hc,hnew⟩,o185⟩
      have d185:=d166.old o185
      have l166:=d166.lt
      have lw:=w.lo
      have hl' : rs'.length=n:=by rw[hn]; exact cor_len hc
      have n166:=nr.1
      refine⟨_,_,_,_,rfl,fun g190 e190=>?_⟩
      obtain⟨g191,k191,o191,u⟩:=putB (nx':=nx+1) (m:=n+1) (c':=c0) d185 (w.weak (by omega)) (fun x hx a ha=>(by
       rcases mem_snoc.1 hx with hx | rfl
       ·have:=hnew x hx a ha
        omega
       ·rw[rdp] at ha
        have:=(hp' a ha).1
        omega)) (by simp[hl']) e190
      have hw166:g191.get g145.next=some (.cells (setC rn) 59 false):=(o191.2 _ (by have:=o185.1; omega)).trans ((o185.2 _ (by omega)).trans w166)
      refine⟨rfl,g191,k191,_,_,_,u.sl,_,ld1_at hw166 (by rw[←hrn]; rfl),derefP_at ⟨by omega,by omega,?_⟩⟩
      have hix:i < (rs' ++ [rn]).length:=by simp; omega
      have hx0:(rs' ++ [rn])[i]=rs'[i]'(by omega):=List.getElem_append_left _
      generalize hxs:rs' ++ [rn]=xs at *
      have hxm:=List.getElem_mem hix
      obtain⟨g198,k198,nr198,u198⟩:=u.st1 (i:=i) (k:=4) (v:=.int .u64 nx) (r':={ xs[i] with prev:=nx }) hix (by omega) rfl ((u.own.recs _ hxm).1.prev (u64Wf hbn)) fun a ha=>⟨(u.own.recs _ hxm).2 a ha,u.far _ hxm a ha⟩
      have hix2:i < (xs.set i { xs[i] with prev:=nx }).length:=by simpa using hix
      have hge:(xs.set i { xs[i] with prev:=nx })[i]'hix2={ xs[i] with prev:=nx }:=List.getElem_set_self ..
      have hxm2:=List.getElem_mem hix2
      have rk:=(u198.own.recs _ hxm2).1.none
      rw[hge] at rk
      obtain⟨g204,k204,nr204,u204⟩:=u198.st1 (i:=i) (k:=10) (v:=.slice none 0 0) (r':={ xs[i] with prev:=nx,dp:=none,dn:=0,dc:=0,dead:=[] }) hix2 (by omega) (by rw[hge]; rfl) rk fun a ha=>by cases ha
      refine⟨g198,k198,_,_,_,u198.sl,derefP_at ⟨by omega,by omega,?_⟩⟩
      refine⟨g204,k204,u.sl,u198.sl,u204.ret (by omega) (R:=rs.map (snapF nx rs[i]) ++ [snapR nx rs[i] b st]) ?_ fun g' br o nr=>⟨⟨_,_,_,_,by rw[hsn],by rw[hsn]; exact br⟩,o⟩⟩
      rw[List.set_set,hx0,←hxs,List.set_append_left _ _ (by omega),List.map_append,List.map_append]
      congr 1
      ·refine set_map R hc hv (fun r hr hne=>snapF_ne hne) ?_
       rw[snapF_self]
       obtain⟨y,hy,hcy⟩:=cor_at hc (List.getElem?_eq_getElem (show i < rs'.length by omega))
       rw[hv] at hy
       cases hy
       have q:=cor_eq hcy
       exact cor_mk ⟨q.1,q.2.1,q.2.2.1,q.2.2.2.1,rfl,q.2.2.2.2.2.1,q.2.2.2.2.2.2.1,q.2.2.2.2.2.2.2.1,rfl,rfl⟩
      ·simp[hrn2]
 ·exact⟨_,_,_,rfl,fun z=>absurd z (by decide),fun _=>errK kk.r (d1.old o3) T hn40 (err (d1.old o3) (by unfold snapA; rw[ha]))⟩
end
end Go.Am
/-
 BOOKS:a volume goes back.
-/
set_option linter.unusedVariables false
set_option linter.unusedSimpArgs false
set_option maxRecDepth 100000
namespace Go.Am
open Go.Proofs
def ResS (o:Int×List SetR×SetR×Int) (v:Value) (g:AH):Prop:=∃i p' n' c' s,v=.tuple #[.agg #[.int .u64 i,.slice p' n' c'],.agg (setC s).toArray,.int .i64 o.2.2.2]∧BookR o.1 o.2.1 i p' n' g∧SetOk g s∧cor s=cor o.2.2.1
def backF (v:SetR) (q:PtI) (r:SetR):SetR:=if r.id=v.id then { noDead r with root:=q } else r
theorem backF_self (v:SetR) (q:PtI):backF v q v={ noDead v with root:=q }:=if_pos rfl
theorem backF_ne {v r:SetR} (h:r.id≠v.id) (q:PtI):backF v q r=r:=if_neg h
noncomputable def backA (nx:Int) (rs:List SetR) (o:Option (ByteArray×ByteArray)):Int×List SetR×SetR×Int:=match volOf o with
 | none=>(nx,rs,zeroR,141)
 | some _=>match lookOf rs o with
   | none=>(nx,rs,zeroR,172)
   | some i=>match rs[i]? with
     | none=>(nx,rs,zeroR,0)
     | some v=>match plcN rs v.prev with
       | none=>(nx,rs,zeroR,174)
       | some j=>match rs[j]? with
         | none=>(nx,rs,zeroR,0)
         | some x=>(nx,rs.map (backF v x.root),v,0)
theorem volAt_cases (rs:List SetR) (o:Option (ByteArray×ByteArray)):(volOf o=none∧volAtOf rs o=(-1,141))∨((∃a,volOf o=some a)∧lookOf rs o=none∧volAtOf rs o=(-1,172))∨∃a i v,volOf o=some a∧lookOf rs o=some i∧rs[i]?= some v∧volAtOf rs o=((i:Int),0):=by
 unfold volAtOf
 cases hv:volOf o with
 | none=>exact .inl ⟨rfl,rfl⟩
 | some a=>
   refine .inr ?_
   cases hl:lookOf rs o with
   | none=>exact .inl ⟨⟨a,rfl⟩,rfl,rfl⟩
   | some i=>
     obtain⟨v,hr⟩:=lookOf_at hl
     exact .inr ⟨a,i,v,rfl,rfl,hr,rfl⟩
structure KActs2 (K:Xs):Prop where
 a:KActs K
 back:K 51=none
 find:K 38=none
section
variable {K:Xs} {h:AH} {p:Option Addr} {n c:Nat} {rs:List SetR} {nx:Int}
theorem errS {g0 g:AH} (kk:KRule K) (d:HdB h g0 g nx p n c) (T:BookOk h p n rs) (hn40:n≤1000) {l:Nat} (l1:h.next+2≤l) (l2:l < g.next) (c2:g.get l=some (.cells (setC zeroR) 59 false)) {C:Int→Option Addr→Nat→Nat→AH→Prop} (HC:∀i p' n' c' g',BookR nx rs i p' n' g'→Old h g'→g'.get l=some (.cells (setC zeroR) 59 false)→C i p' n' c' g'):
 ∃i7:Int,∃(p8:Option Addr) (n9 c10:Nat),ldN g h.next 0 2=some [.int .u64 i7,.slice p8 n9 c10]∧
 (Wf Try.prog K 35 [.agg #[.int .u64 i7,.slice p8 n9 c10]] g fun r11 h12=>
   ∃i13:Int,∃(p14:Option Addr) (n15 c16:Nat),r11=.agg #[.int .u64 i13,.slice p14 n15 c16]∧(List.length [Value.int .u64 i13,.slice p14 n15 c16]=2)∧
    ∃h17:AH,stN h12 g0.next 0 [.int .u64 i13,.slice p14 n15 c16]=some h17∧
    (List.length [(Value.int .u64 0),(.string (ByteArray.mk #[])),(.bool false),(.int .u64 0),(.int .u64 0),(.int .u64 0),(.int .i64 0),(.int .i64 0),(.int .u64 0),(.int .u32 0),(.slice none 0 0)]=11)∧
    ∃h18:AH,stN h17 l 0 [(.int .u64 0),(.string (ByteArray.mk #[])),(.bool false),(.int .u64 0),(.int .u64 0),(.int .u64 0),(.int .i64 0),(.int .i64 0),(.int .u64 0),(.int .u32 0),(.slice none 0 0)]=some h18∧
    ∃i18:Int,∃(p19:Option Addr) (n20 c21:Nat),ldN h18 g0.next 0 2=some [.int .u64 i18,.slice p19 n20 c21]∧C i18 p19 n20 c21 h18):=by
 refine⟨_,_,_,_,d.ldN,(copiedSpec kk (T.old d.o) hn40 nx).mono ?_⟩
 rintro _ g' ⟨⟨b,rs',rfl,w,hc,hnew⟩,o'⟩
 have d':=d.old o'
 have m1:=d.lt
 have m2:=d.n0
 have m3:=o'.1
 have m4:=w.lo
 have hl:rs'.length=n:=by rw[T.1.1]; exact cor_len hc
 have s1:=near_set g0.next g' (.cells [.int .u64 nx,.slice (some ⟨b,0,none⟩) n n] 49 false)
 have cl:(g'.set g0.next (.cells [.int .u64 nx,.slice (some ⟨b,0,none⟩) n n] 49 false)).get l=some (.cells (setC zeroR) 59 false):=(s1.2 _ (by omega)).trans ((o'.2 _ l2).trans c2)
 have s2:=near_set l (g'.set g0.next (.cells [.int .u64 nx,.slice (some ⟨b,0,none⟩) n n] 49 false)) (.cells (setC zeroR) 59 false)
 have w1:=w.temp (x:=g0.next) (by omega) (fun r hr a ha=>by have:=hnew r hr a ha; omega) s1
 have w2:=w1.temp (x:=l) (by omega) (fun r hr a ha=>by have:=hnew r hr a ha; omega) s2
 refine⟨_,_,_,_,rfl,rfl,_,stN_all d'.c1 rfl,rfl,_,stN_all cl rfl,_,_,_,_,ldN_all ((s2.2 _ (by omega)).trans (get_set_self _ _ _)) rfl,HC _ _ _ _ _ (w2.bookR hl.symm (by omega) hc) (near_old (near_old d'.o s1 (by omega)) s2 (by omega)) (get_set_self _ _ _)⟩
theorem backSpec (kk:KActs2 K) (T:BookOk h p n rs) (R:RightP nx rs) (hn40:n≤1000) (f:ByteArray) (hf:f.size≤9223372036854775806):
 Wf Try.prog K 51 [.agg #[.int .u64 nx,.slice p n c],.string f] h fun v h'=>ResS (backA nx rs (spl f)) v h'∧Old h h':=by
 refine vc_rule_Back kk.back _ _ _ _ _ h _ fun g0 e0 g1 e1 g2 e2=>?_
 have o2:=old_of_alloc e2
 have n2:=next_of_alloc e2
 have n1:=next_of_alloc e1
 have n0:=next_of_alloc e0
 have d2:=(HdB.of e0 e1).old o2
 have hn:=T.1.1
 have c2:∀{g:AH},Old g2 g→g.get g1.next=some (.cells (setC zeroR) 59 false):=fun o=>(o.2 _ (by omega)).trans (get_of_alloc e2)
 have err:∀{e:Int},backA nx rs (spl f)=(nx,rs,zeroR,e)→∀i p' n' c' g',BookR nx rs i p' n' g'→Old h g'→g'.get g1.next=some (.cells (setC zeroR) 59 false)→
  ∃i41:Int,∃s42:ByteArray,∃b43:Bool,∃i44:Int,∃i45:Int,∃i46:Int,∃i47:Int,∃i48:Int,∃i49:Int,∃i50:Int,∃(p51:Option Addr) (n52 c53:Nat),ldN g' g1.next 0 11=some [.int .u64 i41,.string s42,.bool b43,.int .u64 i44,.int .u64 i45,.int .u64 i46,.int .i64 i47,.int .i64 i48,.int .u64 i49,.int .u32 i50,.slice p51 n52 c53]∧
   (ResS (backA nx rs (spl f)) (.tuple #[.agg #[.int .u64 i,.slice p' n' c'],.agg #[.int .u64 i41,.string s42,.bool b43,.int .u64 i44,.int .u64 i45,.int .u64 i46,.int .i64 i47,.int .i64 i48,.int .u64 i49,.int .u32 i50,.slice p51 n52 c53],.int .i64 e]) g'∧Old h g'):=fun e i p' n' c' g' br o cz=>
  ⟨_,_,_,_,_,_,_,_,_,_,_,_,_,ldN_all cz rfl,⟨i,p',n',c',zeroR,by rw[e]; rfl,by rw[e]; exact br,zeroSet _,by rw[e]⟩,o⟩
 have errB:∀{g:AH} {e:Int},Old g2 g→backA nx rs (spl f)=(nx,rs,zeroR,e)→_:=fun {g} {e} og q=>errS kk.a.r (d2.old og) T hn40 (l:=g1.next) (by omega) (by have:=og.1; omega) (c2 og) (err q)
 refine⟨_,_,_,_,d2.ldN,(volAtSpec kk.a.r (c:=c) (T.1.old d2.o) R f hf nx).mono ?_⟩
 rintro _ g8 ⟨rfl,o8⟩
 have d8:=d2.old o8
 rcases volAt_cases rs (spl f) with ⟨hv,e⟩ | ⟨⟨a,hv⟩,hl,e⟩ | ⟨a,i,v,hv,hl,hr,e⟩
 ·rw[e]
  exact⟨_,_,rfl,fun z=>absurd z (by decide),fun _=>errB o8 (by unfold backA; rw[hv])⟩
 ·rw[e]
  exact⟨_,_,rfl,fun z=>absurd z (by decide),fun _=>errB o8 (by unfold backA; rw[hv]; simp only; rw[hl])⟩
 ·rw[e]
  obtain⟨hi,rfl⟩:=List.getElem?_eq_some_iff.1 hr
  have hin:i < n:=by omega
  have T8:=T.1.old d8.o
  obtain⟨pb,off,rfl,hi',hld,hld1,ok⟩:=T8.at hin
  refine⟨_,_,rfl,fun _=>⟨_,_,_,d8.sl,_,_,_,d8.sl,derefP_at ⟨by omega,by omega,_,by rw[Int.toNat_natCast]; exact hld1 4 _ rfl,(findSpec kk.find kk.a.fplace kk.a.r.named0.copy T8 rs[i].prev).mono ?_⟩⟩,fun z=>absurd rfl z⟩
  rintro _ g21 ⟨⟨j,x,px,cx,hj,hjx,rfl,okx⟩ | ⟨hj,rfl⟩,o21⟩
  ·have d21:=d8.old o21
   have hb:backA nx rs (spl f)=(nx,rs.map (backF rs[i] x.root),rs[i],0):=by unfold backA; rw[hv]; simp only; rw[hl]; simp only; rw[hr]; simp only; rw[hj]; simp only; rw[hjx]
   refine⟨_,_,_,_,_,_,_,_,_,_,_,_,_,.inl ⟨rfl,fun g35 e35=>?_⟩⟩
   obtain⟨g36,k36,n36,o36,v36⟩:=put_new e35 (vs:=setC { x with dp:=px,dc:=cx }) rfl
   have w36:=(v36 [] (fun c hc=>by cases hc)).1
   have d36:=d21.old o36
   refine⟨rfl,g36,k36,_,_,_,_,d36.ldN,(copiedCur kk.a.r d36 T hn40).mono ?_⟩
   rintro _ g42 ⟨b,xs,rfl,hbl,hc,hnew,o42,F⟩
   refine⟨_,_,_,_,rfl,fun g47 e47=>?_⟩
   obtain⟨g48,k48,o48,u⟩:=F g47 e47
   have o3648:=o42.trans o48
   have hw48:g48.get g21.next=some (.cells (setC { x with dp:=px,dc:=cx }) 59 false):=(o3648.2 _ (by omega)).trans w36
   have hix:i < xs.length:=by rw[cor_len hc]; exact hi
   have hxm:=List.getElem_mem hix
   refine⟨rfl,g48,k48,_,_,_,u.sl,_,_,_,ldN_sub (ldN_all hw48 rfl:ldN g48 g21.next 0 11=_) 7 3 (by omega),derefP_at ⟨by omega,by omega,?_⟩⟩
   obtain⟨g57,k57,nr57,u57⟩:=u.stN (i:=i) (k:=7) (vs:=[.int .i64 x.root.1,.int .u64 x.root.2.1,.int .u32 x.root.2.2]) (r':={ xs[i] with root:=x.root }) hix (by simp) rfl ((u.own.recs _ hxm).1.root okx.root) fun a ha=>⟨(u.own.recs _ hxm).2 a ha,u.far _ hxm a ha⟩
   have hix2:i < (xs.set i { xs[i] with root:=x.root }).length:=by simpa using hix
   have hge:(xs.set i { xs[i] with root:=x.root })[i]'hix2={ xs[i] with root:=x.root }:=List.getElem_set_self ..
   have hxm2:=List.getElem_mem hix2
   have rk:=(u57.own.recs _ hxm2).1.none
   rw[hge] at rk
   obtain⟨g63,k63,nr63,u63⟩:=u57.st1 (i:=i) (k:=10) (v:=.slice none 0 0) (r':={ xs[i] with root:=x.root,dp:=none,dn:=0,dc:=0,dead:=[] }) hix2 (by omega) (by rw[hge]; rfl) rk fun a ha=>by cases ha
   have T63:=T.1.old u63.hd.o
   obtain⟨pb',off',ep,hi'',hld', -,ok63⟩:=T63.at hin
   obtain⟨rfl,rfl⟩:pb=pb'∧off=off':=by injection ep with ep; injection ep with ep1 ep2; exact⟨ep1,ep2⟩
   refine⟨rfl,g57,k57,_,_,_,u57.sl,derefP_at ⟨by omega,by omega,g63,k63,u.sl,u57.sl,_,_,_,u63.hd.sl,derefP_at ⟨by omega,by omega,_,_,_,_,_,_,_,_,_,_,_,_,_,by rw[Int.toNat_natCast]; exact hld',(copySpec kk.a.r.named0.copy ok63).mono ?_⟩⟩⟩
   rintro _ g83 ⟨p',c',rfl,ok83,G',o83⟩
   have u83:=u63.old o83
   have hp' : ∀a,p'= some a→g63.next≤a.block∧a.block < g83.next:=fun a ha=>G'.block ha
   have m0:=d36.lt
   have m1:=d36.n0
   have hb':=u83.own.lo
   have mm:=o36.1
   have mm2:=o21.1
   have mm3:=o8.1
   have m63:=u63.hd.lt
   have nf:g63.next=g48.next:=nr63.1.trans nr57.1
   have m48:=o3648.1
   have far1:∀r∈(xs.set i { xs[i] with root:=x.root }).set i { xs[i] with root:=x.root,dp:=none,dn:=0,dc:=0,dead:=[] },∀a,r.dp=some a→g36.next≤a.block:=fun r hr a ha=>by
    rw[List.set_set] at hr
    rcases List.mem_or_eq_of_mem_set hr with hr | rfl
    ·exact hnew r hr a ha
    ·cases ha
   have s1:=near_set g0.next g83 (.cells [.int .u64 nx,.slice (some ⟨b,0,none⟩) n n] 49 false)
   have cl:(g83.set g0.next (.cells [.int .u64 nx,.slice (some ⟨b,0,none⟩) n n] 49 false)).get g1.next=some (.cells (setC zeroR) 59 false):=by
    rw[s1.2 _ (by omega),o83.2 _ (by omega),nr63.2 _ (by omega),nr57.2 _ (by omega)]
    exact c2 ((((o8.trans o21).trans o36).trans o42).trans o48)
   have s2:=near_set g1.next (g83.set g0.next (.cells [.int .u64 nx,.slice (some ⟨b,0,none⟩) n n] 49 false)) (.cells (setC { rs[i] with dp:=p',dc:=c' }) 59 false)
   have w1:=u83.own.temp (x:=g0.next) (by omega) (fun r hr a ha=>by have:=far1 r hr a ha; omega) s1
   have w2:=w1.temp (x:=g1.next) (by omega) (fun r hr a ha=>by have:=far1 r hr a ha; omega) s2
   have ok84:=(ok83.keep (by rw[s1.1]; exact Nat.le_refl _) fun a ha=>s1.2 _ (by have:=(hp' a ha).1; omega))
   have ok85:=(ok84.keep (by rw[s2.1]; exact Nat.le_refl _) fun a ha=>s2.2 _ (by have:=(hp' a ha).1; omega))
   have hcx:((xs.set i { xs[i] with root:=x.root }).set i { xs[i] with root:=x.root,dp:=none,dn:=0,dc:=0,dead:=[] }).map cor=(rs.map (backF rs[i] x.root)).map cor:=by
    rw[List.set_set]
    refine set_map R hc hr (fun r _ hne=>backF_ne hne _) ?_
    rw[backF_self]
    obtain⟨y,hy,hcy⟩:=cor_at hc (List.getElem?_eq_getElem hix)
    rw[hr] at hy
    cases hy
    have q:=cor_eq hcy
    exact cor_mk ⟨q.1,q.2.1,q.2.2.1,q.2.2.2.1,q.2.2.2.2.1,q.2.2.2.2.2.1,q.2.2.2.2.2.2.1,rfl,rfl,rfl⟩
   exact⟨_,_,_,_,_,_,_,_,_,_,_,_,_,rfl,_,_,_,_,ldN_all u83.loc rfl,rfl,_,stN_all u83.hd.c1 rfl,rfl,_,stN_all cl rfl,ldN_all u63.loc rfl,ldN_all u83.loc rfl,_,_,_,_,ldN_all ((s2.2 _ (by omega)).trans (get_set_self _ _ _)) rfl,_,_,_,_,_,_,_,_,_,_,_,_,_,ldN_all (get_set_self _ _ _) rfl,⟨_,_,_,_,{ rs[i] with dp:=p',dc:=c' },by rw[hb]; rfl,by rw[hb]; exact w2.bookR (R:=rs.map (backF rs[i] x.root)) u83.ml (by omega) hcx,ok85,by rw[hb]; rfl⟩,near_old (near_old u83.hd.o s1 (by omega)) s2 (by omega)⟩
  ·have d21:=d8.old o21
   refine⟨_,_,_,_,_,_,_,_,_,_,_,_,_,.inr ⟨rfl,fun g35 e35=>?_⟩⟩
   obtain⟨g36,k36,n36,o36,v36⟩:=put_new e35 (vs:=setC zeroR) rfl
   exact⟨rfl,g36,k36,errB ((o8.trans o21).trans o36) (by unfold backA; rw[hv]; simp only; rw[hl]; simp only; rw[hr]; simp only; rw[hj])⟩
end
end Go.Am
