/-
  THE DOCUMENT'S ANSWERS of layer 16: names of records.
-/
import Derived.Test.YtkapnilnhoiooaaGreatCRef3
set_option linter.unusedVariables false
set_option linter.unusedSimpArgs false
set_option maxRecDepth 100000
namespace Go.Am
open Go.Proofs
section
variable {K:Xs} {h:AH} {p:Option Addr} {n c:Nat} {rs:List zaj} {nx:Int}
theorem zam.fuel (R:zam nx rs) {o:Int}:∀(k k' : Nat) (pr B:Int) (ch:List Int),(pr=0∨∃j x,plcN rs pr=some j∧rs[j]?= some x∧x.snap=true∧x.stamp < B)→(rs.filter fun x=>x.snap && decide (x.stamp < B)).length≤k→(rs.filter fun x=>x.snap && decide (x.stamp < B)).length≤k'→
 zcz rs o k pr ch=zcz rs o k' pr ch
 | k,k',pr,B,ch,.inl h0,hk,hk'=>by rw[h0,ze0,ze0]
 | 0,k',pr,B,ch,.inr ⟨j,x,h1,h2,h3,h4⟩,hk,hk'=>by
   have:x∈rs.filter fun x=>x.snap && decide (x.stamp < B):=List.mem_filter.2 ⟨List.mem_of_getElem? h2,by simp[h3,h4]⟩
   have:=List.length_pos_of_mem this
   omega
 | k,0,pr,B,ch,.inr ⟨j,x,h1,h2,h3,h4⟩,hk,hk'=>by
   have:x∈rs.filter fun x=>x.snap && decide (x.stamp < B):=List.mem_filter.2 ⟨List.mem_of_getElem? h2,by simp[h3,h4]⟩
   have:=List.length_pos_of_mem this
   omega
 | k+1,k'+ 1,pr,B,ch,.inr ⟨j,x,h1,h2,h3,h4⟩,hk,hk'=>by
   have hx:=List.mem_of_getElem? h2
   unfold zcz
   simp only[h1,h2]
   split
   ·rfl
   ·split
    ·have hlt:=zdR (P:=fun a:zaj=>a.snap && decide (a.stamp < x.stamp)) (Q:=fun a:zaj=>a.snap && decide (a.stamp < B)) (l:=rs) (fun a _ h=>by simp at h ⊢; exact⟨h.1,by omega⟩) ⟨x,hx,by simp[h3,h4],by simp⟩
     refine R.fuel (o:=o) k k' x.prev x.stamp (ch ++ [pr]) ?_ (by omega) (by omega)
     by_cases hp:x.prev=0
     ·exact .inl hp
     ·obtain⟨j',x',k1,k2,k3,k4⟩:=(R.2.2.2.2 x hx).1.1 hp
      exact .inr ⟨j',x',k1,k2,k3,k4 h3⟩
    ·rfl
theorem zam.back (R:zam nx rs) (id:Int):zhf rs id=wayR rs id:=by
 unfold zhf wayR
 cases e:plcN rs id with
 | none=>rfl
 | some i=>
   simp only
   cases h:rs[i]? with
   | none=>rfl
   | some v=>
     simp only
     split
     ·rfl
     ·have hv:=List.mem_of_getElem? h
      have hst:∀x∈rs,x.snap=true→x.stamp < 281474976710656:=fun x hx hxs=>by
       rcases (R.ent hx).2.2.2.2.2.2.2.2 with q | q
       ·omega
       ·rw[hxs] at q; cases q.1
      refine R.fuel (o:=id) rs.length 32 v.prev 281474976710656 [] ?_ (List.length_filter_le _ _) (Nat.le_trans (List.length_filter_le _ _) R.2.1)
      by_cases hp:v.prev=0
      ·exact .inl hp
      ·obtain⟨j',x',k1,k2,k3,k4⟩:=(R.2.2.2.2 v hv).1.1 hp
       exact .inr ⟨j',x',k1,k2,k3,hst x' (List.mem_of_getElem? k2) k3⟩
theorem zud (kk:zhz K) (T:zbL h p n rs) (R:zam nx rs) (id:Int):Wf Tryz.prog K 43 [.slice p n c,.int .u64 id] h fun v h'=>v=.string (zcd rs id)∧Old h h':=by
 refine zfw kk.full _ _ _ _ h _ ((ze1 kk T id).mono ?_)
 rintro _ g1 ⟨⟨i,r,q1,q2,rfl⟩ | ⟨q1,rfl⟩,o1⟩
 rotate_left
 ·refine⟨_,_,_,_,_,_,_,_,_,_,_,_,_,.inr ⟨rfl,fun g15 e15=>?_⟩⟩
  obtain⟨g16,k16,n16,o16,v16⟩:=zap e15 (vs:=setC zaq) rfl
  refine⟨rfl,g16,k16,?_,o1.trans o16⟩
  unfold zcd
  simp only[q1]
  rfl
 refine⟨_,_,_,_,_,_,_,_,_,_,_,_,_,.inl ⟨rfl,fun g15 e15=>?_⟩⟩
 obtain⟨g16,k16,n16,o16,v16⟩:=zap e15 (vs:=setC r) rfl
 have w16:=v16 [] (fun c hc=>by cases hc)
 refine⟨rfl,g16,k16,?_⟩
 have hr:=List.mem_of_getElem? q2
 have hN:=R.names r hr
 cases hs:r.snap with
 | false=>
   refine .inr ⟨zae w16.1 (by simp[setC,hs]),_,zae w16.1 rfl,?_,o1.trans o16⟩
   unfold zcd
   simp[q1,q2,hs]
 | true=>
   refine .inl ⟨zae w16.1 (by simp[setC,hs]),_,zae w16.1 rfl,(ze1 kk (T.old (o1.trans o16)) r.own).mono ?_⟩
   obtain⟨⟨jv,v,m1,m2,m3⟩, -⟩:=(R.2.2.2.2 r hr).2 hs
   rintro _ g19 ⟨⟨j,x,f1,f2,rfl⟩ | ⟨f1, -⟩,o19⟩
   rotate_left
   ·rw[m1] at f1; cases f1
   have w19:=w16.old o19
   have hNv:=R.names x (List.mem_of_getElem? f2)
   refine⟨_,_,_,_,_,_,_,_,_,_,_,_,_,.inl ⟨rfl,fun g33 e33=>?_⟩⟩
   obtain⟨g34,k34,n34,o34,v34⟩:=zap e33 (vs:=setC x) rfl
   have w34:=v34 [] (fun c hc=>by cases hc)
   have h1:=hN.2.1
   have h2:=hNv.2.1
   have h3:(ByteArray.mk #[64]).size=1:=rfl
   refine⟨rfl,g34,k34,_,zae w34.1 rfl,by omega,fun s36 e36=>⟨_,zae (w19.old o34).1 rfl,?_,fun s38 e38=>⟨?_,((o1.trans o16).trans o19).trans o34⟩⟩⟩
   ·rw[e36,ByteArray.size_append]
    omega
   ·rw[e38,e36]
    unfold zcd
    simp only[q1,q2,hs,if_true,f1,f2]
    rfl
def zlb (rs:List zaj) (f:ByteArray) (v:Value):Prop:=
 (∃a b,zaX f a b∧((∃i r,lookN rs a b=some i∧rs[i]?= some r∧v=.tuple #[.agg (setC r).toArray,.int .i64 0])∨(lookN rs a b=none∧v=.tuple #[.agg (setC zaq).toArray,.int .i64 161])))∨
 ((∀a b,¬zaX f a b)∧v=.tuple #[.agg (setC zaq).toArray,.int .i64 141])
theorem zam.look0 (R:zam nx rs) {i:Nat} {v:zaj} {a:ByteArray} (h:rs[i]?= some v) (hs:v.snap=false) (hn:v.name=a):Am.plcC rs (0,a)=some i:=by
 have:=R.plcC h
 rw[show zdk v=(0,a) by simp[zdk,hs,hn]] at this
 exact this
theorem zam.look1 (R:zam nx rs) {i:Nat} {s:zaj} {o:Int} {b:ByteArray} (h:rs[i]?= some s) (hs:s.snap=true) (ho:s.own=o) (hn:s.name=b):Am.plcC rs (o,b)=some i:=by
 have:=R.plcC h
 rw[show zdk s=(o,b) by simp[zdk,hs,hn,ho]] at this
 exact this
theorem zam.calk (R:zam nx rs) {r:zaj} (hr:r∈rs) {o:Int} {b:ByteArray} (h:zdk r=(o,b)):r.name=b∧(o=0→r.snap=false)∧(o≠0→r.snap=true∧r.own=o):=by
 have e:=(R.ent hr).2.1
 unfold zdk at h
 cases hs:r.snap with
 | true=>
   rw[hs] at h
   simp at h
   exact⟨h.2,fun z=>by omega,fun _=>⟨rfl,h.1⟩⟩
 | false=>
   rw[hs] at h
   simp at h
   exact⟨h.2,fun _=>rfl,fun z=>absurd h.1.symm z⟩
theorem zds (kk:zhz K) (T:zbL h p n rs) (R:zam nx rs) (f:ByteArray) (hf:f.size≤9223372036854775806):Wf Tryz.prog K 45 [.slice p n c,.string f] h fun v h'=>zlb rs f v∧Old h h':=by
 have hn:=T.1
 have hn32:=R.2.1
 refine zeL kk.named _ _ _ _ h _ fun g0 e0=>(zgj kk.r15.r1 f hf).mono ?_
 have o0:=zab e0
 have n0:=zaa e0
 have c0:g0.get h.next=some (.cells (setC zaq) 81 false):=zaf e0
 have out:∀(g:AH) (r:zaj) (e:Int),Old g0 g→zlb rs f (.tuple #[.agg (setC r).toArray,.int .i64 e])→
  ∃g1,stN g h.next 0 (setC r)=some g1∧∃i10 s11 b12 i13 i14 i15 i16 i17 i18 i19,∃(p20:Option Addr) (n21 c22:Nat),ldN g1 h.next 0 11=some ([(.int .u64 i10),(.string s11),(.bool b12),(.int .u64 i13),(.int .u64 i14),(.int .u64 i15),(.int .i64 i16),(.int .i64 i17),(.int .u64 i18),(.int .u32 i19),(.slice p20 n21 c22)]:List Value)∧
  (zlb rs f (.tuple #[(.agg #[(.int .u64 i10),(.string s11),(.bool b12),(.int .u64 i13),(.int .u64 i14),(.int .u64 i15),(.int .i64 i16),(.int .i64 i17),(.int .u64 i18),(.int .u32 i19),(.slice p20 n21 c22)]),(.int .i64 e)])∧Old h g1):=by
  intro g r e o q
  have nr:=zak h.next g (.cells (setC r) 81 false)
  exact⟨_,zat ((o.2 _ (by omega)).trans c0) rfl,_,_,_,_,_,_,_,_,_,_,_,_,_,zah (zad _ _ _) rfl,q,by rw[nr.1]; have:=o.1; omega,fun c hc=>by rw[nr.2 c (by omega),o.2 c (by omega),o0.2 c hc]⟩
 rintro _ _ ⟨⟨a,b,hs,rfl⟩ | ⟨hs,rfl⟩,rfl⟩
 rotate_left
 ·exact⟨_,_,_,rfl,fun e=>absurd e (by decide),fun _=>⟨rfl,out g0 zaq 141 (Old.refl _) (.inr ⟨hs,rfl⟩)⟩⟩
 refine⟨_,_,_,rfl,fun _=>⟨fun i k g=>∃u:Nat,i=u∧u≤n∧n - u=k∧Old g0 g∧∀(j:Nat) x,j < u→rs[j]?= some x→¬(x.snap=false∧x.name=a)∨(b≠noB∧∀y∈rs,¬(y.snap=true∧y.own=x.id∧y.name=b)),⟨_,0,rfl,Nat.zero_le _,rfl,Old.refl _,fun j x hj=>absurd hj (Nat.not_lt_zero _)⟩,?_⟩,fun e=>absurd rfl e⟩
 rintro k7 g8 i10 ⟨u,rfl,hu,rfl,o8,hb⟩
 refine⟨fun z=>?_,fun z=>⟨rfl,out g8 zaq 161 o8 (.inl ⟨a,b,hs,.inr ⟨?_,rfl⟩⟩)⟩⟩
 ·obtain⟨b1,off,rfl,hi',hl,h1,ok⟩:=(T.old (o0.trans o8)).at (i:=u) (by omega)
  have hru:=List.getElem?_eq_getElem hi'
  generalize rs[u]=v at hl h1 ok hru
  refine zag ⟨by omega,z,_,_,_,_,_,_,_,_,_,_,_,_,_,by rw[Int.toNat_natCast]; exact hl,fun g26 e26=>?_⟩
  obtain⟨g27,k27,n27,o27,v27⟩:=zap e26 (vs:=setC v) rfl
  have w27:=v27 [] (fun c hc=>by cases hc)
  have step:∀g,Old g27 g→(¬(v.snap=false∧v.name=a)∨(b≠noB∧∀y∈rs,¬(y.snap=true∧y.own=v.id∧y.name=b)))→∀i28:Int,i28=IntKind.wrap .i64 ((u:Int)+1)→∃j9,j9 < n - u∧∃u:Nat,i28=u∧u≤n∧n - u=j9∧Old g0 g∧∀(j:Nat) x,j < u→rs[j]?= some x→¬(x.snap=false∧x.name=a)∨(b≠noB∧∀y∈rs,¬(y.snap=true∧y.own=x.id∧y.name=b)):=by
   intro g o q i28 e28
   have e28:=zcj e28 (by omega) (by omega)
   refine⟨n - (u+1),by omega,u+1,by omega,by omega,rfl,(o8.trans o27).trans o,fun j x hj hx=>?_⟩
   rcases Nat.lt_succ_iff_lt_or_eq.1 hj with hj | rfl
   ·exact hb j x hj hx
   ·rw[hru] at hx
    cases hx
    exact q
  refine⟨rfl,g27,k27,?_⟩
  cases hvs:v.snap with
  | true=>exact .inl ⟨zae w27.1 (by simp[setC,hvs]),step g27 (Old.refl _) (.inl fun q=>by rw[hvs] at q; cases q.1)⟩
  | false=>
    refine .inr ⟨zae w27.1 (by simp[setC,hvs]),_,zae w27.1 rfl,fun hva=>⟨fun hbn=>?_,fun hbn=>⟨fun i k g=>∃w:Nat,i=w∧w≤n∧n - w=k∧Old g27 g∧∀(j:Nat) y,j < w→rs[j]?= some y→¬(y.snap=true∧y.own=v.id∧y.name=b),⟨_,0,rfl,Nat.zero_le _,rfl,Old.refl _,fun j x hj=>absurd hj (Nat.not_lt_zero _)⟩,?_⟩⟩,fun hva=>step g27 (Old.refl _) (.inl fun q=>hva q.2)⟩
    ·have hbn:b=noB:=hbn
     have hl2:lookN rs a b=some u:=by
      unfold lookN
      rw[R.look0 hru hvs hva]
      simp[hbn]
     exact⟨_,_,_,_,_,_,_,_,_,_,_,_,_,zah w27.1 rfl,rfl,out g27 v 0 (o8.trans o27) (.inl ⟨a,b,hs,.inl ⟨u,v,hl2,hru,rfl⟩⟩)⟩
    ·have hbn:b≠noB:=hbn
     rintro k58 g59 i61 ⟨w,rfl,hw,rfl,o59,hb2⟩
     refine⟨fun y=>?_,fun y=>step g59 o59 (.inr ⟨hbn,fun x hx=>?_⟩)⟩
     ·obtain⟨hi2,hl2,h2,ok2⟩:=(T.old ((o0.trans o8).trans (o27.trans o59))).at' (i:=w) (by omega)
      have hrw:=List.getElem?_eq_getElem hi2
      generalize rs[w]=x at hl2 h2 ok2 hrw
      refine zag ⟨by omega,y,_,_,_,_,_,_,_,_,_,_,_,_,_,by rw[Int.toNat_natCast]; exact hl2,fun g77 e77=>?_⟩
      obtain⟨g78,k78,n78,o78,v78⟩:=zap e77 (vs:=setC x) rfl
      have w78:=v78 [] (fun c hc=>by cases hc)
      have cv:=(w27.old (o59.trans o78)).1
      have stepI:¬(x.snap=true∧x.own=v.id∧x.name=b)→∀i:Int,i=IntKind.wrap .i64 ((w:Int)+1)→∃j60,j60 < n - w∧∃w:Nat,i=w∧w≤n∧n - w=j60∧Old g27 g78∧∀(j:Nat) y,j < w→rs[j]?= some y→¬(y.snap=true∧y.own=v.id∧y.name=b):=by
       intro q i e
       have e:=zcj e (by omega) (by omega)
       refine⟨n - (w+1),by omega,w+1,by omega,by omega,rfl,o59.trans o78,fun j y hj hy=>?_⟩
       rcases Nat.lt_succ_iff_lt_or_eq.1 hj with hj | rfl
       ·exact hb2 j y hj hy
       ·rw[hrw] at hy
        cases hy
        exact q
      refine⟨rfl,g78,k78,?_⟩
      cases hxs:x.snap with
      | false=>exact .inr ⟨zae w78.1 (by simp[setC,hxs]),stepI fun q=>by rw[hxs] at q; cases q.1⟩
      | true=>
        refine .inl ⟨zae w78.1 (by simp[setC,hxs]),_,zae w78.1 rfl,_,zae cv rfl,fun ho=>⟨_,zae w78.1 rfl,fun hxb=>?_,fun hxb=>stepI fun q=>hxb q.2.2⟩,fun ho=>stepI fun q=>ho q.2.1⟩
        have hl2:lookN rs a b=some w:=by
         unfold lookN
         rw[R.look0 hru hvs hva]
         simp only
         rw[if_neg hbn]
         simp only[hru]
         exact R.look1 hrw hxs ho hxb
        exact⟨_,_,_,_,_,_,_,_,_,_,_,_,_,zah w78.1 rfl,rfl,out g78 x 0 (o8.trans (o27.trans (o59.trans o78))) (.inl ⟨a,b,hs,.inl ⟨w,x,hl2,hrw,rfl⟩⟩)⟩
     ·obtain⟨j,hj⟩:=List.mem_iff_getElem?.1 hx
      exact hb2 j x (by have:=(List.getElem?_eq_some_iff.1 hj).1; omega) hj
 ·unfold lookN
  cases e:plcC rs (0,a) with
  | none=>rfl
  | some i=>
    obtain⟨x,hx,hc⟩:=zee e
    have hxm:=List.mem_of_getElem? hx
    obtain⟨c1,c2, -⟩:=R.calk hxm hc
    rcases hb i x (by have:=(List.getElem?_eq_some_iff.1 hx).1; omega) hx with q | ⟨q1,q2⟩
    ·exact absurd ⟨c2 rfl,c1⟩ q
    ·simp only
     rw[if_neg q1]
     simp only[hx]
     cases e2:plcC rs (x.id,b) with
     | none=>rfl
     | some w=>
       obtain⟨y,hy,hcy⟩:=zee e2
       obtain⟨d1, -,d3⟩:=R.calk (List.mem_of_getElem? hy) hcy
       have:=(R.ent hxm).1.1
       obtain⟨d4,d5⟩:=d3 (by omega)
       exact absurd ⟨d4,d5,d1⟩ (q2 y (List.mem_of_getElem? hy))
end
end Go.Am
