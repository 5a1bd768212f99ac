/-
  Each operation of the abstract machine is met by the model's: append, copy, clear, conversions.
-/
import Derived.Test.YtkapnilnhoiooaaGreatAmA
import Derived.Laws.AppendOwn
import Derived.DeepKeys3
set_option linter.unusedVariables false
set_option linter.unusedSimpArgs false
namespace Go.Am
section
variable {P:Program} {φ φ' : Fi} {h h' : AH} {w w' : World}
theorem zhr {sType ty xType elem:TypeId} {i:TypeInfo} {z:Value} {base:Option Addr} {sLen sCap n:Nat} {x' : Value} {old new:List Value}
 (hu:P.underlying sType=some (.slice elem)) (hux:(∃e,P.underlying xType=some (.slice e))∨P.underlying xType=some .string) (hi:P.info? elem=some i) (hz:i.zero=some z) (hzs:z.cells.size=i.size)
 (hn:∀w2:World,(Builtin.lenOf x').run P w2=.ok n w2) (hg:sCap < sLen+n) (hb:(sLen+n) * i.bytes≤zaU) (h63:sLen+n≤9223372036854775807)
 (ho:∀w2:World,w2.heap=w.heap→(Builtin.firstCells i.size sLen (.slice base sLen sCap)).run P w2=.ok old.toArray w2)
 (hw:∀w2:World,w2.heap=w.heap→(Builtin.firstCells i.size n x').run P w2=.ok new.toArray w2):
 ∃cap C,sLen+n≤cap∧cap < zar∧(∃post,C.toList=(old ++ new) ++ post∧post.length=(cap - (sLen+n)) * i.size)∧
  (Builtin.append_ #[sType,xType] ty #[.slice base sLen sCap,x']).run P w=.ok (.slice (some ⟨w.heap.size,0,none⟩) (sLen+n) cap) { w with heap:=w.heap.push (.cells C elem),drawn:=w.drawn+1 }:=by
 have hnext:Builtin.nextslicecap (sLen+n) sCap * i.bytes≤281474976710656:=growslice_fits (by omega) hb
 refine⟨grownCap w (sLen+n) sCap elem,old.toArray ++ (new.toArray ++ Builtin.zeroCells z.cells (grownCap w (sLen+n) sCap elem - (sLen+n))),grownCap_ge _ _ _ _,?_,⟨(Builtin.zeroCells z.cells (grownCap w (sLen+n) sCap elem - (sLen+n))).toList,by simp,?_⟩,?_⟩
 ·have:=grownCap_le_maxLen w (sLen+n) sCap elem (by simp only[maxLen]; omega)
  simp only[maxLen] at this
  simp only[zar]
  omega
 ·simp[Builtin.zeroCells,hzs]
 ·have e1:¬(sLen+n≤sCap):=by omega
  have e2:¬(281474976710656 < Builtin.nextslicecap (sLen+n) sCap * i.bytes):=by omega
  have e3:¬(9223372036854775807 < (sLen:Int)+(n:Int)):=by omega
  have hw1:=hw w.drew rfl
  have ho1:=ho w.drew rfl
  rcases hux with ⟨ex,hux1⟩ | hux1
  ·simp[Builtin.append_,zac hu,zac hux1,sizeOf,typeInfo,hi,hn,e1,e2,e3,hw1,ho1,zeroValue,hz,newRow,grownCap,Question.forced]
   rfl
  ·simp[Builtin.append_,zac hu,zac hux1,sizeOf,typeInfo,hi,hn,e1,e2,e3,hw1,ho1,zeroValue,hz,newRow,grownCap,Question.forced]
   rfl
theorem zcU {sType ty xType elem:TypeId} {i:TypeInfo} {base:Option Addr} {sLen sCap n:Nat} {x' : Value} {new:List Value}
 (hu:P.underlying sType=some (.slice elem)) (hux:(∃e,P.underlying xType=some (.slice e))∨P.underlying xType=some .string) (hi:P.info? elem=some i)
 (hn:∀w2:World,(Builtin.lenOf x').run P w2=.ok n w2) (hg:sLen+n≤sCap)
 (hw:∀w2:World,w2.heap=w.heap→(Builtin.firstCells i.size n x').run P w2=.ok new.toArray w2) {w1:World}
 (hs:∀a,base=some a→(storeCells (a.add (sLen * i.size)) new).run P w=.ok () w1) (hb:base=none→w1=w):
 (Builtin.append_ #[sType,xType] ty #[.slice base sLen sCap,x']).run P w=.ok (.slice base (sLen+n) sCap) w1:=by
 cases base with
 | none=>
   obtain rfl:=hb rfl
   rcases hux with ⟨ex,hux1⟩ | hux1
   ·simp[Builtin.append_,zac hu,zac hux1,sizeOf,typeInfo,hi,hn,hg,hw w1 rfl]
   ·simp[Builtin.append_,zac hu,zac hux1,sizeOf,typeInfo,hi,hn,hg,hw w1 rfl]
 | some a=>
   have:=hs a rfl
   rcases hux with ⟨ex,hux1⟩ | hux1
   ·simp[Builtin.append_,zac hu,zac hux1,sizeOf,typeInfo,hi,hn,hg,hw w rfl,this]
   ·simp[Builtin.append_,zac hu,zac hux1,sizeOf,typeInfo,hi,hn,hg,hw w rfl,this]
theorem Tn.regrow (r:R P φ h w) {b:Nat} {cs cs2:List Value} {e:TypeId} {rc:Rec} {sh:Nat} {C2:Array Value} {m2:Nat×Nat} (hb:h.get b=some (.cells cs e false)) (hφ:φ b=some rc) (hf:φ h.next=none)
 (hC2:C2.size=rc.total) (hs2:∃pre mid post,C2.toList=pre ++ mid ++ post∧pre.length=sh∧LR φ cs2 mid) (hm:NF m2 rc.total) (hes:rc.esz=P.cellsOf e):
 ∃φ',φ' h.next=some { rc with shift:=sh }∧Le φ φ'∧Tn P φ h w φ' ((h.del b).alloc (.cells cs2 e false)) { w with heap:=w.heap.setIfInBounds rc.blk (.cells C2 e m2),drawn:=w.drawn+0 }:=by
 obtain⟨O,hO,_⟩:=r.obj b _ rc hb hφ
 have hlt:rc.blk < w.heap.size:=(Array.getElem?_eq_some_iff.1 hO).1
 have hbn:b < h.next:=r.lt b _ hb
 have hle:Le φ (fun c=>if c=h.next then some { rc with shift:=sh } else φ c):=by
  intro c q k
  by_cases hc:c=h.next
  ·subst hc; rw[hf] at k; simp at k
  ·simp[hc,k]
 have hget:∀c o,((h.del b).alloc (.cells cs2 e false)).get c=some o→(c=h.next∧o=.cells cs2 e false)∨(c≠h.next∧c≠b∧h.get c=some o):=by
  intro c o k
  rw[AH.get_alloc,AH.get_del] at k
  simp only[AH.next_del] at k
  by_cases hc:c=h.next
  ·simp only[hc,if_true,Option.some.injEq] at k
   exact .inl ⟨hc,k.symm⟩
  ·simp only[hc,if_false] at k
   by_cases hcb:c=b
   ·simp[hcb] at k
   ·simp only[hcb,if_false] at k
    exact .inr ⟨hc,hcb,k⟩
 have hne:∀c o q,c≠b→h.get c=some o→φ c=some q→q.blk≠rc.blk:=fun c o q hcb h1 h2 e=>(r.inj c b o _ q rc h1 hb h2 hφ e).elim hcb (fun q=>Bool.noConfusion q.2)
 refine⟨fun c=>if c=h.next then some { rc with shift:=sh } else φ c,by simp,hle,hle,?_,by simp,⟨?_,?_,?_⟩,by simp,rfl,rfl,rfl,?_,?_⟩
 ·intro c k
  by_cases hc:c=h.next
  ·exact .inr ⟨by omega,by simp[hc]⟩
  ·exact .inl (by simpa[hc] using k)
 ·intro c o q k1 k2
  rcases hget c o k1 with ⟨hc,rfl⟩ | ⟨hc,hcb,k1⟩
  ·simp only[hc,if_true,Option.some.injEq] at k2
   subst k2
   obtain⟨pre,mid,post,g1,g2,g3⟩:=hs2
   exact⟨.cells C2 e m2,by simp[hlt],rfl,hes,hC2,⟨pre,mid,post,g1,g2,g3.mono hle⟩,fun _=>hm⟩
  ·simp only[hc,if_false] at k2
   obtain⟨O',hO',hr⟩:=r.obj c o q k1 k2
   refine⟨O',?_,hr.mono hle⟩
   simp only[Array.getElem?_setIfInBounds_ne (Ne.symm (hne c o q hcb k1 k2))]
   exact hO'
 ·intro c1 c2 o1 o2 q1 q2 h1 h2 k1 k2 e'
  rcases hget c1 o1 h1 with ⟨hc1,rfl⟩ | ⟨hc1,hcb1,h1⟩ <;> rcases hget c2 o2 h2 with ⟨hc2,rfl⟩ | ⟨hc2,hcb2,h2⟩
  ·exact .inl (by omega)
  ·simp only[hc1,hc2,if_true,if_false,Option.some.injEq] at k1 k2
   subst k1
   exact absurd e'.symm (hne c2 o2 q2 hcb2 h2 k2)
  ·simp only[hc1,hc2,if_true,if_false,Option.some.injEq] at k1 k2
   subst k2
   exact absurd e' (hne c1 o1 q1 hcb1 h1 k1)
  ·simp only[hc1,hc2,if_false] at k1 k2
   exact r.inj c1 c2 o1 o2 q1 q2 h1 h2 k1 k2 e'
 ·intro c o k1
  rcases hget c o k1 with ⟨hc,_⟩ | ⟨_,_,k1⟩
  ·simp[hc]
  ·have:=r.lt c o k1; simp; omega
 ·intro c hc hno
  have:rc.blk≠c:=fun k=>hno ⟨b,_,rc,hb,hφ,k,rfl⟩
  simp only[Array.getElem?_setIfInBounds_ne this]
 ·intro c' o' q' k1 k2 _
  rcases hget c' o' k1 with ⟨hc',rfl⟩ | ⟨hc',_,k1⟩
  ·simp only[hc',if_true,Option.some.injEq] at k2
   subst k2
   exact⟨b,_,rc,hb,hφ,rfl,fun _=>rfl⟩
  ·simp only[hc',if_false] at k2
   exact⟨c',o',q',k1,k2,rfl,id⟩
theorem znm {g:Nat} {cur:Array Value} {t:TypeId} {m:Nat×Nat} (hg:w.heap[g]?= some (.cells cur t m)):{ w with heap:=w.heap.setIfInBounds g (.cells cur t m),drawn:=w.drawn+0 }= w:=by
 have:=setRow_self w g cur t m hg
 rw[zih hg] at this
 exact this
theorem zlG (r:R P φ h w) {sType xType ty:TypeId} {xInt:Bool} {s s' x x' v:Value} {h' : AH}
 (hs:zcS P h sType xInt s x=some (v,h')) (hx0:xInt=false→(∃e,P.underlying xType=some (.slice e))∨P.underlying xType=some .string) (hv:VR φ s s') (hx:VR φ x x') (hf:h.next < h'.next→φ h.next=none):
 zg0 P φ h w (Builtin.append_ #[sType,xType] ty #[s',x']) v h':=by
 unfold zcS at hs
 split at hs
 rotate_left
 ·simp at hs
 rename_i elem base sLen sCap hu
 have hux:=hx0 rfl
 split at hs
 rotate_left
 ·simp at hs
 rename_i i n hi hn
 split at hs
 rotate_left
 ·simp at hs
 rename_i old new z hold hnew hz
 split at hs
 rotate_left
 ·simp at hs
 rename_i hcond
 obtain⟨hzs,hpos,hnl,hol⟩:=hcond
 obtain⟨news,hnr,hnrun⟩:=zdB (P:=P) r hx hnew
 have hlenx:=fun w2=>zom (P:=P) hx hn w2
 have hnl':=hnr.length
 split at hs
 ·
  rename_i hcap
  subst hcap
  split at hs
  rotate_left
  ·simp at hs
  rename_i b off
  split at hs
  rotate_left
  ·simp at hs
  rename_i cs e hb
  split at hs
  rotate_left
  ·simp at hs
  rename_i hc2
  obtain⟨rfl,hroom,h63⟩:=hc2
  simp only[Option.some.injEq,Prod.mk.injEq] at hs
  obtain⟨rfl,rfl⟩:=hs
  have hf0:=hf (by simp)
  obtain⟨olds,hor,horun⟩:=zdB (P:=P) r hv hold
  have hol':=hor.length
  have hcell:P.cellsOf e=i.size:=by simp[Program.cellsOf,hi]
  have grow:∀(base' : Option Addr) (c' : Nat),s'= .slice base' sLen c'→c' < sLen+n→zg0 P φ h w (Builtin.append_ #[sType,xType] ty #[s',x']) (.slice (some ⟨h.next,0,none⟩) (sLen+n) zar) ((h.del b).alloc (.cells (old ++ new) e false)):=by
   intro base' c' hs' hlt
   subst hs'
   obtain⟨cap,C,g1,g2,⟨post,g3,g3'⟩,g4⟩:=zhr (ty:=ty) hu hux hi hz hzs hlenx hlt hroom h63 horun hnrun
   have t1:=Tn.del (P:=P) r b
   obtain⟨φ',k1,k2⟩:=zbD (P:=P) (e:=e) (C:=C) t1.rel (by simpa using hf0) (hor.append hnr) ⟨post,g3⟩ 1
   simp only[AH.next_del] at k1
   refine⟨φ',_,_,g4,?_,t1.trans k2⟩
   have:=VR.sliceO (φ:=φ') (off:=0) (n:=sLen+n) (c:=cap) k1 g2 g1 (by
    simp only[hcell,Nat.zero_add]
    rw[←Array.length_toList,g3]
    simp only[List.length_append,g3',←hol',←hnl',hol,hnl,←Nat.add_mul]
    congr 1
    omega)
   simpa using this
  cases hv with
  | slice hφ hc=>exact absurd hc (by simp[zar])
  | sliceO hφ hc hsn ht=>
    rename_i c' rc
    rcases Nat.lt_or_ge c' (sLen+n) with hlt | hge
    ·exact grow _ _ rfl hlt
    ·obtain⟨C,m,pre,mid,post,ho,hes,htot,hC,hsh,hlr,hnf⟩:=r.cells hb hφ
     rw[hes,hcell] at ht
     have hsz:C.size=pre.length+mid.length+post.length:=by rw[←Array.length_toList,hC]; simp; omega
     have hmul:(sLen+n) * i.size≤c' * i.size:=Nat.mul_le_mul_right _ hge
     rw[Nat.add_mul] at hmul
     have hrun:=zdp (P:=P) rc.blk (rc.shift+off+sLen * i.size) e m news 0 C w ho (by rw[htot]; exact hnf rfl) (by rw[←hnl',hnl,htot]; omega) hnr.one
     rw[zih ho] at hrun
     have holds:olds=(mid.drop off).take (sLen * i.size)∨sLen * i.size=0:=by
      by_cases h0:sLen * i.size=0
      ·exact .inr h0
      ·left
       have hr0:=horun w rfl
       simp only[Builtin.firstCells] at hr0
       have hle:off+sLen * i.size≤cs.length:=by
        simp only[firstC] at hold
        split at hold
        ·rename_i q; exact absurd q h0
        ·rw[hb] at hold
         simp only at hold
         split at hold
         ·rename_i q; exact q.2
         ·simp at hold
       rw[zd6 ho hC hsh (by rw[←hlr.length]; exact hle)] at hr0
       simp only[Result.ok.injEq,and_true] at hr0
       have:=congrArg Array.toList hr0
       simpa using this.symm
     have hmidlen:=hlr.length
     have hsplit:∃pre' post',(C.toList.take (rc.shift+off+sLen * i.size+0) ++ news ++ C.toList.drop (rc.shift+off+sLen * i.size+0+news.length)).toArray.toList=pre' ++ (olds ++ news) ++ post'∧pre'.length=rc.shift+off:=by
      refine⟨C.toList.take (rc.shift+off),C.toList.drop (rc.shift+off+sLen * i.size+news.length),?_,by simp; omega⟩
      have e1:C.toList.take (rc.shift+off+sLen * i.size)=C.toList.take (rc.shift+off) ++ olds:=by
       rcases holds with q | q
       ·rw[q,List.take_add]
        congr 1
        have hle:off+sLen * i.size≤mid.length∨sLen * i.size=0:=by
         rcases Nat.eq_zero_or_pos (sLen * i.size) with k | k
         ·exact .inr k
         ·left
          have:olds.length=sLen * i.size:=by rw[←hol',hol]
          rw[q] at this
          simp at this
          omega
        rcases hle with hle | hle
        ·rw[hC,List.append_assoc,List.drop_append,List.drop_of_length_le (by omega),List.nil_append,List.drop_append,List.take_append]
         have z1:rc.shift+off - pre.length=off:=by omega
         rw[z1]
         have z2:sLen * i.size - (mid.drop off).length=0:=by simp; omega
         rw[z2,List.take_zero,List.append_nil]
        ·rw[hle]; simp
       ·have:olds=[]:=List.eq_nil_of_length_eq_zero (by rw[←hol',hol,q])
        rw[q,this]; simp
      simp[e1]
     obtain⟨pre',post',s1,s2⟩:=hsplit
     obtain⟨φ',k1,k2,k3⟩:=Tn.regrow (P:=P) (cs2:=old ++ new) (sh:=rc.shift+off) (C2:=(C.toList.take (rc.shift+off+sLen * i.size+0) ++ news ++ C.toList.drop (rc.shift+off+sLen * i.size+0+news.length)).toArray) (m2:=m) r hb hφ hf0
      (by have:=hnl'; simp; omega) ⟨pre',olds ++ news,post',s1,s2,hor.append hnr⟩ (hnf rfl) hes
     have hap:=zcU (w:=w) (ty:=ty) (base:=some ⟨rc.blk,rc.shift+off,none⟩) hu hux hi hlenx hge hnrun (w1:=_) (fun a ha=>by
      simp only[Option.some.injEq] at ha
      subst ha
      rw[zbe]
      exact hrun) (fun k=>by simp at k)
     refine⟨φ',_,_,hap,?_,k3⟩
     have:=VR.sliceO (φ:=φ') (off:=0) (n:=sLen+n) (c:=c') k1 hc hge (by simp only[hes,hcell]; omega)
     simpa using this
  | sliceE hφ ha'=>
    rename_i a' rc
    rcases Nat.eq_zero_or_pos n with hn0 | hn0
    ·subst hn0
     obtain⟨C,m,pre,mid,post,ho,hes,htot,hC,hsh,hlr,hnf⟩:=r.cells hb hφ
     have hnews:news=[]:=List.eq_nil_of_length_eq_zero (by rw[←hnl',hnl]; simp)
     have holds:old=[]:=List.eq_nil_of_length_eq_zero (by rw[hol]; simp)
     have hnew0:new=[]:=List.eq_nil_of_length_eq_zero (by rw[hnl]; simp)
     subst hnews holds hnew0
     obtain⟨φ',k1,k2,k3⟩:=Tn.regrow (P:=P) (cs2:=[]) (sh:=rc.shift) (C2:=C) (m2:=m) r hb hφ hf0 htot ⟨pre,[],mid ++ post,by rw[hC]; simp,hsh,trivial⟩ (hnf rfl) hes
     rw[znm ho] at k3
     have hap:=zcU (w:=w) (ty:=ty) (base:=some a') (sLen:=0) (sCap:=0) hu hux hi hlenx (Nat.le_refl _) hnrun (w1:=w) (fun a ha=>rfl) (fun k=>rfl)
     exact⟨φ',_,_,hap,VR.sliceE (φ:=φ') k1 (ha'.elim .inl (fun z=>absurd htot (by simp only[←Array.length_toList,hC,List.length_append]; omega))),k3⟩
    ·exact grow _ _ rfl (by omega)
 ·split at hs
  ·
   rename_i hncap hle
   split at hs
   ·rename_i b off
    split at hs
    ·rename_i n hn0
     simp only[Option.some.injEq,Prod.mk.injEq] at hs
     obtain⟨rfl,rfl⟩:=hs
     have hnews:news=[]:=List.eq_nil_of_length_eq_zero (by rw[←hnl',hnl]; simp)
     subst hnews
     have gen:∀base',s'= .slice base' sLen sCap→zg0 P φ h w (Builtin.append_ #[sType,xType] ty #[s',x']) (.slice (some ⟨b,off,none⟩) sLen sCap) h:=by
      intro base' hs'
      have hv0:=hv
      subst hs'
      have hap:=zcU (w:=w) (ty:=ty) (base:=base') (sLen:=sLen) (sCap:=sCap) hu hux hi hlenx hle hnrun (w1:=w) (fun a ha=>rfl) (fun k=>rfl)
      exact⟨φ,_,_,hap,hv0,Tn.refl r⟩
     cases hv with
     | slice hφ hc=>exact gen _ rfl
     | sliceO=>exact absurd rfl hncap
     | sliceE=>exact absurd rfl hncap
    ·rename_i n0 n hn0
     split at hs
     rotate_left
     ·simp at hs
     rename_i h2 hst
     simp only[Option.some.injEq,Prod.mk.injEq] at hs
     obtain⟨rfl,rfl⟩:=hs
     cases hv with
     | sliceO=>exact absurd rfl hncap
     | sliceE=>exact absurd rfl hncap
     | slice hφ hc=>
       rename_i rc
       obtain⟨w1,k1,k2⟩:=zbV (P:=P) r hst hφ hnr
       have hap:=zcU (w:=w) (ty:=ty) (base:=some ⟨rc.blk,rc.shift+off,none⟩) (sLen:=sLen) (sCap:=sCap) hu hux hi hlenx hle hnrun (w1:=w1) (fun a ha=>by
        simp only[Option.some.injEq] at ha
        subst ha
        rw[zbe,Nat.add_assoc]
        exact k1) (fun k=>by simp at k)
       exact⟨φ,_,_,hap,.slice hφ hc,k2⟩
   ·simp only[Option.some.injEq,Prod.mk.injEq] at hs
    obtain⟨rfl,rfl⟩:=hs
    cases hv with
    | sliceNil _ _ hc=>
      have hap:=zcU (w:=w) (ty:=ty) (base:=none) (sLen:=sLen) (sCap:=sCap) hu hux hi hlenx hle hnrun (w1:=w) (fun a ha=>by simp at ha) (fun k=>rfl)
      exact⟨φ,_,_,hap,.sliceNil _ _ hc,Tn.refl r⟩
   ·simp at hs
  ·split at hs
   rotate_left
   ·simp at hs
   rename_i hncap hnle hc2
   obtain⟨hsl,hroom,h63⟩:=hc2
   simp only[Option.some.injEq,Prod.mk.injEq] at hs
   obtain⟨rfl,rfl⟩:=hs
   have hf0:=hf (by simp)
   obtain⟨olds,hor,horun⟩:=zdB (P:=P) r hv hold
   have hol':=hor.length
   have hcell:P.cellsOf elem=i.size:=by simp[Program.cellsOf,hi]
   have grow:∀(base' : Option Addr),s'= .slice base' sLen sCap→zg0 P φ h w (Builtin.append_ #[sType,xType] ty #[s',x']) (.slice (some ⟨h.next,0,none⟩) (sLen+n) zar) (h.alloc (.cells (old ++ new) elem false)):=by
    intro base' hs'
    subst hs'
    obtain⟨cap,C,g1,g2,⟨post,g3,g3'⟩,g4⟩:=zhr (ty:=ty) hu hux hi hz hzs hlenx (by omega) hroom h63 horun hnrun
    obtain⟨φ',k1,k2⟩:=zbD (P:=P) (e:=elem) (C:=C) r hf0 (hor.append hnr) ⟨post,g3⟩ 1
    refine⟨φ',_,_,g4,?_,k2⟩
    have:=VR.sliceO (φ:=φ') (off:=0) (n:=sLen+n) (c:=cap) k1 g2 g1 (by
     simp only[hcell,Nat.zero_add]
     rw[←Array.length_toList,g3]
     simp only[List.length_append,g3',←hol',←hnl',hol,hnl,←Nat.add_mul]
     congr 1
     omega)
    simpa using this
   cases hv with
   | slice hφ hc=>exact grow _ rfl
   | sliceNil _ _ hc=>exact grow _ rfl
   | sliceO=>exact absurd rfl hncap
   | sliceE=>exact absurd rfl hncap
theorem zks (G:zd7 P) (r:R P φ h w) {sType xType ty:TypeId} {s s' x x' v:Value} {h' : AH} (hs:zhQ P h sType xType s x=some (v,h')) (hv:VR φ s s') (hx:VR φ x x') (hf:h.next < h'.next→φ h.next=none):
 zg0 P φ h w (Builtin.append_ #[sType,xType] ty #[s',x']) v h':=by
 unfold zhQ at hs
 split at hs
 rotate_left
 ·simp at hs
 rename_i elem k0 k l hu hux
 split at hs
 rotate_left
 ·simp at hs
 rename_i i z hi hz
 split at hs
 rotate_left
 ·simp at hs
 rename_i hc
 obtain⟨hzl,hpos,hl0,hroom,hl1⟩:=hc
 simp only[Option.some.injEq,Prod.mk.injEq] at hs
 obtain⟨rfl,rfl⟩:=hs
 have hf0:=hf (by simp)
 cases hv
 cases hx
 obtain⟨n,rfl⟩:=Int.eq_ofNat_of_zero_le (Int.le_of_lt hl0)
 simp only[Int.toNat_natCast] at *
 have hzi:∃z0,i.zero=some z0∧z=z0.cells.toList:=by
  unfold zas at hz
  cases hb:Nat.blt elem P.types.size with
  | false=>rw[hb] at hz; simp at hz
  | true=>
    rw[hb] at hz
    simp only[cond_true,hi] at hz
    split at hz
    ·simp at hz
    ·rename_i z0 hne hz0
     simp only[Option.some.injEq] at hz
     exact⟨z0,hz0,hz.symm⟩
    ·simp at hz
 obtain⟨z0,hz0,rfl⟩:=hzi
 have hzs:z0.cells.size=i.size:=by simpa using hzl
 have hn0:0 < n:=by omega
 have hnz:n * i.size≠0:=Nat.ne_of_gt (Nat.mul_pos hn0 hpos)
 have hnext:Builtin.nextslicecap (0+n) 0 * i.bytes≤281474976710656:=growslice_fits (by omega) (by rw[Nat.zero_add]; exact hroom)
 have e2:¬(281474976710656 < Builtin.nextslicecap n 0 * i.bytes):=by
  rw[Nat.zero_add] at hnext
  omega
 have hw:IntKind.i64.wrap (n:Int)=n:=by
  simp[IntKind.wrap,IntKind.bits,IntKind.signed]
  omega
 have hb:¬(281474976710656 < (n:Int) * (i.bytes:Int)):=by
  have h1:n * i.bytes≤140737488355328:=hroom
  rw[←Int.natCast_mul]
  generalize n * i.bytes=q at h1 ⊢
  omega
 have hn1:¬((n:Int) < 0):=by omega
 have hn2:¬(n=0):=by omega
 have e3:¬(9223372036854775807 < (n:Int)):=by omega
 let cap:=grownCap w n 0 elem
 have hge:n≤cap:=grownCap_ge _ _ _ _
 have hle:cap < zar:=by
  have:=grownCap_le_maxLen w n 0 elem (by simp only[maxLen]; omega)
  simp only[maxLen] at this
  simp only[zar,cap]
  omega
 let C:Array Value:=Builtin.zeroCells z0.cells n ++ Builtin.zeroCells z0.cells (cap - n)
 have hrun:(Builtin.append_ #[sType,xType] ty #[.slice none 0 0,.int k (n:Int)]).run P w=.ok (.slice (some ⟨w.heap.size,0,none⟩) n cap) { w with heap:=w.heap.push (.cells C elem),drawn:=w.drawn+1 }:=by
  simp[Builtin.append_,zac hu,zac hux,sizeOf,typeInfo,hi,hw,hb,hn1,hn2,e2,e3,hnz,asInt,asIntOf,Builtin.firstCells,zeroValue,hz0,newRow,grownCap,Question.forced]
  exact⟨rfl,rfl⟩
 obtain⟨φ',k1,k2⟩:=zbD (P:=P) (e:=elem) (C:=C) r hf0 ((zbE (φ:=φ) G hz).replicate n) ⟨(Builtin.zeroCells z0.cells (cap - n)).toList,by
  simp only[C,Array.toList_append]
  congr 1
  exact zhR rfl⟩ 1
 refine⟨φ',_,_,hrun,?_,k2⟩
 have hcell:P.cellsOf elem=i.size:=by simp[Program.cellsOf,hi]
 have:=VR.sliceO (φ:=φ') (off:=0) (n:=n) (c:=cap) k1 hle hge (by
  simp only[hcell,Nat.zero_add,C]
  simp[Builtin.zeroCells,hzs]
  rw[←Nat.add_mul]
  congr 1
  omega)
 simpa using this
end
section
variable {P:Program} {φ φ' : Fi} {h h' : AH} {w w' : World}
theorem zg0.same {S:Sem Value} {v v' : Value} (r:R P φ h w) (hr:S.run P w=.ok v' w) (hv:VR φ v v'):zg0 P φ h w S v h:=⟨φ,v',w,hr,hv,Tn.refl r⟩
theorem zph (r:R P φ h w) {dType ty:TypeId} {ats:Array TypeId} {d d' s s' v:Value} {h' : AH} (hs:zne P h dType d s=some (v,h')) (hd:VR φ d d') (hsr:VR φ s s') (hat:ats[0]?= some dType):
 zg0 P φ h w (Builtin.copy_ ats ty #[d',s']) v h':=by
 unfold zne at hs
 split at hs
 rotate_left
 ·simp at hs
 rename_i elem base dLen c0 hu
 split at hs
 rotate_left
 ·simp at hs
 rename_i i sl hi hl
 split at hs
 rotate_left
 ·simp at hs
 rename_i cells hc
 obtain⟨ds,hlr,hrun⟩:=zdB (P:=P) r hsr hc
 have hlen:=zom (P:=P) hsr hl
 have hcell:P.cellsOf elem=i.size:=by simp[Program.cellsOf,hi]
 have hsz:=fun w=>zaz (P:=P) (t:=elem) (show (P.info? elem).isSome=true by simp[hi]) w
 rw[hcell] at hsz
 have hat' : ats.toList[0]?= some dType:=by simpa using hat
 split at hs
 ·simp only[Option.some.injEq,Prod.mk.injEq] at hs
  obtain⟨rfl,rfl⟩:=hs
  cases hd
  refine zg0.same r ?_ (.int _ _)
  simp[Builtin.copy_,hat,zac hu,hlen,hsz,hrun w rfl,goInt]
 ·simp only[Option.some.injEq,Prod.mk.injEq] at hs
  obtain⟨rfl,rfl⟩:=hs
  have hds:ds=[]:=by cases ds <;> first | rfl | exact absurd hlr (by simp[LR])
  subst hds
  have hr0:=hrun w rfl
  cases hd with
  | slice=>
    refine zg0.same r ?_ (.int _ _)
    simp[Builtin.copy_,hat,zac hu,hlen,hsz,hr0,goInt,storeCells]
  | sliceO=>
    refine zg0.same r ?_ (.int _ _)
    simp[Builtin.copy_,hat,zac hu,hlen,hsz,hr0,goInt,storeCells]
  | sliceE=>
    refine zg0.same r ?_ (.int _ _)
    rw[show sl.min 0=0 from Nat.min_zero sl] at hr0
    simp[Builtin.copy_,hat,zac hu,hlen,hsz,hr0,goInt,storeCells]
 ·rename_i b off c cs
  split at hs
  ·simp at hs
  rename_i hdl
  split at hs
  rotate_left
  ·simp at hs
  rename_i h2 hst
  simp only[Option.some.injEq,Prod.mk.injEq] at hs
  obtain⟨rfl,rfl⟩:=hs
  have gen:∀rc c1,φ b=some rc→d'= .slice (some ⟨rc.blk,rc.shift+off,none⟩) dLen c1→zg0 P φ h w (Builtin.copy_ ats ty #[d',s']) (.int .i64 ↑(sl.min dLen)) h2:=by
   intro rc c1 hφ hd'
   subst hd'
   obtain⟨w1,k1,k2⟩:=zbV (P:=P) r hst hφ hlr
   refine⟨φ,_,w1,?_,.int _ _,k2⟩
   simp[Builtin.copy_,hat,zac hu,hlen,hsz,hrun w rfl,goInt,k1]
  cases hd with
  | slice hφ _=>exact gen _ _ hφ rfl
  | sliceO hφ _ _ _=>exact gen _ _ hφ rfl
  | sliceE hφ=>exact absurd rfl hdl
 ·simp at hs
theorem znn (G:zd7 P) (r:R P φ h w) {t ty:TypeId} {x x' v:Value} {h' : AH} {ats:Array TypeId} (hs:zid P h t x=some (v,h')) (hx:VR φ x x') (hat:ats[0]?= some t):
 zg0 P φ h w (Builtin.clear_ ats ty #[x']) v h':=by
 unfold zid at hs
 split at hs
 ·rename_i elem b off n c0 hu
  split at hs
  rotate_left
  ·simp at hs
  rename_i zs hz
  split at hs
  rotate_left
  ·simp at hs
  rename_i hzl
  split at hs
  rotate_left
  ·simp at hs
  rename_i h2 hst
  simp only[Option.some.injEq,Prod.mk.injEq] at hs
  obtain⟨rfl,rfl⟩:=hs
  obtain⟨i,z,hi,hz',rfl,hne⟩:=za9 hz
  have gen:∀rc c1,φ b=some rc→x'= .slice (some ⟨rc.blk,rc.shift+off,none⟩) (n+1) c1→zg0 P φ h w (Builtin.clear_ ats ty #[x']) undef h2:=by
   intro rc c1 hφ hx'
   subst hx'
   obtain⟨w1,k1,k2⟩:=zbV (P:=P) r hst hφ ((zbE (φ:=φ) G hz).replicate (n+1))
   refine⟨φ,.tuple #[],w1,?_,.junk _,k2⟩
   have e:(Builtin.zeroCells z.cells (n+1)).toList=(List.replicate (n+1) z.cells.toList).flatten:=zhR rfl
   simp[Builtin.clear_,hat,zac hu,zd5 hi hz',e,k1]
  cases hx with
  | slice hφ _=>exact gen _ _ hφ rfl
  | sliceO hφ _ _ _=>exact gen _ _ hφ rfl
 ·rename_i e base c hne hu
  simp only[Option.some.injEq,Prod.mk.injEq] at hs
  obtain⟨rfl,rfl⟩:=hs
  refine⟨φ,.tuple #[],w,?_,.junk _,Tn.refl r⟩
  cases hx <;> simp[Builtin.clear_,hat,zac hu]
 ·rename_i e n c hne hu
  simp only[Option.some.injEq,Prod.mk.injEq] at hs
  obtain⟨rfl,rfl⟩:=hs
  refine⟨φ,.tuple #[],w,?_,.junk _,Tn.refl r⟩
  cases hx
  simp[Builtin.clear_,hat,zac hu]
 ·simp at hs
theorem zlH (msg : String):∀(cs:List Value) (bs:List UInt8) (acc:ByteArray),za3 cs=some bs→∀(w:World),
 (forIn (m:=Sem) cs acc (fun c s=>match c with
   | .int .u8 n=>pure (ForInStep.yield (s.push (UInt8.ofNat n.toNat)))
   | _=>do
     stuck msg
     pure (ForInStep.yield s))).run P w=.ok (⟨acc.data ++ bs.toArray⟩:ByteArray) w
 | [],bs,acc,hb,w=>by
   simp only[za3,Option.some.injEq] at hb
   subst hb
   simp
 | c :: cs,bs,acc,hb,w=>by
   unfold za3 at hb
   split at hb
   ·rename_i hcs; simp at hcs
   ·rename_i n r hcs
    simp only[List.cons.injEq] at hcs
    obtain⟨rfl,rfl⟩:=hcs
    cases hr:za3 cs with
    | none=>simp[hr] at hb
    | some bs2=>
      simp only[hr,Option.map_some,Option.some.injEq] at hb
      subst hb
      have ih:=zlH msg cs bs2 (acc.push (UInt8.ofNat n.toNat)) hr w
      simp only[List.forIn_cons,Sem.run_bind,Sem.run_pure,Result.andThen_ok]
      rw[ih]
      congr 2
      apply Array.ext'
      simp[ByteArray.push]
   ·simp at hb
theorem zoo:∀{cs ds:List Value} {bs:List UInt8},LR φ cs ds→za3 cs=some bs→ds=cs
 | [],[],_,_,_=>rfl
 | c :: cs,d :: ds,bs,r,hb=>by
   unfold za3 at hb
   split at hb
   ·rename_i hcs; simp at hcs
   ·rename_i n rr hcs
    simp only[List.cons.injEq] at hcs
    obtain⟨rfl,rfl⟩:=hcs
    cases hr:za3 cs with
    | none=>simp[hr] at hb
    | some bs2=>
      have:=zoo r.2.2 hr
      subst this
      obtain⟨h1,_,_⟩:=r
      cases h1
      rfl
   ·simp at hb
theorem zkt (r:R P φ h w) {src dst:TypeId} {x x' v:Value} {h' : AH} (hs:zby P h src dst x=some (v,h')) (hx:VR φ x x') (hf:h.next < h'.next→φ h.next=none):
 zg0 P φ h w (convert src dst x') v h':=by
 unfold zby at hs
 split at hs
 ·rename_i k1 k k0 n hu1 hu2
  simp only[Option.some.injEq,Prod.mk.injEq] at hs
  obtain⟨rfl,rfl⟩:=hs
  cases hx
  refine zg0.same r ?_ (.int _ _)
  simp[convert,zac hu1,zac hu2,Conv.intToInt]
 ·rename_i s hu1 hu2
  simp only[Option.some.injEq,Prod.mk.injEq] at hs
  obtain⟨rfl,rfl⟩:=hs
  cases hx
  refine zg0.same r ?_ (.string _)
  simp[convert,zac hu1,zac hu2]
 ·rename_i e s hu1 hu2
  split at hs
  ·rename_i hue
   split at hs
   ·rename_i hsz
    simp only[Option.some.injEq,Prod.mk.injEq] at hs
    obtain⟨rfl,rfl⟩:=hs
    have hf0:=hf (by simp)
    cases hx
    have hcap:∀t:Nat,s.size≤s.size+t % (2 ^ 63 - s.size):=fun t=>Nat.le_add_right _ _
    have hmod:=Nat.mod_lt (w.tape w.drawn (.appendCap s.size 0 e)) (show 0 < 2 ^ 63 - s.size by have:=hsz.1; simp only[zaU] at this; omega)
    generalize hq:s.size+w.tape w.drawn (.appendCap s.size 0 e) % (2 ^ 63 - s.size)=cap at *
    have hle:s.size≤cap:=by omega
    have hlt:cap < zar:=by simp only[zar]; omega
    let C:Array Value:=(s.data.map fun b=>Value.int .u8 b.toNat) ++ Array.replicate (cap - s.size) (.int .u8 0)
    have hC:C.toList=(s.data.toList.map fun b=>Value.int .u8 b.toNat) ++ List.replicate (cap - s.size) (.int .u8 0):=by simp[C]
    have hCs:C.size=cap:=by
     rw[←Array.length_toList,hC]
     simp only[List.length_append,List.length_map,List.length_replicate,Array.length_toList]
     have:s.data.size=s.size:=rfl
     omega
    obtain⟨φ',k1,k2⟩:∃φ',φ' h.next=some ⟨w.heap.size,0,C.size,P.cellsOf e⟩∧Tn P φ h w φ' (h.alloc (.cells (s.data.toList.map fun b=>.int .u8 b.toNat) e false)) { w with heap:=w.heap.push (.cells C e (cap,cap+1)),drawn:=w.drawn+1 }:=by
     refine⟨fun b=>if b=h.next then some ⟨w.heap.size,0,C.size,P.cellsOf e⟩ else φ b,by simp,?_⟩
     refine Tn.alloc r _ _ _ hf0 rfl ?_ 1
     intro ψ hle' hψ
     refine⟨rfl,rfl,rfl,⟨[],_,List.replicate (cap - s.size) (.int .u8 0),by rw[hC]; rfl,rfl,zkq ψ _⟩,fun _=>.inr ?_⟩
     exact Nat.le_of_eq hCs
    refine⟨φ',.slice (some ⟨w.heap.size,0,none⟩) s.size cap,_,?_,?_,k2⟩
    ·have hcut:(Question.appendCap s.size 0 e).cut (w.tape w.drawn (.appendCap s.size 0 e))=cap:=hq
     simp only[convert,Sem.run_bind,zac hu1,zac hu2,zac hue,Result.andThen_ok,Conv.stringToBytes,run_choose,Question.forced,Bool.false_eq_true,if_false,hcut]
     simp only[newRow,Sem.run_bind,run_newObj,Result.andThen_ok,Sem.run_pure,markStringish,run_shape,World.shape?]
     simp only[Array.getElem?_push_size]
     simp only[Sem.run_bind,run_freeze,Result.andThen_ok,Sem.run_pure]
     congr 1
     simp only[World.freeze]
     rw[if_neg (by omega)]
     congr 1
     apply Array.ext_getElem?
     intro q
     rw[Array.getElem?_modify,Array.getElem?_push]
     by_cases hqw:q=w.heap.size
     ·subst hqw
      simp only[if_true,Option.map_some,Array.getElem?_push_size]
      have:C.size=cap:=hCs
      simp[C] at this ⊢
      omega
     ·rw[if_neg (fun e=>hqw e.symm),if_neg hqw]
      simp[Array.getElem?_push,hqw]
    ·have:=VR.sliceO (φ:=φ') (off:=0) (n:=s.size) (c:=cap) k1 hlt hle (by simp only[hsz.2,hCs]; omega)
     simpa using this
   ·simp at hs
  ·simp at hs
 ·rename_i e a0 n c0 hu1 hu2
  split at hs
  rotate_left
  ·simp at hs
  rename_i hue
  split at hs
  rotate_left
  ·simp at hs
  rename_i cs hc
  split at hs
  rotate_left
  ·simp at hs
  rename_i bs hb
  simp only[Option.some.injEq,Prod.mk.injEq] at hs
  obtain⟨rfl,rfl⟩:=hs
  obtain⟨ds,hlr,hrun⟩:=zdB (P:=P) r hx hc
  have hds:=zoo hlr hb
  subst hds
  have hrun':=hrun w rfl
  have hloop:= fun msg => zlH (P:=P) msg ds bs ByteArray.empty hb w
  refine zg0.same r ?_ (.string _)
  have fin:∀a c1,x'= .slice (some a) n c1→(convert src dst x').run P w=.ok (.string ⟨bs.toArray⟩) w:=by
   intro a c1 hx'
   subst hx'
   simp only[Builtin.firstCells,Nat.mul_one] at hrun'
   simp only[convert,Sem.run_bind,zac hu1,zac hu2,zac hue,Result.andThen_ok,Conv.bytesToString,hrun',←Array.forIn_toList]
   refine Eq.trans (congrArg (fun (r:Result ByteArray)=>r.andThen fun a w'=>Sem.run P (pure (Value.string a)) w') (hloop _)) ?_
   simp[ByteArray.empty,ByteArray.emptyWithCapacity]
   rfl
  cases hx with
  | slice=>exact fin _ _ rfl
  | sliceO=>exact fin _ _ rfl
  | sliceE=>exact fin _ _ rfl
  | sliceNil=>
    simp only[firstC,Option.some.injEq] at hc
    subst hc
    simp only[za3,Option.some.injEq] at hb
    subst hb
    simp[convert,zac hu1,zac hu2,zac hue,Conv.bytesToString,ByteArray.empty,ByteArray.emptyWithCapacity]
    rfl
 ·rename_i e1 e2 b off n c0 hu1 hu2
  split at hs
  rotate_left
  ·simp at hs
  rename_i cs e hue hb
  split at hs
  rotate_left
  ·simp at hs
  rename_i hsd
  subst hsd
  simp only[Option.some.injEq,Prod.mk.injEq] at hs
  obtain⟨rfl,rfl⟩:=hs
  have he12:e1=e2:=by
   rw[hu1] at hu2
   simpa using hu2
  subst he12
  have key:∀rc a c1,φ b=some rc→a.block=rc.blk→x'= .slice (some a) n c1→zg0 P φ h w (convert src src x') (.slice (some ⟨b,off,none⟩) n c0) (h.set b (.cells cs e false)):=by
   intro rc a c1 hφ ha hx'
   obtain⟨C,m,pre,mid,post,ho,hes,htot,hC,hsh,hlr,hnf⟩:=r.cells hb hφ
   have hlt:rc.blk < w.heap.size:=(Array.getElem?_eq_some_iff.1 ho).1
   have hgt:=(Array.getElem?_eq_some_iff.1 ho).2
   let m' : Nat×Nat:=if m.1 == m.2 then (C.size,C.size+1) else (min m.1 C.size,max m.2 (C.size+1))
   have hm' : NF m' rc.total:=by
    right
    simp only[m']
    rcases hnf rfl with k | k
    ·simp[k,htot]
    ·split
     ·simp[htot]
     ·simp only[htot]; omega
   have tp:=Tn.put (P:=P) r hb hφ rfl (o2:=.cells cs e false) (O2:=.cells C e m') ⟨rfl,hes,htot,⟨pre,mid,post,hC,hsh,hlr⟩,fun _=>hm'⟩ 0
   refine⟨φ,x',_,?_,by rw[hx']; rw[hx'] at hx; exact hx,tp⟩
   have hshape:w.shape? a.block=some (e,C.size):=by
    simp only[World.shape?,ha,ho]
   have hfr:w.freeze ⟨a.block,C.size,none⟩ 1={ w with heap:=w.heap.setIfInBounds rc.blk (.cells C e m'),drawn:=w.drawn+0 }:=by
    simp only[World.freeze]
    rw[if_neg (by omega)]
    simp only[Nat.add_zero]
    congr 1
    apply Array.ext_getElem?
    intro q
    rw[Array.getElem?_modify,Array.getElem?_setIfInBounds,ha]
    by_cases hq:rc.blk=q
    ·subst hq
     rw[if_pos rfl,if_pos rfl,if_pos hlt,ho]
     obtain⟨lo,hi⟩:=m
     rfl
    ·rw[if_neg hq,if_neg hq]
   subst hx'
   simp only[convert,Sem.run_bind,zac hu1,zac hue,Result.andThen_ok,beq_self_eq_true,markStringish,run_shape,hshape,run_freeze,Sem.run_pure,hfr]
  cases hx with
  | slice hφ hc=>exact key _ _ _ hφ rfl rfl
  | sliceO hφ hc hn ht=>exact key _ _ _ hφ rfl rfl
  | sliceE hφ ha'=>
    refine key _ _ _ hφ (ha'.elim id (fun z=>?_)) rfl
    obtain⟨C,m,pre,mid,post,ho,hes,htot,hC,hsh,hlr,hnf⟩:=r.cells hb hφ
    exact absurd htot (by simp only[←Array.length_toList,hC,List.length_append]; omega)
 ·simp at hs
end
section
variable {P:Program} {φ φ' : Fi} {h h' : AH} {w w' : World}
theorem zqc:∀(a b:Lit),zie a b=true↔a=b:=by
 intro a b
 cases a <;> cases b <;> simp[zie]
theorem zfc:∀(a b:List Lit),zaN a b=true↔a=b
 | [],[]=>by simp[zaN]
 | [],_ :: _=>by simp[zaN]
 | _ :: _,[]=>by simp[zaN]
 | a :: as,b :: bs=>by simp[zaN,zqc,zfc as bs]
theorem LR.single {v:Value} {ds:List Value} (h:LR φ [v] ds):∃d,ds=[d]∧VR φ v d:=by
 cases ds with
 | nil=>simp[LR] at h
 | cons d ds=>
   cases ds with
   | nil=>exact⟨d,rfl,h.1⟩
   | cons _ _=>simp[LR] at h
theorem zil {α:Type} {f g:α→Option (List Lit)}:∀(l:List α) {r:List (List Lit)},(∀x∈l,∀y,f x=some y→g x=some y)→l.mapM f=some r→l.mapM g=some r
 | [],r,_,h=>by simpa using h
 | x :: l,r,hk,h=>by
   rw[List.mapM_cons] at h ⊢
   simp only[bind,Option.bind_eq_some_iff,pure,Option.some.injEq] at h ⊢
   obtain⟨y,hy,ys,hys,rfl⟩:=h
   exact⟨y,hk x (by simp) y hy,ys,zil l (fun z hz=>hk z (by simp[hz])) hys,rfl⟩
theorem zg4:∀(D:Nat) (t:TypeId) {cs ds:List Value} {l:List Lit},LR φ cs ds→P.keyLits D t cs=some l→P.keyLits D t ds=some l
 | 0,_,_,_,_,_,h=>by simp[Program.keyLits] at h
 | D+1,t,cs,ds,l,r,h=>by
   unfold Program.keyLits at h ⊢
   split at h
   ·obtain⟨d,rfl,hv⟩:=r.single
    cases hv
    rename_i hu
    simp only[hu] at h ⊢
    exact h
   ·obtain⟨d,rfl,hv⟩:=r.single
    cases hv
    rename_i hu
    simp only[hu] at h ⊢
    exact h
   ·obtain⟨d,rfl,hv⟩:=r.single
    cases hv
    rename_i hu
    simp only[hu] at h ⊢
    exact h
   ·rename_i n e hu
    simp only[hu]
    rw[←r.length]
    split at h
    ·rename_i hl
     rw[if_pos hl]
     simp only[Option.map_eq_some_iff] at h ⊢
     obtain⟨as,ha,rfl⟩:=h
     exact⟨as,zil _ (fun i _ y hy=>zg4 D e ((r.drop _).take _) hy) ha,rfl⟩
    ·simp at h
   ·rename_i fs hu
    simp only[hu]
    rw[←r.length]
    split at h
    ·rename_i hl
     rw[if_pos hl]
     simp only[Option.map_eq_some_iff] at h ⊢
     obtain⟨as,ha,rfl⟩:=h
     exact⟨as,zil _ (fun f _ y hy=>zg4 D f.type ((r.drop _).take _) hy) ha,rfl⟩
    ·simp at h
   ·simp at h
theorem zfV:∀(m:Nat) (t:TypeId) (D:Nat),m≤D→P.keyTypeAt m t=true→P.eqGuardType D t=false
 | 0,_,_,_,h=>by simp[Program.keyTypeAt] at h
 | m+1,t,0,hD,h=>by omega
 | m+1,t,D+1,hD,h=>by
   unfold Program.keyTypeAt at h
   unfold Program.eqGuardType
   split at h
   ·rename_i hu; simp[hu]
   ·rename_i hu; simp[hu]
   ·rename_i hu; simp[hu]
   ·rename_i e hu
    simp only[hu]
    exact zfV m e D (by omega) h
   ·rename_i fs hu
    simp only[hu]
    simp only[Bool.and_eq_true,Bool.not_eq_true'] at h
    have hall:=h.1.1
    rw[Array.any_eq_false]
    intro i hi
    have hf:=Array.all_eq_true.1 hall i hi
    simp only[Bool.and_eq_true] at hf
    simp[zfV m _ D (by omega) hf.2]
   ·simp at h
theorem VR.formed {v v' : Value} (r:VR φ v v') {t:TypeId} (h:v.formed P t=true):v'.formed P t=true:=by
 cases r <;> first | exact h | (simp[Value.formed] at h; done) | skip
 case agg h1 h2 h3=>simpa[Value.formed,h1] using h
theorem zfW {t:TypeId} {v v' : Value} {l:List Lit} (hk:zdx P t v=some l) (r:VR φ v v'):v'.formed P t=true∧v.formed P t=true∧P.keyLits 40 t v'.cells.toList=some l∧P.keyLits 40 t v.cells.toList=some l:=by
 unfold zdx at hk
 cases hf:v.formed P t with
 | false=>simp[hf] at hk
 | true=>
   simp only[hf,cond_true] at hk
   refine⟨r.formed hf,rfl,zg4 40 t (r.cells ?_) hk,hk⟩
   intro xs e
   subst e
   simp[Value.formed] at hf
theorem zqd {t:TypeId} {x x' y y' : Value} {la lb:List Lit} (hk:P.keyTypeAt 40 t=true) (hx:zdx P t x=some la) (hy:zdx P t y=some lb) (rx:VR φ x x') (ry:VR φ y y') (w:World):
 (Op.equal t x' y').run P w=.ok (zaN la lb) w:=by
 obtain⟨f1,_,k1,_⟩:=zfW hx rx
 obtain⟨f2,_,k2,_⟩:=zfW hy ry
 obtain⟨r,hr,hiff⟩:=run_equalIn_deep (P:=P) 9960 40 t hk w 40 40 x' y' la lb f1 f2 k1 k2
 have:r=zaN la lb:=by
  rw[Bool.eq_iff_iff,hiff,zfc]
 rw[←this]
 exact hr
theorem zim (d:Nat) {t e:TypeId} (hu:P.underlying t=some (.pointer e)) (b:Option Addr) (w:World):(Op.equalIn (d+1) t (.pointer none) (.pointer b)).run P w=.ok b.isNone w:=by
 simp[Op.equalIn,zac hu]
theorem zin (d:Nat) {t e:TypeId} (hu:P.underlying t=some (.pointer e)) (a:Addr) (w:World):(Op.equalIn (d+1) t (.pointer (some a)) (.pointer none)).run P w=.ok false w:=by
 simp[Op.equalIn,zac hu]
theorem zku (d:Nat) {t:TypeId} {a b:Array TypeId} {c:Bool} (hu:P.underlying t=some (.func a b c)) (w:World):(Op.equalIn (d+1) t .nilFunc .nilFunc).run P w=.ok true w:=by
 simp[Op.equalIn,zac hu]
theorem zkv (d:Nat) {t:TypeId} {a b:Array TypeId} {c:Bool} (hu:P.underlying t=some (.func a b c)) (f:Fn) (x y:Array Value) (w:World):(Op.equalIn (d+1) t (.func f x y) .nilFunc).run P w=.ok false w:=by
 simp[Op.equalIn,zac hu]
theorem zkw (d:Nat) {t:TypeId} {a b:Array TypeId} {c:Bool} (hu:P.underlying t=some (.func a b c)) (f:Fn) (x y:Array Value) (w:World):(Op.equalIn (d+1) t .nilFunc (.func f x y)).run P w=.ok false w:=by
 simp[Op.equalIn,zac hu]
theorem zlI (d:Nat) {t:TypeId} (hu:P.underlying t=some .bool) (a b:Bool) (w:World):(Op.equalIn (d+1) t (.bool a) (.bool b)).run P w=.ok (a == b) w:=by
 simp[Op.equalIn,zac hu]
theorem zjx (d:Nat) {t e:TypeId} (hu:P.underlying t=some (.slice e)) (a:Option Addr) (n c n' c' : Nat) (w:World):(Op.equalIn (d+1) t (.slice a n c) (.slice none n' c')).run P w=.ok a.isNone w:=by
 cases a <;> simp[Op.equalIn,zac hu]
theorem zjy (d:Nat) {t e:TypeId} (hu:P.underlying t=some (.slice e)) (a:Addr) (n c n' c' : Nat) (w:World):(Op.equalIn (d+1) t (.slice none n c) (.slice (some a) n' c')).run P w=.ok false w:=by
 simp[Op.equalIn,zac hu]
theorem zlJ (d:Nat) {t k e:TypeId} (hu:P.underlying t=some (.map k e)) (a:Option Nat) (w:World):(Op.equalIn (d+1) t (.map a) (.map none)).run P w=.ok a.isNone w:=by
 cases a <;> simp[Op.equalIn,zac hu]
theorem zlK (d:Nat) {t k e:TypeId} (hu:P.underlying t=some (.map k e)) (a:Nat) (w:World):(Op.equalIn (d+1) t (.map none) (.map (some a))).run P w=.ok false w:=by
 simp[Op.equalIn,zac hu]
theorem zio (op:BinOp) (t:TypeId) (xo yo:Operand) (a b:Option Addr) (n c n' c' : Nat) (w:World):(eqGuard op t xo yo (.slice a n c) (.slice b n' c')).run P w=.ok () w:=by
 cases op <;> rfl
theorem zlL (op:BinOp) (t:TypeId) (xo yo:Operand) (a b:Option Nat) (w:World):(eqGuard op t xo yo (.map a) (.map b)).run P w=.ok () w:=by
 cases op <;> rfl
theorem zop (G:zd7 P) {t:TypeId} {x x' y y' : Value} {b:Bool} (hs:aEq P t x y=some b) (hx:VR φ x x') (hy:VR φ y y') (xo yo:Operand) (op:BinOp) (w:World):
 (eqGuard op t xo yo x' y').run P w=.ok () w∧(Op.equal t x' y').run P w=.ok b w∧(∀k n,x'≠.int k n)∧(∀k n,x'≠.float k n)∧(∀k n m,x'≠.complex k n m)∧(∀s,x'≠.string s):=by
 unfold aEq at hs
 split at hs
 ·rename_i a c
  split at hs
  ·rename_i hu
   simp only[Option.some.injEq] at hs
   subst hs
   cases hx; cases hy
   exact⟨by rw[eqGuard_at_bool]; rfl,zlI 9999 hu a c w,by simp,by simp,by simp,by simp⟩
  ·simp at hs
 ·rename_i xs ys
  split at hs
  ·rename_i la lb hk ha hb
   simp only[Option.some.injEq] at hs
   subst hs
   have heq:=zqd hk ha hb hx hy w
   obtain⟨xs',rfl,hlx⟩:=hx.toLR
   obtain⟨ys',rfl,hly⟩:=hy.toLR
   have hg:=zfV 40 t P.depth (by have:=G.depth; omega) hk
   exact⟨run_eqGuard_agg w op t xo yo xs' ys' hg,heq,by simp,by simp,by simp,by simp⟩
  ·simp at hs
 ·split at hs
  ·rename_i hu
   simp only[Option.some.injEq] at hs
   subst hs
   cases hx
   cases hy <;> exact⟨by rw[eqGuard_at_pointer]; rfl,zim 9999 hu _ w,by simp,by simp,by simp,by simp⟩
  ·simp at hs
 ·split at hs
  ·rename_i hu
   simp only[Option.some.injEq] at hs
   subst hs
   cases hx
   cases hy
   exact⟨by rw[eqGuard_at_pointer]; rfl,zin 9999 hu _ w,by simp,by simp,by simp,by simp⟩
  ·simp at hs
 ·split at hs
  ·rename_i hu
   simp only[Option.some.injEq] at hs
   subst hs
   cases hy
   cases hx <;> exact⟨zio ..,zjx 9999 hu _ _ _ _ _ w,by simp,by simp,by simp,by simp⟩
  ·simp at hs
 ·split at hs
  ·rename_i hu
   simp only[Option.some.injEq] at hs
   subst hs
   cases hx
   cases hy <;> exact⟨zio ..,zjy 9999 hu _ _ _ _ _ w,by simp,by simp,by simp,by simp⟩
  ·simp at hs
 ·split at hs
  ·rename_i hu
   simp only[Option.some.injEq] at hs
   subst hs
   cases hy
   cases hx <;> exact⟨zlL ..,zlJ 9999 hu _ w,by simp,by simp,by simp,by simp⟩
  ·simp at hs
 ·split at hs
  ·rename_i hu
   simp only[Option.some.injEq] at hs
   subst hs
   cases hx
   cases hy
   exact⟨zlL ..,zlK 9999 hu _ w,by simp,by simp,by simp,by simp⟩
  ·simp at hs
 ·split at hs
  ·rename_i hu
   simp only[Option.some.injEq] at hs
   subst hs
   cases hx
   cases hy
   exact⟨by rw[eqGuard_at_nilFunc]; rfl,zku 9999 hu w,by simp,by simp,by simp,by simp⟩
  ·simp at hs
 ·split at hs
  ·rename_i hu
   simp only[Option.some.injEq] at hs
   subst hs
   cases hx
   cases hy
   exact⟨by rw[eqGuard_at_func]; rfl,zkv 9999 hu _ _ _ w,by simp,by simp,by simp,by simp⟩
  ·simp at hs
 ·split at hs
  ·rename_i hu
   simp only[Option.some.injEq] at hs
   subst hs
   cases hx
   cases hy
   exact⟨by rw[eqGuard_at_nilFunc]; rfl,zkw 9999 hu _ _ _ w,by simp,by simp,by simp,by simp⟩
  ·simp at hs
 ·simp at hs
theorem zsq {op:BinOp} {k:IntKind} {a b:Int} {v:Value} (hs:zjt op k a b=some v) (t:TypeId) (w:World):(binOp op t (.int k a) (.int k b)).run P w=.ok v w:=by
 cases op <;> simp only[zjt,Option.some.injEq] at hs <;>
  first
  | (subst hs; simp[binOp,Op.intArith,Op.intBits,Op.intCmp]; done)
  | (simp at hs; done)
  | (by_cases h0:b=0; (simp[h0] at hs); (simp only[h0,if_false,Option.some.injEq] at hs; subst hs; simp[binOp,Op.intDiv,h0]))
theorem zut {φ:Fi} {op:BinOp} {k:IntKind} {a b:Int} {v:Value} (hs:zjt op k a b=some v):VR φ v v:=by
 cases op <;> simp only[zjt,Option.some.injEq] at hs <;>
  first
  | (subst hs; exact .int _ _)
  | (subst hs; exact .bool _)
  | (simp at hs; done)
  | (by_cases h0:b=0; (simp[h0] at hs); (simp only[h0,if_false,Option.some.injEq] at hs; subst hs; exact .int _ _))
theorem zsr {op:UnOp} {x x' u:Value} (hs:aUn op x=some u) (hx:VR φ x x') (w:World):∃u',(Op.unary op x').run P w=.ok u' w∧VR φ u u':=by
 unfold aUn at hs
 split at hs
 ·simp only[Option.some.injEq] at hs
  subst hs
  cases hx
  exact⟨_,by simp[Op.unary,Op.intArith],.int _ _⟩
 ·simp only[Option.some.injEq] at hs
  subst hs
  cases hx
  exact⟨_,by simp[Op.unary,Op.intBits],.int _ _⟩
 ·simp only[Option.some.injEq] at hs
  subst hs
  cases hx
  exact⟨_,by simp[Op.unary],.bool _⟩
 ·simp at hs
theorem zqe (G:zd7 P) {op:BinOp} {t:TypeId} {x x' y y' u:Value} (hs:zjw P op t x y=some u) (hx:VR φ x x') (hy:VR φ y y') (xo yo:Operand) (w:World):
 ∃u',((do eqGuard op t xo yo x' y'; binOp op t x' y' : Sem Value)).run P w=.ok u' w∧VR φ u u':=by
 unfold zjw at hs
 split at hs
 ·rename_i k a k' b
  cases hx; cases hy
  split at hs
  ·unfold zjP at hs
   split at hs
   ·simp at hs
   ·rename_i h0
    simp only[Option.some.injEq] at hs
    subst hs
    exact⟨_,by rw[eqGuard_at_int]; simp[binOp,Op.shift,h0],.int _ _⟩
  ·unfold zjP at hs
   split at hs
   ·simp at hs
   ·rename_i h0
    simp only[Option.some.injEq] at hs
    subst hs
    exact⟨_,by rw[eqGuard_at_int]; simp[binOp,Op.shift,h0],.int _ _⟩
  ·split at hs
   ·rename_i hk
    subst hk
    refine⟨u,?_,zut hs⟩
    rw[eqGuard_at_int]
    simpa using zsq hs t w
   ·simp at hs
 ·rename_i a b
  cases hx; cases hy
  unfold zuq at hs
  split at hs
  ·split at hs
   ·rename_i hle
    simp only[Option.some.injEq] at hs
    subst hs
    have:¬(9223372036854775807 < (a.size:Int)+b.size):=by omega
    exact⟨_,by rw[eqGuard_at_string]; simp[binOp,Op.stringOp,this],.string _⟩
   ·simp at hs
  ·simp only[Option.some.injEq] at hs
   subst hs
   exact⟨_,by rw[eqGuard_at_string]; simp[binOp,Op.stringOp,beq_toListBytes],.bool _⟩
  ·simp only[Option.some.injEq] at hs
   subst hs
   exact⟨_,by rw[eqGuard_at_string]; simp[binOp,Op.stringOp,beq_toListBytes],.bool _⟩
  ·simp only[Option.some.injEq] at hs
   subst hs
   exact⟨_,by rw[eqGuard_at_string]; simp[binOp,Op.stringOp],.bool _⟩
  ·simp at hs
 ·split at hs
  ·cases he:aEq P t x y with
   | none=>simp[he] at hs
   | some b=>
     simp only[he,Option.map_some,Option.some.injEq] at hs
     subst hs
     obtain⟨h1,h2,h3,h4,h5,h6⟩:=zop G he hx hy xo yo .eql w
     refine⟨.bool b,?_,.bool _⟩
     have:binOp .eql t x' y'= (do pure (.bool (←Op.equal t x' y'))):=by
      unfold binOp
      split <;> first | rfl | (exact absurd rfl (h3 _ _)) | (exact absurd rfl (h4 _ _)) | (exact absurd rfl (h5 _ _ _)) | (exact absurd rfl (h6 _)) | (rename_i q; cases q; done) | (simp_all; done)
     simp[h1,this,h2]
  ·cases he:aEq P t x y with
   | none=>simp[he] at hs
   | some b=>
     simp only[he,Option.map_some,Option.some.injEq] at hs
     subst hs
     obtain⟨h1,h2,h3,h4,h5,h6⟩:=zop G he hx hy xo yo .neq w
     refine⟨.bool (!b),?_,.bool _⟩
     have:binOp .neq t x' y'= (do pure (.bool (!(←Op.equal t x' y')))):=by
      unfold binOp
      split <;> first | rfl | (exact absurd rfl (h3 _ _)) | (exact absurd rfl (h4 _ _)) | (exact absurd rfl (h5 _ _ _)) | (exact absurd rfl (h6 _)) | (rename_i q; cases q; done) | (simp_all; done)
     simp[h1,this,h2]
  ·simp at hs
end
section
variable {P:Program} {φ φ' : Fi} {h h' : AH} {w w' : World}
theorem ER.length:∀{xs ys:List MapEntry},ER φ xs ys→xs.length=ys.length
 | [],[],_=>rfl
 | _ :: _,_ :: _,r=>by simp[ER.length r.2.2.2]
theorem ER.at:∀{xs ys:List MapEntry},ER φ xs ys→∀(i:Nat) (e:MapEntry),xs[i]?= some e→∃e',ys[i]?= some e'∧VR φ e.key e'.key∧VR φ e.val e'.val∧e.born=e'.born
 | [],[],_,i,e,h=>by simp at h
 | _ :: _,y :: _,r,0,e,h=>by simp at h; subst h; exact⟨y,rfl,r.1,r.2.1,r.2.2.1⟩
 | _ :: _,_ :: _,r,i+1,e,h=>by simp at h; simpa using ER.at r.2.2.2 i e h
theorem ER.append:∀{xs ys us vs:List MapEntry},ER φ xs ys→ER φ us vs→ER φ (xs ++ us) (ys ++ vs)
 | [],[],_,_,_,k=>k
 | _ :: _,_ :: _,_,_,r,k=>⟨r.1,r.2.1,r.2.2.1,ER.append r.2.2.2 k⟩
theorem ER.modify:∀{xs ys:List MapEntry} (i:Nat) {k k' v v' : Value},ER φ xs ys→VR φ k k'→VR φ v v'→ER φ (xs.modify i fun e=>{ e with key:=k,val:=v }) (ys.modify i fun e=>{ e with key:=k',val:=v' })
 | [],[],_,_,_,_,_,_,_,_=>by simp[ER]
 | _ :: _,_ :: _,0,_,_,_,_,r,hk,hv=>⟨hk,hv,r.2.2.1,r.2.2.2⟩
 | _ :: _,_ :: _,i+1,_,_,_,_,r,hk,hv=>⟨r.1,r.2.1,r.2.2.1,ER.modify i r.2.2.2 hk hv⟩
theorem ER.eraseIdx:∀{xs ys:List MapEntry} (i:Nat),ER φ xs ys→ER φ (xs.eraseIdx i) (ys.eraseIdx i)
 | [],[],_,_=>by simp[ER]
 | _ :: _,_ :: _,0,r=>r.2.2.2
 | _ :: _,_ :: _,i+1,r=>⟨r.1,r.2.1,r.2.2.1,ER.eraseIdx i r.2.2.2⟩
def zjS (P:Program) (φ:Fi) (kt:TypeId) (la:List Lit) (es:List MapEntry) (i:Nat):Option (Nat×Value)→Option (Nat×Value)→Prop
 | none,none=>True
 | some (j,v),some (j',v')=>j=j'∧VR φ v v'∧i≤j∧(∃e,es[j - i]?= some e∧e.val=v∧zdx P kt e.key=some la)
 | _,_=>False
theorem zjS.cons {kt:TypeId} {la:List Lit} {e:MapEntry} {es:List MapEntry} {i:Nat} {o o' : Option (Nat×Value)} (h:zjS P φ kt la es (i+1) o o'):zjS P φ kt la (e :: es) i o o':=by
 cases o <;> cases o' <;> try exact h
 rename_i p p'
 obtain⟨g1,g2,g3,g4,g5⟩:=h
 refine⟨g1,g2,by omega,g4,?_⟩
 have:p.1 - i=(p.1 - (i+1))+1:=by omega
 rw[this]
 simpa using g5
theorem zem {kt:TypeId} (hk:P.keyTypeAt 40 kt=true) {k k' : Value} {la:List Lit} (ha:zdx P kt k=some la) (rk:VR φ k k') (w:World):
 ∀(es es' : List MapEntry) (i:Nat) (o:Option (Nat×Value)),ER φ es es'→zez P kt la es i=some o→
  ∃o',(Instr.findAsking kt k' es' i).run P w=.ok o' w∧zjS P φ kt la es i o o'
 | [],[],i,o,_,hf=>by
   simp only[zez,Option.some.injEq] at hf
   subst hf
   exact⟨none,by simp[Instr.findAsking],trivial⟩
 | e :: es,e' :: es',i,o,r,hf=>by
   unfold zez at hf
   cases hb:zdx P kt e.key with
   | none=>simp[hb] at hf
   | some lb=>
     simp only[hb] at hf
     have heq:=zqd hk ha hb rk r.1 w
     cases hl:zaN la lb with
     | true=>
       simp only[hl,cond_true,Option.some.injEq] at hf
       subst hf
       have:la=lb:=(zfc la lb).1 hl
       subst this
       exact⟨some (i,e'.val),by simp[Instr.findAsking,heq,hl],rfl,r.2.1,Nat.le_refl _,e,by simp,rfl,hb⟩
     | false=>
       simp only[hl,cond_false] at hf
       obtain⟨o',h1,h2⟩:=zem hk ha rk w es es' (i+1) o r.2.2.2 hf
       exact⟨o',by simp[Instr.findAsking,heq,hl,h1],h2.cons⟩
theorem zpi {kt:TypeId} {d:TypeDesc} (hu:P.underlying kt=some d) {x y:Value} {la lb:List Lit} (hx:P.keyLits 40 kt x.cells.toList=some la) (hy:P.keyLits 40 kt y.cells.toList=some lb) (fx:x.formed P kt=true) (fy:y.formed P kt=true):
 Instr.sameNow d x y=none∨Instr.sameNow d x y=some (zaN la lb):=by
 unfold Program.keyLits at hx hy
 simp only[hu] at hx hy
 cases x <;> cases y <;> first | exact .inl rfl | skip
 all_goals (cases d <;> first | exact .inl rfl | skip)
 all_goals (simp only[Value.cells,Array.toList] at hx hy)
 case bool.bool.bool a b=>
  simp only[Option.some.injEq] at hx hy
  subst hx hy
  right
  simp[Instr.sameNow,zaN,zie]
 case int.int.int j a k b q=>
  split at hx
  ·split at hy
   ·simp only[Option.some.injEq] at hx hy
    rename_i g1 g2
    subst hx hy
    right
    simp[Instr.sameNow,zaN,zie,g1.1,g2.1]
   ·simp at hy
  ·simp at hx
 case string.string.string a b=>
  split at hx
  ·split at hy
   ·simp only[Option.some.injEq] at hx hy
    subst hx hy
    right
    simp only[Instr.sameNow,zaN,zie,Bool.and_true,Option.some.injEq]
    obtain⟨⟨x⟩⟩:=a
    obtain⟨⟨y⟩⟩:=b
    show ((⟨x⟩:Array UInt8) == ⟨y⟩)=(x == y)
    simp
   ·simp at hy
  ·simp at hx
theorem zgA {kt:TypeId} {d:TypeDesc} (hu:P.underlying kt=some d) {k k' : Value} {la:List Lit} (ha:zdx P kt k=some la) (rk:VR φ k k'):
 ∀(es es' : List MapEntry) (i:Nat) (o:Option (Nat×Value)),ER φ es es'→zez P kt la es i=some o→
  Instr.findNow d k' es' i=none∨∃o',Instr.findNow d k' es' i=some o'∧zjS P φ kt la es i o o'
 | [],[],i,o,_,hf=>by
   simp only[zez,Option.some.injEq] at hf
   subst hf
   exact .inr ⟨none,rfl,trivial⟩
 | e :: es,e' :: es',i,o,r,hf=>by
   unfold zez at hf
   cases hb:zdx P kt e.key with
   | none=>simp[hb] at hf
   | some lb=>
     simp only[hb] at hf
     obtain⟨f1,_,k1,_⟩:=zfW ha rk
     obtain⟨f2,_,k2,_⟩:=zfW hb r.1
     rcases zpi hu k1 k2 f1 f2 with hs | hs
     ·left
      simp[Instr.findNow,hs]
     ·cases hl:zaN la lb with
      | true=>
        simp only[hl,cond_true,Option.some.injEq] at hf
        subst hf
        have:la=lb:=(zfc la lb).1 hl
        subst this
        right
        exact⟨some (i,e'.val),by simp[Instr.findNow,hs,hl],rfl,r.2.1,Nat.le_refl _,e,by simp,rfl,hb⟩
      | false=>
        simp only[hl,cond_false] at hf
        rcases zgA hu ha rk es es' (i+1) o r.2.2.2 hf with h1 | ⟨o',h1,h2⟩
        ·left; simp[Instr.findNow,hs,hl,h1]
        ·right
         exact⟨o',by simp[Instr.findNow,hs,hl,h1],h2.cons⟩
theorem zbk {kt:TypeId} (hk:P.keyTypeAt 40 kt=true) {k k' : Value} {la:List Lit} (ha:zdx P kt k=some la) (rk:VR φ k k') (w:World) {es es' : List MapEntry} {o:Option (Nat×Value)} (r:ER φ es es') (hf:zez P kt la es 0=some o):
 ∃o',(Instr.findKey kt k' es').run P w=.ok o' w∧zjS P φ kt la es 0 o o':=by
 obtain⟨d,hu⟩:∃d,P.underlying kt=some d:=by
  unfold Program.keyTypeAt at hk
  cases hd:P.underlying kt with
  | none=>simp[hd] at hk
  | some d=>exact⟨d,rfl⟩
 rcases zgA hu ha rk es es' 0 o r hf with h1 | ⟨o',h1,h2⟩
 ·obtain⟨o',h3,h4⟩:=zem hk ha rk w es es' 0 o r hf
  exact⟨o',by simp[Instr.findKey,zac hu,h1,h3],h4⟩
 ·exact⟨o',by simp[Instr.findKey,zac hu,h1],h2⟩
theorem zdg {kt:TypeId} (hk:P.keyTypeAt 40 kt=true) {k k' : Value} {la:List Lit} (ha:zdx P kt k=some la) (rk:VR φ k k') (em:Bool) (w:World):(Instr.checkKey em 10000 kt k').run P w=.ok () w:=by
 obtain⟨f1,_,k1,_⟩:=zfW ha rk
 exact run_checkKey_deep (P:=P) em 9960 40 kt hk w 40 k' la f1 k1
theorem R.map (r:R P φ h w) {b:Nat} {es:List MapEntry} {c:Nat} {rc:Rec} (hb:h.get b=some (.map es c)) (hφ:φ b=some rc):∃es',w.heap[rc.blk]?= some (.map es' c)∧ER φ es es'.toList:=by
 obtain⟨o',ho,hr⟩:=r.obj b _ rc hb hφ
 cases o' <;> simp only[OR] at hr
 obtain⟨rfl,he⟩:=hr
 exact⟨_,ho,he⟩
theorem zcm {r:Nat} {o:Obj} (ho:w.heap[r]?= some o) (hc:∀c e f,o≠.cells c e f):(getObj r).run P w=.ok o w:=by
 cases o <;> first | (exact absurd rfl (hc _ _ _)) | (simp only[getObj,Sem.run,ho]; done) | (simp only[getObj,Sem.run,ho]; rfl)
theorem zcn {r:Nat} {o o2:Obj} (ho:w.heap[r]?= some o) (hc:∀c e f,o≠.cells c e f):(setObj r o2).run P w=.ok () { w with heap:=w.heap.setIfInBounds r o2 }:=by
 cases o <;> first | (exact absurd rfl (hc _ _ _)) | (simp only[setObj,Sem.run,ho]; done) | (simp only[setObj,Sem.run,ho]; rfl)
theorem zjT {t:TypeId} {z:Value} (hz:zfT P t=some z):t < P.types.size:=by
 unfold zfT at hz
 cases hb:Nat.blt t P.types.size with
 | true=>exact Nat.blt_eq.mp hb
 | false=>rw[hb] at hz; simp at hz
theorem zhs {t:TypeId} {z:Value} (hz:zfT P t=some z):∃i,P.info? t=some i∧i.zero=some z∧∀xs,z≠.tuple xs:=by
 have hlt:=zjT hz
 unfold zfT at hz
 rw[Nat.blt_eq.mpr hlt,cond_true] at hz
 split at hz
 ·rename_i i hi
  split at hz
  ·simp at hz
  ·rename_i z0 hne hz0
   simp only[Option.some.injEq] at hz
   subst hz
   exact⟨i,hi,hz0,fun xs e=>hne xs e⟩
  ·simp at hz
 ·simp at hz
theorem zpj (G:zd7 P) {t:TypeId} {z:Value} (hz:zfT P t=some z):VR φ z z:=by
 obtain⟨i,hi,hz0,hne⟩:=zhs hz
 have:=G.zero t i z (zjT hz) hi hz0
 unfold zon at this
 split at this
 ·exact absurd rfl (hne _)
 ·have hl:=zkr (φ:=φ) this
  cases z with
  | agg xs=>exact LR.agg hl
  | tuple xs=>exact absurd rfl (hne _)
  | _=>exact hl.1
theorem zlM (G:zd7 P) (r:R P φ h w) {t:TypeId} {m m' k k' u:Value} {ok:Bool} (hs:zbu P h t m k ok=some u) (hm:VR φ m m') (hk:VR φ k k'):
 ∃u',(Instr.lookup t m' k' ok).run P w=.ok u' w∧VR φ u u':=by
 unfold zbu at hs
 split at hs
 rotate_left
 ·simp at hs
 rename_i kt et hu
 split at hs
 rotate_left
 ·simp at hs
 rename_i la z hkt ha hz
 simp only[zur,Bool.and_eq_true] at hkt
 obtain⟨i,hi,hz0,hne⟩:=zhs hz
 have hzr:=zd5 (P:=P) hi hz0
 have hzv:=zpj (φ:=φ) G hz
 have two:∀(v v' : Value) (b:Bool),VR φ v v'→VR φ (cond ok (.tuple #[v,.bool b]) v) (if ok=true then .tuple #[v',.bool b] else v'):=by
  intro v v' b hv
  cases ok
  ·simpa using hv
  ·simp only[cond_true,if_true]
   exact AR.tuple ⟨hv,.bool b,trivial⟩
 split at hs
 ·simp only[Option.some.injEq] at hs
  subst hs
  cases hm
  refine⟨_,?_,two z z false hzv⟩
  have hc:=zdg (P:=P) hkt.1 ha hk true w
  have hf:(Instr.findKey kt k' []).run P w=.ok none w:=by
   obtain⟨o',h1,h2⟩:=zbk (P:=P) (φ:=φ) hkt.1 ha hk w (es:=[]) (es':=[]) (o:=none) trivial rfl
   cases o' with
   | none=>exact h1
   | some _=>exact h2.elim
  simp[Instr.lookup,zac hu,hc,hf,hzr]
 ·rename_i b
  split at hs
  rotate_left
  ·simp at hs
  rename_i es clock hb
  cases hm with
  | map hφ=>
    rename_i rc
    obtain⟨es',ho,he⟩:=r.map hb hφ
    have hg:=zcm (P:=P) ho (by intro _ _ _ q; cases q)
    have hc:=zdg (P:=P) hkt.1 ha hk es'.isEmpty w
    split at hs
    ·rename_i j v hf
     simp only[Option.some.injEq] at hs
     subst hs
     obtain⟨o',h1,h2⟩:=zbk (P:=P) hkt.1 ha hk w he hf
     cases o' with
     | none=>exact h2.elim
     | some p=>
       refine⟨_,?_,two v p.2 true h2.2.1⟩
       simp[Instr.lookup,zac hu,hg,hc,h1]
    ·rename_i hf
     simp only[Option.some.injEq] at hs
     subst hs
     obtain⟨o',h1,h2⟩:=zbk (P:=P) hkt.1 ha hk w he hf
     cases o' with
     | some _=>exact h2.elim
     | none=>
       refine⟨_,?_,two z z false hzv⟩
       simp[Instr.lookup,zac hu,hg,hc,h1,hzr]
    ·simp at hs
 ·simp at hs
theorem zss {kt:TypeId} (ht:P.tiled 40 kt=true) {a b a' b' : Value} {la:List Lit} (ha:zdx P kt a=some la) (hb:zdx P kt b=some la) (ra:VR φ a a') (rb:VR φ b b'):a'= b':=by
 obtain⟨f1,_,k1,_⟩:=zfW ha ra
 obtain⟨f2,_,k2,_⟩:=zfW hb rb
 have e1:=cells_of_lits 40 kt ht 40 _ la k1
 have e2:=cells_of_lits 40 kt ht 40 _ la k2
 have e:a'.cells=b'.cells:=by
  apply Array.ext'
  rw[e1,e2]
 unfold Value.formed at f1 f2
 cases a' <;> cases b' <;> simp[Value.cells] at e ⊢ <;> first | exact e | (simp at f1; done) | (simp at f2; done) | skip
 all_goals (first | (subst e; simp at f1 f2; split at f2 <;> simp_all) | (simp_all; done) | skip)
theorem ziq (r:R P φ h w) {t:TypeId} {m m' k k' v v' : Value} {h' : AH} (hs:zaF P h t m k v=some h') (hm:VR φ m m') (hk:VR φ k k') (hv:VR φ v v'):
 ∃w',(Instr.mapUpdate t m' k' v').run P w=.ok () w'∧Tn P φ h w φ h' w':=by
 unfold zaF at hs
 split at hs
 rotate_left
 ·simp at hs
 rename_i kt et b hu
 split at hs
 rotate_left
 ·simp at hs
 rename_i la es clock hkt ha hb
 simp only[zur,Bool.and_eq_true] at hkt
 cases hm with
 | map hφ=>
   rename_i rc
   obtain⟨es',ho,he⟩:=r.map hb hφ
   have hg:=zcm (P:=P) ho (by intro _ _ _ q; cases q)
   have hc:=zdg (P:=P) hkt.1 ha hk false w
   split at hs
   ·rename_i j u hf
    simp only[Option.some.injEq] at hs
    subst hs
    obtain⟨o',h1,h2⟩:=zbk (P:=P) hkt.1 ha hk w he hf
    cases o' with
    | none=>exact h2.elim
    | some p=>
      obtain⟨j',u'⟩:=p
      obtain⟨rfl,hu',_,e,hej,rfl,hek⟩:=h2
      obtain⟨e',hej',hkk,_,_⟩:=he.at j e hej
      have hsame:e'.key=k':=zss hkt.2 hek ha hkk hk
      have hej'' : es'[j]?= some e':=by simpa using hej'
      have hkeep:∃n,(Instr.keyThatStays e'.key k').run P w=.ok k' { w with drawn:=w.drawn+n }:=by
       unfold Instr.keyThatStays
       split
       ·exact⟨0,rfl⟩
       ·simp only[Sem.run_bind,run_choose]
        split
        ·exact⟨0,by simp⟩
        ·refine⟨1,?_⟩
         simp only[Result.andThen_ok]
         split <;> simp[hsame]
      obtain⟨n,hkeep⟩:=hkeep
      have hput:=Tn.put (P:=P) r hb hφ rfl (o2:=.map (es.modify j fun e=>{ e with key:=k,val:=v }) clock) (O2:=.map (es'.modify j fun e=>{ e with key:=k',val:=v' }) clock)
       ⟨rfl,by simpa using he.modify j hk hv⟩ n
      refine⟨_,?_,hput⟩
      have hset:=zcn (P:=P) (w:={ w with drawn:=w.drawn+n }) (o2:=.map (es'.modify j fun e=>{ e with key:=k',val:=v' }) clock) ho (by intro _ _ _ q; cases q)
      simp only[Instr.mapUpdate,Sem.run_bind,zac hu,Result.andThen_ok,hg,hc,h1,hej'',Option.map_some,Option.getD_some,hkeep,hset]
   ·rename_i hf
    simp only[Option.some.injEq] at hs
    subst hs
    obtain⟨o',h1,h2⟩:=zbk (P:=P) hkt.1 ha hk w he hf
    cases o' with
    | some _=>exact h2.elim
    | none=>
      have hput:=Tn.put (P:=P) r hb hφ rfl (o2:=.map (es ++ [{ key:=k,val:=v,born:=clock }]) (clock+1)) (O2:=.map (es'.push { key:=k',val:=v',born:=clock }) (clock+1))
       ⟨rfl,by simpa using he.append (us:=[{ key:=k,val:=v,born:=clock }]) (vs:=[{ key:=k',val:=v',born:=clock }]) ⟨hk,hv,rfl,trivial⟩⟩ 0
      refine⟨_,?_,hput⟩
      have hset:=zcn (P:=P) (w:=w) (o2:=.map (es'.push { key:=k',val:=v',born:=clock }) (clock+1)) ho (by intro _ _ _ q; cases q)
      simp only[Instr.mapUpdate,Sem.run_bind,zac hu,Result.andThen_ok,hg,hc,h1,hset]
      rfl
   ·simp at hs
theorem zlN (r:R P φ h w) {t ty:TypeId} {m m' k k' u:Value} {h' : AH} {ats:Array TypeId} (hs:zfU P h t m k=some (u,h')) (hm:VR φ m m') (hk:VR φ k k') (hat:ats[0]?= some t):
 zg0 P φ h w (Builtin.delete_ ats ty #[m',k']) u h':=by
 unfold zfU at hs
 split at hs
 rotate_left
 ·simp at hs
 rename_i kt et b hu
 split at hs
 rotate_left
 ·simp at hs
 rename_i la es clock hkt ha hb
 simp only[zur,Bool.and_eq_true] at hkt
 cases hm with
 | map hφ=>
   rename_i rc
   obtain⟨es',ho,he⟩:=r.map hb hφ
   have hg:=zcm (P:=P) ho (by intro _ _ _ q; cases q)
   have hc:=zdg (P:=P) hkt.1 ha hk es'.isEmpty w
   split at hs
   ·rename_i j u hf
    simp only[Option.some.injEq,Prod.mk.injEq] at hs
    obtain⟨rfl,rfl⟩:=hs
    obtain⟨o',h1,h2⟩:=zbk (P:=P) hkt.1 ha hk w he hf
    cases o' with
    | none=>exact h2.elim
    | some p=>
      obtain⟨j',u'⟩:=p
      obtain⟨rfl,hu',_,e,hej,rfl,hek⟩:=h2
      have hput:=Tn.put (P:=P) r hb hφ rfl (o2:=.map (es.eraseIdx j) clock) (O2:=.map (es'.eraseIdxIfInBounds j) clock) ⟨rfl,by simpa using he.eraseIdx j⟩ 0
      have hset:=zcn (P:=P) (w:=w) (o2:=.map (es'.eraseIdxIfInBounds j) clock) ho (by intro _ _ _ q; cases q)
      refine⟨φ,.tuple #[],_,?_,.junk _,hput⟩
      simp[Builtin.delete_,hat,zac hu,hg,hc,h1,hset]
   ·rename_i hf
    simp only[Option.some.injEq,Prod.mk.injEq] at hs
    obtain⟨rfl,rfl⟩:=hs
    obtain⟨o',h1,h2⟩:=zbk (P:=P) hkt.1 ha hk w he hf
    cases o' with
    | some _=>exact h2.elim
    | none=>
      have hput:=Tn.put (P:=P) r hb hφ rfl (o2:=.map es clock) (O2:=.map es' clock) ⟨rfl,he⟩ 0
      have hset:=zcn (P:=P) (w:=w) (o2:=.map es' clock) ho (by intro _ _ _ q; cases q)
      refine⟨φ,.tuple #[],_,?_,.junk _,hput⟩
      simp[Builtin.delete_,hat,zac hu,hg,hc,h1,hset]
   ·simp at hs
end
section
variable {P:Program} {φ φ' : Fi} {h h' : AH} {w w' : World}
theorem zqf (r:R P φ h w) {t ty:TypeId} {x x' u:Value} {ats:Array TypeId} (hs:zsp P h t x=some u) (hx:VR φ x x') (hat:ats[0]?= some t):
 ∃u',(Builtin.len_ ats ty #[x']).run P w=.ok u' w∧VR φ u u':=by
 unfold zsp at hs
 split at hs
 ·rename_i s hu
  simp only[Option.some.injEq] at hs
  subst hs
  cases hx
  exact⟨_,by simp[Builtin.len_,hat,zac hu,goInt],.int _ _⟩
 ·rename_i n e hu
  simp only[Option.some.injEq] at hs
  subst hs
  exact⟨_,by simp[Builtin.len_,hat,zac hu,goInt],.int _ _⟩
 ·rename_i arr hu
  split at hs
  ·rename_i n e hu2
   simp only[Option.some.injEq] at hs
   subst hs
   exact⟨_,by simp[Builtin.len_,hat,zac hu,zac hu2,goInt],.int _ _⟩
  ·simp at hs
 ·rename_i e a n c hu
  simp only[Option.some.injEq] at hs
  subst hs
  cases hx <;> exact⟨_,by simp[Builtin.len_,hat,zac hu,goInt],.int _ _⟩
 ·rename_i k e hu
  simp only[Option.some.injEq] at hs
  subst hs
  cases hx
  exact⟨_,by simp[Builtin.len_,hat,zac hu,goInt],.int _ _⟩
 ·rename_i k e b hu
  split at hs
  ·rename_i es c hb
   simp only[Option.some.injEq] at hs
   subst hs
   cases hx with
   | map hφ=>
     obtain⟨es',ho,he⟩:=r.map hb hφ
     have hg:=zcm (P:=P) ho (by intro _ _ _ q; cases q)
     have hl:=he.length
     simp only[Array.length_toList] at hl
     rw[hl]
     exact⟨_,by simp[Builtin.len_,hat,zac hu,hg,goInt],.int _ _⟩
  ·simp at hs
 ·simp at hs
theorem zqg {t ty:TypeId} {x x' u:Value} {ats:Array TypeId} (hs:zwk P t x=some u) (hx:VR φ x x') (hat:ats[0]?= some t):
 ∃u',(Builtin.cap_ ats ty #[x']).run P w=.ok u' w∧VR φ u u':=by
 unfold zwk at hs
 split at hs
 ·rename_i e a n c hu
  split at hs
  ·rename_i hc
   simp only[Option.some.injEq] at hs
   subst hs
   cases hx <;> first | exact absurd hc (Nat.lt_irrefl _) | exact⟨_,by simp[Builtin.cap_,hat,zac hu,goInt],.int _ _⟩
  ·simp at hs
 ·simp at hs
theorem zir (mx:Bool) (k:IntKind):∀(a:Int) (l l' : List Value) {u:Value},zey mx k a l=some u→AR φ l l'→∀(w:World),
 (l'.foldlM (if mx then Builtin.max2 else Builtin.min2) (.int k a)).run P w=.ok u w∧VR φ u u
 | a,[],[],u,hs,_,w=>by
   simp only[zey,Option.some.injEq] at hs
   subst hs
   exact⟨by simp,.int _ _⟩
 | a,x :: l,x' :: l',u,hs,r,w=>by
   unfold zey at hs
   split at hs
   ·rename_i q; simp at q
   ·rename_i q1 j b rr q2
    simp only[List.cons.injEq] at q2
    obtain⟨rfl,rfl⟩:=q2
    obtain⟨h1,h2⟩:=r
    cases h1
    cases mx
    ·simp only[Bool.false_eq_true,if_false] at hs ⊢
     have ih:=zir false k _ l l' hs h2 w
     simp only[Bool.false_eq_true,if_false] at ih
     exact⟨by simpa[Builtin.min2] using ih.1,ih.2⟩
    ·simp only[if_true] at hs ⊢
     have ih:=zir true k _ l l' hs h2 w
     simp only[if_true] at ih
     exact⟨by simpa[Builtin.max2] using ih.1,ih.2⟩
   ·simp at hs
theorem zht {mx:Bool} {l l' : List Value} {u:Value} (hs:zg1 mx l=some u) (r:AR φ l l') (ats:Array TypeId) (ty:TypeId) (w:World):
 ∃u',(if mx then Builtin.max_ ats ty l'.toArray else Builtin.min_ ats ty l'.toArray).run P w=.ok u' w∧VR φ u u':=by
 unfold zg1 at hs
 split at hs
 ·rename_i k a rr
  cases l' with
  | nil=>exact r.elim
  | cons x' l'=>
    obtain⟨h1,h2⟩:=r
    cases h1
    have:=zir (P:=P) mx k a rr l' hs h2 w
    refine⟨u,?_,this.2⟩
    cases mx
    ·simpa[Builtin.min_] using this.1
    ·simpa[Builtin.max_] using this.1
 ·simp at hs
def zbz (P:Program) (φ:Fi) (h:AH) (w:World) (S:Sem Next) (v:Value) (h' : AH):Prop:=
 ∃φ' v' w',((S.run P w=.ok (.value v') w')∨(S.run P w=.ok .skip w'∧v'= undef))∧VR φ' v v'∧Tn P φ h w φ' h' w'
theorem zg0.op {S:Sem Value} {v:Value} (e:zg0 P φ h w S v h'):zbz P φ h w (do pure (.value (←S))) v h':=by
 obtain⟨φ',v',w',h1,h2,h3⟩:=e
 exact⟨φ',v',w',.inl (by simp[h1]),h2,h3⟩
theorem zbz.same {S:Sem Value} {v v' : Value} (r:R P φ h w) (hr:S.run P w=.ok v' w) (hv:VR φ v v'):zbz P φ h w (do pure (.value (←S))) v h:=(zg0.same r hr hv).op
theorem zbz.unit {S:Sem Unit} (hr:∃w',S.run P w=.ok () w'∧Tn P φ h w φ h' w'):zbz P φ h w (do S; pure .skip) undef h':=by
 obtain⟨w',h1,h2⟩:=hr
 exact⟨φ,undef,w',.inr ⟨by simp[h1],rfl⟩,.junk _,h2⟩
theorem AR.map {e:Env} {a:Array Value} (k:zci φ e a):∀(l:List Operand),AR φ (l.map (ev e)) (l.map (({ tmps:=a,defers:=[] }:Act).eval))
 | []=>trivial
 | x :: l=>⟨VR.eval k x,AR.map k l⟩
theorem PR.map {e:Env} {a:Array Value} (k:zci φ e a):∀(l:List (Nat×Operand)),PR φ (l.map fun p=>(p.1,ev e p.2)) (l.map fun p=>(p.1,(({ tmps:=a,defers:=[] }:Act).eval) p.2))
 | []=>trivial
 | x :: l=>⟨rfl,VR.eval k x.2,PR.map k l⟩
theorem R.siter (r:R P φ h w) {b:Nat} {s:ByteArray} {p:Nat} {rc:Rec} (hb:h.get b=some (.siter s p)) (hφ:φ b=some rc):w.heap[rc.blk]?= some (.stringIter s p)∧rc.shift=0:=by
 obtain⟨o',ho,hr⟩:=r.obj b _ rc hb hφ
 cases o' <;> simp only[OR] at hr
 obtain⟨rfl,rfl,h0⟩:=hr
 exact⟨ho,h0⟩
theorem zwl {l:List Value} {x:Value} (h:AR φ [x] l):∃x',l=[x']∧VR φ x x':=by
 cases l with
 | nil=>exact h.elim
 | cons y l=>cases l with
   | nil=>exact⟨y,rfl,h.1⟩
   | cons _ _=>exact h.2.elim
theorem zwm {l:List Value} {x y:Value} (h:AR φ [x,y] l):∃x' y',l=[x',y']∧VR φ x x'∧VR φ y y':=by
 cases l with
 | nil=>exact h.elim
 | cons z l=>
   obtain⟨y',rfl,h2⟩:=zwl h.2
   exact⟨z,y',rfl,h.1,h2⟩
theorem zkx (G:zd7 P) (r:R P φ h w) {b:Builtin} {ats:Array TypeId} {args args' : List Value} {ty:TypeId} {consts:Array Bool} {v:Value} {h' : AH} (hs:zan P h b ats args=some (v,h')) (ha:AR φ args args')
 (hf:h.next < h'.next→φ h.next=none):zbz P φ h w (builtin b ats ty consts args'.toArray) v h':=by
 unfold zan at hs
 split at hs
 ·rename_i t x hat
  obtain⟨x',rfl,hx⟩:=zwl ha
  cases hl:zsp P h t x with
  | none=>simp[hl] at hs
  | some u=>
    simp only[hl,Option.map_some,Option.some.injEq,Prod.mk.injEq] at hs
    obtain⟨rfl,rfl⟩:=hs
    obtain⟨u',h1,h2⟩:=zqf (P:=P) r hl hx (ty:=ty) (ats:=ats) (by rw[←Array.getElem?_toList,hat]; rfl)
    exact zbz.same r h1 h2
 ·rename_i t x hat
  obtain⟨x',rfl,hx⟩:=zwl ha
  cases hl:zwk P t x with
  | none=>simp[hl] at hs
  | some u=>
    simp only[hl,Option.map_some,Option.some.injEq,Prod.mk.injEq] at hs
    obtain⟨rfl,rfl⟩:=hs
    obtain⟨u',h1,h2⟩:=zqg (P:=P) (w:=w) hl hx (ty:=ty) (ats:=ats) (by rw[←Array.getElem?_toList,hat]; rfl)
    exact zbz.same r h1 h2
 ·rename_i st xt s x hat
  obtain⟨s',x',rfl,hs',hx⟩:=zwm ha
  have he:ats=#[st,xt]:=Array.ext' (by rw[hat])
  subst he
  split at hs
  ·exact (zks (P:=P) G r hs hs' hx hf).op
  refine (zlG (P:=P) r hs ?_ hs' hx hf).op
  intro hq
  split at hq
  ·rename_i e hu; exact .inl ⟨e,hu⟩
  ·rename_i hu; exact .inr hu
  ·simp at hq
 ·rename_i t rr d s hat
  obtain⟨d',s',rfl,hd,hs'⟩:=zwm ha
  exact (zph (P:=P) r hs hd hs' (by rw[←Array.getElem?_toList,hat]; rfl)).op
 ·rename_i t rr x hat
  obtain⟨x',rfl,hx⟩:=zwl ha
  exact (znn (P:=P) G r hs hx (by rw[←Array.getElem?_toList,hat]; rfl)).op
 ·rename_i t rr m k hat
  obtain⟨m',k',rfl,hm,hk⟩:=zwm ha
  exact (zlN (P:=P) r hs hm hk (by rw[←Array.getElem?_toList,hat]; rfl)).op
 ·obtain⟨u,hl,hq⟩:=Option.map_eq_some_iff.1 hs
  simp only[Prod.mk.injEq] at hq
  obtain⟨rfl,rfl⟩:=hq
  obtain⟨u',h1,h2⟩:=zht (P:=P) hl ha ats ty w
  exact zbz.same r (by simpa using h1) h2
 ·obtain⟨u,hl,hq⟩:=Option.map_eq_some_iff.1 hs
  simp only[Prod.mk.injEq] at hq
  obtain⟨rfl,rfl⟩:=hq
  obtain⟨u',h1,h2⟩:=zht (P:=P) hl ha ats ty w
  exact zbz.same r (by simpa using h1) h2
 ·simp at hs
set_option maxHeartbeats 2000000 in
theorem zst (G:zd7 P) (r:R P φ h w) {o:Oper} {e:Env} {a:Array Value} {v:Value} {h' : AH} (hs:aOp P o e h=some (v,h')) (k:zci φ e a) (hf:h.next < h'.next→φ h.next=none):
 zbz P φ h w (execOp (({ tmps:=a,defers:=[] }:Act).eval) o) v h':=by
 obtain⟨dst,op,type,pos,after,guard⟩:=o
 cases op <;> simp only[aOp] at hs <;> try (simp at hs; done)
 case move x=>
  simp only[Option.some.injEq,Prod.mk.injEq] at hs
  obtain⟨rfl,rfl⟩:=hs
  exact⟨φ,_,w,.inl (by simp[execOp]),VR.eval k x,Tn.refl r⟩
 case assign x=>
  simp only[Option.some.injEq,Prod.mk.injEq] at hs
  obtain⟨rfl,rfl⟩:=hs
  exact⟨φ,_,w,.inl (by simp[execOp]),VR.eval k x,Tn.refl r⟩
 case pick c x y=>
  have hc:=VR.eval k c
  split at hs
  ·rename_i t hct
   rw[hct] at hc
   simp only[Option.some.injEq,Prod.mk.injEq] at hs
   obtain⟨rfl,rfl⟩:=hs
   cases hcv:({ tmps:=a,defers:=[] }:Act).eval c <;> rw[hcv] at hc <;> cases hc
   refine⟨φ,cond t (({ tmps:=a,defers:=[] }:Act).eval x) (({ tmps:=a,defers:=[] }:Act).eval y),w,.inl ?_,?_,Tn.refl r⟩
   ·cases t <;> simp[execOp,hcv,asBool]
   ·cases t
    ·exact VR.eval k y
    ·exact VR.eval k x
  ·simp at hs
 case alloc t=>
  split at hs
  ·rename_i z hz
   simp only[zso,Option.some.injEq,Prod.mk.injEq] at hs
   obtain⟨rfl,rfl⟩:=hs
   exact (znk G r hz (hf (by simp))).op
  ·simp at hs
 case box t x=>
  split at hs
  ·simp at hs
  ·rename_i hne
   simp only[zso,Option.some.injEq,Prod.mk.injEq] at hs
   obtain⟨rfl,rfl⟩:=hs
   exact (zqb r (hf (by simp)) (VR.eval k x) (fun xs e=>hne xs e)).op
 case build t ps=>
  cases hb:zaE P t (ps.map fun p=>(p.1,ev e p.2)) with
  | none=>simp[hb] at hs
  | some u=>
    simp only[hb,Option.map_some,Option.some.injEq,Prod.mk.injEq] at hs
    obtain⟨rfl,rfl⟩:=hs
    obtain⟨u',h1,h2⟩:=znl (φ:=φ) G hb (ps':=ps.map fun p=>(p.1,(({ tmps:=a,defers:=[] }:Act).eval) p.2)) (by simpa using PR.map k ps.toList) w
    exact zbz.same r h1 h2
 case buildSlice t n ps=>
  exact (zhF G r hs (ps':=ps.map fun p=>(p.1,(({ tmps:=a,defers:=[] }:Act).eval) p.2)) (by simpa using PR.map k ps.toList) hf).op
 case load t x=>
  cases hb:zia P h t (ev e x) with
  | none=>simp[hb] at hs
  | some u=>
    simp only[hb,Option.map_some,Option.some.injEq,Prod.mk.injEq] at hs
    obtain⟨rfl,rfl⟩:=hs
    obtain⟨u',h1,h2⟩:=zjQ r hb (VR.eval k x)
    exact zbz.same r h1 h2
 case store t x y=>
  cases hb:zex P h t (ev e x) (ev e y) with
  | none=>simp[hb] at hs
  | some u=>
    simp only[hb,Option.map_some,Option.some.injEq,Prod.mk.injEq] at hs
    obtain⟨rfl,rfl⟩:=hs
    exact zbz.unit (zng r hb (VR.eval k x) (VR.eval k y))
 case nilCheck x=>
  have hx:=VR.eval k x
  split at hs
  ·rename_i ad hev
   simp only[Option.some.injEq,Prod.mk.injEq] at hs
   obtain⟨rfl,rfl⟩:=hs
   rw[hev] at hx
   generalize hcv:({ tmps:=a,defers:=[] }:Act).eval x=x' at hx
   refine⟨φ,x',w,.inl ?_,hx,Tn.refl r⟩
   cases hx
   simp[execOp,hcv]
  ·rename_i f a0 b0 hev
   simp only[Option.some.injEq,Prod.mk.injEq] at hs
   obtain⟨rfl,rfl⟩:=hs
   rw[hev] at hx
   generalize hcv:({ tmps:=a,defers:=[] }:Act).eval x=x' at hx
   refine⟨φ,x',w,.inl ?_,hx,Tn.refl r⟩
   obtain⟨fn',xs',ys',rfl,hfr,_⟩:=hx.funcAR
   cases hfr
   simp[execOp,hcv]
  ·rename_i f a0 b0 hev
   simp only[Option.some.injEq,Prod.mk.injEq] at hs
   obtain⟨rfl,rfl⟩:=hs
   rw[hev] at hx
   generalize hcv:({ tmps:=a,defers:=[] }:Act).eval x=x' at hx
   refine⟨φ,x',w,.inl ?_,hx,Tn.refl r⟩
   obtain⟨fn',xs',ys',rfl,hfr,_⟩:=hx.funcAR
   cases hfr
   simp[execOp,hcv]
  ·simp at hs
 case binOp bo t x y yt=>
  cases hb:zjw P bo t (ev e x) (ev e y) with
  | none=>simp[hb] at hs
  | some u=>
    simp only[hb,Option.map_some,Option.some.injEq,Prod.mk.injEq] at hs
    obtain⟨rfl,rfl⟩:=hs
    obtain⟨u',h1,h2⟩:=zqe G hb (VR.eval k x) (VR.eval k y) x y w
    exact zbz.same r h1 h2
 case unOp uo t x=>
  cases hb:aUn uo (ev e x) with
  | none=>simp[hb] at hs
  | some u=>
    simp only[hb,Option.map_some,Option.some.injEq,Prod.mk.injEq] at hs
    obtain⟨rfl,rfl⟩:=hs
    obtain⟨u',h1,h2⟩:=zsr (P:=P) hb (VR.eval k x) w
    exact zbz.same r h1 h2
 case convert s d x=>exact (zkt r hs (VR.eval k x) hf).op
 case makeFunc fn a0 b0=>
  split at hs
  ·rename_i f
   simp only[Option.some.injEq,Prod.mk.injEq] at hs
   obtain⟨rfl,rfl⟩:=hs
   refine⟨φ,.func (.func f) (a0.map (({ tmps:=a,defers:=[] }:Act).eval)) (b0.map (({ tmps:=a,defers:=[] }:Act).eval)),w,.inl (by simp[execOp,Instr.makeFunc]),?_,Tn.refl r⟩
   exact AR.func (.func f) (by simpa using AR.map k a0.toList) (by simpa using AR.map k b0.toList)
  ·simp at hs
 case makeInterface t x=>
  split at hs
  ·simp at hs
  ·rename_i d hne hu
   simp only[Option.some.injEq,Prod.mk.injEq] at hs
   obtain⟨rfl,rfl⟩:=hs
   refine⟨φ,.iface t (({ tmps:=a,defers:=[] }:Act).eval x),w,.inl ?_,.iface (VR.eval k x),Tn.refl r⟩
   cases d <;> first | exact absurd rfl (hne _) | simp[execOp,Instr.makeInterface,zac hu]
  ·simp at hs
 case typeAssert x xt t ok=>
  cases ok with
  | true=>simp at hs
  | false=>
    simp only at hs
    have hx:=VR.eval k x
    split at hs
    ·simp at hs
    ·rename_i d u v0 hne hu hev
     rw[hev] at hx
     generalize hcv:({ tmps:=a,defers:=[] }:Act).eval x=x' at hx
     split at hs
     ·rename_i hut
      simp only[Option.some.injEq,Prod.mk.injEq] at hs
      obtain⟨rfl,rfl⟩:=hs
      cases hx with
      | iface hv=>
        rename_i v1
        refine⟨φ,v1,w,.inl ?_,hv,Tn.refl r⟩
        cases d <;> first | exact absurd rfl (hne _) | simp[execOp,Instr.typeAssert,zac hu,hcv,hut]
     ·simp at hs
    ·simp at hs
 case makeMap t q=>
  split at hs
  ·simp only[Option.some.injEq,Prod.mk.injEq] at hs
   obtain⟨rfl,rfl⟩:=hs
   have hfr:=hf (by simp)
   have ht:=Tn.alloc (P:=P) r (.map [] 0) (.map #[] 0) ⟨w.heap.size,0,0,0⟩ hfr rfl (fun ψ _ _=>⟨rfl,trivial⟩) 0
   refine⟨_,.map (some w.heap.size),_,.inl ?_,.map (r:=⟨w.heap.size,0,0,0⟩) (by simp),ht⟩
   simp[execOp,Instr.makeMap]
  ·simp at hs
 case makeSlice t l c=>exact (zik G r hs (VR.eval k l) (VR.eval k c) hf).op
 case slice t x lo hi mx=>
  cases hb:zaB P h t (ev e x) (lo.map (ev e)) (hi.map (ev e)) (mx.map (ev e)) with
  | none=>simp[hb] at hs
  | some u=>
    simp only[hb,Option.map_some,Option.some.injEq,Prod.mk.injEq] at hs
    obtain⟨rfl,rfl⟩:=hs
    obtain⟨u',h1,h2⟩:=znj r hb (VR.eval k x) (zg3.map k lo) (zg3.map k hi) (zg3.map k mx)
    exact zbz.same r h1 h2
 case fieldAddr s x f=>
  cases hb:zdy P s (ev e x) f with
  | none=>simp[hb] at hs
  | some u=>
    simp only[hb,Option.map_some,Option.some.injEq,Prod.mk.injEq] at hs
    obtain⟨rfl,rfl⟩:=hs
    obtain⟨u',h1,h2⟩:=zii (P:=P) hb (VR.eval k x) w
    exact zbz.same r h1 h2
 case field t x f=>
  cases hb:zlD P t (ev e x) f with
  | none=>simp[hb] at hs
  | some u=>
    simp only[hb,Option.map_some,Option.some.injEq,Prod.mk.injEq] at hs
    obtain⟨rfl,rfl⟩:=hs
    obtain⟨u',h1,h2⟩:=zni (P:=P) hb (VR.eval k x) w
    exact zbz.same r h1 h2
 case indexAddr t x i=>
  cases hb:zcl P t (ev e x) (ev e i) with
  | none=>simp[hb] at hs
  | some u=>
    simp only[hb,Option.map_some,Option.some.injEq,Prod.mk.injEq] at hs
    obtain⟨rfl,rfl⟩:=hs
    obtain⟨u',h1,h2⟩:=zij (P:=P) hb (VR.eval k x) (VR.eval k i) w
    exact zbz.same r h1 h2
 case index t x i=>
  cases hb:zic P t (ev e x) (ev e i) with
  | none=>simp[hb] at hs
  | some u=>
    simp only[hb,Option.map_some,Option.some.injEq,Prod.mk.injEq] at hs
    obtain⟨rfl,rfl⟩:=hs
    obtain⟨u',h1,h2⟩:=znh (P:=P) hb (VR.eval k x) (VR.eval k i) w
    exact zbz.same r h1 h2
 case lookup t m q ok=>
  cases hb:zbu P h t (ev e m) (ev e q) ok with
  | none=>simp[hb] at hs
  | some u=>
    simp only[hb,Option.map_some,Option.some.injEq,Prod.mk.injEq] at hs
    obtain⟨rfl,rfl⟩:=hs
    obtain⟨u',h1,h2⟩:=zlM G r hb (VR.eval k m) (VR.eval k q)
    exact zbz.same r h1 h2
 case mapUpdate t m q u=>
  cases hb:zaF P h t (ev e m) (ev e q) (ev e u) with
  | none=>simp[hb] at hs
  | some h2=>
    simp only[hb,Option.map_some,Option.some.injEq,Prod.mk.injEq] at hs
    obtain⟨rfl,rfl⟩:=hs
    exact zbz.unit (ziq r hb (VR.eval k m) (VR.eval k q) (VR.eval k u))
 case range t x=>
  have hx:=VR.eval k x
  split at hs
  ·rename_i s hu hev
   simp only[Option.some.injEq,Prod.mk.injEq] at hs
   obtain⟨rfl,rfl⟩:=hs
   rw[hev] at hx
   generalize hcv:({ tmps:=a,defers:=[] }:Act).eval x=x' at hx
   cases hx
   have hfr:=hf (by simp)
   have ht:=Tn.alloc (P:=P) r (.siter s 0) (.stringIter s 0) ⟨w.heap.size,0,0,0⟩ hfr rfl (fun ψ _ _=>⟨rfl,rfl,rfl⟩) 0
   refine⟨_,.pointer (some ⟨w.heap.size,0,none⟩),_,.inl ?_,.ptr (r:=⟨w.heap.size,0,0,0⟩) (by simp),ht⟩
   simp[execOp,Instr.range,zac hu,hcv]
  ·simp at hs
 case next it st=>
  cases st <;> simp only at hs
  ·simp at hs
  ·have hx:=VR.eval k it
   split at hs
   ·rename_i b hev
    rw[hev] at hx
    generalize hcv:({ tmps:=a,defers:=[] }:Act).eval it=x' at hx
    split at hs
    ·rename_i s p hb
     cases hx with
     | ptr hφ=>
       rename_i rc
       obtain⟨ho,hsh⟩:=r.siter hb hφ
       have hg:=zcm (P:=P) ho (by intro _ _ _ q; cases q)
       have hp0:(⟨rc.blk,rc.shift+0,none⟩:Addr)=⟨rc.blk,0,none⟩:=by rw[hsh]
       rw[hp0] at hcv
       split at hs
       ·rename_i hlt
        simp only[Option.some.injEq,Prod.mk.injEq] at hs
        obtain⟨rfl,rfl⟩:=hs
        have hput:=Tn.put (P:=P) r hb hφ rfl (o2:=.siter s (p+(Utf8.decode s p).2)) (O2:=.stringIter s (p+(Utf8.decode s p).2)) ⟨rfl,rfl,hsh⟩ 0
        have hset:=zcn (P:=P) (w:=w) (o2:=.stringIter s (p+(Utf8.decode s p).2)) ho (by intro _ _ _ q; cases q)
        refine⟨φ,.tuple #[.bool true,goInt p,.int .i32 (Utf8.decode s p).1],_,.inl ?_,?_,hput⟩
        ·simp[execOp,Instr.next,hcv,hg,hlt,hset]
        ·exact AR.tuple ⟨.bool _,.int _ _,.int _ _,trivial⟩
       ·rename_i hlt
        simp only[Option.some.injEq,Prod.mk.injEq] at hs
        obtain⟨rfl,rfl⟩:=hs
        refine⟨φ,.tuple #[.bool false],w,.inl ?_,?_,Tn.refl r⟩
        ·simp[execOp,Instr.next,hcv,hg,hlt]
        ·exact AR.tuple ⟨.bool _,trivial⟩
    ·simp at hs
   ·simp at hs
 case extract t i=>
  have hx:=VR.eval k t
  split at hs
  ·rename_i vs hev
   rw[hev] at hx
   generalize hcv:({ tmps:=a,defers:=[] }:Act).eval t=x' at hx
   cases hsz:isSkip (.tuple vs) with
   | true=>rw[hsz] at hs; simp at hs
   | false=>
   rw[hsz,cond_false] at hs
   cases hb:vs[i]? with
   | none=>simp[hb] at hs
   | some u=>
     simp only[hb,Option.map_some,Option.some.injEq,Prod.mk.injEq] at hs
     obtain⟨rfl,rfl⟩:=hs
     rcases hx.tupleAR with rfl | hz | ⟨vs',rfl,har⟩
     ·simp at hb
     ·rw[hz] at hsz; exact Bool.noConfusion hsz
     ·obtain⟨u',hu',hr⟩:=har.at i u (by simpa using hb)
      have:vs'[i]?= some u':=by simpa using hu'
      exact zbz.same r (by simp[Instr.extract,hcv,this]) hr
  ·simp at hs
 case call c=>
  obtain⟨callee,args,ats⟩:=c
  cases callee <;> simp only at hs <;> try (simp at hs; done)
  case builtin b=>
   have hb:=fun cs=>zkx (P:=P) G r (ty:=type) (consts:=cs) hs (AR.map k args.toList) hf
   have e1:(args.toList.map (({ tmps:=a,defers:=[] }:Act).eval)).toArray=args.map (({ tmps:=a,defers:=[] }:Act).eval):=Array.ext' (by simp)
   have e2:execOp (({ tmps:=a,defers:=[] }:Act).eval) ⟨dst,.call ⟨.builtin b,args,ats⟩,type,pos,after,guard⟩=builtin b ats type (args.map fun | .const _=>true | _=>false) (args.map (({ tmps:=a,defers:=[] }:Act).eval)):=rfl
   rw[e2,←e1]
   exact hb _
end
end Go.Am
