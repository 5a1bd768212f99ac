/-
  Texts of this proof, part 4. No condition.
-/
import Derived.Test.YtmnbboleclchcaaGreatFAm2c
import Derived.Laws.AppendOwn
import Derived.DeepKeys3
set_option linter.unusedVariables false
set_option linter.unusedSimpArgs false
namespace Go.Am
section
variable {P:Program} {φ φ' : Fi} {h h' : AH} {w w' : World}
theorem zgN {sType ty xType elem:TypeId} {i:TypeInfo} {z:Value} {base:Option Addr} {sLen sCap n:Nat} {x' : Value} {old new:List Value}
 (hu:P.underlying sType=some (.slice elem)) (hux:(∃e,P.underlying xType=some (.slice e))\/P.underlying xType=some .string) (hi:P.info? elem=some i) (hz:i.zero=some z) (hzs:z.cells.size=i.size)
 (hn:∀w2:World,(Builtin.lenOf x').run P w2=.ok n w2) (hg:sCap < sLen+n) (hb:(sLen+n) * i.bytes<=zaA) (h63:sLen+n<=9223372036854775807)
 (ho:∀w2:World,w2.heap=w.heap->(Builtin.firstCells i.size sLen (.slice base sLen sCap)).run P w2=.ok old.toArray w2)
 (hw:∀w2:World,w2.heap=w.heap->(Builtin.firstCells i.size n x').run P w2=.ok new.toArray w2):
 ∃cap C,sLen+n<=cap/\cap < zai/\(∃post,C.toList=(old ++ new) ++ post/\post.length=(cap - (sLen+n)) * i.size)/\
  (Builtin.append_ #[sType,xType] ty #[.slice base sLen sCap,x']).run P w=.ok (.slice (some ⟨w.heap.size,0,none⟩) (sLen+n) cap) { w with heap:=w.heap.push (.cells C elem),drawn:=w.drawn+1 }:=by
 have hnext:Builtin.nextslicecap (sLen+n) sCap * i.bytes<=281474976710656:=growslice_fits (by omega) hb
 refine⟨grownCap w (sLen+n) sCap elem,old.toArray ++ (new.toArray ++ Builtin.zeroCells z.cells (grownCap w (sLen+n) sCap elem - (sLen+n))),grownCap_ge _ _ _ _,?_,⟨(Builtin.zeroCells z.cells (grownCap w (sLen+n) sCap elem - (sLen+n))).toList,by simp,?_⟩,?_⟩
 ·grind[grownCap_le_maxLen,maxLen,zai]
 ·grind[Builtin.zeroCells]
 ·have e1:¬(sLen+n<=sCap):=by omega
  have e2:¬(281474976710656 < Builtin.nextslicecap (sLen+n) sCap * i.bytes):=by omega
  have e3:¬(9223372036854775807 < (sLen:Int)+(n:Int)):=by omega
  have hw1:=hw w.drew rfl
  have ho1:=ho w.drew rfl
  rcases hux with ⟨ex,hux1⟩ | hux1
  ·simp[Builtin.append_,zac hu,zac hux1,sizeOf,typeInfo,hi,hn,e1,e2,e3,hw1,ho1,zeroValue,hz,newRow,grownCap,Question.forced]
   rfl
  ·simp[Builtin.append_,zac hu,zac hux1,sizeOf,typeInfo,hi,hn,e1,e2,e3,hw1,ho1,zeroValue,hz,newRow,grownCap,Question.forced]
   rfl
theorem zcu {sType ty xType elem:TypeId} {i:TypeInfo} {base:Option Addr} {sLen sCap n:Nat} {x' : Value} {new:List Value}
 (hu:P.underlying sType=some (.slice elem)) (hux:(∃e,P.underlying xType=some (.slice e))\/P.underlying xType=some .string) (hi:P.info? elem=some i)
 (hn:∀w2:World,(Builtin.lenOf x').run P w2=.ok n w2) (hg:sLen+n<=sCap)
 (hw:∀w2:World,w2.heap=w.heap->(Builtin.firstCells i.size n x').run P w2=.ok new.toArray w2) {w1:World}
 (hs:∀a,base=some a->(storeCells (a.add (sLen * i.size)) new).run P w=.ok () w1) (hb:base=none->w1=w):
 (Builtin.append_ #[sType,xType] ty #[.slice base sLen sCap,x']).run P w=.ok (.slice base (sLen+n) sCap) w1:=by
 cases base with
 | none=>
   obtain rfl:=hb rfl
   rcases hux with ⟨ex,hux1⟩ | hux1
   ·simp[Builtin.append_,zac hu,zac hux1,sizeOf,typeInfo,hi,hn,hg,hw w1 rfl]
   ·simp[Builtin.append_,zac hu,zac hux1,sizeOf,typeInfo,hi,hn,hg,hw w1 rfl]
 | some a=>
   have:=hs a rfl
   rcases hux with ⟨ex,hux1⟩ | hux1
   ·simp[Builtin.append_,zac hu,zac hux1,sizeOf,typeInfo,hi,hn,hg,hw w rfl,this]
   ·simp[Builtin.append_,zac hu,zac hux1,sizeOf,typeInfo,hi,hn,hg,hw w rfl,this]
theorem Tn.regrow (r:R P φ h w) {b:Nat} {cs cs2:List Value} {e:TypeId} {rc:Rec} {sh:Nat} {C2:Array Value} {m2:Nat×Nat} (hb:h.get b=some (.cells cs e false)) (hφ:φ b=some rc) (hf:φ h.next=none)
 (hC2:C2.size=rc.total) (hs2:∃pre mid post,C2.toList=pre ++ mid ++ post/\pre.length=sh/\LR φ cs2 mid) (hm:NF m2 rc.total) (hes:rc.esz=P.cellsOf e):
 ∃φ',φ' h.next=some { rc with shift:=sh }/\Le φ φ'/\Tn P φ h w φ' ((h.del b).alloc (.cells cs2 e false)) { w with heap:=w.heap.setIfInBounds rc.blk (.cells C2 e m2),drawn:=w.drawn+0 }:=by
 obtain⟨O,hO,_⟩:=r.obj b _ rc hb hφ
 have hle:Le φ (λc=>if c=h.next then some { rc with shift:=sh } else φ c):=by
  intro c q k
  grind
 have hget:∀c o,((h.del b).alloc (.cells cs2 e false)).get c=some o->(c=h.next/\o=.cells cs2 e false)\/(c≠h.next/\c≠b/\h.get c=some o):=by grind[AH.get_alloc,AH.get_del,AH.next_del]
 have hne:∀c o q,c≠b->h.get c=some o->φ c=some q->q.blk≠rc.blk:=λc o q hcb h1 h2 e=>(r.inj c b o _ q rc h1 hb h2 hφ e).elim hcb (λq=>Bool.noConfusion q.2)
 refine⟨λc=>if c=h.next then some { rc with shift:=sh } else φ c,by simp,hle,hle,?_,by simp,⟨?_,?_,?_⟩,by simp,rfl,rfl,rfl,?_,?_⟩
 ·intro c k
  by_cases hc:c=h.next
  all_goals simp_all
 ·intro c o q k1 k2
  rcases hget c o k1 with ⟨hc,rfl⟩ | ⟨hc,hcb,k1⟩
  ·simp only[hc,if_true,Qa] at k2
   subst k2
   exact⟨.cells C2 e m2,by grind,rfl,hes,hC2,by grind[LR.mono],λ_=>hm⟩
  grind[R.obj,OR.mono]
 ·intro c1 c2 o1 o2 q1 q2 h1 h2 k1 k2 e'
  all_goals grind[R.inj]
 ·intro c o k1
  rcases hget c o k1 with ⟨hc,_⟩ | ⟨_,_,k1⟩
  ·simp_all
  ·have:=r.lt c o k1; simp; omega
 ·intro c hc hno
  have:rc.blk≠c:=λk=>hno ⟨b,_,rc,hb,hφ,k,rfl⟩
  grind
 ·intro c' o' q' k1 k2 _
  rcases hget c' o' k1 with ⟨hc',rfl⟩ | ⟨hc',_,k1⟩
  ·simp only[hc',if_true,Qa] at k2
   subst k2
   exact⟨b,_,rc,hb,hφ,rfl,λ_=>rfl⟩
  grind
theorem zm0 {g:Nat} {cur:Array Value} {t:TypeId} {m:Nat×Nat} (hg:w.heap[g]?= some (.cells cur t m)):{ w with heap:=w.heap.setIfInBounds g (.cells cur t m),drawn:=w.drawn+0 }= w:=by
 have:=setRow_self w g cur t m hg
 grind[zhF]
theorem zlg (r:R P φ h w) {sType xType ty:TypeId} {xInt:Bool} {s s' x x' v:Value} {h' : AH}
 (hs:zaM P h sType xInt s x=some (v,h')) (hx0:xInt=false->(∃e,P.underlying xType=some (.slice e))\/P.underlying xType=some .string) (hv:VR φ s s') (hx:VR φ x x') (hf:h.next < h'.next->φ h.next=none):
 zfh P φ h w (Builtin.append_ #[sType,xType] ty #[s',x']) v h':=by
 unfold zaM at hs
 split at hs
 rotate_left
 ·grind
 rename_i elem base sLen sCap hu
 have hux:=hx0 rfl
 split at hs
 rotate_left
 ·grind
 rename_i i n hi hn
 split at hs
 rotate_left
 ·grind
 rename_i old new z hold hnew hz
 split at hs
 rotate_left
 ·grind
 rename_i hcond
 obtain⟨hzs,hpos,hnl,hol⟩:=hcond
 obtain⟨news,hnr,hnrun⟩:=zc8 (P:=P) r hx hnew
 have hlenx:=λw2=>zon (P:=P) hx hn w2
 have hnl':=hnr.length
 split at hs
 ·
  rename_i hcap
  split at hs
  rotate_left
  ·grind
  rename_i b off
  split at hs
  rotate_left
  ·grind
  rename_i cs e hb
  split at hs
  rotate_left
  ·grind
  rename_i hc2
  obtain⟨rfl,hroom,h63⟩:=hc2
  obtain⟨rfl,rfl⟩:=hs
  have hf0:=hf (by simp)
  obtain⟨olds,hor,horun⟩:=zc8 (P:=P) r hv hold
  have hol':=hor.length
  have hcell:P.cellsOf e=i.size:=by grind[Program.cellsOf]
  have grow:∀(base' : Option Addr) (c' : Nat),s'= .slice base' sLen c'->c' < sLen+n->zfh P φ h w (Builtin.append_ #[sType,xType] ty #[s',x']) (.slice (some ⟨h.next,0,none⟩) (sLen+n) zai) ((h.del b).alloc (.cells (old ++ new) e false)):=by
   intro base' c' hs' hlt
   subst hs'
   obtain⟨cap,C,g1,g2,⟨post,g3,g3'⟩,g4⟩:=zgN (ty:=ty) hu hux hi hz hzs hlenx hlt hroom h63 horun hnrun
   have t1:=Tn.del (P:=P) r b
   obtain⟨φ',k1,k2⟩:=zbw (P:=P) (e:=e) (C:=C) t1.rel (by simp_all) (hor.append hnr) ⟨post,g3⟩ 1
   simp only[AH.next_del] at k1
   refine⟨φ',_,_,g4,?_,t1.trans k2⟩
   have:=VR.sliceO (φ:=φ') (off:=0) (n:=sLen+n) (c:=cap) k1 g2 g1 (by
    simp only[hcell,Qq]
    rw[<-QZ,g3]
    simp only[Qs,g3',<-hol',<-hnl',hol,hnl,<-QQ]
    grind)
   omega
  cases hv with
  | slice hφ hc=>omega
  | sliceY=>exact absurd hcap (by decide)
  | sliceO hφ hc hsn ht=>
    rename_i c' rc
    rcases QK c' (sLen+n) with hlt | hge
    ·grind
    ·obtain⟨C,m,pre,mid,post,ho,hes,htot,hC,hsh,hlr,hnf⟩:=r.cells hb hφ
     rw[hes,hcell] at ht
     have hmul:(sLen+n) * i.size<=c' * i.size:=Qt _ hge
     rw[QQ] at hmul
     have hrun:=zcV (P:=P) rc.blk (rc.shift+off+sLen * i.size) e m news 0 C w ho (by grind) (by omega) hnr.one
     rw[zhF ho] at hrun
     have holds:olds=(mid.drop off).take (sLen * i.size)\/sLen * i.size=0:=by
      by_cases h0:sLen * i.size=0
      ·omega
      ·have hr0:=horun w rfl
       simp only[Builtin.firstCells] at hr0
       have hle:off+sLen * i.size<=cs.length:=by grind[firstC]
       rw[zds ho hC hsh (by grind[LR.length])] at hr0
       grind
     have hsplit:∃pre' post',(C.toList.take (rc.shift+off+sLen * i.size+0) ++ news ++ C.toList.drop (rc.shift+off+sLen * i.size+0+news.length)).toArray.toList=pre' ++ (olds ++ news) ++ post'/\pre'.length=rc.shift+off:=by
      refine⟨C.toList.take (rc.shift+off),C.toList.drop (rc.shift+off+sLen * i.size+news.length),?_,by simp; omega⟩
      have e1:C.toList.take (rc.shift+off+sLen * i.size)=C.toList.take (rc.shift+off) ++ olds:=by
       rcases holds with q | q
       ·rw[q,List.take_add]
        have hle:off+sLen * i.size<=mid.length\/sLen * i.size=0:=by grind
        rcases hle with hle | hle
        ·rw[hC,QM,QL,Q6 (by omega),QR,QL,List.take_append]
         have z1:rc.shift+off - pre.length=off:=by omega
         have z2:sLen * i.size - (mid.drop off).length=0:=by grind
         grind
        grind
       grind
      grind
     obtain⟨pre',post',s1,s2⟩:=hsplit
     obtain⟨φ',k1,k2,k3⟩:=Tn.regrow (P:=P) (cs2:=old ++ new) (sh:=rc.shift+off) (C2:=(C.toList.take (rc.shift+off+sLen * i.size+0) ++ news ++ C.toList.drop (rc.shift+off+sLen * i.size+0+news.length)).toArray) (m2:=m) r hb hφ hf0
      (by simp; omega) ⟨pre',olds ++ news,post',s1,s2,hor.append hnr⟩ (hnf rfl) hes
     have hap:=zcu (w:=w) (ty:=ty) (base:=some ⟨rc.blk,rc.shift+off,none⟩) hu hux hi hlenx hge hnrun (w1:=_) (λa ha=>by
      simp only[Qa] at ha
      subst ha
      rw[zbe]
      omega) (λk=>by grind)
     refine⟨φ',_,_,hap,?_,k3⟩
     have:=VR.sliceO (φ:=φ') (off:=0) (n:=sLen+n) (c:=c') k1 hc hge (by grind)
     omega
  | sliceE hφ ha'=>
    rename_i a' rc
    rcases QW n with hn0 | hn0
    ·subst hn0
     obtain⟨C,m,pre,mid,post,ho,hes,htot,hC,hsh,hlr,hnf⟩:=r.cells hb hφ
     have hnews:news=[]:=by grind
     have holds:old=[]:=by grind
     have hnew0:new=[]:=by grind
     subst hnews holds hnew0
     obtain⟨φ',k1,k2,k3⟩:=Tn.regrow (P:=P) (cs2:=[]) (sh:=rc.shift) (C2:=C) (m2:=m) r hb hφ hf0 htot ⟨pre,[],mid ++ post,by grind,hsh,trivial⟩ (hnf rfl) hes
     rw[zm0 ho] at k3
     have hap:=zcu (w:=w) (ty:=ty) (base:=some a') (sLen:=0) (sCap:=0) hu hux hi hlenx (Qc _) hnrun (w1:=w) (λa ha=>rfl) (λk=>rfl)
     exact⟨φ',_,_,hap,VR.sliceE (φ:=φ') k1 (by omega),k3⟩
    grind
 ·split at hs
  ·
   rename_i hncap hle
   split at hs
   ·rename_i b off
    split at hs
    ·have hnews:news=[]:=by grind
     subst hnews
     have gen:∀base',s'= .slice base' sLen sCap->zfh P φ h w (Builtin.append_ #[sType,xType] ty #[s',x']) (.slice (some ⟨b,off,none⟩) sLen sCap) h:=by
      intro base' hs'
      have hv0:=hv
      subst hs'
      have hap:=zcu (w:=w) (ty:=ty) (base:=base') (sLen:=sLen) (sCap:=sCap) hu hux hi hlenx hle hnrun (w1:=w) (λa ha=>rfl) (λk=>rfl)
      exact⟨φ,_,_,hap,hv0,Tn.refl r⟩
     cases hv<;>grind
    ·split at hs
     rotate_left
     ·grind
     rename_i h2 hst
     obtain⟨rfl,rfl⟩:=hs
     cases hv with
     | sliceO=>omega
     | sliceE=>omega
     | sliceY=>omega
     | slice hφ hc=>
       rename_i rc
       obtain⟨w1,k1,k2⟩:=zbF (P:=P) r hst hφ hnr
       have hap:=zcu (w:=w) (ty:=ty) (base:=some ⟨rc.blk,rc.shift+off,none⟩) (sLen:=sLen) (sCap:=sCap) hu hux hi hlenx hle hnrun (w1:=w1) (by grind[zbe]) (λk=>by grind)
       exact⟨φ,_,_,hap,.slice hφ hc,k2⟩
   ·obtain⟨rfl,rfl⟩:=hs
    cases hv with
    | sliceNil _ _ hc=>
      have hap:=zcu (w:=w) (ty:=ty) (base:=none) (sLen:=sLen) (sCap:=sCap) hu hux hi hlenx hle hnrun (w1:=w) (by simp) (λk=>rfl)
      exact⟨φ,_,_,hap,.sliceNil _ _ hc,Tn.refl r⟩
   grind
  ·split at hs
   rotate_left
   ·grind
   rename_i hncap hnle hc2
   obtain⟨hsl,hroom,h63⟩:=hc2
   obtain⟨rfl,rfl⟩:=hs
   have hf0:=hf (by simp)
   obtain⟨olds,hor,horun⟩:=zc8 (P:=P) r hv hold
   have hol':=hor.length
   have hcell:P.cellsOf elem=i.size:=by grind[Program.cellsOf]
   have grow:∀(base' : Option Addr),s'= .slice base' sLen sCap->zfh P φ h w (Builtin.append_ #[sType,xType] ty #[s',x']) (.slice (some ⟨h.next,0,none⟩) (sLen+n) zai) (h.alloc (.cells (old ++ new) elem false)):=by
    intro base' hs'
    subst hs'
    obtain⟨cap,C,g1,g2,⟨post,g3,g3'⟩,g4⟩:=zgN (ty:=ty) hu hux hi hz hzs hlenx (by omega) hroom h63 horun hnrun
    obtain⟨φ',k1,k2⟩:=zbw (P:=P) (e:=elem) (C:=C) r hf0 (hor.append hnr) ⟨post,g3⟩ 1
    refine⟨φ',_,_,g4,?_,k2⟩
    have:=VR.sliceO (φ:=φ') (off:=0) (n:=sLen+n) (c:=cap) k1 g2 g1 (by
     simp only[hcell,Qq]
     rw[<-QZ,g3]
     simp only[Qs,g3',<-hol',<-hnl',hol,hnl,<-QQ]
     grind)
    omega
   cases hv<;>grind
theorem zj7 (G:zdM P) (r:R P φ h w) {sType xType ty:TypeId} {s s' x x' v:Value} {h' : AH} (hs:zeh P h sType xType s x=some (v,h')) (hv:VR φ s s') (hx:VR φ x x') (hf:h.next < h'.next->φ h.next=none):
 zfh P φ h w (Builtin.append_ #[sType,xType] ty #[s',x']) v h':=by
 unfold zeh at hs
 split at hs
 rotate_left
 ·grind
 rename_i elem k0 k l hu hux
 split at hs
 rotate_left
 ·grind
 rename_i i z hi hz
 split at hs
 rotate_left
 ·grind
 rename_i hc
 obtain⟨hzl,hpos,hl0,hroom,hl1⟩:=hc
 obtain⟨rfl,rfl⟩:=hs
 have hf0:=hf (by simp)
 cases hv
 cases hx
 obtain⟨n,rfl⟩:=Int.eq_ofNat_of_zero_le (Int.le_of_lt hl0)
 simp only[Qh] at *
 have hzi:∃z0,i.zero=some z0/\z=z0.cells.toList:=by grind[zao]
 obtain⟨z0,hz0,rfl⟩:=hzi
 have hzs:z0.cells.size=i.size:=by omega
 have hnz:n * i.size≠0:=Nat.ne_of_gt (by simp_all)
 have hnext:Builtin.nextslicecap (0+n) 0 * i.bytes<=281474976710656:=growslice_fits (by omega) (by rw[Qq]; exact hroom)
 have e2:¬(281474976710656 < Builtin.nextslicecap n 0 * i.bytes):=by grind
 have hw:IntKind.i64.wrap (n:Int)=n:=by grind[IntKind.wrap,IntKind.bits]
 have hb:¬(281474976710656 < (n:Int) * (i.bytes:Int)):=by
  have h1:n * i.bytes<=140737488355328:=hroom
  omega
 have hn1:¬((n:Int) < 0):=by omega
 have hn2:¬(n=0):=by omega
 have e3:¬(9223372036854775807 < (n:Int)):=by omega
 let cap:=grownCap w n 0 elem
 have hge:n<=cap:=grownCap_ge _ _ _ _
 have hle:cap < zai:=by grind[grownCap_le_maxLen,maxLen,zai]
 let C:Array Value:=Builtin.zeroCells z0.cells n ++ Builtin.zeroCells z0.cells (cap - n)
 have hrun:(Builtin.append_ #[sType,xType] ty #[.slice none 0 0,.int k (n:Int)]).run P w=.ok (.slice (some ⟨w.heap.size,0,none⟩) n cap) { w with heap:=w.heap.push (.cells C elem),drawn:=w.drawn+1 }:=by
  simp[Builtin.append_,zac hu,zac hux,sizeOf,typeInfo,hi,hw,hb,hn1,hn2,e2,e3,hnz,asInt,asIntOf,Builtin.firstCells,zeroValue,hz0,newRow,grownCap,Question.forced]
  exact⟨rfl,rfl⟩
 obtain⟨φ',k1,k2⟩:=zbw (P:=P) (e:=elem) (C:=C) r hf0 ((zbx (φ:=φ) G hz).replicate n) ⟨(Builtin.zeroCells z0.cells (cap - n)).toList,by
  simp only[C,Array.toList_append]
  congr 1
  exact zhg rfl⟩ 1
 refine⟨φ',_,_,hrun,?_,k2⟩
 have hcell:P.cellsOf elem=i.size:=by grind[Program.cellsOf]
 have:=VR.sliceO (φ:=φ') (off:=0) (n:=n) (c:=cap) k1 hle hge (by
  simp only[hcell,Qq,C]
  simp[Builtin.zeroCells,hzs]
  rw[<-QQ]
  grind)
 omega
end
section
variable {P:Program} {φ φ' : Fi} {h h' : AH} {w w' : World}
theorem zfh.same {S:Sem Value} {v v' : Value} (r:R P φ h w) (hr:S.run P w=.ok v' w) (hv:VR φ v v'):zfh P φ h w S v h:=⟨φ,v',w,hr,hv,Tn.refl r⟩
theorem zpk (r:R P φ h w) {dType ty:TypeId} {ats:Array TypeId} {d d' s s' v:Value} {h' : AH} (hs:zc4 P h dType d s=some (v,h')) (hd:VR φ d d') (hsr:VR φ s s') (hat:ats[0]?= some dType):
 zfh P φ h w (Builtin.copy_ ats ty #[d',s']) v h':=by
 unfold zc4 at hs
 split at hs
 rotate_left
 ·grind
 rename_i elem base dLen c0 hu
 split at hs
 rotate_left
 ·grind
 rename_i i sl hi hl
 split at hs
 rotate_left
 ·grind
 rename_i cells hc
 obtain⟨ds,hlr,hrun⟩:=zc8 (P:=P) r hsr hc
 have hlen:=zon (P:=P) hsr hl
 have hcell:P.cellsOf elem=i.size:=by grind[Program.cellsOf]
 have hsz:=λw=>zaC (P:=P) (t:=elem) (show (P.info? elem).isSome=true by grind) w
 rw[hcell] at hsz
 split at hs
 ·obtain⟨rfl,rfl⟩:=hs
  cases hd
  refine zfh.same r ?_ (.int _ _)
  simp[Builtin.copy_,hat,zac hu,hlen,hsz,hrun w rfl,goInt]
 ·obtain⟨rfl,rfl⟩:=hs
  have hds:ds=[]:=by grind[LR]
  subst hds
  have hr0:=hrun w rfl
  cases hd with
  | slice=>
    refine zfh.same r ?_ (.int _ _)
    simp[Builtin.copy_,hat,zac hu,hlen,hsz,hr0,goInt,storeCells]
  | sliceO=>
    refine zfh.same r ?_ (.int _ _)
    simp[Builtin.copy_,hat,zac hu,hlen,hsz,hr0,goInt,storeCells]
  | sliceE=>
    refine zfh.same r ?_ (.int _ _)
    rw[show sl.min 0=0 from Nat.min_zero sl] at hr0
    simp[Builtin.copy_,hat,zac hu,hlen,hsz,hr0,goInt,storeCells]
  | sliceY=>
    refine zfh.same r ?_ (.int _ _)
    rw[show sl.min 0=0 from Nat.min_zero sl] at hr0
    simp[Builtin.copy_,hat,zac hu,hlen,hsz,hr0,goInt,storeCells]
 ·rename_i b off c cs
  split at hs
  ·grind
  split at hs
  rotate_left
  ·grind
  rename_i h2 hst
  simp only[Qa,Qf] at hs
  have gen:∀rc c1,φ b=some rc->d'= .slice (some ⟨rc.blk,rc.shift+off,none⟩) dLen c1->zfh P φ h w (Builtin.copy_ ats ty #[d',s']) (.int .i64 ↑(sl.min dLen)) h2:=by
   intro rc c1 hφ hd'
   subst hd'
   obtain⟨w1,k1,k2⟩:=zbF (P:=P) r hst hφ hlr
   refine⟨φ,_,w1,?_,.int _ _,k2⟩
   simp[Builtin.copy_,hat,zac hu,hlen,hsz,hrun w rfl,goInt,k1]
  cases hd<;>grind
 grind
theorem zm1 (G:zdM P) (r:R P φ h w) {t ty:TypeId} {x x' v:Value} {h' : AH} {ats:Array TypeId} (hs:ze9 P h t x=some (v,h')) (hx:VR φ x x') (hat:ats[0]?= some t):
 zfh P φ h w (Builtin.clear_ ats ty #[x']) v h':=by
 unfold ze9 at hs
 split at hs
 ·rename_i elem b off n c0 hu
  split at hs
  rotate_left
  ·grind
  rename_i zs hz
  split at hs
  rotate_left
  ·grind
  split at hs
  rotate_left
  ·grind
  rename_i h2 hst
  simp only[Qa,Qf] at hs
  obtain⟨i,z,hi,hz',rfl,hne⟩:=zbd hz
  have gen:∀rc c1,φ b=some rc->x'= .slice (some ⟨rc.blk,rc.shift+off,none⟩) (n+1) c1->zfh P φ h w (Builtin.clear_ ats ty #[x']) undef h2:=by
   intro rc c1 hφ hx'
   subst hx'
   obtain⟨w1,k1,k2⟩:=zbF (P:=P) r hst hφ ((zbx (φ:=φ) G hz).replicate (n+1))
   refine⟨φ,.tuple #[],w1,?_,.junk _,k2⟩
   have e:(Builtin.zeroCells z.cells (n+1)).toList=(List.replicate (n+1) z.cells.toList).flatten:=zhg rfl
   simp[Builtin.clear_,hat,zac hu,zdr hi hz',e,k1]
  cases hx<;>grind
 ·rename_i e base c hne hu
  obtain⟨rfl,rfl⟩:=hs
  refine⟨φ,.tuple #[],w,?_,.junk _,Tn.refl r⟩
  cases hx <;> simp[Builtin.clear_,hat,zac hu]
 ·rename_i e n c hne hu
  obtain⟨rfl,rfl⟩:=hs
  refine⟨φ,.tuple #[],w,?_,.junk _,Tn.refl r⟩
  cases hx
  simp[Builtin.clear_,hat,zac hu]
 grind
theorem zlh (msg:String):∀(cs:List Value) (bs:List UInt8) (acc:ByteArray),zaF cs=some bs->∀(w:World),
 (forIn (m:=Sem) cs acc (λc s=>match c with
   | .int .u8 n=>pure (ForInStep.yield (s.push (UInt8.ofNat n.toNat)))
   | _=>do
     stuck msg
     pure (ForInStep.yield s))).run P w=.ok (⟨acc.data ++ bs.toArray⟩:ByteArray) w
 | [],bs,acc,hb,w=>by
   simp only[zaF,Qa] at hb
   simp_all
 | c :: cs,bs,acc,hb,w=>by
   unfold zaF at hb
   split at hb
   ·grind
   ·rename_i n r hcs
    obtain⟨rfl,rfl⟩:=hcs
    cases hr:zaF cs with
    | none=>grind
    | some bs2=>
      simp only[hr,Ql,Qa] at hb
      have ih:=zlh msg cs bs2 (acc.push (UInt8.ofNat n.toNat)) hr w
      simp_all
   grind
theorem zop:∀{cs ds:List Value} {bs:List UInt8},LR φ cs ds->zaF cs=some bs->ds=cs
 | [],[],_,_,_=>rfl
 | c :: cs,d :: ds,bs,r,hb=>by
   unfold zaF at hb
   split at hb
   ·grind
   ·rename_i n rr hcs
    obtain⟨rfl,rfl⟩:=hcs
    cases hr:zaF cs with
    | none=>grind
    | some bs2=>
      have:=zop r.2.2 hr
      subst this
      obtain⟨h1,_,_⟩:=r
      cases h1
      rfl
   grind
theorem zj8 (r:R P φ h w) {src dst:TypeId} {x x' v:Value} {h' : AH} (hs:zav P h src dst x=some (v,h')) (hx:VR φ x x') (hf:h.next < h'.next->φ h.next=none):
 zfh P φ h w (convert src dst x') v h':=by
 unfold zav at hs
 split at hs
 ·rename_i k1 k k0 n hu1 hu2
  obtain⟨rfl,rfl⟩:=hs
  cases hx
  refine zfh.same r ?_ (.int _ _)
  simp[convert,zac hu1,zac hu2,Conv.intToInt]
 ·rename_i s hu1 hu2
  obtain⟨rfl,rfl⟩:=hs
  cases hx
  refine zfh.same r ?_ (.string _)
  simp[convert,zac hu1,zac hu2]
 ·rename_i e s hu1 hu2
  split at hs
  ·rename_i hue
   split at hs
   ·obtain⟨rfl,rfl⟩:=hs
    have hf0:=hf (by simp)
    cases hx
    have hmod:=Nat.mod_lt (w.tape w.drawn (.appendCap s.size 0 e)) (show 0 < 2 ^ 63 - s.size by grind[zaA])
    generalize hq:s.size+w.tape w.drawn (.appendCap s.size 0 e) % (2 ^ 63 - s.size)=cap at *
    have hle:s.size<=cap:=by omega
    have hlt:cap < zai:=by grind[zai]
    let C:Array Value:=(s.data.map λb=>Value.int .u8 b.toNat) ++ Array.replicate (cap - s.size) (.int .u8 0)
    have hC:C.toList=(s.data.toList.map λb=>Value.int .u8 b.toNat) ++ List.replicate (cap - s.size) (.int .u8 0):=by simp[C]
    have hCs:C.size=cap:=by
     rw[<-QZ,hC]
     simp_all
    obtain⟨φ',k1,k2⟩:∃φ',φ' h.next=some ⟨w.heap.size,0,C.size,P.cellsOf e⟩/\Tn P φ h w φ' (h.alloc (.cells (s.data.toList.map λb=>.int .u8 b.toNat) e false)) { w with heap:=w.heap.push (.cells C e (cap,cap+1)),drawn:=w.drawn+1 }:=by
     refine⟨λb=>if b=h.next then some ⟨w.heap.size,0,C.size,P.cellsOf e⟩ else φ b,by simp,?_⟩
     refine Tn.alloc r _ _ _ hf0 rfl ?_ 1
     intro ψ hle' hψ
     refine⟨rfl,rfl,rfl,⟨[],_,List.replicate (cap - s.size) (.int .u8 0),by grind,rfl,zj5 ψ _⟩,λ_=>.inr ?_⟩
     grind
    refine⟨φ',.slice (some ⟨w.heap.size,0,none⟩) s.size cap,_,?_,?_,k2⟩
    ·have hcut:(Question.appendCap s.size 0 e).cut (w.tape w.drawn (.appendCap s.size 0 e))=cap:=hq
     simp only[convert,Sem.run_bind,zac hu1,zac hu2,zac hue,Result.andThen_ok,Conv.stringToBytes,run_choose,Question.forced,Bool.false_eq_true,if_false,hcut]
     simp only[newRow,Sem.run_bind,run_newObj,Result.andThen_ok,Sem.run_pure,markStringish,run_shape,World.shape?]
     simp only[Array.getElem?_push_size]
     simp only[Sem.run_bind,run_freeze,Result.andThen_ok,Sem.run_pure]
     congr 1
     simp only[World.freeze]
     rw[if_neg (by omega)]
     congr 1
     grind
    ·have:=VR.sliceO (φ:=φ') (off:=0) (n:=s.size) (c:=cap) k1 hlt hle (by grind)
     omega
   grind
  grind
 ·rename_i e a0 n c0 hu1 hu2
  split at hs
  rotate_left
  ·grind
  rename_i hue
  split at hs
  rotate_left
  ·grind
  rename_i cs hc
  split at hs
  rotate_left
  ·grind
  rename_i bs hb
  obtain⟨rfl,rfl⟩:=hs
  obtain⟨ds,hlr,hrun⟩:=zc8 (P:=P) r hx hc
  have hds:=zop hlr hb
  subst hds
  have hrun':=hrun w rfl
  have hloop:=λmsg=>zlh (P:=P) msg ds bs ByteArray.empty hb w
  refine zfh.same r ?_ (.string _)
  have fin:∀a c1,x'= .slice (some a) n c1->(convert src dst x').run P w=.ok (.string ⟨bs.toArray⟩) w:=by
   intro a c1 hx'
   subst hx'
   simp only[Builtin.firstCells,Qp] at hrun'
   simp only[convert,Sem.run_bind,zac hu1,zac hu2,zac hue,Result.andThen_ok,Conv.bytesToString,hrun',<-Array.forIn_toList]
   refine Eq.trans (congrArg (λ(r:Result ByteArray)=>r.andThen λa w'=>Sem.run P (pure (Value.string a)) w') (hloop _)) ?_
   simp
  cases hx with
  | slice=>grind
  | sliceO=>grind
  | sliceE=>grind
  | sliceY=>
    simp only[firstC,Nat.zero_mul,Qa] at hc
    subst hc
    simp only[zaF,Qa] at hb
    subst hb
    simp[convert,zac hu1,zac hu2,zac hue,Conv.bytesToString,ByteArray.empty,ByteArray.emptyWithCapacity]
    rfl
  | sliceNil=>
    simp only[firstC,Qa] at hc
    subst hc
    simp only[zaF,Qa] at hb
    subst hb
    simp[convert,zac hu1,zac hu2,zac hue,Conv.bytesToString,ByteArray.empty,ByteArray.emptyWithCapacity]
    rfl
 ·rename_i e1 e2 b off n c0 hu1 hu2
  split at hs
  rotate_left
  ·grind
  rename_i cs e hue hb
  split at hs
  rotate_left
  ·grind
  rename_i hsd
  have he12:e1=e2:=by grind
  subst he12
  have key:∀rc a c1,φ b=some rc->a.block=rc.blk->x'= .slice (some a) n c1->zfh P φ h w (convert src src x') (.slice (some ⟨b,off,none⟩) n c0) (h.set b (.cells cs e false)):=by
   intro rc a c1 hφ ha hx'
   obtain⟨C,m,pre,mid,post,ho,hes,htot,hC,hsh,hlr,hnf⟩:=r.cells hb hφ
   let m' : Nat×Nat:=if m.1 == m.2 then (C.size,C.size+1) else (min m.1 C.size,max m.2 (C.size+1))
   have hm' : NF m' rc.total:=by
    right
    rcases hnf rfl with k | k
    all_goals grind
   have tp:=Tn.put (P:=P) r hb hφ rfl (o2:=.cells cs e false) (O2:=.cells C e m') ⟨rfl,hes,htot,by grind,λ_=>hm'⟩ 0
   refine⟨φ,x',_,?_,by omega,tp⟩
   have hshape:w.shape? a.block=some (e,C.size):=by grind[World.shape?]
   have hfr:w.freeze ⟨a.block,C.size,none⟩ 1={ w with heap:=w.heap.setIfInBounds rc.blk (.cells C e m'),drawn:=w.drawn+0 }:=by
    simp only[World.freeze]
    rw[if_neg (by omega)]
    congr 1
    grind
   subst hx'
   simp only[convert,Sem.run_bind,zac hu1,zac hue,Result.andThen_ok,beq_self_eq_true,markStringish,run_shape,hshape,run_freeze,Sem.run_pure,hfr]
  obtain⟨hsd,hn0⟩:=hsd
  cases hx with
  | sliceY=>omega
  | _=>grind[R.cells,QZ]
 grind
end
end Go.Am
