/-
  Texts of this proof, part 14. No condition.
-/
import Derived.Test.YtmnbboleclchcaaGreatFAm8c
import Derived.WideKeyArgs
import Derived.DataReads
import Derived.OpenShut
set_option linter.unusedVariables false
set_option linter.unusedSimpArgs false
namespace Go.Am
def Old (h h' : AH):Prop:=h.next<=h'.next/\∀b,b < h.next->h'.get b=h.get b
def zje (lim:Nat) (h h' : AH):Prop:=h.next<=h'.next/\∀b,b < lim->h'.get b=h.get b
theorem Old.refl (h:AH):Old h h:=⟨Qc _,λ_ _=>rfl⟩
theorem Old.trans {h1 h2 h3:AH} (a:Old h1 h2) (b:Old h2 h3):Old h1 h3:=⟨Qm a.1 b.1,λc hc=>by rw[b.2 c (Qi hc a.1),a.2 c hc]⟩
theorem zje.refl (lim:Nat) (h:AH):zje lim h h:=⟨Qc _,λ_ _=>rfl⟩
theorem zje.trans {lim:Nat} {h1 h2 h3:AH} (a:zje lim h1 h2) (b:zje lim h2 h3):zje lim h1 h3:=⟨Qm a.1 b.1,λc hc=>by rw[b.2 c hc,a.2 c hc]⟩
theorem Old.toB {lim:Nat} {h h' : AH} (a:Old h h') (hl:lim<=h.next):zje lim h h':=⟨a.1,λc hc=>a.2 c (by omega)⟩
theorem zje.toOld {h h' : AH} (a:zje h.next h h'):Old h h':=a
theorem za2 (h:AH) (o:zca):Old h (h.alloc o):=⟨Qw _,by grind[AH.get_alloc]⟩
theorem zje.set {lim:Nat} {h h1:AH} (a:zje lim h h1) {b:Nat} (hb:lim<=b) (o:zca):zje lim h (h1.set b o):=⟨a.1,λc hc=>by rw[AH.get_set,if_neg (by omega)]; exact a.2 c hc⟩
theorem zan (h:AH) (o:zca):(h.alloc o).get h.next=some o:=by simp
theorem zae {h h' : AH} {o:zca} (e:h'= h.alloc o):h'.get h.next=some o:=by grind[zan]
theorem zab {h h' : AH} {o:zca} (e:h'= h.alloc o):Old h h':=by grind[za2]
theorem zad {h h' : AH} {o:zca} (e:h'= h.alloc o):h'.next=h.next+1:=by simp_all
theorem zbk {h:AH} {o:zca} {b:Nat} (hb:b≠h.next):(h.alloc o).get b=h.get b:=by grind[AH.get_alloc]
theorem zal {h:AH} {o:zca} {b c:Nat} (hb:b≠c):(h.set c o).get b=h.get b:=by grind[AH.get_set]
theorem zdJ {h:AH} {b off:Nat} {cs:List Value} {e:TypeId} {ro:Bool} (hb:h.get b=some (.cells cs e ro)):ld1 h b off=cs[off]?:=by unfold ld1; rw[hb]; rfl
theorem zah {h:AH} {b off:Nat} {cs:List Value} {e:TypeId} {ro:Bool} {v:Value} (hb:h.get b=some (.cells cs e ro)) (hv:cs[off]?= some v):ld1 h b off=some v:=by grind[zdJ]
theorem zh8 {h:AH} {b off n:Nat} {cs:List Value} {e:TypeId} {ro:Bool} (hb:h.get b=some (.cells cs e ro)) (hl:off+n<=cs.length):ldN h b off n=some ((cs.drop off).take n):=by grind[ldN]
theorem zaw {h:AH} {b n:Nat} {cs:List Value} {e:TypeId} {ro:Bool} (hb:h.get b=some (.cells cs e ro)) (hl:cs.length=n):ldN h b 0 n=some cs:=by rw[zh8 hb (by omega)]; grind
theorem zaN {h:AH} {b off:Nat} {cs:List Value} {e:TypeId} {v:Value} (hb:h.get b=some (.cells cs e false)) (hl:off < cs.length):st1 h b off v=some (h.set b (.cells (cs.set off v) e false)):=by grind[st1,zlN]
theorem zl0 {h:AH} {b off:Nat} {cs vs:List Value} {e:TypeId} (hb:h.get b=some (.cells cs e false)) (hl:off+vs.length<=cs.length):stN h b off vs=some (h.set b (.cells (cs.take off ++ vs ++ cs.drop (off+vs.length)) e false)):=by grind[stN,zlO]
theorem zaR {h:AH} {b:Nat} {cs vs:List Value} {e:TypeId} (hb:h.get b=some (.cells cs e false)) (hl:vs.length=cs.length):stN h b 0 vs=some (h.set b (.cells vs e false)):=by
 rw[zl0 hb (by omega)]
 grind
theorem zaT {c x:Int} (hc:c=IntKind.wrap .i64 x) (h1:-9223372036854775808<=x) (h2:x<=9223372036854775807):c=x:=by grind[zfq]
theorem zv8 {c x:Int} (hc:c=IntKind.wrap .u64 x) (h1:0<=x) (h2:x<=18446744073709551615):c=x:=by grind[zkq]
def zaz (h:AH) (p:Option Addr) (n:Nat) (sz:Nat) (cs:List Value):Prop:=
 cs.length=n * sz/\(n=0\/∃b off al e ro,p=some ⟨b,off,none⟩/\b < h.next/\h.get b=some (.cells al e ro)/\off+n * sz<=al.length/\(al.drop off).take (n * sz)=cs)
theorem zaz.old {h h' : AH} {p:Option Addr} {n sz:Nat} {cs:List Value} (s:zaz h p n sz cs) (o:Old h h'):zaz h' p n sz cs:=by
 refine⟨s.1,?_⟩
 rcases s.2 with h0 | ⟨b,off,al,e,ro,hp,hb,hg,hl,hc⟩
 ·omega
 ·exact .inr ⟨b,off,al,e,ro,hp,Qi hb o.1,by rw[o.2 b hb,hg],hl,hc⟩
theorem zaz.firstC {h:AH} {p:Option Addr} {n sz c:Nat} {cs:List Value} (s:zaz h p n sz cs) (hp:p=none\/∃b off,p=some ⟨b,off,none⟩):firstC h sz n (.slice p n c)=some cs:=by
 rcases s.2 with h0 | ⟨b,off,al,e,ro,hp,hb,hg,hl,hc⟩
 ·subst h0
  have:cs=[]:=by have:=s.1; grind
  grind[Am.firstC]
 grind[Am.firstC]
def zbB (lim:Nat) (h:AH) (elem:TypeId) (sz:Nat) (p:Option Addr) (n c:Nat) (cs:List Value):Prop:=
 cs.length=n * sz/\((p=none/\n=0/\c=0)\/∃b,p=some ⟨b,0,none⟩/\lim<=b/\b < h.next/\h.get b=some (.cells cs elem false)/\(c=zai\/c=n))
theorem zbB.shows {lim:Nat} {h:AH} {elem:TypeId} {sz:Nat} {p:Option Addr} {n c:Nat} {cs:List Value} (g:zbB lim h elem sz p n c cs):zaz h p n sz cs:=by
 refine⟨g.1,?_⟩
 rcases g.2 with ⟨hp,hn,hc⟩ | ⟨b,hp,hl,hb,hg,hc⟩
 ·omega
 ·exact .inr ⟨b,0,cs,elem,false,hp,hb,hg,by rw[g.1]; omega,by simp[<-g.1]⟩
theorem zbB.nil (lim:Nat) (h:AH) (elem:TypeId) (sz:Nat):zbB lim h elem sz none 0 0 []:=⟨by simp,by simp⟩
theorem zbB.old {lim:Nat} {h h' : AH} {elem:TypeId} {sz:Nat} {p:Option Addr} {n c:Nat} {cs:List Value} (g:zbB lim h elem sz p n c cs) (o:Old h h'):zbB lim h' elem sz p n c cs:=by
 refine⟨g.1,?_⟩
 rcases g.2 with hp | ⟨b,hp,hl,hb,hg,hc⟩
 ·grind
 ·exact .inr ⟨b,hp,hl,Qi hb o.1,by rw[o.2 b hb,hg],hc⟩
def za3 (P:Program) (st elem:TypeId) (sz by' : Nat):Prop:=
 P.underlying st=some (.slice elem)/\∃i z,P.info? elem=some i/\i.zero=some z/\z.cells.size=i.size/\0 < i.size/\i.size=sz/\i.bytes=by'
def apart (p:Option Addr) (b:Nat):Prop:=match p with | some a=>a.block≠b | none=>True
theorem zbB.append {P:Program} {lim:Nat} {h:AH} {st elem:TypeId} {sz by' : Nat} {p:Option Addr} {n c:Nat} {cs:List Value} (g:zbB lim h elem sz p n c cs) (E:za3 P st elem sz by') (hlim:lim<=h.next)
 {x:Value} {m:Nat} {ns:List Value} (hx:zjd x=some m) (hf:firstC h sz m x=some ns) (hns:ns.length=m * sz) (hroom:(n+m) * by'<=zaA) (hroom2:n+m<=9223372036854775807)
 (hxt:∃e,P.underlying st=some (.slice e)):
 ∃p' c' h',zak P h .append #[st,st] [.slice p n c,x]=some (.slice p' (n+m) c',h')/\zbB lim h' elem sz p' (n+m) c' (cs ++ ns)/\zje lim h h'/\(∀b,b < h.next->apart p b->h'.get b=h.get b)/\(0 < m->∃b,p'= some ⟨b,0,none⟩/\h.next<=b):=by
 obtain⟨hu,i,z,hi,hz,hzs,hpos,rfl,rfl⟩:=E
 have hlen:(cs ++ ns).length=(n+m) * i.size:=by rw[Qs,g.1,hns,QQ]
 have hb0:zak P h .append #[st,st] [.slice p n c,x]=zaM P h st false (.slice p n c) x:=zaO hu
 rw[hb0]
 have hfc:firstC h i.size n (.slice p n c)=some cs:=g.shows.firstC (by
  rcases g.2 with ⟨hp,_⟩ | ⟨b,hp,_⟩
  all_goals grind)
 have hcnd:z.cells.size=i.size/\0 < i.size/\ns.length=m * i.size/\cs.length=n * i.size:=by grind
 have fresh:∃p' c' h',some (Value.slice (some ⟨h.next,0,none⟩) (n+m) zai,h.alloc (.cells (cs ++ ns) elem false))=some (.slice p' (n+m) c',h')/\zbB lim h' elem i.size p' (n+m) c' (cs ++ ns)/\zje lim h h'/\(∀b,b < h.next->apart p b->h'.get b=h.get b)/\(0 < m->∃b,p'= some ⟨b,0,none⟩/\h.next<=b):=
  ⟨_,_,_,rfl,⟨hlen,by simp_all⟩,(za2 _ _).toB hlim,by grind[zbk],by simp⟩
 unfold zaM
 simp only[hu,hi,hx,hfc,hf,hz]
 rw[if_pos hcnd]
 rcases g.2 with ⟨rfl,rfl,rfl⟩ | ⟨b,rfl,hl,hb,hg,hc⟩
 ·rw[if_neg (by decide)]
  by_cases hm:m=0
  ·subst hm
   grind[zje.refl]
  grind
 ·rcases hc with rfl | rfl
  ·rw[if_pos rfl]
   simp only[hg]
   rw[if_pos (by grind)]
   refine⟨_,_,_,rfl,⟨hlen,.inr ⟨h.next,rfl,hlim,by simp,?_,.inl rfl⟩⟩,⟨by simp,?_⟩,?_,by simp⟩
   ·simp
   ·intro d hd
    rw[AH.get_alloc,if_neg (by simp; omega),AH.get_del,if_neg (by omega)]
   ·intro d hd ha
    rw[AH.get_alloc,if_neg (by simp; omega),AH.get_del,if_neg (λq=>ha (by grind))]
  ·have hne:c≠zai:=by
    intro q
    have:c<=9223372036854775807:=by omega
    rw[q] at this
    exact absurd this (by decide)
   by_cases hm:m=0
   ·subst hm
    grind[zje.refl]
   grind
def zri (P:Program) (st elem:TypeId) (sz by' : Nat):Bool:=
 match P.underlying st with
 | some (.slice e)=>
   match P.info? elem with
   | some i=>match i.zero with | some z=>Nat.beq e elem && Nat.beq z.cells.size i.size && Nat.blt 0 i.size && Nat.beq i.size sz && Nat.beq i.bytes by' | none=>false
   | none=>false
 | _=>false
theorem zaW {P:Program} {st elem:TypeId} {sz by' : Nat} (h:zri P st elem sz by'= true):za3 P st elem sz by':=by
 unfold zri at h
 split at h
 ·rename_i e hu
  split at h
  ·rename_i i hi
   split at h
   ·rename_i z hz
    simp only[Qd] at h
    obtain⟨⟨⟨⟨h1,h2⟩,h3⟩,h4⟩,h5⟩:=h
    have h1:=Qb h1
    subst h1
    exact⟨hu,i,z,hi,hz,by simp_all,by grind[Q5],by simp_all,by simp_all⟩
   grind
  grind
 grind
theorem zf4 {h h1:AH} {cs:List Value} {e:TypeId} {n sz c:Nat} {ro:Bool} (e1:h1=h.alloc (.cells cs e ro)) (hl:cs.length=n * sz):firstC h1 sz n (.slice (some ⟨h.next,0,none⟩) n c)=some cs:=by grind[firstC,zan]
def zh9 (k:IntKind) (l:List Int):List Value:=l.map (Value.int k)
def za7 (k:IntKind) (l:List Nat):List Value:=l.map λn:Nat=>Value.int k (n:Int)
theorem zbu {k:IntKind} {l:List Nat} {i:Nat} (hi:i < l.length):(za7 k l)[i]?= some (.int k (l[i]:Nat)):=by grind[za7]
theorem zaG (k:IntKind) (l:List Nat):(za7 k l).length=l.length:=by simp[za7]
theorem zhm (k:IntKind) (l m:List Nat):za7 k (l ++ m)=za7 k l ++ za7 k m:=by simp[za7]
theorem zbB.push {P:Program} {lim:Nat} {h h4:AH} {st elem:TypeId} {sz by' : Nat} {p:Option Addr} {n c:Nat} {cs:List Value} (g:zbB lim h elem sz p n c cs) (E:za3 P st elem sz by') (hlim:lim<=h.next)
 {m:Nat} {ns:List Value} (e4:h4=h.alloc (.cells ns elem false)) (hns:ns.length=m * sz) (hroom:(n+m) * by'<=zaA) (hroom2:n+m<=9223372036854775807):
 ∃p' c' h',zak P h4 .append #[st,st] [.slice p n c,.slice (some ⟨h.next,0,none⟩) m m]=some (.slice p' (n+m) c',h')/\zbB lim h' elem sz p' (n+m) c' (cs ++ ns)/\zje lim h h'/\(∀b,b < h.next->apart p b->h'.get b=h.get b)/\(0 < m->∃b,p'= some ⟨b,0,none⟩/\h.next<=b):=by
 obtain⟨p',c',h5,h1,h2,h3,h6,h7⟩:=(g.old (by grind[za2])).append E (by rw[e4]; exact Qm hlim (Qw _)) (x:=.slice (some ⟨h.next,0,none⟩) m m) (m:=m) rfl (zf4 e4 hns) hns hroom hroom2 ⟨_,E.1⟩
 refine⟨p',c',h5,h1,h2,((za2 h _).toB hlim).trans (e4▸h3),λb hb ha=>?_,λq=>(h7 q).imp λb hb=>⟨hb.1,by rw[e4] at hb; exact Nat.le_of_succ_le hb.2⟩⟩
 rw[h6 b (by rw[e4]; exact Nat.lt_succ_of_lt hb) ha,e4,zbk (by omega)]
theorem zbB.lit {lim:Nat} {h h1:AH} {elem:TypeId} {sz n:Nat} {cs:List Value} (e1:h1=h.alloc (.cells cs elem false)) (hl:cs.length=n * sz) (hlim:lim<=h.next):zbB lim h1 elem sz (some ⟨h.next,0,none⟩) n n cs:=by
 exact⟨hl,by simp_all⟩
theorem zaz.get {h:AH} {p:Option Addr} {n:Nat} {cs:List Value} (s:zaz h p n 1 cs) {i:Nat} (hi:i < n):∃b off,p=some ⟨b,off,none⟩/\ld1 h b (off+i)=cs[i]?:=by
 rcases s.2 with h0 | ⟨b,off,al,e,ro,hp,hb,hg,hl,hc⟩
 all_goals grind[zdJ]
theorem zaz.getN {h:AH} {p:Option Addr} {n sz:Nat} {cs:List Value} (s:zaz h p n sz cs) {i:Nat} (hi:i < n):∃b off,p=some ⟨b,off,none⟩/\ldN h b (off+i * sz) sz=some ((cs.drop (i * sz)).take sz)/\∀j,j < sz->ld1 h b (off+i * sz+j)=cs[i * sz+j]?:=by
 rcases s.2 with h0 | ⟨b,off,al,e,ro,hp,hb,hg,hl,hc⟩
 ·omega
 ·have hle:i * sz+sz<=n * sz:=by rw[<-Nat.succ_mul]; exact Qt _ hi
  refine⟨b,off,hp,?_,λj hj=>?_⟩
  ·rw[zh8 hg (by omega),<-hc]
   congr 1
   apply Jb
   grind
  grind[zdJ]
theorem zaa {b off:Nat} {k:Nat->Nat->Prop} (w:k b off):zag (some ⟨b,off,none⟩) k:=w
theorem zaZ.refl (b:Nat) (h:AH):zaZ b h h:=⟨rfl,λ_ _=>rfl⟩
theorem zaZ.trans {b:Nat} {h1 h2 h3:AH} (x:zaZ b h1 h2) (y:zaZ b h2 h3):zaZ b h1 h3:=⟨y.1.trans x.1,λc hc=>by rw[y.2 c hc,x.2 c hc]⟩
theorem ztV (k:IntKind) (l:List Nat) (i n:Nat):(za7 k l).set i (.int k n)=za7 k (l.set i n):=by
 unfold za7
 rw[List.map_set]
def cnt (M:List Nat) (k:Nat):Nat:=((M.drop (64 * k)).take 64).count 1
def zdd (place:Nat->Option (Nat×Nat)):List Value->List (Nat×Value)->Option (List Value)
 | cs,[]=>some cs
 | cs,(i,v) :: rest=>
   match place i with
   | none=>none
   | some (off,size)=>if v.cells.toList.length=size/\off+v.cells.toList.length<=cs.length then zdd place (cs.take off ++ v.cells.toList ++ cs.drop (off+v.cells.toList.length)) rest else none
theorem zoB:∀(vs:List Value) (off k:Nat) (cs:Array Value),off+k+vs.length<=cs.size->
 ((vs.zipIdx k).foldl (λ(cs:Array Value) (p:Value×Nat)=>cs.setIfInBounds (off+p.2) p.1) cs).toList=cs.toList.take (off+k) ++ vs ++ cs.toList.drop (off+k+vs.length)
 | [],off,k,cs,h=>by simp
 | v :: vs,off,k,cs,h=>by
   rw[List.zipIdx_cons,List.foldl_cons,zoB vs off (k+1) _ (by grind)]
   grind[Qv,List.take_set_of_le,List.drop_set]
theorem zcc {place:Nat->Option (Nat×Nat)}:∀{parts:List (Nat×Value)} {cs:Array Value} {out:List Value},zdd place cs.toList parts=some out->Instr.fill place cs parts=some out.toArray
 | [],cs,out,h=>by grind[zdd,Qa,Instr.fill]
 | (i,v) :: rest,cs,out,h=>by
   unfold zdd at h
   unfold Instr.fill
   cases hp:place i with
   | none=>grind
   | some q=>
     obtain⟨off,size⟩:=q
     rw[hp] at h
     simp only at h ⊢
     split at h
     ·have h2:off+v.cells.size<=cs.size:=by grind
      rw[if_neg (by grind)]
      apply zcc
      rw[<-h]
      congr 1
      rw[<-Array.foldl_toList,Array.toList_zipIdx]
      have:=zoB v.cells.toList off 0 cs (by omega)
      omega
     grind
def zgS (P:Program) (fs:Array Field):Nat->Option (Nat×Nat):=λi=>(fs[i]?).map λf=>(f.offset,P.cellsOf f.type)
def zrj (P:Program) (t:TypeId) (z:List Value) (pl:List (Nat×Nat)):Bool:=
 match P.underlying t with
 | some (.struct fs)=>fs.toList.all (λf=>(P.info? f.type).isSome) && decide (fs.toList.map (λf=>(f.offset,P.cellsOf f.type))=pl)
 | _=>false
theorem zl1 {P:Program} {t:TypeId} {z:List Value} {pl:List (Nat×Nat)} (hz:zao P t=some z) (hs:zrj P t z pl=true) {parts:Array (Nat×Value)} {out:List Value}
 (hp:parts.toList.any (λp=>zdO p.2)=false) (hf:zdd (λi=>pl[i]?) z parts.toList=some out):zbA P t parts=some (.agg out.toArray):=by
 unfold zrj at hs
 split at hs
 ·rename_i fs hu
  rw[Qd] at hs
  unfold zbA
  rw[if_neg (by grind),hz,hu]
  simp only
  rw[if_pos hs.1,zcc (out:=out)]
  all_goals grind
 grind
theorem ztW {P:Program} {h:AH} {t elem:TypeId} {by' : Nat} (E:za3 P t elem 1 by') {b off n c:Nat} {cs:List Value} {e:TypeId} (hb:h.get b=some (.cells cs e false)) (hle:off+n<=cs.length) (hn:0 < n)
 {p:Option Addr} {m c' : Nat} {ns:List Value} (hs:zaz h p m 1 ns) (hp:p=none\/∃b off,p=some ⟨b,off,none⟩) (st:TypeId):
 ∃h',zak P h .copy #[t,st] [.slice (some ⟨b,off,none⟩) n c,.slice p m c']=some (.int .i64 ((Nat.min m n:Nat):Int),h')/\zaZ b h h'/\h'.get b=some (.cells (cs.take off ++ ns.take n ++ cs.drop (off+(ns.take n).length)) e false):=by
 obtain⟨hu,i,z,hi,hz,hzs,hpos,hsz,hby⟩:=E
 have hnl:ns.length=m:=by have:=hs.1; omega
 have hfc:firstC h i.size (Nat.min m n) (.slice p m c')=some (ns.take n):=by
  rw[hsz]
  rcases hs.2 with h0 | ⟨b2,off2,al,e2,ro,rfl,hb2,hg2,hl2,hc2⟩
  ·grind[firstC]
  ·grind[firstC]
 show ∃h',(match zc4 P h t (.slice (some ⟨b,off,none⟩) n c) (.slice p m c') with | x=>x)=_/\_
 unfold zc4
 simp only[hu,hi,zjd,hfc]
 cases hns:ns.take n with
 | nil=>
   refine⟨h,rfl,zaZ.refl _ _,?_⟩
   simp only[List.length_nil,QS,Nat.add_zero,Jl]
   omega
 | cons x xs=>grind[zap,zam,zaf]
def Fr (F:List Nat) (h h' : AH) (F' : List Nat):Prop:=h.next<=h'.next/\(∀c,c < h.next->c∉F->h'.get c=h.get c)/\(∀c∈F',c∈F\/h.next<=c)
theorem Fr.refl (F:List Nat) (h:AH):Fr F h h F:=⟨Qc _,λ_ _ _=>rfl,λ_ hc=>.inl hc⟩
theorem Fr.trans {F F' F'' : List Nat} {h1 h2 h3:AH} (a:Fr F h1 h2 F') (b:Fr F' h2 h3 F''):Fr F h1 h3 F'':=
 ⟨Qm a.1 b.1,λc hc hn=>by
   rw[b.2.1 c (Qi hc a.1) (λq=>(a.2.2 c q).elim hn (by omega)),a.2.1 c hc hn],
 λc hc=>by
  rcases b.2.2 c hc with q | q
  ·exact a.2.2 c q
  ·exact .inr (Qm a.1 q)⟩
theorem Old.fr {h h' : AH} (o:Old h h') (F:List Nat):Fr F h h' F:=⟨o.1,λc hc _=>o.2 c hc,λ_ hc=>.inl hc⟩
theorem zaZ.fr {b:Nat} {h h' : AH} (n:zaZ b h h') {F:List Nat} (hb:b∈F):Fr F h h' F:=⟨by rw[n.1]; omega,λc hc hn=>n.2 c (by grind),λ_ hc=>.inl hc⟩
def bl (p:Option Addr):List Nat:=match p with | some a=>[a.block] | none=>[]
theorem zeG {P:Program} {h:AH} {t elem:TypeId} {sz by' : Nat} (E:za3 P t elem sz by') {z:List Value} (hz:zao P elem=some z) (hzl:z.length=sz) (hsz:sz<=16777216) {l:List Value} (hl:l.length=sz):
 zar P h t 1 #[(0,.agg l.toArray)]=some (.slice (some ⟨h.next,0,none⟩) 1 1,h.alloc (.cells l elem false)):=by
 obtain⟨hu,i,z0,hi,hz0,hzs,hpos,hs,hby⟩:=E
 have hf:Instr.fill (λj=>some (j * i.size,i.size)) ((List.replicate 1 z).flatten).toArray [(0,.agg l.toArray)]=some l.toArray:=by grind[zcc,zdd,Value.cells]
 have ht:(#[((0:Nat),Value.agg l.toArray)]).toList.any (λp=>zdO p.2)=false:=rfl
 unfold zar
 rw[if_neg (by grind),hu]
 simp only[hi,hz]
 rw[if_pos ⟨by omega,by omega,by decide⟩]
 grind
theorem zoC {P:Program} {t:TypeId} {q:IntKind} (hu:P.underlying t=some (.int q)) (d:Nat) (n:Int):P.keyLits (d+1) t [.int q n]=if (Lit.int q n).wf=true then some [.int q n] else none:=by grind[Program.keyLits.eq_def]
theorem zia {P:Program} {t:TypeId} (hu:P.underlying t=some .string) (d:Nat) (s:ByteArray):P.keyLits (d+1) t [.string s]=if s.size<=maxLen then some [.string s.data.toList] else none:=by grind[Program.keyLits.eq_def]
theorem zib {P:Program} {t:TypeId} {fs:Array Field} (hu:P.underlying t=some (.struct fs)) (d:Nat) (cs:List Value):
 P.keyLits (d+1) t cs=if cs.length=P.cellsOf t/\fs.all (·.name != "_")=true then (fs.toList.mapM λf=>P.keyLits d f.type ((cs.drop f.offset).take (P.cellsOf f.type))).map List.flatten else none:=by grind[Program.keyLits.eq_def]
theorem zkA {P:Program} {t:TypeId} {cs:Array Value} (hf:(Value.agg cs).formed P t=true):zdL P t (.agg cs)=P.keyLits 40 t cs.toList:=by grind[zdL,Value.cells]
theorem zdV {P:Program} {t:TypeId} {fs:Array Field} (hu:P.underlying t=some (.struct fs)) {n d:Nat} (hn:n=d+1) (cs:List Value):
 P.keyLits n t cs=if cs.length=P.cellsOf t/\fs.all (·.name != "_")=true then (fs.toList.mapM λf=>P.keyLits d f.type ((cs.drop f.offset).take (P.cellsOf f.type))).map List.flatten else none:=by grind[zib]
theorem zde {P:Program} {t:TypeId} {q:IntKind} (hu:P.underlying t=some (.int q)) {m d:Nat} (hn:m=d+1) (n:Int):P.keyLits m t [.int q n]=if (Lit.int q n).wf=true then some [.int q n] else none:=by grind[zoC]
theorem zdW {P:Program} {t:TypeId} (hu:P.underlying t=some .string) {m d:Nat} (hn:m=d+1) (s:ByteArray):P.keyLits m t [.string s]=if s.size<=maxLen then some [.string s.data.toList] else none:=by grind[zia]
section
open Go.ChangeShapes Go.WideShapes
section
variable (P:Program)
def RdL (f:TypeId->List Value->Prop):List TypeId->List Value->Prop
 | [],cs=>cs=[]
 | t :: ts,cs=>P.cellsOf t<=cs.length/\f t (cs.take (P.cellsOf t))/\RdL f ts (cs.drop (P.cellsOf t))
def Rd (h:AH):Nat->TypeId->List Value->Prop
 | 0,_,_=>False
 | g+1,t,cs=>match P.underlying t with
   | some .bool=>∃b,cs=[.bool b]
   | some (.int k)=>∃n,cs=[.int k n]/\(Lit.int k n).wf=true
   | some .string=>∃s,cs=[.string s]/\s.size<=maxLen/\s.size<=reachBytes
   | some (.slice e)=>∃p n c al,cs=[.slice p n c]/\(p=none\/∃b off,p=some ⟨b,off,none⟩)/\(n<=maxLen/\(0 < n->n<=c/\c < zai))/\n * P.bytesOf e<=reachBytes/\zaz h p n (P.cellsOf e) al/\RdL P (Rd h g) (List.replicate n e) al
   | some (.struct fs)=>RdL P (Rd h g) (fs.toList.map (·.type)) cs
   | some (.array n e)=>RdL P (Rd h g) (List.replicate n e) cs
   | _=>False
def zgT:Nat->List Field->Nat->Bool
 | a,[],n=>a == n
 | a,f :: fs,n=>f.offset == a && zgT (a+P.cellsOf f.type) fs n
def okT:Nat->TypeId->Bool
 | 0,_=>false
 | g+1,t=>match P.underlying t with
   | some .bool | some (.int _) | some .string=>P.cellsOf t == 1
   | some (.slice e)=>P.cellsOf t == 1 && Nat.blt 0 (P.cellsOf e) && okT g e
   | some (.struct fs)=>zgT P 0 fs.toList (P.cellsOf t) && fs.toList.all λf=>okT g f.type
   | some (.array n e)=>P.cellsOf t == n * P.cellsOf e && okT g e
   | _=>false
end
section
variable {P:Program}
theorem RdL.mono {f f' : TypeId->List Value->Prop} (hf:∀t cs,f t cs->f' t cs):∀{ts:List TypeId} {cs:List Value},RdL P f ts cs->RdL P f' ts cs
 | [],_,k=>k
 | _ :: _,_,k=>⟨k.1,hf _ _ k.2.1,RdL.mono hf k.2.2⟩
theorem Rd.mono {h h' : AH} (o:Old h h'):∀(g:Nat) (t:TypeId) (cs:List Value),Rd P h g t cs->Rd P h' g t cs
 | 0,_,_,k=>k
 | g+1,t,cs,k=>by
   unfold Rd at k ⊢
   split <;> rename_i hu <;> simp only[hu] at k
   ·omega
   ·omega
   ·omega
   ·obtain⟨p,n,c,al,k1,k2,k3,k3b,k4,k5⟩:=k
    exact⟨p,n,c,al,k1,k2,k3,k3b,k4.old o,k5.mono (Rd.mono o g)⟩
   ·exact k.mono (Rd.mono o g)
   ·exact k.mono (Rd.mono o g)
end
section
variable {P:Program} {w:World} {φ:Fi} {h:AH}
structure St (P:Program) (φ:Fi) (h:AH) (w:World):Prop where
 rel:R P φ h w
 ro:ztA h
 free:∀b,h.next<=b->φ b=none
theorem St.empty (w:World):St P (λ_=>none) ⟨.nil,0⟩ w:=⟨R.empty 0,λb o hb=>by grind[AH.get,Tr.get_nil],λ_ _=>rfl⟩
def zjk (φ:Fi) (b:Nat) (r:Rec):Fi:=λc=>if c=b then some r else φ c
theorem zhn {b:Nat} {r:Rec} (hb:φ b=none):Le φ (zjk φ b r):=by
 intro c q e
 grind[zjk]
theorem zf5 {b:Nat} {r:Rec}:zjk φ b r b=some r:=if_pos rfl
theorem St.block (s:St P φ h w) {B:Nat} {C:Array Value} {e:TypeId} {m:Nat×Nat} (hw:w.heap[B]?= some (.cells C e m)) {off len:Nat} (hl:off+len<=C.size) {al:List Value} (hlr:LR φ al ((C.toList.drop off).take len)):
 St P (zjk φ h.next ⟨B,off,C.size,P.cellsOf e⟩) (h.alloc (.cells al e true)) w:=by
 have hle:=zhn (r:=⟨B,off,C.size,P.cellsOf e⟩) (s.free h.next (Qc _))
 refine⟨⟨λb o r hb hr=>?_,λb1 b2 o1 o2 r1 r2 h1 h2 k1 k2 he=>?_,λb o hb=>?_⟩,λb o hb=>?_,λb hb=>?_⟩
 ·rw[AH.get_alloc] at hb
  by_cases hbn:b=h.next
  ·subst hbn
   rw[if_pos rfl] at hb
   cases hb
   rw[zf5] at hr
   cases hr
   refine⟨_,hw,rfl,rfl,rfl,⟨C.toList.take off,(C.toList.drop off).take len,(C.toList.drop off).drop len,?_,?_,hlr.mono hle⟩,λz=>by grind⟩
   all_goals grind[Jl]
  ·rw[if_neg hbn] at hb
   unfold zjk at hr
   rw[if_neg hbn] at hr
   obtain⟨o',q1,q2⟩:=s.rel.obj b o r hb hr
   grind[OR.mono]
 ·refine .inr ⟨?_,?_⟩
  ·rw[AH.get_alloc] at h1
   by_cases hbn:b1=h.next
   ·rw[if_pos hbn] at h1; cases h1; rfl
   ·rw[if_neg hbn] at h1; exact s.ro _ _ h1
  ·rw[AH.get_alloc] at h2
   by_cases hbn:b2=h.next
   ·rw[if_pos hbn] at h2; cases h2; rfl
   ·rw[if_neg hbn] at h2; exact s.ro _ _ h2
 ·rw[AH.get_alloc] at hb
  show b < h.next+1
  by_cases hbn:b=h.next
  ·omega
  ·rw[if_neg hbn] at hb
   have:=s.rel.lt b o hb
   omega
 ·rw[AH.get_alloc] at hb
  by_cases hbn:b=h.next
  ·rw[if_pos hbn] at hb; cases hb; rfl
  ·rw[if_neg hbn] at hb; exact s.ro _ _ hb
 ·have hb:h.next+1<=b:=hb
  unfold zjk
  rw[if_neg (by omega)]
  exact s.free b (by omega)
theorem St.name (s:St P φ h w) (r:Rec):St P (zjk φ h.next r) ⟨h.tr,h.next+1⟩ w:=by
 have hle:=zhn (r:=r) (s.free h.next (Qc _))
 refine⟨⟨λb o r' hb hr=>?_,λb1 b2 o1 o2 r1 r2 h1 h2 k1 k2 he=>.inr ⟨s.ro _ _ h1,s.ro _ _ h2⟩,λb o hb=>?_⟩,λb o hb=>s.ro b o hb,λb hb=>?_⟩
 ·have hbn:b≠h.next:=by have:=s.rel.lt b o hb; omega
  unfold zjk at hr
  rw[if_neg hbn] at hr
  obtain⟨o',q1,q2⟩:=s.rel.obj b o r' hb hr
  grind[OR.mono]
 ·have:=s.rel.lt b o hb
  grind
 ·have hb:h.next+1<=b:=hb
  unfold zjk
  rw[if_neg (by omega)]
  exact s.free b (by omega)
structure Ext (P:Program) (w:World) (φ:Fi) (h:AH) (φ' : Fi) (h' : AH):Prop where
 le:Le φ φ'
 old:Old h h'
 st:St P φ' h' w
theorem Ext.refl (s:St P φ h w):Ext P w φ h φ h:=⟨Le.refl _,Old.refl _,s⟩
theorem Ext.trans {φ2 φ3:Fi} {h2 h3:AH} (a:Ext P w φ h φ2 h2) (b:Ext P w φ2 h2 φ3 h3):Ext P w φ h φ3 h3:=⟨a.le.trans b.le,a.old.trans b.old,b.st⟩
theorem zic {a:Addr} {n:Nat} {cs:List Value} (hc:w.cells? 0 a n=some cs) (hn:0 < n):
 a.spot=none/\∃C e m,w.heap[a.block]?= some (.cells C e m)/\a.off+n<=C.size/\cs=(C.toList.drop a.off).take n:=by
 obtain⟨-,hl,hi⟩:=World.cells?_some hc
 have h0:=hi 0 hn
 rw[Qe (by omega)] at h0
 simp only[Addr.add,if_true] at h0
 have hC:∃C e m,w.heap[a.block]?= some (.cells C e m)/\a.spot=none:=by
  unfold World.cell? at h0
  cases hb:w.heap[a.block]? with
  | none=>grind
  | some o=>
    simp only[hb] at h0
    cases o <;> simp at h0
    grind
 obtain⟨C,e,m,hb,hsp⟩:=hC
 have hcell:∀i,i < n->C[a.off+i]?= cs[i]?:=by grind[World.cell?,Addr.add]
 have hsz:a.off+n<=C.size:=by
  have:=hcell (n - 1) (by omega)
  grind
 refine⟨hsp,C,e,m,hb,hsz,Jb λi=>?_⟩
 grind
variable {H:Type} {enc:TypeId×Value->H} {held:Bool}
def Tr1 (enc:TypeId×Value->H) (P:Program) (w:World) (held:Bool) (t:TypeId) (cs:List Value):Prop:=∃fuel x,DataW.trod enc P w 0 (λ_=>true) held fuel t cs=some x/\(x.1.weights P t).all (·<=reachBytes)=true
theorem zb7 {e:TypeId}:∀{ds:List (DataW H)},(DataW.weightsAll P e ds).all (·<=reachBytes)=true->∀d∈ds,(d.weights P e).all (·<=reachBytes)=true
 | d :: ds,k,x,hx=>by
   rw[DataW.weightsAll,List.all_append,Qd] at k
   rw[Qy] at hx
   rcases hx with rfl | hx
   ·grind
   ·exact zb7 k.2 x hx
theorem zeH:∀{ts:List TypeId} {ds:List (DataW H)},(DataW.weightsEach P ts ds).all (·<=reachBytes)=true->∀(i:Nat) (t:TypeId) (d:DataW H),ts[i]?= some t->ds[i]?= some d->(d.weights P t).all (·<=reachBytes)=true
 | t :: ts,d :: ds,k,i,t',d',h1,h2=>by
   rw[DataW.weightsEach,List.all_append,Qd] at k
   cases i with
   | zero=>grind
   | succ i=>exact zeH k.2 i t' d' (by grind) (by grind)
theorem zoD:∀(fs:List Field) (a n:Nat),zgT P a fs n=true->a<=n
 | [],a,n,k=>by grind[zgT]
 | f :: fs,a,n,k=>by
   simp only[zgT,Qd,beq_iff_eq] at k
   have:=zoD fs _ n k.2
   omega
theorem zl2 {F:TypeId->List Value->Prop} {cs:List Value}:∀(fs:List Field) (a:Nat),zgT P a fs cs.length=true->(∀f∈fs,F f.type ((cs.drop f.offset).take (P.cellsOf f.type)))->RdL P F (fs.map (·.type)) (cs.drop a)
 | [],a,k,_=>by
   simp only[zgT,beq_iff_eq] at k
   exact QH (by omega)
 | f :: fs,a,k,hf=>by
   simp only[zgT,Qd,beq_iff_eq] at k
   have hle:=zoD fs _ _ k.2
   refine⟨by grind,by grind,?_⟩
   rw[QC]
   exact zl2 fs _ k.2 λg hg=>hf g (QB _ hg)
theorem znr {F:TypeId->List Value->Prop} {e:TypeId}:∀(n:Nat) (cs:List Value),cs.length=n * P.cellsOf e->(∀i,i < n->F e ((cs.drop (i * P.cellsOf e)).take (P.cellsOf e)))->RdL P F (List.replicate n e) cs
 | 0,cs,hl,_=>List.eq_nil_of_length_eq_zero (by omega)
 | n+1,cs,hl,hf=>by
   rw[QQ] at hl
   refine⟨by omega,by simpa using hf 0 (by omega),znr n _ (by grind) λi hi=>?_⟩
   grind[QC]
theorem rows {g:Nat} (ih:∀(t:TypeId) (cs:List Value) (φ:Fi) (h:AH),okT P g t=true->Tr1 enc P w held t cs->St P φ h w->∃φ' h' acs,Ext P w φ h φ' h'/\LR φ' acs cs/\Rd P h' g t acs):
 ∀(ts:List TypeId) (cs:List Value) (φ:Fi) (h:AH),(∀t∈ts,okT P g t=true)->RdL P (Tr1 enc P w held) ts cs->St P φ h w->∃φ' h' acs,Ext P w φ h φ' h'/\LR φ' acs cs/\RdL P (Rd P h' g) ts acs
 | [],cs,φ,h,_,k,s=>⟨φ,h,[],Ext.refl s,by rw[show cs=[] from k]; trivial,rfl⟩
 | t :: ts,cs,φ,h,ho,k,s=>by
   obtain⟨k1,k2,k3⟩:=k
   obtain⟨φ1,h1,a1,e1,l1,r1⟩:=ih t _ φ h (by grind) k2 s
   obtain⟨φ2,h2,a2,e2,l2,r2⟩:=rows ih ts _ φ1 h1 (by grind) k3 e1.st
   have hl1:a1.length=P.cellsOf t:=by grind[LR.length,Jm]
   refine⟨φ2,h2,a1 ++ a2,e1.trans e2,?_,?_⟩
   ·have:=(l1.mono e2.le).append l2
    grind[Jl]
   ·refine⟨by grind,?_,?_⟩
    ·rw[<-hl1,List.take_left]; exact r1.mono e2.old
    grind
theorem zjL {φ:Fi} {v v' : Value} (r:VR φ v v') (hm:zcq v=false):LR φ [v] [v']:=⟨r,hm,trivial⟩
theorem ztX:∀(g:Nat) (t:TypeId) (cs:List Value) (φ:Fi) (h:AH),okT P g t=true->Tr1 enc P w held t cs->St P φ h w->∃φ' h' acs,Ext P w φ h φ' h'/\LR φ' acs cs/\Rd P h' g t acs
 | 0,t,cs,φ,h,ho,_,_=>by grind[okT]
 | g+1,t,cs,φ,h,ho,⟨fuel,x,hx,hwt⟩,s=>by
   unfold okT at ho
   split at ho
   ·rename_i hu
    obtain⟨b,rfl, -⟩:=DataW.trod_bool hu hx
    exact⟨φ,h,[.bool b],Ext.refl s,zjL (.bool b) rfl,by grind[Rd]⟩
   ·rename_i k hu
    obtain⟨n,rfl, -,hw⟩:=DataW.trod_int hu hx
    exact⟨φ,h,[.int k n],Ext.refl s,zjL (.int k n) rfl,by grind[Rd]⟩
   ·rename_i hu
    obtain⟨b,rfl,rfl,hw⟩:=DataW.trod_string hu hx
    have hb2:b.size<=reachBytes:=by
     simp only[DataW.weights,List.all_cons,List.all_nil,Bool.and_true,decide_eq_true_eq,QZ] at hwt
     simp_all
    exact⟨φ,h,[.string b],Ext.refl s,zjL (.string b) rfl,by grind[Rd]⟩
   ·rename_i e hu
    simp only[Qd,beq_iff_eq,Q5] at ho
    obtain⟨⟨ho1,ho2⟩,ho3⟩:=ho
    rcases DataW.trod_slice hu hx with ⟨rfl, -⟩ | ⟨a,n,c,elems,rest,m,rfl,rfl,rfl, -,hnc,hc,hel,hE,hR, -⟩
    ·exact⟨φ,h,[.slice none 0 0],Ext.refl s,zjL (.sliceNil 0 0 (by decide)) rfl,by unfold Rd; simp only[hu]; exact⟨none,0,0,[],rfl,.inl rfl,by omega,by simp,⟨by simp,.inl rfl⟩,rfl⟩⟩
    rw[DataW.weights,hu] at hwt
    simp only[List.all_cons,List.all_append,Qd,decide_eq_true_eq,QN] at hwt
    have hnb:n * P.bytesOf e<=reachBytes:=by grind
    rcases QW c with hc0 | hc0
    ·have hn0:n=0:=by omega
     subst hc0 hn0
     refine⟨zjk φ h.next ⟨0,1,0,0⟩,⟨h.tr,h.next+1⟩,[.slice (some ⟨h.next,0,none⟩) 0 zai],⟨zhn (s.free _ (Qc _)),⟨Qw _,λ_ _=>rfl⟩,s.name _⟩,zjL (.sliceE zf5 (.inr (by simp))) rfl,?_⟩
     unfold Rd
     simp only[hu]
     exact⟨_,0,zai,[],rfl,by simp,by omega,by simp,⟨by simp,.inl rfl⟩,rfl⟩
    have hat:∀i,i < c->∃csi y,w.cells? 0 (a.add (i * P.cellsOf e)) (P.cellsOf e)=some csi/\DataW.trod enc P w 0 (λ_=>true) held m e csi=some y/\(y.1.weights P e).all (·<=reachBytes)=true:=by
     intro i hi
     have:∃y,(w.cells? 0 (a.add (i * P.cellsOf e)) (P.cellsOf e)).bind (DataW.trod enc P w 0 (λ_=>true) held m e)=some y/\(y.1.weights P e).all (·<=reachBytes)=true:=by
      by_cases hin:i < n
      ·grind[zb7]
      ·obtain⟨j,rfl⟩:∃j,i=n+j:=⟨i - n,by omega⟩
       grind[zb7]
     grind[Option.bind_eq_some_iff]
    have hblk:∀i,i < c->a.spot=none/\∃C e' mm,w.heap[a.block]?= some (.cells C e' mm)/\a.off+(i+1) * P.cellsOf e<=C.size/\Tr1 enc P w held e ((C.toList.drop (a.off+i * P.cellsOf e)).take (P.cellsOf e)):=by
     intro i hi
     obtain⟨csi,y,h1,h2,hyw⟩:=hat i hi
     obtain⟨g1,C,e',mm,g2,g3,g4⟩:=zic h1 ho2
     have hbo:(a.add (i * P.cellsOf e)).block=a.block/\(a.add (i * P.cellsOf e)).off=a.off+i * P.cellsOf e:=by grind[Addr.add]
     rw[hbo.1] at g2
     have hsp:a.spot=none:=by grind[zic,Addr.add]
     exact⟨hsp,C,e',mm,g2,by grind,m,y,by grind,hyw⟩
    obtain⟨hsp,C,e',mm,hC, -, -⟩:=hblk 0 hc0
    have hsz:a.off+n * P.cellsOf e<=C.size:=by
     rcases QW n with hn0 | hn0
     ·grind
     ·obtain⟨-,C',_,_,q1,q2, -⟩:=hblk (n - 1) (by omega)
      grind
    have hml:((C.toList.drop a.off).take (n * P.cellsOf e)).length=n * P.cellsOf e:=by grind
    have hmid:RdL P (Tr1 enc P w held) (List.replicate n e) ((C.toList.drop a.off).take (n * P.cellsOf e)):=by
     refine znr n _ hml λi hi=>?_
     obtain⟨-,C',_,_,q1,q2,q3⟩:=hblk i (by omega)
     rw[hC] at q1; have hin:(i+1) * P.cellsOf e<=n * P.cellsOf e:=Qt _ hi
     grind[List.drop_take,QC]
    obtain⟨φ1,h1,al,e1,l1,r1⟩:=rows (ztX g) (List.replicate n e) _ φ h (by grind) hmid s
    have hal:al.length=n * P.cellsOf e:=by grind[LR.length]
    refine⟨_,_,[.slice (some ⟨h1.next,0,none⟩) n c],e1.trans ⟨zhn (e1.st.free _ (Qc _)),za2 _ _,e1.st.block hC hsz l1⟩,zjL ?_ rfl,?_⟩
    ·have hco:c < zai:=by grind[maxLen,zai]
     obtain⟨ab,ao,asp⟩:=a
     subst hsp
     exact VR.slice zf5 (hco)
    ·unfold Rd
     simp only[hu]
     refine⟨_,n,c,al,rfl,by simp,⟨by omega,λ_=>⟨hnc,(show c < zai from Nat.lt_of_le_of_lt hc (by decide))⟩⟩,hnb,⟨hal,.inr ⟨_,0,al,_,true,rfl,Je _,zan _ _,by omega,?_⟩⟩,r1.mono (Rd.mono (za2 _ _) g)⟩
     grind
   ·rename_i fs hu
    simp only[Qd,Qz] at ho
    obtain⟨ho1,ho2⟩:=ho
    obtain⟨xs,m,rfl,rfl,hl,hxl,hf⟩:=DataW.trod_struct hu hx
    rw[DataW.weights,hu] at hwt
    rw[<-hl] at ho1
    have hr:RdL P (Tr1 enc P w held) (fs.toList.map (·.type)) (cs.drop 0):=zl2 fs.toList 0 ho1 λf hfm=>by
     obtain⟨i,hi,hfi⟩:=Q2.1 hfm
     have hfi' : fs[i]?= some f:=by grind
     have:=hf i f hfi'
     have hix:i < xs.length:=by grind
     rw[Qe hix] at this
     exact⟨m,_,this,zeH hwt i f.type _ (by grind) (by grind)⟩
    obtain⟨φ1,h1,al,e1,l1,r1⟩:=rows (ztX g) _ _ φ h (by grind) hr s
    grind[Rd]
   ·rename_i n e hu
    simp only[Qd,beq_iff_eq] at ho
    obtain⟨xs,m,rfl,rfl,hl,hxl,hf⟩:=DataW.trod_array hu hx
    rw[DataW.weights,hu] at hwt
    have hr:RdL P (Tr1 enc P w held) (List.replicate n e) cs:=znr n cs (by omega) λi hi=>by
     have:=hf i hi
     rw[Qe (by omega)] at this
     exact⟨m,_,this,by grind[zb7]⟩
    obtain⟨φ1,h1,al,e1,l1,r1⟩:=rows (ztX g) _ _ φ h (by grind) hr s
    grind[Rd]
   grind
end
end
end Go.Am
