/-
  CONTRACTS: memory, frames, slices that grow.
-/
import Derived.Test.YtihmdaifbmchjaaGreatAmG
import Derived.WideKeyArgs
import Derived.DataReads
import Derived.OpenShut
set_option linter.unusedVariables false
set_option linter.unusedSimpArgs false
namespace Go.Am
def Old (h h' : AH):Prop:=h.next≤h'.next∧∀b,b < h.next→h'.get b=h.get b
def znx (lim:Nat) (h h' : AH):Prop:=h.next≤h'.next∧∀b,b < lim→h'.get b=h.get b
theorem Old.refl (h:AH):Old h h:=⟨Nat.le_refl _,fun _ _=>rfl⟩
theorem Old.trans {h1 h2 h3:AH} (a:Old h1 h2) (b:Old h2 h3):Old h1 h3:=⟨Nat.le_trans a.1 b.1,fun c hc=>by rw[b.2 c (Nat.lt_of_lt_of_le hc a.1),a.2 c hc]⟩
theorem znx.refl (lim:Nat) (h:AH):znx lim h h:=⟨Nat.le_refl _,fun _ _=>rfl⟩
theorem znx.trans {lim:Nat} {h1 h2 h3:AH} (a:znx lim h1 h2) (b:znx lim h2 h3):znx lim h1 h3:=⟨Nat.le_trans a.1 b.1,fun c hc=>by rw[b.2 c hc,a.2 c hc]⟩
theorem Old.toB {lim:Nat} {h h' : AH} (a:Old h h') (hl:lim≤h.next):znx lim h h':=⟨a.1,fun c hc=>a.2 c (Nat.lt_of_lt_of_le hc hl)⟩
theorem znx.toOld {h h' : AH} (a:znx h.next h h'):Old h h':=a
theorem zaV (h:AH) (o:zb7):Old h (h.alloc o):=⟨Nat.le_succ _,fun b hb=>by rw[AH.get_alloc,if_neg (by omega)]⟩
theorem Old.alloc {h h1 h2:AH} (a:Old h h1) {o:zb7} (e:h2=h1.alloc o):Old h h2:=by subst e; exact a.trans (zaV _ _)
theorem zau (h:AH) (o:zb7):(h.alloc o).get h.next=some o:=by rw[AH.get_alloc,if_pos rfl]
theorem zac {h h' : AH} {o:zb7} (e:h'= h.alloc o):h'.get h.next=some o:=by rw[e]; exact zau _ _
theorem zaa {h h' : AH} {o:zb7} (e:h'= h.alloc o):Old h h':=by rw[e]; exact zaV _ _
theorem zab {h h' : AH} {o:zb7} (e:h'= h.alloc o):h'.next=h.next+1:=by rw[e]; rfl
theorem zb4 {h:AH} {o:zb7} {b:Nat} (hb:b≠h.next):(h.alloc o).get b=h.get b:=by rw[AH.get_alloc,if_neg hb]
theorem zaN {h:AH} {o:zb7} {b c:Nat} (hb:b≠c):(h.set c o).get b=h.get b:=by rw[AH.get_set,if_neg hb]
theorem zte {h:AH} {b off:Nat} {cs:List Value} {e:TypeId} {ro:Bool} (hb:h.get b=some (.cells cs e ro)):ld1 h b off=cs[off]?:=by unfold ld1; rw[hb]; rfl
theorem zah {h:AH} {b off:Nat} {cs:List Value} {e:TypeId} {ro:Bool} {v:Value} (hb:h.get b=some (.cells cs e ro)) (hv:cs[off]?= some v):ld1 h b off=some v:=by rw[zte hb,hv]
theorem zcl {h:AH} {b off n:Nat} {cs:List Value} {e:TypeId} {ro:Bool} (hb:h.get b=some (.cells cs e ro)) (hl:off+n≤cs.length):ldN h b off n=some ((cs.drop off).take n):=by unfold ldN; rw[hb]; exact if_pos hl
theorem zao {h:AH} {b n:Nat} {cs:List Value} {e:TypeId} {ro:Bool} (hb:h.get b=some (.cells cs e ro)) (hl:cs.length=n):ldN h b 0 n=some cs:=by rw[zcl hb (by omega)]; simp[←hl]
theorem zbm {h:AH} {b off:Nat} {cs:List Value} {e:TypeId} {v:Value} (hb:h.get b=some (.cells cs e false)) (hl:off < cs.length):st1 h b off v=some (h.set b (.cells (cs.set off v) e false)):=by unfold st1 store1; rw[hb]; exact if_pos hl
theorem zjX {h:AH} {b off:Nat} {cs vs:List Value} {e:TypeId} (hb:h.get b=some (.cells cs e false)) (hl:off+vs.length≤cs.length):stN h b off vs=some (h.set b (.cells (cs.take off ++ vs ++ cs.drop (off+vs.length)) e false)):=by unfold stN storeN; rw[hb]; exact if_pos hl
theorem zaB {h:AH} {b:Nat} {cs vs:List Value} {e:TypeId} (hb:h.get b=some (.cells cs e false)) (hl:vs.length=cs.length):stN h b 0 vs=some (h.set b (.cells vs e false)):=by
 rw[zjX hb (by omega)]
 simp[hl]
theorem zaJ {c x:Int} (hc:c=IntKind.wrap .i64 x) (h1:-9223372036854775808≤x) (h2:x≤9223372036854775807):c=x:=by rw[hc,zbW h1 h2]
theorem zoz {c x:Int} (hc:c=IntKind.wrap .u64 x) (h1:0≤x) (h2:x≤18446744073709551615):c=x:=by rw[hc,zkx h1 h2]
def zaq (h:AH) (p:Option Addr) (n:Nat) (sz:Nat) (cs:List Value):Prop:=
 cs.length=n * sz∧(n=0∨∃b off al e ro,p=some ⟨b,off,none⟩∧b < h.next∧h.get b=some (.cells al e ro)∧off+n * sz≤al.length∧(al.drop off).take (n * sz)=cs)
theorem zaq.old {h h' : AH} {p:Option Addr} {n sz:Nat} {cs:List Value} (s:zaq h p n sz cs) (o:Old h h'):zaq h' p n sz cs:=by
 refine⟨s.1,?_⟩
 rcases s.2 with h0 | ⟨b,off,al,e,ro,hp,hb,hg,hl,hc⟩
 ·exact .inl h0
 ·exact .inr ⟨b,off,al,e,ro,hp,Nat.lt_of_lt_of_le hb o.1,by rw[o.2 b hb,hg],hl,hc⟩
theorem zaq.firstC {h:AH} {p:Option Addr} {n sz c:Nat} {cs:List Value} (s:zaq h p n sz cs) (hp:p=none∨∃b off,p=some ⟨b,off,none⟩):firstC h sz n (.slice p n c)=some cs:=by
 rcases s.2 with h0 | ⟨b,off,al,e,ro,hp,hb,hg,hl,hc⟩
 ·subst h0
  have:cs=[]:=by have:=s.1; simp at this; exact this
  subst this
  rcases hp with rfl | ⟨b,off,rfl⟩
  ·rfl
  ·simp[Am.firstC]
 ·subst hp
  unfold Am.firstC
  cases hm:n * sz with
  | zero=>
    have:=s.1
    rw[hm] at this
    simp only
    rw[List.eq_nil_of_length_eq_zero this]
  | succ m=>
    simp only[hg,Nat.le_refl,true_and]
    rw[hm] at hl hc
    rw[if_pos hl,hc]
def zbe (lim:Nat) (h:AH) (elem:TypeId) (sz:Nat) (p:Option Addr) (n c:Nat) (cs:List Value):Prop:=
 cs.length=n * sz∧((p=none∧n=0∧c=0)∨∃b,p=some ⟨b,0,none⟩∧lim≤b∧b < h.next∧h.get b=some (.cells cs elem false)∧(c=zak∨c=n))
theorem zbe.shows {lim:Nat} {h:AH} {elem:TypeId} {sz:Nat} {p:Option Addr} {n c:Nat} {cs:List Value} (g:zbe lim h elem sz p n c cs):zaq h p n sz cs:=by
 refine⟨g.1,?_⟩
 rcases g.2 with ⟨hp,hn,hc⟩ | ⟨b,hp,hl,hb,hg,hc⟩
 ·exact .inl hn
 ·exact .inr ⟨b,0,cs,elem,false,hp,hb,hg,by rw[g.1]; omega,by simp[←g.1]⟩
theorem zbe.nil (lim:Nat) (h:AH) (elem:TypeId) (sz:Nat):zbe lim h elem sz none 0 0 []:=⟨by simp,.inl ⟨rfl,rfl,rfl⟩⟩
theorem zbe.old {lim:Nat} {h h' : AH} {elem:TypeId} {sz:Nat} {p:Option Addr} {n c:Nat} {cs:List Value} (g:zbe lim h elem sz p n c cs) (o:Old h h'):zbe lim h' elem sz p n c cs:=by
 refine⟨g.1,?_⟩
 rcases g.2 with hp | ⟨b,hp,hl,hb,hg,hc⟩
 ·exact .inl hp
 ·exact .inr ⟨b,hp,hl,Nat.lt_of_lt_of_le hb o.1,by rw[o.2 b hb,hg],hc⟩
def zaZ (P:Program) (st elem:TypeId) (sz by' : Nat):Prop:=
 P.underlying st=some (.slice elem)∧∃i z,P.info? elem=some i∧i.zero=some z∧z.cells.size=i.size∧0 < i.size∧i.size=sz∧i.bytes=by'
def apart (p:Option Addr) (b:Nat):Prop:=match p with | some a=>a.block≠b | none=>True
theorem zbe.append {P:Program} {lim:Nat} {h:AH} {st elem:TypeId} {sz by' : Nat} {p:Option Addr} {n c:Nat} {cs:List Value} (g:zbe lim h elem sz p n c cs) (E:zaZ P st elem sz by') (hlim:lim≤h.next)
 {x:Value} {m:Nat} {ns:List Value} (hx:zlx x=some m) (hf:firstC h sz m x=some ns) (hns:ns.length=m * sz) (hroom:(n+m) * by'≤zaE) (hroom2:n+m≤9223372036854775807)
 (hxt:∃e,P.underlying st=some (.slice e)):
 ∃p' c' h',zal P h .append #[st,st] [.slice p n c,x]=some (.slice p' (n+m) c',h')∧zbe lim h' elem sz p' (n+m) c' (cs ++ ns)∧znx lim h h'∧(∀b,b < h.next→apart p b→h'.get b=h.get b)∧(0 < m→∃b,p'= some ⟨b,0,none⟩∧h.next≤b):=by
 obtain⟨hu,i,z,hi,hz,hzs,hpos,rfl,rfl⟩:=E
 have hlen:(cs ++ ns).length=(n+m) * i.size:=by rw[List.length_append,g.1,hns,Nat.add_mul]
 have hb0:zal P h .append #[st,st] [.slice p n c,x]=zaS P h st false (.slice p n c) x:=zaT hu
 rw[hb0]
 have hfc:firstC h i.size n (.slice p n c)=some cs:=g.shows.firstC (by
  rcases g.2 with ⟨hp,_⟩ | ⟨b,hp,_⟩
  ·exact .inl hp
  ·exact .inr ⟨b,0,hp⟩)
 have hcnd:z.cells.size=i.size∧0 < i.size∧ns.length=m * i.size∧cs.length=n * i.size:=⟨hzs,hpos,hns,g.1⟩
 have fresh:∃p' c' h',some (Value.slice (some ⟨h.next,0,none⟩) (n+m) zak,h.alloc (.cells (cs ++ ns) elem false))=some (.slice p' (n+m) c',h')∧zbe lim h' elem i.size p' (n+m) c' (cs ++ ns)∧znx lim h h'∧(∀b,b < h.next→apart p b→h'.get b=h.get b)∧(0 < m→∃b,p'= some ⟨b,0,none⟩∧h.next≤b):=
  ⟨_,_,_,rfl,⟨hlen,.inr ⟨h.next,rfl,hlim,Nat.lt_succ_self _,zau _ _,.inl rfl⟩⟩,(zaV _ _).toB hlim,fun b hb _=>zb4 (by omega),fun _=>⟨_,rfl,Nat.le_refl _⟩⟩
 unfold zaS
 simp only[hu,hi,hx,hfc,hf,hz]
 rw[if_pos hcnd]
 rcases g.2 with ⟨rfl,rfl,rfl⟩ | ⟨b,rfl,hl,hb,hg,hc⟩
 ·rw[if_neg (by decide)]
  by_cases hm:m=0
  ·subst hm
   have:ns=[]:=by have:=hns; simp at this; exact this
   subst this
   rw[if_pos (by simp)]
   exact⟨none,0,h,rfl,⟨by simpa using g.1,.inl ⟨rfl,rfl,rfl⟩⟩,znx.refl _ _,fun _ _ _=>rfl,fun q=>absurd q (Nat.lt_irrefl _)⟩
  ·rw[if_neg (by omega),if_pos ⟨Nat.le_refl _,hroom,hroom2⟩]
   exact fresh
 ·rcases hc with rfl | rfl
  ·rw[if_pos rfl]
   simp only[hg]
   rw[if_pos (by exact⟨trivial,hroom,hroom2⟩)]
   refine⟨_,_,_,rfl,⟨hlen,.inr ⟨h.next,rfl,hlim,by simp,?_,.inl rfl⟩⟩,⟨by simp,?_⟩,?_,fun _=>⟨_,rfl,Nat.le_refl _⟩⟩
   ·rw[AH.get_alloc,if_pos (by simp)]
   ·intro d hd
    rw[AH.get_alloc,if_neg (by simp; omega),AH.get_del,if_neg (by omega)]
   ·intro d hd ha
    rw[AH.get_alloc,if_neg (by simp; omega),AH.get_del,if_neg (fun q=>ha (by rw[q]))]
  ·have hne:c≠zak:=by
    intro q
    have:c≤9223372036854775807:=by omega
    rw[q] at this
    exact absurd this (by decide)
   rw[if_neg hne]
   by_cases hm:m=0
   ·subst hm
    have:ns=[]:=by have:=hns; simp at this; exact this
    subst this
    rw[if_pos (by simp)]
    exact⟨_,c,h,rfl,⟨by simpa using g.1,.inr ⟨b,rfl,hl,hb,by simpa using hg,.inr rfl⟩⟩,znx.refl _ _,fun _ _ _=>rfl,fun q=>absurd q (Nat.lt_irrefl _)⟩
   ·rw[if_neg (by omega),if_pos ⟨Nat.le_refl _,hroom,hroom2⟩]
    exact fresh
def ztf (P:Program) (st elem:TypeId) (sz by' : Nat):Bool:=
 match P.underlying st with
 | some (.slice e)=>
   match P.info? elem with
   | some i=>match i.zero with | some z=>Nat.beq e elem && Nat.beq z.cells.size i.size && Nat.blt 0 i.size && Nat.beq i.size sz && Nat.beq i.bytes by' | none=>false
   | none=>false
 | _=>false
theorem zaG {P:Program} {st elem:TypeId} {sz by' : Nat} (h:ztf P st elem sz by'= true):zaZ P st elem sz by':=by
 unfold ztf at h
 split at h
 ·rename_i e hu
  split at h
  ·rename_i i hi
   split at h
   ·rename_i z hz
    simp only[Bool.and_eq_true] at h
    obtain⟨⟨⟨⟨h1,h2⟩,h3⟩,h4⟩,h5⟩:=h
    have h1:=Nat.eq_of_beq_eq_true h1
    subst h1
    exact⟨hu,i,z,hi,hz,Nat.eq_of_beq_eq_true h2,by rw[Nat.blt_eq] at h3; exact h3,Nat.eq_of_beq_eq_true h4,Nat.eq_of_beq_eq_true h5⟩
   ·cases h
  ·cases h
 ·cases h
theorem zjY {h h1:AH} {cs:List Value} {e:TypeId} {n sz c:Nat} {ro:Bool} (e1:h1=h.alloc (.cells cs e ro)) (hl:cs.length=n * sz):firstC h1 sz n (.slice (some ⟨h.next,0,none⟩) n c)=some cs:=by
 subst e1
 unfold Am.firstC
 cases hm:n * sz with
 | zero=>
   simp only
   rw[hm] at hl
   rw[List.eq_nil_of_length_eq_zero hl]
 | succ m=>
   simp only[zau,Nat.le_refl,true_and,Nat.zero_add,List.drop_zero]
   rw[if_pos (by omega),←hm,←hl,List.take_length]
def zav (k:IntKind) (l:List Nat):List Value:=l.map fun n:Nat=>Value.int k (n:Int)
theorem zbN {k:IntKind} {l:List Nat} {i:Nat} (hi:i < l.length):(zav k l)[i]?= some (.int k (l[i]:Nat)):=by simp[zav,hi]
theorem zam (k:IntKind) (l:List Nat):(zav k l).length=l.length:=by simp[zav]
theorem zaI (k:IntKind) (l m:List Nat):zav k (l ++ m)=zav k l ++ zav k m:=by simp[zav]
theorem zbe.push {P:Program} {lim:Nat} {h h4:AH} {st elem:TypeId} {sz by' : Nat} {p:Option Addr} {n c:Nat} {cs:List Value} (g:zbe lim h elem sz p n c cs) (E:zaZ P st elem sz by') (hlim:lim≤h.next)
 {m:Nat} {ns:List Value} (e4:h4=h.alloc (.cells ns elem false)) (hns:ns.length=m * sz) (hroom:(n+m) * by'≤zaE) (hroom2:n+m≤9223372036854775807):
 ∃p' c' h',zal P h4 .append #[st,st] [.slice p n c,.slice (some ⟨h.next,0,none⟩) m m]=some (.slice p' (n+m) c',h')∧zbe lim h' elem sz p' (n+m) c' (cs ++ ns)∧znx lim h h'∧(∀b,b < h.next→apart p b→h'.get b=h.get b)∧(0 < m→∃b,p'= some ⟨b,0,none⟩∧h.next≤b):=by
 obtain⟨p',c',h5,h1,h2,h3,h6,h7⟩:=(g.old (by rw[e4]; exact zaV _ _)).append E (by rw[e4]; exact Nat.le_trans hlim (Nat.le_succ _)) (x:=.slice (some ⟨h.next,0,none⟩) m m) (m:=m) rfl (zjY e4 hns) hns hroom hroom2 ⟨_,E.1⟩
 refine⟨p',c',h5,h1,h2,((zaV h _).toB hlim).trans (e4▸h3),fun b hb ha=>?_,fun q=>(h7 q).imp fun b hb=>⟨hb.1,by rw[e4] at hb; exact Nat.le_of_succ_le hb.2⟩⟩
 rw[h6 b (by rw[e4]; exact Nat.lt_succ_of_lt hb) ha,e4,zb4 (by omega)]
theorem zvT (a b:Nat):Int.tdiv (a:Int) (b:Int)=((a / b:Nat):Int):=by
 rw[Int.tdiv_eq_ediv_of_nonneg (by omega),Int.natCast_ediv]
theorem zz4 (a b:Nat):Int.tmod (a:Int) (b:Int)=((a % b:Nat):Int):=by
 rw[Int.tmod_eq_emod_of_nonneg (by omega),Int.natCast_emod]
theorem zbe.lit {lim:Nat} {h h1:AH} {elem:TypeId} {sz n:Nat} {cs:List Value} (e1:h1=h.alloc (.cells cs elem false)) (hl:cs.length=n * sz) (hlim:lim≤h.next):zbe lim h1 elem sz (some ⟨h.next,0,none⟩) n n cs:=by
 subst e1
 exact⟨hl,.inr ⟨h.next,rfl,hlim,Nat.lt_succ_self _,zau _ _,.inr rfl⟩⟩
theorem zaq.get {h:AH} {p:Option Addr} {n:Nat} {cs:List Value} (s:zaq h p n 1 cs) {i:Nat} (hi:i < n):∃b off,p=some ⟨b,off,none⟩∧ld1 h b (off+i)=cs[i]?:=by
 rcases s.2 with h0 | ⟨b,off,al,e,ro,hp,hb,hg,hl,hc⟩
 ·omega
 ·refine⟨b,off,hp,?_⟩
  rw[zte hg,←hc,List.getElem?_take,if_pos (by omega),List.getElem?_drop]
theorem zaq.getN {h:AH} {p:Option Addr} {n sz:Nat} {cs:List Value} (s:zaq h p n sz cs) {i:Nat} (hi:i < n):∃b off,p=some ⟨b,off,none⟩∧ldN h b (off+i * sz) sz=some ((cs.drop (i * sz)).take sz)∧∀j,j < sz→ld1 h b (off+i * sz+j)=cs[i * sz+j]?:=by
 rcases s.2 with h0 | ⟨b,off,al,e,ro,hp,hb,hg,hl,hc⟩
 ·omega
 ·have hle:i * sz+sz≤n * sz:=by rw[←Nat.succ_mul]; exact Nat.mul_le_mul_right _ hi
  refine⟨b,off,hp,?_,fun j hj=>?_⟩
  ·rw[zcl hg (by omega),←hc]
   congr 1
   apply List.ext_getElem?
   intro j
   simp only[List.getElem?_take,List.getElem?_drop]
   split
   ·rw[if_pos (by omega)]; congr 1; omega
   ·rfl
  ·rw[zte hg,←hc,List.getElem?_take,if_pos (by omega),List.getElem?_drop]
   congr 1; omega
theorem zae {b off:Nat} {k:Nat→Nat→Prop} (w:k b off):zai (some ⟨b,off,none⟩) k:=w
theorem za9.refl (b:Nat) (h:AH):za9 b h h:=⟨rfl,fun _ _=>rfl⟩
theorem za9.trans {b:Nat} {h1 h2 h3:AH} (x:za9 b h1 h2) (y:za9 b h2 h3):za9 b h1 h3:=⟨y.1.trans x.1,fun c hc=>by rw[y.2 c hc,x.2 c hc]⟩
theorem zpJ (k:IntKind) (l:List Nat) (i n:Nat):(zav k l).set i (.int k n)=zav k (l.set i n):=by
 unfold zav
 rw[List.map_set]
theorem zdU (k:IntKind) (l:List Nat) (i:Nat):(zav k l)[i]?= (l[i]?).map fun n:Nat=>Value.int k (n:Int):=by simp[zav]
def cnt (M:List Nat) (k:Nat):Nat:=((M.drop (64 * k)).take 64).count 1
def zny (M:List Nat):List Nat:=(List.range 16).map (cnt M)
def zfP (M rm:List Nat):List Value:=zav .u8 M ++ zav .i64 rm
theorem zdw (M rm:List Nat):(zfP M rm).length=M.length+rm.length:=by simp[zfP,zam]
theorem zoA {M rm:List Nat} {i:Nat} (hi:i < M.length):(zfP M rm)[i]?= (M[i]?).map fun n:Nat=>Value.int .u8 (n:Int):=by
 unfold zfP
 rw[List.getElem?_append_left (by rw[zam]; exact hi),zdU]
theorem zoB {M rm:List Nat} {k:Nat} (hl:M.length=1024):(zfP M rm)[1024+k]?= (rm[k]?).map fun n:Nat=>Value.int .i64 (n:Int):=by
 unfold zfP
 rw[List.getElem?_append_right (by rw[zam]; omega),zam,zdU,hl,show 1024+k - 1024=k by omega]
theorem zrf {M rm:List Nat} {i v:Nat} (hi:i < M.length):(zfP M rm).set i (.int .u8 v)=zfP (M.set i v) rm:=by
 unfold zfP
 rw[List.set_append_left _ _ (by rw[zam]; exact hi),zpJ]
theorem zjZ {M rm:List Nat} {k v:Nat} (hl:M.length=1024):(zfP M rm).set (1024+k) (.int .i64 v)=zfP M (rm.set k v):=by
 unfold zfP
 rw[List.set_append_right _ _ (by rw[zam]; omega),zam,hl,show 1024+k - 1024=k by omega,zpJ]
theorem zcw {M:List Nat} {k:Nat} (hk:k < 16):(zny M)[k]?= some (cnt M k):=by simp[zny,hk]
theorem zbx (M:List Nat):(zny M).length=16:=by simp[zny]
theorem ztg (M:List Nat) (k:Nat):cnt M k≤64:=Nat.le_trans List.count_le_length (by simp; omega)
theorem zyr {M:List Nat} {i v k:Nat} (hi:i < M.length) (hik:64 * k≤i∧i < 64 * k+64):cnt (M.set i v) k=cnt M k - (if M[i]?= some 1 then 1 else 0)+(if v=1 then 1 else 0):=by
 unfold cnt
 have hlen:i - 64 * k < ((M.drop (64 * k)).take 64).length:=by simp; omega
 rw[List.drop_set,if_neg (by omega),List.take_set,List.count_set hlen]
 have:((M.drop (64 * k)).take 64)[i - 64 * k]?= M[i]?:=by
  rw[List.getElem?_take,if_pos (by omega),List.getElem?_drop]
  congr 1
  omega
 have h2:((M.drop (64 * k)).take 64)[i - 64 * k]=M[i]:=by
  rw[List.getElem?_eq_getElem hlen,List.getElem?_eq_getElem hi] at this
  simpa using this
 rw[h2,List.getElem?_eq_getElem hi]
 simp only[beq_iff_eq,Option.some.injEq]
theorem zrg {M:List Nat} {i v k:Nat} (hik:i < 64 * k∨64 * k+64≤i):cnt (M.set i v) k=cnt M k:=by
 unfold cnt
 rcases hik with h | h
 ·rw[List.drop_set,if_pos h]
 ·rw[List.drop_set,if_neg (by omega),List.take_set_of_le (by omega)]
theorem zpK {M:List Nat} {i v:Nat} (hl:M.length=1024) (hi:i < 1024):zny (M.set i v)=(zny M).set (i / 64) (cnt M (i / 64) - (if M[i]?= some 1 then 1 else 0)+(if v=1 then 1 else 0)):=by
 apply List.ext_getElem?
 intro k
 by_cases hk:k < 16
 ·rw[zcw hk,List.getElem?_set]
  by_cases q:i / 64=k
  ·rw[if_pos q,if_pos (by rw[zbx]; omega),zyr (by omega) (by omega),q]
  ·rw[if_neg q,zcw hk,zrg (by omega)]
 ·rw[List.getElem?_eq_none (by rw[zbx]; omega),List.getElem?_eq_none (by rw[List.length_set,zbx]; omega)]
theorem zth {M:List Nat} {i k:Nat} (hi:M[i]?= some 1) (hik:64 * k≤i∧i < 64 * k+64):0 < cnt M k:=by
 unfold cnt
 rw[List.count_pos_iff]
 refine List.mem_of_getElem? (i:=i - 64 * k) ?_
 rw[List.getElem?_take,if_pos (by omega),List.getElem?_drop,show 64 * k+(i - 64 * k)=i by omega,hi]
theorem zpL {M:List Nat} {k:Nat} (h:∀i,64 * k≤i→i < 64 * k+64→M[i]?≠some 1):cnt M k=0:=by
 unfold cnt
 rw[List.count_eq_zero]
 intro hm
 obtain⟨j,hj⟩:=List.mem_iff_getElem?.1 hm
 rw[List.getElem?_take] at hj
 split at hj
 ·rw[List.getElem?_drop] at hj
  exact h (64 * k+j) (by omega) (by omega) hj
 ·cases hj
theorem zti {M:List Nat} (hl:M.length=1024) (h:∀k,k < 16→cnt M k=0):1∉M:=by
 intro hm
 obtain⟨i,hi⟩:=List.mem_iff_getElem?.1 hm
 have hlt:i < 1024:=by
  rw[←hl]
  exact (List.getElem?_eq_some_iff.1 hi).1
 have:=zth (k:=i / 64) hi (by omega)
 have:=h (i / 64) (by omega)
 omega
theorem zvU (M:List Nat) (k:Nat):(M.take (64 * (k+1))).count 1=(M.take (64 * k)).count 1+cnt M k:=by
 unfold cnt
 rw[show 64 * (k+1)=64 * k+64 by omega,List.take_add,List.count_append]
def zoC (ty:TypeId) (h:AH) (b:Nat) (M:List Nat):Prop:=M.length=1024∧b < h.next∧h.get b=some (.cells (zfP M (zny M)) ty false)
theorem zoC.near {ty:TypeId} {h h' : AH} {b c:Nat} {M:List Nat} (m:zoC ty h b M) (n:za9 c h h') (hc:b≠c):zoC ty h' b M:=⟨m.1,by rw[n.1]; exact m.2.1,by rw[n.2 b hc]; exact m.2.2⟩
theorem zoC.same {ty:TypeId} {h h' : AH} {b:Nat} {M:List Nat} (m:zoC ty h b M) (hn:h.next≤h'.next) (hg:h'.get b=h.get b):zoC ty h' b M:=⟨m.1,Nat.lt_of_lt_of_le m.2.1 hn,by rw[hg]; exact m.2.2⟩
def zkU (x:Nat):Nat:=if x=3 then 1 else x
def zdC (t:Nat):List Nat:=(List.range 1024).map fun i=>if 4≤i∧i < t then 1 else 0
theorem zcV (t:Nat):(zdC t).length=1024:=by simp[zdC]
theorem zvV {i:Nat} (h4:4≤i) (hi:i < 1024):(zdC i).set i 1=zdC (i+1):=by
 apply List.ext_getElem?
 intro j
 rw[List.getElem?_set,zcV]
 by_cases hj:j < 1024
 ·by_cases q:i=j
  ·subst q
   rw[if_pos rfl,if_pos hj]
   simp[zdC,hj,h4]
  ·rw[if_neg q]
   simp[zdC,hj]
   by_cases q1:4≤j∧j < i
   ·rw[if_pos q1,if_pos ⟨q1.1,by omega⟩]
   ·rw[if_neg q1,if_neg (by omega)]
 ·rw[if_neg (by omega),List.getElem?_eq_none (by rw[zcV]; omega),List.getElem?_eq_none (by rw[zcV]; omega)]
theorem ztj:zdC 4=List.replicate 1024 0:=by
 apply List.ext_getElem?
 intro j
 rw[List.getElem?_replicate]
 by_cases hj:j < 1024
 ·rw[if_pos hj]
  simp[zdC,hj]
 ·rw[if_neg hj,List.getElem?_eq_none (by rw[zcV]; omega)]
theorem ztk (n m:Nat):zfP (List.replicate n 0) (List.replicate m 0)=List.replicate n (Value.int .u8 0) ++ List.replicate m (Value.int .i64 0):=by
 unfold zfP zav
 rw[List.map_replicate,List.map_replicate]
 simp
theorem ztl:zny (List.replicate 1024 0)=List.replicate 16 0:=by
 apply List.ext_getElem?
 intro k
 by_cases hk:k < 16
 ·rw[zcw hk,List.getElem?_replicate,if_pos hk]
  congr 1
  apply zpL
  intro i _ _
  rw[List.getElem?_replicate]
  split <;> simp
 ·rw[List.getElem?_eq_none (by rw[zbx]; omega),List.getElem?_eq_none (by simp; omega)]
def zpM (M:List Nat) (i:Nat):List Nat:=(M.take i).map zkU ++ M.drop i
theorem zpN (M:List Nat) (i:Nat):(zpM M i).length=M.length:=by simp[zpM]; omega
theorem zpO {M:List Nat} {i:Nat} (hi:i < M.length):(zpM M i)[i]?= M[i]?:=by
 unfold zpM
 rw[List.getElem?_append_right (by simp; omega)]
 simp only[List.length_map,List.length_take,List.getElem?_drop]
 congr 1
 omega
theorem zmI {M:List Nat} {i:Nat} (hi:i < M.length):zpM M (i+1)=(zpM M i).set i (zkU M[i]):=by
 apply List.ext_getElem?
 intro j
 rw[List.getElem?_set,zpN]
 unfold zpM
 by_cases q:i=j
 ·subst q
  rw[if_pos rfl,if_pos hi,List.getElem?_append_left (by simp; omega)]
  simp[hi]
 ·rw[if_neg q]
  by_cases q2:j < i
  ·rw[List.getElem?_append_left (by simp; omega),List.getElem?_append_left (by simp; omega)]
   simp only[List.getElem?_map,List.getElem?_take]
   rw[if_pos (by omega),if_pos q2]
  ·rw[List.getElem?_append_right (by simp; omega),List.getElem?_append_right (by simp; omega)]
   simp only[List.length_map,List.length_take,List.getElem?_drop]
   congr 1
   omega
theorem zvW {M:List Nat} {i:Nat} (hi:M.length≤i):zpM M i=M.map zkU:=by
 unfold zpM
 rw[List.take_of_length_le hi,List.drop_eq_nil_of_le hi,List.append_nil]
def zoD (place:Nat→Option (Nat×Nat)):List Value→List (Nat×Value)→Option (List Value)
 | cs,[]=>some cs
 | cs,(i,v) :: rest=>
   match place i with
   | none=>none
   | some (off,size)=>if v.cells.toList.length=size∧off+v.cells.toList.length≤cs.length then zoD place (cs.take off ++ v.cells.toList ++ cs.drop (off+v.cells.toList.length)) rest else none
theorem zpP:∀(vs:List Value) (off k:Nat) (cs:Array Value),off+k+vs.length≤cs.size→
 ((vs.zipIdx k).foldl (fun (cs:Array Value) (p:Value×Nat)=>cs.setIfInBounds (off+p.2) p.1) cs).toList=cs.toList.take (off+k) ++ vs ++ cs.toList.drop (off+k+vs.length)
 | [],off,k,cs,h=>by simp
 | v :: vs,off,k,cs,h=>by
   rw[List.zipIdx_cons,List.foldl_cons,zpP vs off (k+1) _ (by simp at h ⊢; omega)]
   simp only[Array.toList_setIfInBounds,List.length_cons]
   have hl:off+k < cs.toList.length:=by simp at h ⊢; omega
   have e1:(cs.toList.set (off+k) v).take (off+(k+1))=cs.toList.take (off+k) ++ [v]:=by
    rw[show off+(k+1)=off+k+1 by omega,List.take_succ_eq_append_getElem (by rw[List.length_set]; exact hl),List.take_set_of_le (Nat.le_refl _),List.getElem_set_self]
   have e2:(cs.toList.set (off+k) v).drop (off+(k+1)+vs.length)=cs.toList.drop (off+k+(vs.length+1)):=by
    rw[List.drop_set,if_pos (by omega)]
    congr 1
    omega
   rw[e1,e2]
   simp
theorem zio {place:Nat→Option (Nat×Nat)}:∀{parts:List (Nat×Value)} {cs:Array Value} {out:List Value},zoD place cs.toList parts=some out→Instr.fill place cs parts=some out.toArray
 | [],cs,out,h=>by
   simp only[zoD,Option.some.injEq] at h
   simp[Instr.fill,←h]
 | (i,v) :: rest,cs,out,h=>by
   unfold zoD at h
   unfold Instr.fill
   cases hp:place i with
   | none=>rw[hp] at h; cases h
   | some q=>
     obtain⟨off,size⟩:=q
     rw[hp] at h
     simp only at h ⊢
     split at h
     ·rename_i hc
      have h1:v.cells.size=size:=by simpa using hc.1
      have h2:off+v.cells.size≤cs.size:=by simpa using hc.2
      rw[if_neg (by simp; omega)]
      apply zio
      rw[←h]
      congr 1
      rw[←Array.foldl_toList,Array.toList_zipIdx]
      have:=zpP v.cells.toList off 0 cs (by simpa using h2)
      simpa using this
     ·cases h
def ztm (P:Program) (t:TypeId) (z:List Value) (pl:List (Nat×Nat)):Bool:=
 match P.underlying t with
 | some (.struct fs)=>fs.toList.all (fun f=>(P.info? f.type).isSome) && decide (fs.toList.map (fun f=>(f.offset,P.cellsOf f.type))=pl)
 | _=>false
theorem zmJ {P:Program} {t:TypeId} {z:List Value} {pl:List (Nat×Nat)} (hz:zan P t=some z) (hs:ztm P t z pl=true) {parts:Array (Nat×Value)} {out:List Value}
 (hp:parts.toList.any (fun p=>zeM p.2)=false) (hf:zoD (fun i=>pl[i]?) z parts.toList=some out):za1 P t parts=some (.agg out.toArray):=by
 unfold ztm at hs
 split at hs
 ·rename_i fs hu
  rw[Bool.and_eq_true] at hs
  have h2:=of_decide_eq_true hs.2
  unfold za1
  rw[if_neg (by rw[hp]; exact Bool.false_ne_true),hz,hu]
  simp only
  rw[if_pos hs.1,zio (out:=out)]
  ·rfl
  ·rw[←hf,←h2]
   congr 1
   funext i
   simp
 ·cases hs
theorem zfy {P:Program} {h:AH} {t elem:TypeId} {by' : Nat} (E:zaZ P t elem 1 by') {b off n c:Nat} {cs:List Value} {e:TypeId} (hb:h.get b=some (.cells cs e false)) (hle:off+n≤cs.length) (hn:0 < n)
 {p:Option Addr} {m c' : Nat} {ns:List Value} (hs:zaq h p m 1 ns) (hp:p=none∨∃b off,p=some ⟨b,off,none⟩) (st:TypeId):
 ∃h',zal P h .copy #[t,st] [.slice (some ⟨b,off,none⟩) n c,.slice p m c']=some (.int .i64 ((Nat.min m n:Nat):Int),h')∧za9 b h h'∧h'.get b=some (.cells (cs.take off ++ ns.take n ++ cs.drop (off+(ns.take n).length)) e false):=by
 obtain⟨hu,i,z,hi,hz,hzs,hpos,hsz,hby⟩:=E
 have hnl:ns.length=m:=by have:=hs.1; simpa using this
 have hfc:firstC h i.size (Nat.min m n) (.slice p m c')=some (ns.take n):=by
  rw[hsz]
  rcases hs.2 with h0 | ⟨b2,off2,al,e2,ro,rfl,hb2,hg2,hl2,hc2⟩
  ·subst h0
   have:ns=[]:=List.eq_nil_of_length_eq_zero hnl
   subst this
   have hmin:Nat.min 0 n=0:=Nat.zero_min n
   rw[hmin]
   rcases hp with rfl | ⟨b2,off2,rfl⟩
   ·simp[Am.firstC]
   ·simp[Am.firstC]
  ·have hmin:Nat.min m n≤m:=Nat.min_le_left _ _
   unfold Am.firstC
   cases hq:Nat.min m n * 1 with
   | zero=>
     have:m=0:=by
      have h3:min m n * 1=0:=hq
      omega
     subst this
     have:ns=[]:=List.eq_nil_of_length_eq_zero hnl
     rw[this]
     simp
   | succ q=>
     simp only[hg2]
     rw[if_pos ⟨hmin,by omega⟩,←hc2,List.take_take]
     congr 2
     rw[←hq,Nat.mul_one,Nat.mul_one]
     exact Nat.min_comm _ _
 have htl:(ns.take n).length=Nat.min m n:=by rw[List.length_take,hnl]; exact Nat.min_comm _ _
 show ∃h',(match zeL P h t (.slice (some ⟨b,off,none⟩) n c) (.slice p m c') with | x=>x)=_∧_
 unfold zeL
 simp only[hu,hi,zlx,hfc]
 cases hns:ns.take n with
 | nil=>
   refine⟨h,rfl,za9.refl _ _,?_⟩
   simp only[List.length_nil,List.append_nil,Nat.add_zero,List.take_append_drop]
   exact hb
 | cons x xs=>
   have hle2:off+(x :: xs).length≤cs.length:=by
    rw[←hns,htl]
    have:Nat.min m n≤n:=Nat.min_le_right _ _
    omega
   simp only
   rw[if_neg (by omega)]
   have:zas h b off (x :: xs)=some (h.set b (.cells (cs.take off ++ (x :: xs) ++ cs.drop (off+(x :: xs).length)) e false)):=by
    unfold zas
    rw[hb]
    simp only
    rw[if_pos hle2]
   rw[this]
   exact⟨_,rfl,zaj _ _ _,zag _ _ _⟩
def Fr (F:List Nat) (h h' : AH) (F' : List Nat):Prop:=h.next≤h'.next∧(∀c,c < h.next→c∉F→h'.get c=h.get c)∧(∀c∈F',c∈F∨h.next≤c)
theorem Fr.refl (F:List Nat) (h:AH):Fr F h h F:=⟨Nat.le_refl _,fun _ _ _=>rfl,fun _ hc=>.inl hc⟩
theorem Fr.trans {F F' F'' : List Nat} {h1 h2 h3:AH} (a:Fr F h1 h2 F') (b:Fr F' h2 h3 F''):Fr F h1 h3 F'':=
 ⟨Nat.le_trans a.1 b.1,fun c hc hn=>by
   rw[b.2.1 c (Nat.lt_of_lt_of_le hc a.1) (fun q=>(a.2.2 c q).elim hn (fun q=>absurd hc (by omega))),a.2.1 c hc hn],
 fun c hc=>by
  rcases b.2.2 c hc with q | q
  ·exact a.2.2 c q
  ·exact .inr (Nat.le_trans a.1 q)⟩
theorem Old.fr {h h' : AH} (o:Old h h') (F:List Nat):Fr F h h' F:=⟨o.1,fun c hc _=>o.2 c hc,fun _ hc=>.inl hc⟩
theorem za9.fr {b:Nat} {h h' : AH} (n:za9 b h h') {F:List Nat} (hb:b∈F):Fr F h h' F:=⟨by rw[n.1]; exact Nat.le_refl _,fun c hc hn=>n.2 c (fun q=>hn (q▸hb)),fun _ hc=>.inl hc⟩
theorem Fr.near_new {F F' : List Nat} {h g g' : AH} (f:Fr F h g F') {b:Nat} (n:za9 b g g') (hb:h.next≤b):Fr F h g' F':=⟨by rw[n.1]; exact f.1,fun c hc hn=>by rw[n.2 c (by omega)]; exact f.2.1 c hc hn,f.2.2⟩
theorem zaq.fr {F F' : List Nat} {h h' : AH} {p:Option Addr} {n sz:Nat} {cs:List Value} (s:zaq h p n sz cs) (f:Fr F h h' F') (ha:∀a,p=some a→a.block∉F):zaq h' p n sz cs:=by
 refine⟨s.1,?_⟩
 rcases s.2 with h0 | ⟨b,off,al,e,ro,hp,hb,hg,hl,hc⟩
 ·exact .inl h0
 ·exact .inr ⟨b,off,al,e,ro,hp,Nat.lt_of_lt_of_le hb f.1,by rw[f.2.1 b hb (ha _ hp)]; exact hg,hl,hc⟩
def bl (p:Option Addr):List Nat:=match p with | some a=>[a.block] | none=>[]
theorem zji {P:Program} {h:AH} {t elem:TypeId} {sz by' : Nat} (E:zaZ P t elem sz by') {z:List Value} (hz:zan P elem=some z) (hzl:z.length=sz) (hsz:sz≤16777216) {l:List Value} (hl:l.length=sz):
 zay P h t 1 #[(0,.agg l.toArray)]=some (.slice (some ⟨h.next,0,none⟩) 1 1,h.alloc (.cells l elem false)):=by
 obtain⟨hu,i,z0,hi,hz0,hzs,hpos,hs,hby⟩:=E
 have hf:Instr.fill (fun j=>some (j * i.size,i.size)) ((List.replicate 1 z).flatten).toArray [(0,.agg l.toArray)]=some l.toArray:=by
  apply zio
  simp only[zoD]
  rw[if_pos (by simp[Value.cells,hs,hl,hzl])]
  simp only[Option.some.injEq,Nat.zero_mul,List.take_zero,List.nil_append]
  simp[Value.cells,hl,hzl]
 have ht:(#[((0:Nat),Value.agg l.toArray)]).toList.any (fun p=>zeM p.2)=false:=rfl
 unfold zay
 rw[if_neg (by rw[ht]; exact Bool.false_ne_true),hu]
 simp only[hi,hz]
 rw[if_pos ⟨by omega,by omega,by decide⟩]
 rw[hf]
theorem zvX {P:Program} {t:TypeId} {q:IntKind} (hu:P.underlying t=some (.int q)) (d:Nat) (n:Int):P.keyLits (d+1) t [.int q n]=if (Lit.int q n).wf=true then some [.int q n] else none:=by
 rw[Program.keyLits.eq_def]
 dsimp only
 rw[hu]
 simp
theorem zoE {P:Program} {t:TypeId} {fs:Array Field} (hu:P.underlying t=some (.struct fs)) (d:Nat) (cs:List Value):
 P.keyLits (d+1) t cs=if cs.length=P.cellsOf t∧fs.all (·.name != "_")=true then (fs.toList.mapM fun f=>P.keyLits d f.type ((cs.drop f.offset).take (P.cellsOf f.type))).map List.flatten else none:=by
 rw[Program.keyLits.eq_def]
 dsimp only
 rw[hu]
theorem zBY {a b c x y z:Int} {k1 k2 k3:IntKind}:zaC [.int k1 a,.int k2 b,.int k3 c] [.int k1 x,.int k2 y,.int k3 z]=decide (a=x∧b=y∧c=z):=by
 by_cases h1:a=x <;> by_cases h2:b=y <;> by_cases h3:c=z <;> simp[zaC,zgW,h1,h2,h3]
theorem zkV {P:Program} {t:TypeId} {cs:Array Value} (hf:(Value.agg cs).formed P t=true):zcp P t (.agg cs)=P.keyLits 40 t cs.toList:=by
 unfold zcp
 rw[hf,cond_true]
 simp only[Value.cells]
theorem zcW {P:Program} {t:TypeId} {fs:Array Field} (hu:P.underlying t=some (.struct fs)) {n d:Nat} (hn:n=d+1) (cs:List Value):
 P.keyLits n t cs=if cs.length=P.cellsOf t∧fs.all (·.name != "_")=true then (fs.toList.mapM fun f=>P.keyLits d f.type ((cs.drop f.offset).take (P.cellsOf f.type))).map List.flatten else none:=by
 subst hn
 exact zoE hu d cs
theorem zbD {P:Program} {t:TypeId} {q:IntKind} (hu:P.underlying t=some (.int q)) {m d:Nat} (hn:m=d+1) (n:Int):P.keyLits m t [.int q n]=if (Lit.int q n).wf=true then some [.int q n] else none:=by
 subst hn
 exact zvX hu d n
section
open Go.ChangeShapes Go.WideShapes
section
variable (P:Program)
def RdL (f:TypeId→List Value→Prop):List TypeId→List Value→Prop
 | [],cs=>cs=[]
 | t :: ts,cs=>P.cellsOf t≤cs.length∧f t (cs.take (P.cellsOf t))∧RdL f ts (cs.drop (P.cellsOf t))
def Rd (h:AH):Nat→TypeId→List Value→Prop
 | 0,_,_=>False
 | g+1,t,cs=>match P.underlying t with
   | some .bool=>∃b,cs=[.bool b]
   | some (.int k)=>∃n,cs=[.int k n]∧(Lit.int k n).wf=true
   | some .string=>∃s,cs=[.string s]∧s.size≤maxLen∧s.size≤reachBytes
   | some (.slice e)=>∃p n c al,cs=[.slice p n c]∧(p=none∨∃b off,p=some ⟨b,off,none⟩)∧(n≤maxLen∧(0 < n→n≤c∧c < zak))∧n * P.bytesOf e≤reachBytes∧zaq h p n (P.cellsOf e) al∧RdL P (Rd h g) (List.replicate n e) al
   | some (.struct fs)=>RdL P (Rd h g) (fs.toList.map (·.type)) cs
   | some (.array n e)=>RdL P (Rd h g) (List.replicate n e) cs
   | _=>False
def zgR:Nat→List Field→Nat→Bool
 | a,[],n=>a == n
 | a,f :: fs,n=>f.offset == a && zgR (a+P.cellsOf f.type) fs n
def okT:Nat→TypeId→Bool
 | 0,_=>false
 | g+1,t=>match P.underlying t with
   | some .bool | some (.int _) | some .string=>P.cellsOf t == 1
   | some (.slice e)=>P.cellsOf t == 1 && Nat.blt 0 (P.cellsOf e) && okT g e
   | some (.struct fs)=>zgR P 0 fs.toList (P.cellsOf t) && fs.toList.all fun f=>okT g f.type
   | some (.array n e)=>P.cellsOf t == n * P.cellsOf e && okT g e
   | _=>false
end
section
variable {P:Program}
theorem RdL.mono {f f' : TypeId→List Value→Prop} (hf:∀t cs,f t cs→f' t cs):∀{ts:List TypeId} {cs:List Value},RdL P f ts cs→RdL P f' ts cs
 | [],_,k=>k
 | _ :: _,_,k=>⟨k.1,hf _ _ k.2.1,RdL.mono hf k.2.2⟩
theorem RdL.rep {f:TypeId→List Value→Prop} {e:TypeId}:∀{n:Nat} {cs:List Value},RdL P f (List.replicate n e) cs→cs.length=n * P.cellsOf e∧∀i,i < n→f e ((cs.drop (i * P.cellsOf e)).take (P.cellsOf e))
 | 0,cs,k=>⟨by rw[show cs=[] from k]; simp,fun i hi=>absurd hi (Nat.not_lt_zero _)⟩
 | n+1,cs,k=>by
   obtain⟨k1,k2,k3⟩:=k
   obtain⟨r1,r2⟩:=RdL.rep (n:=n) k3
   rw[List.length_drop] at r1
   refine⟨by rw[Nat.add_mul]; omega,fun i hi=>?_⟩
   cases i with
   | zero=>simpa using k2
   | succ i=>
     have:=r2 i (by omega)
     rw[List.drop_drop] at this
     rw[show (i+1) * P.cellsOf e=P.cellsOf e+i * P.cellsOf e by rw[Nat.add_mul]; omega]
     exact this
theorem Rd.mono {h h' : AH} (o:Old h h'):∀(g:Nat) (t:TypeId) (cs:List Value),Rd P h g t cs→Rd P h' g t cs
 | 0,_,_,k=>k
 | g+1,t,cs,k=>by
   unfold Rd at k ⊢
   split <;> rename_i hu <;> simp only[hu] at k
   ·exact k
   ·exact k
   ·exact k
   ·obtain⟨p,n,c,al,k1,k2,k3,k3b,k4,k5⟩:=k
    exact⟨p,n,c,al,k1,k2,k3,k3b,k4.old o,k5.mono (Rd.mono o g)⟩
   ·exact k.mono (Rd.mono o g)
   ·exact k.mono (Rd.mono o g)
end
section
variable {P:Program} {w:World} {φ:Fi} {h:AH}
structure St (P:Program) (φ:Fi) (h:AH) (w:World):Prop where
 rel:R P φ h w
 ro:zu1 h
 free:∀b,h.next≤b→φ b=none
theorem St.empty (w:World):St P (fun _=>none) ⟨.nil,0⟩ w:=⟨R.empty 0,fun b o hb=>by simp[AH.get,Tr.get_nil] at hb,fun _ _=>rfl⟩
def zjj (φ:Fi) (b:Nat) (r:Rec):Fi:=fun c=>if c=b then some r else φ c
theorem zht {b:Nat} {r:Rec} (hb:φ b=none):Le φ (zjj φ b r):=by
 intro c q e
 unfold zjj
 by_cases hc:c=b
 ·subst hc; rw[hb] at e; cases e
 ·rw[if_neg hc]; exact e
theorem zgc {b:Nat} {r:Rec}:zjj φ b r b=some r:=if_pos rfl
theorem St.block (s:St P φ h w) {B:Nat} {C:Array Value} {e:TypeId} {m:Nat×Nat} (hw:w.heap[B]?= some (.cells C e m)) {off len:Nat} (hl:off+len≤C.size) {al:List Value} (hlr:LR φ al ((C.toList.drop off).take len)):
 St P (zjj φ h.next ⟨B,off,C.size,P.cellsOf e⟩) (h.alloc (.cells al e true)) w:=by
 have hle:=zht (r:=⟨B,off,C.size,P.cellsOf e⟩) (s.free h.next (Nat.le_refl _))
 refine⟨⟨fun b o r hb hr=>?_,fun b1 b2 o1 o2 r1 r2 h1 h2 k1 k2 he=>?_,fun b o hb=>?_⟩,fun b o hb=>?_,fun b hb=>?_⟩
 ·rw[AH.get_alloc] at hb
  by_cases hbn:b=h.next
  ·subst hbn
   rw[if_pos rfl] at hb
   cases hb
   rw[zgc] at hr
   cases hr
   refine⟨_,hw,rfl,rfl,rfl,⟨C.toList.take off,(C.toList.drop off).take len,(C.toList.drop off).drop len,?_,?_,hlr.mono hle⟩,fun z=>by cases z⟩
   ·rw[List.append_assoc,List.take_append_drop,List.take_append_drop]
   ·rw[List.length_take]; simp; omega
  ·rw[if_neg hbn] at hb
   unfold zjj at hr
   rw[if_neg hbn] at hr
   obtain⟨o',q1,q2⟩:=s.rel.obj b o r hb hr
   exact⟨o',q1,q2.mono hle⟩
 ·refine .inr ⟨?_,?_⟩
  ·rw[AH.get_alloc] at h1
   by_cases hbn:b1=h.next
   ·rw[if_pos hbn] at h1; cases h1; rfl
   ·rw[if_neg hbn] at h1; exact s.ro _ _ h1
  ·rw[AH.get_alloc] at h2
   by_cases hbn:b2=h.next
   ·rw[if_pos hbn] at h2; cases h2; rfl
   ·rw[if_neg hbn] at h2; exact s.ro _ _ h2
 ·rw[AH.get_alloc] at hb
  show b < h.next+1
  by_cases hbn:b=h.next
  ·omega
  ·rw[if_neg hbn] at hb
   have:=s.rel.lt b o hb
   omega
 ·rw[AH.get_alloc] at hb
  by_cases hbn:b=h.next
  ·rw[if_pos hbn] at hb; cases hb; rfl
  ·rw[if_neg hbn] at hb; exact s.ro _ _ hb
 ·have hb:h.next+1≤b:=hb
  unfold zjj
  rw[if_neg (by omega)]
  exact s.free b (by omega)
theorem St.name (s:St P φ h w) (r:Rec):St P (zjj φ h.next r) ⟨h.tr,h.next+1⟩ w:=by
 have hle:=zht (r:=r) (s.free h.next (Nat.le_refl _))
 refine⟨⟨fun b o r' hb hr=>?_,fun b1 b2 o1 o2 r1 r2 h1 h2 k1 k2 he=>.inr ⟨s.ro _ _ h1,s.ro _ _ h2⟩,fun b o hb=>?_⟩,fun b o hb=>s.ro b o hb,fun b hb=>?_⟩
 ·have hb:h.get b=some o:=hb
  have hbn:b≠h.next:=by have:=s.rel.lt b o hb; omega
  unfold zjj at hr
  rw[if_neg hbn] at hr
  obtain⟨o',q1,q2⟩:=s.rel.obj b o r' hb hr
  exact⟨o',q1,q2.mono hle⟩
 ·have:=s.rel.lt b o hb
  show b < h.next+1
  omega
 ·have hb:h.next+1≤b:=hb
  unfold zjj
  rw[if_neg (by omega)]
  exact s.free b (by omega)
structure Ext (P:Program) (w:World) (φ:Fi) (h:AH) (φ' : Fi) (h' : AH):Prop where
 le:Le φ φ'
 old:Old h h'
 st:St P φ' h' w
theorem Ext.refl (s:St P φ h w):Ext P w φ h φ h:=⟨Le.refl _,Old.refl _,s⟩
theorem Ext.trans {φ2 φ3:Fi} {h2 h3:AH} (a:Ext P w φ h φ2 h2) (b:Ext P w φ2 h2 φ3 h3):Ext P w φ h φ3 h3:=⟨a.le.trans b.le,a.old.trans b.old,b.st⟩
theorem ziq {a:Addr} {n:Nat} {cs:List Value} (hc:w.cells? 0 a n=some cs) (hn:0 < n):
 a.spot=none∧∃C e m,w.heap[a.block]?= some (.cells C e m)∧a.off+n≤C.size∧cs=(C.toList.drop a.off).take n:=by
 obtain⟨-,hl,hi⟩:=World.cells?_some hc
 have h0:=hi 0 hn
 rw[List.getElem?_eq_getElem (by omega)] at h0
 simp only[Addr.add,if_true] at h0
 have hC:∃C e m,w.heap[a.block]?= some (.cells C e m)∧a.spot=none:=by
  unfold World.cell? at h0
  cases hb:w.heap[a.block]? with
  | none=>simp[hb] at h0
  | some o=>
    simp only[hb] at h0
    cases o <;> simp at h0
    exact⟨_,_,_,rfl,h0.1⟩
 obtain⟨C,e,m,hb,hsp⟩:=hC
 have hcell:∀i,i < n→C[a.off+i]?= cs[i]?:=by
  intro i hin
  have:=hi i hin
  unfold World.cell? Addr.add at this
  by_cases h0:i=0
  ·subst h0
   simpa[hb,hsp] using this
  ·simpa[hb,h0] using this
 have hsz:a.off+n≤C.size:=by
  have:=hcell (n - 1) (by omega)
  rw[List.getElem?_eq_getElem (by omega)] at this
  have:=(Array.getElem?_eq_some_iff.1 this).1
  omega
 refine⟨hsp,C,e,m,hb,hsz,List.ext_getElem? fun i=>?_⟩
 rw[List.getElem?_take]
 split
 ·rename_i hin
  rw[List.getElem?_drop]
  exact (hcell i hin).symm.trans Array.getElem?_toList.symm
 ·rw[List.getElem?_eq_none (by omega)]
variable {H:Type} {enc:TypeId×Value→H} {held:Bool}
def Tr1 (enc:TypeId×Value→H) (P:Program) (w:World) (held:Bool) (t:TypeId) (cs:List Value):Prop:=∃fuel x,DataW.trod enc P w 0 (fun _=>true) held fuel t cs=some x∧(x.1.weights P t).all (·≤reachBytes)=true
theorem zcj {e:TypeId}:∀{ds:List (DataW H)},(DataW.weightsAll P e ds).all (·≤reachBytes)=true→∀d∈ds,(d.weights P e).all (·≤reachBytes)=true
 | d :: ds,k,x,hx=>by
   rw[DataW.weightsAll,List.all_append,Bool.and_eq_true] at k
   rw[List.mem_cons] at hx
   rcases hx with rfl | hx
   ·exact k.1
   ·exact zcj k.2 x hx
theorem zeJ:∀{ts:List TypeId} {ds:List (DataW H)},(DataW.weightsEach P ts ds).all (·≤reachBytes)=true→∀(i:Nat) (t:TypeId) (d:DataW H),ts[i]?= some t→ds[i]?= some d→(d.weights P t).all (·≤reachBytes)=true
 | t :: ts,d :: ds,k,i,t',d',h1,h2=>by
   rw[DataW.weightsEach,List.all_append,Bool.and_eq_true] at k
   cases i with
   | zero=>simp only[List.getElem?_cons_zero,Option.some.injEq] at h1 h2; subst h1 h2; exact k.1
   | succ i=>exact zeJ k.2 i t' d' (by simpa using h1) (by simpa using h2)
theorem zpQ:∀(fs:List Field) (a n:Nat),zgR P a fs n=true→a≤n
 | [],a,n,k=>by simp only[zgR,beq_iff_eq] at k; omega
 | f :: fs,a,n,k=>by
   simp only[zgR,Bool.and_eq_true,beq_iff_eq] at k
   have:=zpQ fs _ n k.2
   omega
theorem zmK {F:TypeId→List Value→Prop} {cs:List Value}:∀(fs:List Field) (a:Nat),zgR P a fs cs.length=true→(∀f∈fs,F f.type ((cs.drop f.offset).take (P.cellsOf f.type)))→RdL P F (fs.map (·.type)) (cs.drop a)
 | [],a,k,_=>by
   simp only[zgR,beq_iff_eq] at k
   exact List.drop_eq_nil_of_le (by omega)
 | f :: fs,a,k,hf=>by
   simp only[zgR,Bool.and_eq_true,beq_iff_eq] at k
   have hle:=zpQ fs _ _ k.2
   refine⟨by show P.cellsOf f.type≤_; rw[List.length_drop]; omega,by have:=hf f (List.mem_cons_self); rw[k.1] at this; exact this,?_⟩
   rw[List.drop_drop]
   exact zmK fs _ k.2 fun g hg=>hf g (List.mem_cons_of_mem _ hg)
theorem zoF {F:TypeId→List Value→Prop} {e:TypeId}:∀(n:Nat) (cs:List Value),cs.length=n * P.cellsOf e→(∀i,i < n→F e ((cs.drop (i * P.cellsOf e)).take (P.cellsOf e)))→RdL P F (List.replicate n e) cs
 | 0,cs,hl,_=>List.eq_nil_of_length_eq_zero (by omega)
 | n+1,cs,hl,hf=>by
   rw[Nat.add_mul] at hl
   refine⟨by omega,by simpa using hf 0 (by omega),zoF n _ (by rw[List.length_drop]; omega) fun i hi=>?_⟩
   have:=hf (i+1) (by omega)
   rw[List.drop_drop]
   rw[show (i+1) * P.cellsOf e=P.cellsOf e+i * P.cellsOf e by rw[Nat.add_mul]; omega] at this
   exact this
theorem zBb {g:Nat} (ih:∀(t:TypeId) (cs:List Value) (φ:Fi) (h:AH),okT P g t=true→Tr1 enc P w held t cs→St P φ h w→∃φ' h' acs,Ext P w φ h φ' h'∧LR φ' acs cs∧Rd P h' g t acs):
 ∀(ts:List TypeId) (cs:List Value) (φ:Fi) (h:AH),(∀t∈ts,okT P g t=true)→RdL P (Tr1 enc P w held) ts cs→St P φ h w→∃φ' h' acs,Ext P w φ h φ' h'∧LR φ' acs cs∧RdL P (Rd P h' g) ts acs
 | [],cs,φ,h,_,k,s=>⟨φ,h,[],Ext.refl s,by rw[show cs=[] from k]; trivial,rfl⟩
 | t :: ts,cs,φ,h,ho,k,s=>by
   obtain⟨k1,k2,k3⟩:=k
   obtain⟨φ1,h1,a1,e1,l1,r1⟩:=ih t _ φ h (ho t List.mem_cons_self) k2 s
   obtain⟨φ2,h2,a2,e2,l2,r2⟩:=zBb ih ts _ φ1 h1 (fun u hu=>ho u (List.mem_cons_of_mem _ hu)) k3 e1.st
   have hl1:a1.length=P.cellsOf t:=by rw[l1.length,List.length_take]; omega
   refine⟨φ2,h2,a1 ++ a2,e1.trans e2,?_,?_⟩
   ·have:=(l1.mono e2.le).append l2
    rwa [List.take_append_drop] at this
   ·refine⟨by rw[List.length_append]; omega,?_,?_⟩
    ·rw[←hl1,List.take_left]; exact r1.mono e2.old
    ·rw[←hl1,List.drop_left]; exact r2
theorem zj0 {φ:Fi} {v v' : Value} (r:VR φ v v') (hm:zby v=false):LR φ [v] [v']:=⟨r,hm,trivial⟩
theorem zvY:∀(g:Nat) (t:TypeId) (cs:List Value) (φ:Fi) (h:AH),okT P g t=true→Tr1 enc P w held t cs→St P φ h w→∃φ' h' acs,Ext P w φ h φ' h'∧LR φ' acs cs∧Rd P h' g t acs
 | 0,t,cs,φ,h,ho,_,_=>by simp[okT] at ho
 | g+1,t,cs,φ,h,ho,⟨fuel,x,hx,hwt⟩,s=>by
   unfold okT at ho
   split at ho
   ·rename_i hu
    obtain⟨b,rfl, -⟩:=DataW.trod_bool hu hx
    exact⟨φ,h,[.bool b],Ext.refl s,zj0 (.bool b) rfl,by unfold Rd; simp[hu]⟩
   ·rename_i k hu
    obtain⟨n,rfl, -,hw⟩:=DataW.trod_int hu hx
    exact⟨φ,h,[.int k n],Ext.refl s,zj0 (.int k n) rfl,by unfold Rd; simp only[hu]; exact⟨n,rfl,hw⟩⟩
   ·rename_i hu
    obtain⟨b,rfl,rfl,hw⟩:=DataW.trod_string hu hx
    have hb2:b.size≤reachBytes:=by
     simp only[DataW.weights,List.all_cons,List.all_nil,Bool.and_true,decide_eq_true_eq,Array.length_toList] at hwt
     exact hwt
    exact⟨φ,h,[.string b],Ext.refl s,zj0 (.string b) rfl,by unfold Rd; simp only[hu]; exact⟨b,rfl,hw,hb2⟩⟩
   ·rename_i e hu
    simp only[Bool.and_eq_true,beq_iff_eq,Nat.blt_eq] at ho
    obtain⟨⟨ho1,ho2⟩,ho3⟩:=ho
    rcases DataW.trod_slice hu hx with ⟨rfl, -⟩ | ⟨a,n,c,elems,rest,m,rfl,rfl,rfl, -,hnc,hc,hel,hE,hR, -⟩
    ·exact⟨φ,h,[.slice none 0 0],Ext.refl s,zj0 (.sliceNil 0 0 (by decide)) rfl,by unfold Rd; simp only[hu]; exact⟨none,0,0,[],rfl,.inl rfl,⟨Nat.zero_le _,fun z=>absurd z (Nat.lt_irrefl _)⟩,by simp,⟨by simp,.inl rfl⟩,rfl⟩⟩
    obtain⟨hrl,hR⟩:=hR rfl
    rw[DataW.weights,hu] at hwt
    simp only[List.all_cons,List.all_append,Bool.and_eq_true,decide_eq_true_eq,List.length_map] at hwt
    obtain⟨hw0,hw1,hw2⟩:=hwt
    have hnb:n * P.bytesOf e≤reachBytes:=Nat.le_trans (Nat.mul_le_mul_right _ (by omega)) hw0
    rcases Nat.eq_zero_or_pos c with hc0 | hc0
    ·have hn0:n=0:=by omega
     subst hc0 hn0
     refine⟨zjj φ h.next ⟨0,1,0,0⟩,⟨h.tr,h.next+1⟩,[.slice (some ⟨h.next,0,none⟩) 0 zak],⟨zht (s.free _ (Nat.le_refl _)),⟨Nat.le_succ _,fun _ _=>rfl⟩,s.name _⟩,zj0 (.sliceE zgc (.inr (by decide))) rfl,?_⟩
     unfold Rd
     simp only[hu]
     exact⟨_,0,zak,[],rfl,.inr ⟨_,_,rfl⟩,⟨Nat.zero_le _,fun z=>absurd z (Nat.lt_irrefl _)⟩,by simp,⟨by simp,.inl rfl⟩,rfl⟩
    have hat:∀i,i < c→∃csi y,w.cells? 0 (a.add (i * P.cellsOf e)) (P.cellsOf e)=some csi∧DataW.trod enc P w 0 (fun _=>true) held m e csi=some y∧(y.1.weights P e).all (·≤reachBytes)=true:=by
     intro i hi
     have:∃y,(w.cells? 0 (a.add (i * P.cellsOf e)) (P.cellsOf e)).bind (DataW.trod enc P w 0 (fun _=>true) held m e)=some y∧(y.1.weights P e).all (·≤reachBytes)=true:=by
      by_cases hin:i < n
      ·exact⟨elems[i]'(by omega),by rw[hE i hin,List.getElem?_eq_getElem],zcj hw1 _ (List.mem_map_of_mem (List.getElem_mem _))⟩
      ·obtain⟨j,rfl⟩:∃j,i=n+j:=⟨i - n,by omega⟩
       exact⟨rest[j]'(by omega),by rw[hR j (by omega),List.getElem?_eq_getElem],zcj hw2 _ (List.mem_map_of_mem (List.getElem_mem _))⟩
     obtain⟨y,hy,hyw⟩:=this
     obtain⟨csi,h1,h2⟩:=Option.bind_eq_some_iff.1 hy
     exact⟨csi,y,h1,h2,hyw⟩
    have hblk:∀i,i < c→a.spot=none∧∃C e' mm,w.heap[a.block]?= some (.cells C e' mm)∧a.off+(i+1) * P.cellsOf e≤C.size∧Tr1 enc P w held e ((C.toList.drop (a.off+i * P.cellsOf e)).take (P.cellsOf e)):=by
     intro i hi
     obtain⟨csi,y,h1,h2,hyw⟩:=hat i hi
     obtain⟨g1,C,e',mm,g2,g3,g4⟩:=ziq h1 ho2
     have hbo:(a.add (i * P.cellsOf e)).block=a.block∧(a.add (i * P.cellsOf e)).off=a.off+i * P.cellsOf e:=by
      unfold Addr.add
      split
      ·rename_i z; rw[z]; exact⟨rfl,rfl⟩
      ·exact⟨rfl,rfl⟩
     rw[hbo.1] at g2
     rw[hbo.2] at g3 g4
     have hsp:a.spot=none:=by
      obtain⟨cs0,y0,h10, -⟩:=hat 0 hc0
      have:=(ziq h10 ho2).1
      simpa[Addr.add] using this
     exact⟨hsp,C,e',mm,g2,by rw[Nat.add_mul]; omega,m,y,by rw[←g4]; exact h2,hyw⟩
    obtain⟨hsp,C,e',mm,hC, -, -⟩:=hblk 0 hc0
    have hsz:a.off+n * P.cellsOf e≤C.size:=by
     rcases Nat.eq_zero_or_pos n with hn0 | hn0
     ·obtain⟨-,C',_,_,q1,q2, -⟩:=hblk 0 hc0
      rw[hC] at q1; cases q1
      rw[hn0]; omega
     ·obtain⟨-,C',_,_,q1,q2, -⟩:=hblk (n - 1) (by omega)
      rw[hC] at q1; cases q1
      rw[show n - 1+1=n by omega] at q2
      exact q2
    have hml:((C.toList.drop a.off).take (n * P.cellsOf e)).length=n * P.cellsOf e:=by rw[List.length_take,List.length_drop]; simp; omega
    have hmid:RdL P (Tr1 enc P w held) (List.replicate n e) ((C.toList.drop a.off).take (n * P.cellsOf e)):=by
     refine zoF n _ hml fun i hi=>?_
     obtain⟨-,C',_,_,q1,q2,q3⟩:=hblk i (by omega)
     rw[hC] at q1; cases q1
     have hin:(i+1) * P.cellsOf e≤n * P.cellsOf e:=Nat.mul_le_mul_right _ hi
     rw[Nat.add_mul] at hin
     rw[List.drop_take,List.take_take,List.drop_drop,Nat.min_eq_left (by omega)]
     exact q3
    obtain⟨φ1,h1,al,e1,l1,r1⟩:=zBb (zvY g) (List.replicate n e) _ φ h (fun u hu=>by rw[List.mem_replicate] at hu; rw[hu.2]; exact ho3) hmid s
    have hal:al.length=n * P.cellsOf e:=by rw[l1.length,hml]
    refine⟨_,_,[.slice (some ⟨h1.next,0,none⟩) n c],e1.trans ⟨zht (e1.st.free _ (Nat.le_refl _)),zaV _ _,e1.st.block hC hsz l1⟩,zj0 ?_ rfl,?_⟩
    ·have hco:c < zak:=by
      have:maxLen=9223372036854775807:=by decide
      simp only[zak]; omega
     obtain⟨ab,ao,asp⟩:=a
     simp only at hsp
     subst hsp
     exact VR.slice zgc (hco)
    ·unfold Rd
     simp only[hu]
     refine⟨_,n,c,al,rfl,.inr ⟨_,_,rfl⟩,⟨by omega,fun _=>⟨hnc,(show c < zak from Nat.lt_of_le_of_lt hc (by decide))⟩⟩,hnb,⟨hal,.inr ⟨_,0,al,_,true,rfl,Nat.lt_succ_self _,zau _ _,by omega,?_⟩⟩,r1.mono (Rd.mono (zaV _ _) g)⟩
     rw[List.drop_zero,←hal,List.take_length]
   ·rename_i fs hu
    simp only[Bool.and_eq_true,List.all_eq_true] at ho
    obtain⟨ho1,ho2⟩:=ho
    obtain⟨xs,m,rfl,rfl,hl,hxl,hf⟩:=DataW.trod_struct hu hx
    rw[DataW.weights,hu] at hwt
    simp only at hwt
    rw[←hl] at ho1
    have hr:RdL P (Tr1 enc P w held) (fs.toList.map (·.type)) (cs.drop 0):=zmK fs.toList 0 ho1 fun f hfm=>by
     obtain⟨i,hi,hfi⟩:=List.mem_iff_getElem.1 hfm
     have hfi' : fs[i]?= some f:=by rw[←Array.getElem?_toList,List.getElem?_eq_getElem hi,hfi]
     have:=hf i f hfi'
     have hix:i < xs.length:=by rw[hxl]; simpa using hi
     rw[List.getElem?_eq_getElem hix] at this
     exact⟨m,_,this,zeJ hwt i f.type _ (by rw[List.getElem?_map,List.getElem?_eq_getElem hi,hfi]; rfl) (by rw[List.getElem?_map,List.getElem?_eq_getElem hix]; rfl)⟩
    rw[List.drop_zero] at hr
    obtain⟨φ1,h1,al,e1,l1,r1⟩:=zBb (zvY g) _ _ φ h (fun u hu=>by obtain⟨f,hf,rfl⟩:=List.mem_map.1 hu; exact ho2 f hf) hr s
    exact⟨φ1,h1,al,e1,l1,by unfold Rd; simp only[hu]; exact r1⟩
   ·rename_i n e hu
    simp only[Bool.and_eq_true,beq_iff_eq] at ho
    obtain⟨ho1,ho2⟩:=ho
    obtain⟨xs,m,rfl,rfl,hl,hxl,hf⟩:=DataW.trod_array hu hx
    rw[DataW.weights,hu] at hwt
    simp only at hwt
    have hr:RdL P (Tr1 enc P w held) (List.replicate n e) cs:=zoF n cs (by rw[hl,ho1]) fun i hi=>by
     have:=hf i hi
     rw[List.getElem?_eq_getElem (by omega)] at this
     exact⟨m,_,this,zcj hwt _ (List.mem_map_of_mem (List.getElem_mem _))⟩
    obtain⟨φ1,h1,al,e1,l1,r1⟩:=zBb (zvY g) _ _ φ h (fun u hu=>by rw[List.mem_replicate] at hu; rw[hu.2]; exact ho2) hr s
    exact⟨φ1,h1,al,e1,l1,by unfold Rd; simp only[hu]; exact r1⟩
   ·exact absurd ho (by simp)
end
end
section
open Go.ChangeShapes Go.WideShapes
section
variable {P:Program} {w:World} {φ:Fi} {h:AH} {H:Type} {enc:TypeId×Value→H}
def RdV (P:Program) (h:AH) (g:Nat) (t:TypeId) (v:Value):Prop:=match P.underlying t with
 | some (.struct _) | some (.array _ _)=>∃cs,v=.agg cs.toArray∧Rd P h g t cs
 | _=>Rd P h g t [v]
def RdA (P:Program) (h:AH) (g:Nat):List TypeId→List Value→Prop
 | [],[]=>True
 | t :: ts,v :: vs=>RdV P h g t v∧RdA P h g ts vs
 | _,_=>False
theorem RdV.mono {h' : AH} (o:Old h h') {g:Nat} {t:TypeId} {v:Value} (k:RdV P h g t v):RdV P h' g t v:=by
 unfold RdV at k ⊢
 cases hu:P.underlying t with
 | none=>rw[hu] at k; exact Rd.mono o g _ _ k
 | some d=>
   rw[hu] at k
   cases d <;> first | exact Rd.mono o g _ _ k | exact k.imp fun cs z=>⟨z.1,Rd.mono o g _ _ z.2⟩
theorem zys {held:Bool} {base:Nat} {g:Nat} {t:TypeId} {v:Value} {d:DataW H} {ps:List MemPlace} (ho:okT P g t=true) (hv:Value.okWide P w .any base t v) (ht:DataW.Trod enc P w 0 (fun _=>true) held t v d ps) (hwt:(d.weights P t).all (·≤reachBytes)=true) (s:St P φ h w):
 ∃φ' h' a,Ext P w φ h φ' h'∧VR φ' a v∧RdV P h' g t a:=by
 obtain⟨fuel,hx⟩:=ht
 obtain⟨φ',h',acs,e,l,r⟩:=zvY g t _ φ h ho ⟨fuel,_,hx,hwt⟩ s
 unfold Value.okWide at hv
 unfold RdV
 have agg:(∃cs:Array Value,v=.agg cs)→∃φ' h' a,Ext P w φ h φ' h'∧VR φ' a v∧∃cs,a=.agg (List.toArray cs)∧Rd P h' g t cs:=by
  rintro⟨cs,rfl⟩
  refine⟨φ',h',.agg acs.toArray,e,LR.agg ?_,acs,rfl,r⟩
  simpa[Value.cells] using l
 have scal:(∀cs:Array Value,v≠.agg cs)→∃φ' h' a,Ext P w φ h φ' h'∧VR φ' a v∧Rd P h' g t [a]:=by
  intro hn
  have hc:v.cells.toList=[v]:=by
   cases v <;> first | rfl | (rename_i cs; exact absurd rfl (hn cs))
  rw[hc] at l
  match acs,l,r with
  | [a],l,r=>exact⟨φ',h',a,e,l.1,r⟩
 cases g with
 | zero=>simp[okT] at ho
 | succ g=>
   unfold okT at ho
   cases hu:P.underlying t with
   | none=>rw[hu] at ho; exact absurd ho (by simp)
   | some dd=>
     rw[hu] at ho hv
     have sc:(∀cs:Array Value,v=.agg cs→False)→∃φ' h' a,Ext P w φ h φ' h'∧VR φ' a v∧Rd P h' (g+1) t [a]:=fun z=>scal z
     cases dd with
     | bool=>exact sc fun cs hcs=>by subst hcs; simp[hu,Cell.okWide,Cell.ok] at hv
     | int _=>exact sc fun cs hcs=>by subst hcs; simp[hu,Cell.okWide,Cell.ok] at hv
     | string=>exact sc fun cs hcs=>by subst hcs; simp[hu,Cell.okWide,Cell.ok] at hv
     | slice _=>exact sc fun cs hcs=>by subst hcs; simp[hu,Cell.okWide,Cell.ok] at hv
     | struct _=>exact agg (hv.imp fun _ z=>z.1)
     | array _ _=>exact agg (hv.imp fun _ z=>z.1)
     | _=>exact absurd ho (by simp)
theorem zpR {base g:Nat}:∀{ts:List TypeId} {vs:List Value} {ds:List (DataW H)} {ps:List MemPlace} {φ:Fi} {h:AH},ts.all (okT P g)=true→(∀(j:Nat) t v,ts[j]?= some t→vs[j]?= some v→Value.okWide P w .any base t v)→
 DataW.TrodAll enc P w 0 (fun _=>true) true ts vs ds ps→(DataW.weightsEach P ts ds).all (·≤reachBytes)=true→St P φ h w→∃φ' h' as,Ext P w φ h φ' h'∧AR φ' as vs∧RdA P h' g ts as
 | [],[],[],ps,φ,h,_,_,_,_,s=>⟨φ,h,[],Ext.refl s,trivial,trivial⟩
 | t :: ts,v :: vs,d :: ds,ps,φ,h,ho,hv,⟨p,q,h1,h2,_⟩,hw,s=>by
   rw[DataW.weightsEach,List.all_append,Bool.and_eq_true] at hw
   simp only[List.all_cons,Bool.and_eq_true] at ho
   obtain⟨φ1,g1,a,e1,r1,k1⟩:=zys ho.1 (hv 0 t v rfl rfl) h1 hw.1 s
   obtain⟨φ2,g2,as,e2,r2,k2⟩:=zpR ho.2 (fun j t' v' q1 q2=>hv (j+1) t' v' q1 q2) h2 hw.2 e1.st
   exact⟨φ2,g2,a :: as,e1.trans e2,⟨r1.mono e2.le,r2⟩,k1.mono e2.old,k2⟩
theorem zvZ (G:zeD P) {K:Xs} (X:zbL P K) {f:FuncId} (hk:K f=none) {base g:Nat} {ts:List TypeId} (ho:ts.all (okT P g)=true)
 (law:∀(h:AH) (as:List Value),RdA P h g ts as→Wf P K f as h (fun v _=>v=.bool true)) {args:Array Value} {ds:List (DataW H)} {ps:List MemPlace}
 (hv:∀(j:Nat) t v,ts[j]?= some t→args[j]?= some v→Value.okWide P w .any base t v) (hA:DataW.TrodAll enc P w 0 (fun _=>true) true ts args.toList ds ps) (hwt:(DataW.weightsEach P ts ds).all (·≤reachBytes)=true):
 Calls P f args w fun e w'=>e=.returned (.bool true)∧zrC w w':=by
 obtain⟨φ,h,as,e,r,k⟩:=zpR ho (fun j t v q1 q2=>hv j t v q1 (by rw[←Array.getElem?_toList]; exact q2)) hA hwt (St.empty w)
 exact zu7 G X hk (law h as k) e.st.rel e.st.free e.st.ro r
theorem zrC.sameAt {w w' : World} (k:zrC w w') {p:MemPlace} (hp:p.block < w.heap.size):w.sameAt w' p:=by
 obtain⟨-, -, -,k⟩:=k
 cases p with
 | cell b off=>
   have:=k b hp
   show w'.cell? ⟨b,off,none⟩=w.cell? ⟨b,off,none⟩
   unfold World.cell?
   simp only[this]
 | map b=>exact k b hp
theorem zgS (hl:laidOutB P=true) {W' : World} {sp:Nat→Bool} (hk:zrC w W'):∀{ts:List TypeId} {vs:List Value} {ds:List (DataW H)} {ps:List MemPlace},
 ts.all (fun t=>P.readableRec t && Nat.blt t P.types.size)=true→DataW.TrodAll enc P w 0 (fun _=>true) true ts vs ds ps→(∀p∈ps,p.block < w.heap.size)→(∀p∈ps,sp p.block=true)→DataW.TrodAll enc P W' 0 sp true ts vs ds ps
 | [],[],[],ps,_,k,_,_=>k
 | t :: ts,v :: vs,d :: ds,ps,ho,⟨p,q,h1,h2,he⟩,hlt,hsp=>by
   subst he
   simp only[List.all_cons,Bool.and_eq_true,Nat.blt_eq] at ho
   exact⟨p,q,WideElems.Trod_stays hl ho.1.1 ho.1.2 h1 (fun x hx=>hk.sameAt (hlt x (List.mem_append_left _ hx))) (fun x hx=>hsp x (List.mem_append_left _ hx)),
    zgS hl hk ho.2 h2 (fun x hx=>hlt x (List.mem_append_right _ hx)) (fun x hx=>hsp x (List.mem_append_right _ hx)),rfl⟩
theorem zir {base:Nat} {sp:Nat→Bool} {held:Bool}:∀{ts:List TypeId} {vs:List Value} {ds:List (DataW H)} {ps:List MemPlace},DataW.TrodAll enc P w base sp held ts vs ds ps→ds.length=ts.length
 | [],[],[],_,_=>rfl
 | _ :: ts,_ :: vs,_ :: ds,_,⟨_,_,_,h,_⟩=>by simp[zir h]
end
end
def zaW (lim:Nat) (h:AH) (elem:TypeId) (sz b n c:Nat) (cs:List Value):Prop:=
 cs.length=n * sz∧lim≤b∧b < h.next∧n≤c∧c < zak∧∃rest,h.get b=some (.cells (cs ++ rest) elem false)∧(cs ++ rest).length=c * sz
theorem zaW.shows {lim:Nat} {h:AH} {elem:TypeId} {sz b n c:Nat} {cs:List Value} (g:zaW lim h elem sz b n c cs):zaq h (some ⟨b,0,none⟩) n sz cs:=by
 obtain⟨h1,h2,h3,h4,h5,rest,h6,h7⟩:=g
 refine⟨h1,.inr ⟨b,0,_,elem,false,rfl,h3,h6,by rw[h7,Nat.zero_add]; exact Nat.mul_le_mul_right _ h4,?_⟩⟩
 rw[List.drop_zero,←h1,List.take_left]
theorem zaW.old {lim:Nat} {h h' : AH} {elem:TypeId} {sz b n c:Nat} {cs:List Value} (g:zaW lim h elem sz b n c cs) (o:Old h h'):zaW lim h' elem sz b n c cs:=by
 obtain⟨h1,h2,h3,h4,h5,rest,h6,h7⟩:=g
 exact⟨h1,h2,Nat.lt_of_lt_of_le h3 o.1,h4,h5,rest,by rw[o.2 b h3,h6],h7⟩
theorem zaW.make {h h1:AH} {elem:TypeId} {sz c:Nat} {al:List Value} (e:h1=h.alloc (.cells al elem false)) (hl:al.length=c * sz) (hc:c < zak):zaW h.next h1 elem sz h.next 0 c []:=by
 subst e
 exact⟨by simp,Nat.le_refl _,Nat.lt_succ_self _,Nat.zero_le _,hc,al,zau _ _,hl⟩
theorem zaW.push {P:Program} {lim:Nat} {h h4:AH} {st elem:TypeId} {sz by' : Nat} {b n c:Nat} {cs:List Value} (g:zaW lim h elem sz b n c cs) (E:zaZ P st elem sz by')
 {m:Nat} {ns:List Value} (e4:h4=h.alloc (.cells ns elem false)) (hns:ns.length=m * sz) (hm:0 < m) (hroom:n+m≤c):
 ∃h',zal P h4 .append #[st,st] [.slice (some ⟨b,0,none⟩) n c,.slice (some ⟨h.next,0,none⟩) m m]=some (.slice (some ⟨b,0,none⟩) (n+m) c,h')∧zaW lim h' elem sz b (n+m) c (cs ++ ns)∧h'.next=h.next+1∧∀x,x < h.next→x≠b→h'.get x=h.get x:=by
 have gs:=(g.old (h':=h4) (by rw[e4]; exact zaV _ _)).shows
 obtain⟨h1,h2,h3,h4',h5,rest,h6,h7⟩:=g
 obtain⟨hu,i,z,hi,hz,hzs,hpos,rfl,rfl⟩:=E
 have hfc:firstC h4 i.size n (.slice (some ⟨b,0,none⟩) n c)=some cs:=gs.firstC (.inr ⟨b,0,rfl⟩)
 have hfn:firstC h4 i.size m (.slice (some ⟨h.next,0,none⟩) m m)=some ns:=zjY e4 hns
 have hb4:h4.get b=some (.cells (cs ++ rest) elem false):=by rw[e4,zb4 (by omega)]; exact h6
 rw[List.length_append] at h7
 have hns2:ns.length≤rest.length:=by
  have:(n+m) * i.size≤c * i.size:=Nat.mul_le_mul_right _ hroom
  rw[Nat.add_mul] at this
  omega
 obtain⟨m',rfl⟩:∃m',m=m'+ 1:=⟨m - 1,by omega⟩
 refine⟨h4.set b (.cells (cs ++ ns ++ rest.drop ns.length) elem false),?_,⟨by rw[List.length_append,h1,hns,←Nat.add_mul],h2,?_,hroom,h5,rest.drop ns.length,zag _ _ _,?_⟩,by rw[e4]; rfl,fun x hx hne=>by rw[zaN hne,e4,zb4 (by omega)]⟩
 ·rw[zaT hu]
  unfold zaS
  simp only[hu,hi,zlx,hfc,hfn,hz]
  rw[if_pos ⟨hzs,hpos,hns,h1⟩,if_neg (by omega),if_pos hroom]
  have:zas h4 b (0+n * i.size) ns=some (h4.set b (.cells (cs ++ ns ++ rest.drop ns.length) elem false)):=by
   unfold zas
   rw[hb4]
   simp only
   rw[if_pos (by rw[List.length_append]; omega),Nat.zero_add,←h1,List.take_left,List.drop_append]
   rw[List.drop_eq_nil_of_le (by omega),List.nil_append,show cs.length+ns.length - cs.length=ns.length by omega]
  rw[this]
 ·rw[e4]; show b < h.next+1; omega
 ·rw[List.length_append,List.length_append,List.length_drop]; omega
def byB (w n:Nat):List Nat:=(List.range w).map fun k=>n / 256 ^ k % 256
theorem zaP (w n:Nat):(byB w n).length=w:=by simp[byB]
theorem zpS (w n:Nat):byB (w+1) n=byB w n ++ [n / 256 ^ w % 256]:=by simp[byB,List.range_succ]
theorem byB_lt {w n x:Nat} (hx:x∈byB w n):x < 256:=by
 simp only[byB,List.mem_map] at hx
 obtain⟨k, -,rfl⟩:=hx
 omega
def enc (ws ns:List Nat):List Nat:=(List.zipWith byB ws ns).flatten
theorem zfz (w n:Nat) (ws ns:List Nat):enc (w :: ws) (n :: ns)=byB w n ++ enc ws ns:=rfl
theorem ztn:∀(ws ns:List Nat) (w n:Nat),ws.length=ns.length→enc (ws ++ [w]) (ns ++ [n])=enc ws ns ++ byB w n
 | [],[],w,n,_=>by simp[enc]
 | a :: ws,b :: ns,w,n,hl=>by
   rw[List.cons_append,List.cons_append,zfz,zfz,ztn ws ns w n (by simpa using hl),List.append_assoc]
theorem zeY:∀(ws ns:List Nat),ws.length=ns.length→(enc ws ns).length=ws.sum
 | [],[],_=>rfl
 | a :: ws,b :: ns,hl=>by rw[zfz,List.length_append,zaP,zeY ws ns (by simpa using hl),List.sum_cons]
theorem zgT:∀(ws ns:List Nat) {x:Nat},x∈enc ws ns→x < 256
 | [],_,_,h=>by simp[enc] at h
 | _ :: _,[],_,h=>by simp[enc] at h
 | a :: ws,b :: ns,x,h=>by
   rw[zfz,List.mem_append] at h
   exact h.elim byB_lt (zgT ws ns)
def deB:List Nat→Nat
 | []=>0
 | b :: bs=>b+256 * deB bs
theorem zkW:∀(bs:List Nat) (b:Nat),deB (bs ++ [b])=deB bs+b * 256 ^ bs.length
 | [],b=>by simp[deB]
 | x :: bs,b=>by
   show x+256 * deB (bs ++ [b])=x+256 * deB bs+b * 256 ^ (bs.length+1)
   have e:b * 256 ^ (bs.length+1)=256 * (b * 256 ^ bs.length):=by rw[Nat.pow_succ,←Nat.mul_assoc,Nat.mul_comm]
   rw[zkW bs b,Nat.mul_add,e]
   omega
theorem zj1:∀(bs:List Nat),(∀x∈bs,x < 256)→deB bs < 256 ^ bs.length
 | [],_=>by decide
 | x :: bs,h=>by
   have h1:=h x (by simp)
   have h2:=zj1 bs fun y hy=>h y (by simp[hy])
   show x+256 * deB bs < 256 ^ (bs.length+1)
   rw[Nat.pow_succ]
   omega
theorem zw6 (n:Nat):∀w,deB (byB w n)=n % 256 ^ w
 | 0=>by simp[byB,deB,Nat.mod_one]
 | w+1=>by
   rw[zpS,zkW,zw6 n w,zaP,Nat.pow_succ,Nat.mod_mul]
   rw[Nat.mul_comm]
def dec:List Nat→List Nat→List Nat
 | [],_=>[]
 | w :: ws,bs=>deB (bs.take w) :: dec ws (bs.drop w)
theorem zoG:∀(ws bs:List Nat),(dec ws bs).length=ws.length
 | [],_=>rfl
 | w :: ws,bs=>by simp[dec,zoG ws]
theorem zto:∀(ws:List Nat) (w:Nat) (bs:List Nat),dec (ws ++ [w]) bs=dec ws bs ++ [deB ((bs.drop ws.sum).take w)]
 | [],w,bs=>by simp[dec]
 | a :: ws,w,bs=>by
   show deB (bs.take a) :: dec (ws ++ [w]) (bs.drop a)=_
   rw[zto ws w,List.drop_drop,List.sum_cons]
   rfl
theorem zdV:∀(ws ns:List Nat),ws.length=ns.length→(∀(i:Nat) (w n:Nat),ws[i]?= some w→ns[i]?= some n→n < 256 ^ w)→dec ws (enc ws ns)=ns
 | [],[],_,_=>rfl
 | w :: ws,n :: ns,hl,h=>by
   rw[zfz]
   unfold dec
   have e1:(byB w n ++ enc ws ns).take w=byB w n:=by
    have:=List.take_left (l₁:=byB w n) (l₂:=enc ws ns)
    rwa [zaP] at this
   have e2:(byB w n ++ enc ws ns).drop w=enc ws ns:=by
    have:=List.drop_left (l₁:=byB w n) (l₂:=enc ws ns)
    rwa [zaP] at this
   rw[e1,e2,zw6,Nat.mod_eq_of_lt (h 0 w n rfl rfl),zdV ws ns (by simpa using hl) fun i w n h1 h2=>h (i+1) w n h1 h2]
theorem zBZ (k:Nat):2 ^ (8 * k)=256 ^ k:=by rw[Nat.pow_mul]
theorem ztp {x k:Nat} (hk:k≤8):zba .shr .u64 (x:Int) ((8 * k:Nat):Int)=some (.int .u64 ((x / 256 ^ k:Nat):Int)):=by
 unfold zba
 rw[if_neg (by omega)]
 have h1:min (((8 * k:Nat):Int)).toNat (IntKind.bits .u64)=8 * k:=by
  rw[Int.toNat_natCast]
  exact Nat.min_eq_left (by show 8 * k≤64; omega)
 simp only[h1]
 congr 2
 rw[Int.fdiv_eq_ediv_of_nonneg _ (by exact Int.le_of_lt (Int.pow_pos (by decide))),←zBZ]
 norm_cast
theorem zyt {x k:Nat} (hk:k≤8) (hx:x * 256 ^ k < 18446744073709551616):zba .shl .u64 (x:Int) ((8 * k:Nat):Int)=some (.int .u64 ((x * 256 ^ k:Nat):Int)):=by
 unfold zba
 rw[if_neg (by omega)]
 have h1:min (((8 * k:Nat):Int)).toNat (IntKind.bits .u64)=8 * k:=by
  rw[Int.toNat_natCast]
  exact Nat.min_eq_left (by show 8 * k≤64; omega)
 simp only[h1]
 have e:(x:Int) * 2 ^ (8 * k)=((x * 256 ^ k:Nat):Int):=by rw[←zBZ]; norm_cast
 rw[e,zkx (by omega) (by omega)]
theorem zz5 {a b k:Nat} (hk:k≤8) (ha:a < 256 ^ k) (hb:b * 256 ^ k+a < 18446744073709551616):zcd .or .u64 (a:Int) ((b * 256 ^ k:Nat):Int)=some (.int .u64 ((a+b * 256 ^ k:Nat):Int)):=by
 unfold zcd
 simp only
 congr 2
 have h1:BitVec.ofInt (IntKind.bits .u64) (a:Int)=BitVec.ofNat 64 a:=by exact BitVec.ofInt_natCast 64 a
 have h2:BitVec.ofInt (IntKind.bits .u64) ((b * 256 ^ k:Nat):Int)=BitVec.ofNat 64 (b * 256 ^ k):=by exact BitVec.ofInt_natCast 64 _
 rw[h1,h2]
 have h3:(BitVec.ofNat 64 a ||| BitVec.ofNat 64 (b * 256 ^ k)).toNat=a+b * 256 ^ k:=by
  rw[BitVec.toNat_or,BitVec.toNat_ofNat,BitVec.toNat_ofNat,Nat.mod_eq_of_lt (by omega),Nat.mod_eq_of_lt (by omega)]
  rw[←zBZ] at ha ⊢
  rw[Nat.or_comm,Nat.mul_comm,←Nat.two_pow_add_eq_or_of_lt ha,Nat.add_comm]
 show IntKind.u64.wrap (((BitVec.ofNat 64 a ||| BitVec.ofNat 64 (b * 256 ^ k)).toNat:Nat):Int)=_
 rw[h3,zkx (by omega) (by omega)]
theorem zpT (n:Nat):IntKind.u8.wrap (n:Int)=((n % 256:Nat):Int):=by
 simp[IntKind.wrap,IntKind.bits,IntKind.signed]
theorem ztq (n:Nat):IntKind.u32.wrap (n:Int)=((n % 4294967296:Nat):Int):=by
 simp[IntKind.wrap,IntKind.bits,IntKind.signed]
theorem zhu {ws:List Nat} {j:Nat} (hj:j < ws.length):(ws.take (j+1)).sum=(ws.take j).sum+ws[j]:=by
 rw[List.take_succ_eq_append_getElem hj,List.sum_append]
 simp
theorem zcI:∀(ws:List Nat) (j:Nat),(ws.take j).sum≤ws.sum
 | [],j=>by simp
 | w :: ws,0=>by simp
 | w :: ws,j+1=>by
   have:=zcI ws j
   simp only[List.take_succ_cons,List.sum_cons]
   omega
def zbu (P:Program) (h:AH) (elem:TypeId) (b n c:Nat):Prop:=(n≤c∧c < zak)∨(c=zak∧∃cs e ro,h.get b=some (.cells cs e ro)∧P.cellsOf e=P.cellsOf elem)
theorem zdD {P:Program} {h:AH} {st elem:TypeId} {sz by' : Nat} (E:zaZ P st elem sz by') {b off n c lo:Nat} (hsz:P.cellsOf elem=sz) (hc:zbu P h elem b n c) (hlo:lo≤n):
 ∃off' c',zar P h st (.slice (some ⟨b,off,none⟩) n c) (some (.int .i64 (lo:Int))) none none=some (.slice (some ⟨b,off',none⟩) (n - lo) c')∧(lo < n→off'= off+lo * sz)∧zbu P h elem b (n - lo) c':=by
 obtain⟨hu,i,z,hi,hz,hzs,hpos,rfl,rfl⟩:=E
 unfold zar
 rw[hu]
 simp only[hi,Option.isSome_some,if_true]
 have bd:∀m,zbz (.int .i64 (lo:Int)) m=if lo≤m then some lo else none:=fun m=>by
  unfold zbz
  simp only
  by_cases q:lo≤m
  ·rw[if_pos q,if_pos ⟨by omega,by omega⟩,Int.toNat_natCast]
  ·rw[if_neg q,if_neg (by omega)]
 rcases hc with ⟨h1,h2⟩ | ⟨rfl,cs,e,ro,hg,he⟩
 ·rw[if_neg (by omega),if_pos h2]
  unfold aBounds
  simp only[bd,if_pos hlo]
  refine⟨_,_,rfl,fun q=>?_,.inl ⟨by omega,by omega⟩⟩
  rw[if_neg (by omega),hsz]
 ·rw[if_pos rfl]
  unfold aBounds
  simp only[bd,if_pos hlo,hg,he,if_true]
  exact⟨_,_,rfl,fun _=>by rw[hsz],.inr ⟨rfl,cs,e,ro,hg,he⟩⟩
theorem zbO (lo m:Nat):zbz (.int .i64 (lo:Int)) m=if lo≤m then some lo else none:=by
 unfold zbz
 simp only
 by_cases q:lo≤m
 ·rw[if_pos q,if_pos ⟨by omega,by omega⟩,Int.toNat_natCast]
 ·rw[if_neg q,if_neg (by omega)]
theorem zyu {P:Program} {h:AH} {t elem:TypeId} {n sz lo hi:Nat} (hu:P.underlying t=some (.array n elem)) (hi' : (P.info? elem).isSome=true) (hsz:P.cellsOf elem=sz) (hn:n < zak) (b off:Nat) (h1:lo < n) (h2:lo≤hi) (h3:hi≤n):
 zar P h t (.pointer (some ⟨b,off,none⟩)) (some (.int .i64 (lo:Int))) (some (.int .i64 (hi:Int))) none=some (.slice (some ⟨b,off+lo * sz,none⟩) (hi - lo) (n - lo)):=by
 unfold zar
 rw[hu]
 unfold aBounds
 simp only[zbO,if_pos h3,if_pos h2,hsz]
 rw[if_pos ⟨hi',hn⟩,if_neg (by omega)]
theorem zbu.old {P:Program} {h h' : AH} {elem:TypeId} {b n c:Nat} (k:zbu P h elem b n c) (o:Old h h') (hb:b < h.next):zbu P h' elem b n c:=by
 rcases k with k | ⟨h1,cs,e,ro,h2,h3⟩
 ·exact .inl k
 ·exact .inr ⟨h1,cs,e,ro,by rw[o.2 b hb]; exact h2,h3⟩
theorem zaq.cut {h:AH} {b off n sz lo off2:Nat} {cs:List Value} (s:zaq h (some ⟨b,off,none⟩) n sz cs) (hlo:lo≤n) (hoff:lo < n→off2=off+lo * sz):zaq h (some ⟨b,off2,none⟩) (n - lo) sz (cs.drop (lo * sz)):=by
 refine⟨by rw[List.length_drop,s.1,Nat.sub_mul],?_⟩
 by_cases hq:lo < n
 ·rcases s.2 with h0 | ⟨b',off',al,e,ro,hp,hb,hg,hl,hc⟩
  ·omega
  ·simp only[Option.some.injEq,Addr.mk.injEq,and_true] at hp
   obtain⟨rfl,rfl⟩:=hp
   have hm:(n - lo) * sz=n * sz - lo * sz:=Nat.sub_mul _ _ _
   have hle:lo * sz≤n * sz:=Nat.mul_le_mul_right _ hlo
   refine .inr ⟨_,_,al,e,ro,rfl,hb,hg,by rw[hoff hq,hm]; omega,?_⟩
   rw[hoff hq,←hc,List.drop_take,List.drop_drop,hm]
 ·exact .inl (by omega)
theorem ztr {t:Nat} (ht:t≤8):256 ^ t≤18446744073709551616:=by
 have:256 ^ t≤256 ^ 8:=Nat.pow_le_pow_right (by decide) ht
 exact this
theorem Fr.old {F F' : List Nat} {h0 g g' : AH} (f:Fr F g g' F') (o:Old h0 g) (hF:∀c∈F,h0.next≤c):Old h0 g'∧∀c∈F',h0.next≤c:=
 ⟨⟨Nat.le_trans o.1 f.1,fun c hc=>by rw[f.2.1 c (Nat.lt_of_lt_of_le hc o.1) (fun z=>absurd (hF c z) (by omega)),o.2 c hc]⟩,fun c hc=>(f.2.2 c hc).elim (hF c) (fun z=>Nat.le_trans o.1 z)⟩
theorem Old.near {h0 g g' : AH} {b:Nat} (o:Old h0 g) (n:za9 b g g') (hb:h0.next≤b):Old h0 g':=⟨by rw[n.1]; exact o.1,fun c hc=>by rw[n.2 c (by omega),o.2 c hc]⟩
def zco (g:AH) (F:List Nat) (b:Nat) (cs:List Value) (ty:TypeId):Prop:=g.get b=some (.cells cs ty false)∧b < g.next∧b∉F
theorem zco.old {g g' : AH} {F:List Nat} {b:Nat} {cs:List Value} {ty:TypeId} (w:zco g F b cs ty) (o:Old g g'):zco g' F b cs ty:=⟨(o.2 _ w.2.1).trans w.1,Nat.lt_of_lt_of_le w.2.1 o.1,w.2.2⟩
theorem zco.fr {g g' : AH} {F F' : List Nat} {b:Nat} {cs:List Value} {ty:TypeId} (w:zco g F b cs ty) (f:Fr F g g' F'):zco g' F' b cs ty:=⟨(f.2.1 _ w.2.1 w.2.2).trans w.1,Nat.lt_of_lt_of_le w.2.1 f.1,fun q=>(f.2.2 _ q).elim w.2.2 (fun z=>absurd w.2.1 (Nat.not_lt.2 z))⟩
theorem zco.near {g g' : AH} {F:List Nat} {b c:Nat} {cs:List Value} {ty:TypeId} (w:zco g F b cs ty) (n:za9 c g g') (hne:b≠c):zco g' F b cs ty:=⟨(n.2 _ hne).trans w.1,by rw[n.1]; exact w.2.1,w.2.2⟩
theorem zaF {g g1:AH} {z vs:List Value} {ty:TypeId} (e:g1=g.alloc (.cells z ty false)) (hl:vs.length=z.length):∃g2,stN g1 g.next 0 vs=some g2∧g2.next=g.next+1∧Old g g2∧∀F:List Nat,(∀c∈F,c < g.next)→zco g2 F g.next vs ty:=by
 have n:=zaj g.next g1 (.cells vs ty false)
 have n1:=zab e
 have o1:=zaa e
 refine⟨_,zaB (zac e) hl,by rw[n.1,n1],⟨by rw[n.1,n1]; omega,fun c hc=>by rw[n.2 c (by omega),o1.2 c hc]⟩,fun F hF=>⟨zag _ _ _,by rw[n.1,n1]; omega,fun q=>absurd (hF _ q) (Nat.lt_irrefl _)⟩⟩
theorem zeZ {g g1:AH} {z:List Value} {ty:TypeId} (e:g1=g.alloc (.cells z ty false)) {F:List Nat} (hF:∀c∈F,c < g.next):zco g1 F g.next z ty:=⟨zac e,by rw[zab e]; omega,fun q=>absurd (hF _ q) (Nat.lt_irrefl _)⟩
theorem zco.put {g:AH} {F:List Nat} {b:Nat} {cs vs:List Value} {ty:TypeId} (w:zco g F b cs ty) (hl:vs.length=cs.length):∃g2,stN g b 0 vs=some g2∧za9 b g g2∧zco g2 F b vs ty:=
 ⟨_,zaB w.1 hl,zaj _ _ _,zag _ _ _,by rw[(zaj b g (.cells vs ty false)).1]; exact w.2.1,w.2.2⟩
theorem zco.part {g:AH} {F:List Nat} {b off:Nat} {cs vs:List Value} {ty:TypeId} (w:zco g F b cs ty) (hl:off+vs.length≤cs.length):∃g2,stN g b off vs=some g2∧za9 b g g2∧zco g2 F b (cs.take off ++ vs ++ cs.drop (off+vs.length)) ty:=
 ⟨_,zjX w.1 hl,zaj _ _ _,zag _ _ _,by rw[(zaj b g _).1]; exact w.2.1,w.2.2⟩
theorem zco.ld {g:AH} {F:List Nat} {b n:Nat} {cs:List Value} {ty:TypeId} (w:zco g F b cs ty) (hl:cs.length=n):ldN g b 0 n=some cs:=zao w.1 hl
theorem zco.ldp {g:AH} {F:List Nat} {b off n:Nat} {cs:List Value} {ty:TypeId} (w:zco g F b cs ty) (hl:off+n≤cs.length):ldN g b off n=some ((cs.drop off).take n):=zcl w.1 hl
theorem zj2 {M:List Nat} {i a b:Nat} (hi:M[i]?= some a) (c:Nat):(M.set i b).count c=M.count c - (if a=c then 1 else 0)+(if b=c then 1 else 0):=by
 obtain⟨hlt,he⟩:=List.getElem?_eq_some_iff.1 hi
 rw[List.count_set hlt,he]
 simp only[beq_iff_eq]
theorem zts {M:List Nat} {i a:Nat} (hi:M[i]?= some a):0 < M.count a:=List.count_pos_iff.2 (List.mem_of_getElem? hi)
theorem zbe.near {lim lim' : Nat} {h h' : AH} {elem:TypeId} {sz b:Nat} {p:Option Addr} {n c:Nat} {cs:List Value} (g:zbe lim h elem sz p n c cs) (k:za9 b h h') (hb:b < lim) (hl:lim'≤lim):zbe lim' h' elem sz p n c cs:=by
 refine⟨g.1,?_⟩
 rcases g.2 with z | ⟨b',hp,h1,h2,h3,h4⟩
 ·exact .inl z
 ·exact .inr ⟨b',hp,by omega,by rw[k.1]; exact h2,by rw[k.2 b' (by omega)]; exact h3,h4⟩
theorem zbe.block {lim:Nat} {h:AH} {elem:TypeId} {sz:Nat} {p:Option Addr} {n c:Nat} {cs:List Value} (g:zbe lim h elem sz p n c cs) {a:Addr} (e:p=some a):lim≤a.block∧a.block < h.next:=by
 rcases g.2 with ⟨z, -⟩ | ⟨b',hp,h1,h2, -⟩
 ·rw[z] at e; cases e
 ·rw[hp] at e; cases e; exact⟨h1,h2⟩
theorem zbe.form {lim:Nat} {h:AH} {elem:TypeId} {sz:Nat} {p:Option Addr} {n c:Nat} {cs:List Value} (g:zbe lim h elem sz p n c cs):p=none∨∃b off,p=some ⟨b,off,none⟩:=by
 rcases g.2 with ⟨z, -⟩ | ⟨b',hp, -⟩
 ·exact .inl z
 ·exact .inr ⟨b',0,hp⟩
theorem zbe.fr {lim:Nat} {h h' : AH} {elem:TypeId} {sz:Nat} {p:Option Addr} {n c:Nat} {cs:List Value} {F F' : List Nat} (g:zbe lim h elem sz p n c cs) (f:Fr F h h' F') (hF:∀x∈F,x < lim):zbe lim h' elem sz p n c cs:=by
 refine⟨g.1,?_⟩
 rcases g.2 with z | ⟨b',hp,h1,h2,h3,h4⟩
 ·exact .inl z
 ·exact .inr ⟨b',hp,h1,Nat.lt_of_lt_of_le h2 f.1,by rw[f.2.1 b' h2 (fun z=>absurd (hF _ z) (by omega))]; exact h3,h4⟩
theorem zbe.weak {lim lim' : Nat} {h:AH} {elem:TypeId} {sz:Nat} {p:Option Addr} {n c:Nat} {cs:List Value} (g:zbe lim h elem sz p n c cs) (hl:lim'≤lim):zbe lim' h elem sz p n c cs:=by
 refine⟨g.1,?_⟩
 rcases g.2 with z | ⟨b',hp,h1,h2,h3,h4⟩
 ·exact .inl z
 ·exact .inr ⟨b',hp,by omega,h2,h3,h4⟩
def zbE (qs:List (Nat×Nat×Nat)):List Value:=(qs.map fun q=>[Value.int .i64 q.1,Value.int .u64 q.2.1,Value.int .u32 q.2.2]).flatten
theorem za0 (qs:List (Nat×Nat×Nat)):(zbE qs).length=qs.length * 3:=by
 induction qs with
 | nil=>rfl
 | cons q ps ih=>simp only[zbE,List.map_cons,List.flatten_cons,List.length_append,List.length_cons,List.length_nil] at *; omega
theorem zfA (ps qs:List (Nat×Nat×Nat)):zbE (ps ++ qs)=zbE ps ++ zbE qs:=by simp[zbE]
theorem zen:∀(ps:List (Nat×Nat×Nat)) (i:Nat) (hi:i < ps.length),((zbE ps).drop (i * 3)).take 3=[.int .i64 (ps[i].1:Nat),.int .u64 (ps[i].2.1:Nat),.int .u32 (ps[i].2.2:Nat)]
 | [],i,hi=>absurd hi (Nat.not_lt_zero _)
 | q :: ps,0,hi=>rfl
 | q :: ps,i+1,hi=>by
   have e:zbE (q :: ps)=[.int .i64 (q.1:Nat),.int .u64 (q.2.1:Nat),.int .u32 (q.2.2:Nat)] ++ zbE ps:=rfl
   rw[e,show (i+1) * 3=3+i * 3 by omega,List.drop_append]
   simp only[List.length_cons,List.length_nil]
   rw[List.drop_eq_nil_of_le (by simp),List.nil_append,show 3+i * 3 - (0+1+1+1)=i * 3 by omega]
   exact zen ps i (by simpa using hi)
theorem zdW (q:Nat×Nat×Nat) (qs:List (Nat×Nat×Nat)):zbE (q :: qs)=[.int .i64 (q.1:Nat),.int .u64 (q.2.1:Nat),.int .u32 (q.2.2:Nat)] ++ zbE qs:=rfl
theorem zpU:∀(ps:List (Nat×Nat×Nat)) (i:Nat) (q:Nat×Nat×Nat),i < ps.length→(zbE ps).take (i * 3) ++ [.int .i64 (q.1:Nat),.int .u64 (q.2.1:Nat),.int .u32 (q.2.2:Nat)] ++ (zbE ps).drop (i * 3+3)=zbE (ps.set i q)
 | [],i,q,hi=>absurd hi (Nat.not_lt_zero _)
 | p :: ps,0,q,_=>rfl
 | p :: ps,i+1,q,hi=>by
   rw[List.set_cons_succ,zdW,zdW,←zpU ps i q (by simpa using hi),show (i+1) * 3=3+i * 3 by omega]
   rw[List.take_append,List.drop_append]
   simp only[List.length_cons,List.length_nil]
   rw[List.take_of_length_le (by simp),List.drop_eq_nil_of_le (by simp),List.nil_append,show 3+i * 3 - (0+1+1+1)=i * 3 by omega,show 3+i * 3+3 - (0+1+1+1)=i * 3+3 by omega]
   simp only[List.append_assoc]
theorem zis:∀(X:List (Nat×Nat×Nat)) (i:Nat),(zbE X).take (i * 3)=zbE (X.take i)
 | [],i=>by simp[zbE]
 | q :: X,0=>rfl
 | q :: X,i+1=>by
   rw[List.take_succ_cons,zdW,zdW,show (i+1) * 3=3+i * 3 by omega,List.take_append,List.take_of_length_le (by simp)]
   simp only[List.length_cons,List.length_nil]
   rw[show 3+i * 3 - (0+1+1+1)=i * 3 by omega,zis X i]
theorem zit:∀(X:List (Nat×Nat×Nat)) (i:Nat),(zbE X).drop (i * 3)=zbE (X.drop i)
 | [],i=>by simp[zbE]
 | q :: X,0=>rfl
 | q :: X,i+1=>by
   rw[List.drop_succ_cons,zdW,show (i+1) * 3=3+i * 3 by omega,List.drop_append,List.drop_eq_nil_of_le (by simp),List.nil_append]
   simp only[List.length_cons,List.length_nil]
   rw[show 3+i * 3 - (0+1+1+1)=i * 3 by omega,zit X i]
theorem zv0 {α:Type} {A:List α} {z:α} {n j:Nat} (hn:A.length=n) (hj:j < n):(A.take j ++ List.replicate (n - j) z).set j (A[j]'(by omega))=A.take (j+1) ++ List.replicate (n - (j+1)) z:=by
 have hl:(A.take j).length=j:=by rw[List.length_take]; omega
 rw[List.set_append_right _ _ (by omega),hl,Nat.sub_self,show n - j=(n - (j+1))+1 by omega,List.replicate_succ,List.set_cons_zero,List.take_succ_eq_append_getElem (by omega),List.append_assoc]
 rfl
theorem zEb {P:Program} {g:Nat} {t1 t2 t3:TypeId} {h:AH}:∀{vs:List Value},RdA P h g [t1,t2,t3] vs→∃a b c,vs=[a,b,c]∧RdV P h g t1 a∧RdV P h g t2 b∧RdV P h g t3 c
 | [a,b,c],r=>⟨a,b,c,rfl,r.1,r.2.1,r.2.2.1⟩
def ztt (P:Program) (h:AH) (elem:TypeId) (p:Option Addr) (n c:Nat):Prop:=(p=none∧n=0∧c < zak)∨∃b off,p=some ⟨b,off,none⟩∧zbu P h elem b n c
theorem ztt.kept {P:Program} {h h' : AH} {elem:TypeId} {p:Option Addr} {n c:Nat} (k:ztt P h elem p n c) (e:∀a,p=some a→h'.get a.block=h.get a.block):ztt P h' elem p n c:=by
 rcases k with k | ⟨b,off,rfl,k⟩
 ·exact .inl k
 ·refine .inr ⟨b,off,rfl,?_⟩
  rcases k with k | ⟨h1,cs,e',ro,h2,h3⟩
  ·exact .inl k
  ·exact .inr ⟨h1,cs,e',ro,by rw[e _ rfl]; exact h2,h3⟩
def zw7:Option Nat→Option Value
 | none=>none
 | some i=>some (.int .i64 (i:Int))
def zi7 (n:Nat):Option Nat→Nat
 | none=>n
 | some i=>i
theorem zDj {P:Program} {h:AH} {st elem:TypeId} {sz by' : Nat} (E:zaZ P st elem sz by') {p:Option Addr} {n c:Nat} (hsz:P.cellsOf elem=sz) (hc:ztt P h elem p n c) (lo hi:Option Nat) (h1:zi7 0 lo≤zi7 n hi) (h2:zi7 n hi≤n):
 ∃p' c',zar P h st (.slice p n c) (zw7 lo) (zw7 hi) none=some (.slice p' (zi7 n hi - zi7 0 lo) c')∧(∀b off,p=some ⟨b,off,none⟩→∃off',p'= some ⟨b,off',none⟩∧(zi7 0 lo < zi7 n hi→off'= off+zi7 0 lo * sz))∧(p=none→p'= none)∧ztt P h elem p' (zi7 n hi - zi7 0 lo) c':=by
 obtain⟨hu,i,z,hi',hz,hzs,hpos,rfl,rfl⟩:=E
 have b0:∀m,(m=n∨n≤m)→aBounds n m (zw7 lo) (zw7 hi) none=some (zi7 0 lo,zi7 n hi,m):=fun m hm=>by
  unfold aBounds
  cases hi with
  | none=>
    simp only[zw7,zi7] at h1 h2 ⊢
    cases lo with
    | none=>rfl
    | some l=>
      simp only[zw7,zi7] at h1 ⊢
      rw[zbO,if_pos h1]
  | some j=>
    simp only[zw7,zi7] at h1 h2 ⊢
    rw[zbO,if_pos (by omega)]
    simp only
    cases lo with
    | none=>rfl
    | some l=>
      simp only[zw7,zi7] at h1 ⊢
      rw[zbO,if_pos h1]
 unfold zar
 rw[hu]
 rcases hc with ⟨rfl,rfl,hcc⟩ | ⟨b,off,rfl,hc⟩
 ·simp only[hi',Option.isSome_some,true_and,b0 c (.inr (by omega)),if_pos hcc]
  exact⟨none,_,rfl,fun b off z=>(by cases z),fun _=>rfl,.inl ⟨rfl,by omega,by omega⟩⟩
 ·simp only[hi',Option.isSome_some,if_true]
  rcases hc with ⟨h3,h4⟩ | ⟨rfl,cs,e,ro,hg,he⟩
  ·rw[if_neg (by omega),if_pos h4,b0 c (.inr h3)]
   refine⟨_,_,rfl,fun b' off' z=>?_,fun z=>(by cases z),.inr ⟨b,_,rfl,.inl ⟨by omega,by omega⟩⟩⟩
   simp only[Option.some.injEq,Addr.mk.injEq,and_true] at z
   obtain⟨rfl,rfl⟩:=z
   exact⟨_,rfl,fun q=>by rw[if_neg (by omega),hsz]⟩
  ·rw[if_pos rfl,b0 n (.inl rfl)]
   simp only[hg,he,if_true]
   refine⟨_,_,rfl,fun b' off' z=>?_,fun z=>(by cases z),.inr ⟨b,_,rfl,.inr ⟨rfl,cs,e,ro,hg,he⟩⟩⟩
   simp only[Option.some.injEq,Addr.mk.injEq,and_true] at z
   obtain⟨rfl,rfl⟩:=z
   exact⟨_,rfl,fun _=>by rw[hsz]⟩
theorem zaq.kept {h h' : AH} {p:Option Addr} {n sz:Nat} {cs:List Value} (s:zaq h p n sz cs) (hn:h.next≤h'.next) (k:∀a,p=some a→h'.get a.block=h.get a.block):zaq h' p n sz cs:=by
 refine⟨s.1,?_⟩
 rcases s.2 with h0 | ⟨b,off,al,e,ro,hp,hb,hg,hl,hc⟩
 ·exact .inl h0
 ·exact .inr ⟨b,off,al,e,ro,hp,Nat.lt_of_lt_of_le hb hn,by rw[k _ hp]; exact hg,hl,hc⟩
theorem zaq.cut2 {h:AH} {p p' : Option Addr} {n sz lo hi:Nat} {cs:List Value} (s:zaq h p n sz cs) (h1:lo≤hi) (h2:hi≤n) (hp:∀b off,p=some ⟨b,off,none⟩→∃off',p'= some ⟨b,off',none⟩∧(lo < hi→off'= off+lo * sz)):
 zaq h p' (hi - lo) sz ((cs.drop (lo * sz)).take ((hi - lo) * sz)):=by
 have hle:hi * sz≤n * sz:=Nat.mul_le_mul_right _ h2
 have hm:(hi - lo) * sz=hi * sz - lo * sz:=Nat.sub_mul _ _ _
 refine⟨by rw[List.length_take,List.length_drop,s.1,hm]; omega,?_⟩
 by_cases hq:lo < hi
 ·rcases s.2 with h0 | ⟨b,off,al,e,ro,rfl,hb,hg,hl,hc⟩
  ·omega
  ·obtain⟨off',rfl,ho⟩:=hp b off rfl
   have hlo:lo * sz≤hi * sz:=Nat.mul_le_mul_right _ h1
   refine .inr ⟨b,off',al,e,ro,rfl,hb,hg,by rw[ho hq,hm]; omega,?_⟩
   rw[ho hq,←hc,List.drop_take,List.drop_drop,List.take_take]
   congr 1
   omega
 ·exact .inl (by omega)
theorem ztu {P:Program} {h:AH} {t elem:TypeId} {by' : Nat} (E:zaZ P t elem 1 by') {b n c:Nat} {cs:List Value} {e:TypeId} (hb:h.get b=some (.cells cs e false)) (hle:cs.length=n)
 {p:Option Addr} {m c' : Nat} {ns:List Value} (hs:zaq h p m 1 ns) (hp:p=none∨∃b off,p=some ⟨b,off,none⟩) (hnm:n≤m) (st:TypeId):
 ∃i h',zal P h .copy #[t,st] [.slice (some ⟨b,0,none⟩) n c,.slice p m c']=some (.int .i64 i,h')∧za9 b h h'∧h'.get b=some (.cells (ns.take n) e false):=by
 by_cases hn:0 < n
 ·obtain⟨h',k,nr,g⟩:=zfy E (off:=0) (n:=n) (c:=c) hb (by omega) hn hs hp (c':=c') st
  refine⟨_,h',k,nr,?_⟩
  have hl:(ns.take n).length=n:=by rw[List.length_take,hs.1]; omega
  rw[g,List.take_zero,List.nil_append,hl,Nat.zero_add,List.drop_eq_nil_of_le (by omega),List.append_nil]
 ·obtain rfl:n=0:=by omega
  obtain⟨hu,i,z,hi,hz,hzs,hpos,hsz,hby⟩:=E
  have hfc:firstC h i.size 0 (.slice p m c')=some []:=by
   rcases hp with rfl | ⟨b2,off2,rfl⟩
   ·simp[Am.firstC]
   ·simp[Am.firstC]
  have hcs:cs=[]:=List.eq_nil_of_length_eq_zero hle
  refine⟨((0:Nat):Int),h,?_,za9.refl _ _,by rw[hb,hcs]; rfl⟩
  show (match zeL P h t (.slice (some ⟨b,0,none⟩) 0 c) (.slice p m c') with | x=>x)=_
  unfold zeL
  simp only[hu,hi,zlx]
  rw[show Nat.min m 0=0 from Nat.min_zero m,hfc]
end Go.Am
