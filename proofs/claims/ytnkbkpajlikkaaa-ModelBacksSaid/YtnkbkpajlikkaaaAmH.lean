/-
  CONTRACTS: memory, frames, slices that grow.
-/
import Derived.Test.YtnkbkpajlikkaaaAmG
import Derived.WideKeyArgs
import Derived.DataReads
import Derived.OpenShut
import Derived.Test.YtnkbkpajlikkaaaAmS
import Derived.Maps.RangeRun
set_option linter.unusedVariables false
set_option linter.unusedSimpArgs false
namespace Go.Am
def Old (h h' : AH):Prop:=h.next≤h'.next∧∀b,b < h.next→h'.get b=h.get b
def OldB (lim:Nat) (h h' : AH):Prop:=h.next≤h'.next∧∀b,b < lim→h'.get b=h.get b
theorem Old.refl (h:AH):Old h h:=⟨Nat.le_refl _,fun _ _=>rfl⟩
theorem Old.trans {h1 h2 h3:AH} (a:Old h1 h2) (b:Old h2 h3):Old h1 h3:=⟨Nat.le_trans a.1 b.1,fun c hc=>by rw[b.2 c (Nat.lt_of_lt_of_le hc a.1),a.2 c hc]⟩
theorem OldB.refl (lim:Nat) (h:AH):OldB lim h h:=⟨Nat.le_refl _,fun _ _=>rfl⟩
theorem OldB.trans {lim:Nat} {h1 h2 h3:AH} (a:OldB lim h1 h2) (b:OldB lim h2 h3):OldB lim h1 h3:=⟨Nat.le_trans a.1 b.1,fun c hc=>by rw[b.2 c hc,a.2 c hc]⟩
theorem Old.toB {lim:Nat} {h h' : AH} (a:Old h h') (hl:lim≤h.next):OldB lim h h':=⟨a.1,fun c hc=>a.2 c (Nat.lt_of_lt_of_le hc hl)⟩
theorem OldB.toOld {h h' : AH} (a:OldB h.next h h'):Old h h':=a
theorem Old_alloc (h:AH) (o:AObj):Old h (h.alloc o):=⟨Nat.le_succ _,fun b hb=>by rw[AH.get_alloc,if_neg (by omega)]⟩
theorem Old.alloc {h h1 h2:AH} (a:Old h h1) {o:AObj} (e:h2=h1.alloc o):Old h h2:=by subst e; exact a.trans (Old_alloc _ _)
theorem OldB.alloc {lim:Nat} {h h1 h2:AH} (a:OldB lim h h1) (hl:lim≤h.next) {o:AObj} (e:h2=h1.alloc o):OldB lim h h2:=by subst e; exact a.trans ((Old_alloc _ _).toB (Nat.le_trans hl a.1))
theorem OldB.set {lim:Nat} {h h1:AH} (a:OldB lim h h1) {b:Nat} (hb:lim≤b) (o:AObj):OldB lim h (h1.set b o):=⟨a.1,fun c hc=>by rw[AH.get_set,if_neg (by omega)]; exact a.2 c hc⟩
theorem get_alloc_next (h:AH) (o:AObj):(h.alloc o).get h.next=some o:=by rw[AH.get_alloc,if_pos rfl]
theorem get_of_alloc {h h' : AH} {o:AObj} (e:h'= h.alloc o):h'.get h.next=some o:=by rw[e]; exact get_alloc_next _ _
theorem old_of_alloc {h h' : AH} {o:AObj} (e:h'= h.alloc o):Old h h':=by rw[e]; exact Old_alloc _ _
theorem next_of_alloc {h h' : AH} {o:AObj} (e:h'= h.alloc o):h'.next=h.next+1:=by rw[e]; rfl
theorem get_alloc_ne {h:AH} {o:AObj} {b:Nat} (hb:b≠h.next):(h.alloc o).get b=h.get b:=by rw[AH.get_alloc,if_neg hb]
theorem get_set_ne {h:AH} {o:AObj} {b c:Nat} (hb:b≠c):(h.set c o).get b=h.get b:=by rw[AH.get_set,if_neg hb]
/-! ## Loads and stores -/
theorem ld1_of {h:AH} {b off:Nat} {cs:List Value} {e:TypeId} {ro:Bool} (hb:h.get b=some (.cells cs e ro)):ld1 h b off=cs[off]?:=by unfold ld1; rw[hb]; rfl
theorem ld1_at {h:AH} {b off:Nat} {cs:List Value} {e:TypeId} {ro:Bool} {v:Value} (hb:h.get b=some (.cells cs e ro)) (hv:cs[off]?= some v):ld1 h b off=some v:=by rw[ld1_of hb,hv]
theorem ldN_of {h:AH} {b off n:Nat} {cs:List Value} {e:TypeId} {ro:Bool} (hb:h.get b=some (.cells cs e ro)) (hl:off+n≤cs.length):ldN h b off n=some ((cs.drop off).take n):=by unfold ldN; rw[hb]; exact if_pos hl
theorem ldN_all {h:AH} {b n:Nat} {cs:List Value} {e:TypeId} {ro:Bool} (hb:h.get b=some (.cells cs e ro)) (hl:cs.length=n):ldN h b 0 n=some cs:=by rw[ldN_of hb (by omega)]; simp[←hl]
theorem st1_of {h:AH} {b off:Nat} {cs:List Value} {e:TypeId} {v:Value} (hb:h.get b=some (.cells cs e false)) (hl:off < cs.length):st1 h b off v=some (h.set b (.cells (cs.set off v) e false)):=by unfold st1 store1; rw[hb]; exact if_pos hl
theorem stN_of {h:AH} {b off:Nat} {cs vs:List Value} {e:TypeId} (hb:h.get b=some (.cells cs e false)) (hl:off+vs.length≤cs.length):stN h b off vs=some (h.set b (.cells (cs.take off ++ vs ++ cs.drop (off+vs.length)) e false)):=by unfold stN storeN; rw[hb]; exact if_pos hl
theorem stN_all {h:AH} {b:Nat} {cs vs:List Value} {e:TypeId} (hb:h.get b=some (.cells cs e false)) (hl:vs.length=cs.length):stN h b 0 vs=some (h.set b (.cells vs e false)):=by
 rw[stN_of hb (by omega)]
 simp[hl]
/-! ## Numbers -/
theorem i64w {c x:Int} (hc:c=IntKind.wrap .i64 x) (h1:-9223372036854775808≤x) (h2:x≤9223372036854775807):c=x:=by rw[hc,wrap_i64 h1 h2]
theorem u64w {c x:Int} (hc:c=IntKind.wrap .u64 x) (h1:0≤x) (h2:x≤18446744073709551615):c=x:=by rw[hc,wrap_u64 h1 h2]
theorem u8w {c x:Int} (hc:c=IntKind.wrap .u8 x) (h1:0≤x) (h2:x≤255):c=x:=by rw[hc,wrap_u8 h1 h2]
/-! ## Slices -/
def Shows (h:AH) (p:Option Addr) (n:Nat) (sz:Nat) (cs:List Value):Prop:=
 cs.length=n * sz∧(n=0∨∃b off al e ro,p=some ⟨b,off,none⟩∧b < h.next∧h.get b=some (.cells al e ro)∧off+n * sz≤al.length∧(al.drop off).take (n * sz)=cs)
theorem Shows.old {h h' : AH} {p:Option Addr} {n sz:Nat} {cs:List Value} (s:Shows h p n sz cs) (o:Old h h'):Shows h' p n sz cs:=by
 refine⟨s.1,?_⟩
 rcases s.2 with h0 | ⟨b,off,al,e,ro,hp,hb,hg,hl,hc⟩
 ·exact .inl h0
 ·exact .inr ⟨b,off,al,e,ro,hp,Nat.lt_of_lt_of_le hb o.1,by rw[o.2 b hb,hg],hl,hc⟩
theorem Shows.firstC {h:AH} {p:Option Addr} {n sz c:Nat} {cs:List Value} (s:Shows h p n sz cs) (hp:p=none∨∃b off,p=some ⟨b,off,none⟩):firstC h sz n (.slice p n c)=some cs:=by
 rcases s.2 with h0 | ⟨b,off,al,e,ro,hp,hb,hg,hl,hc⟩
 ·subst h0
  have:cs=[]:=by have:=s.1; simp at this; exact this
  subst this
  rcases hp with rfl | ⟨b,off,rfl⟩
  ·rfl
  ·simp[Am.firstC]
 ·subst hp
  unfold Am.firstC
  cases hm:n * sz with
  | zero=>
    have:=s.1
    rw[hm] at this
    simp only
    rw[List.eq_nil_of_length_eq_zero this]
  | succ m=>
    simp only[hg,Nat.le_refl,true_and]
    rw[hm] at hl hc
    rw[if_pos hl,hc]
def Grow (lim:Nat) (h:AH) (elem:TypeId) (sz:Nat) (p:Option Addr) (n c:Nat) (cs:List Value):Prop:=
 cs.length=n * sz∧((p=none∧n=0∧c=0)∨∃b,p=some ⟨b,0,none⟩∧lim≤b∧b < h.next∧h.get b=some (.cells cs elem false)∧(c=openCap∨c=n))
theorem Grow.shows {lim:Nat} {h:AH} {elem:TypeId} {sz:Nat} {p:Option Addr} {n c:Nat} {cs:List Value} (g:Grow lim h elem sz p n c cs):Shows h p n sz cs:=by
 refine⟨g.1,?_⟩
 rcases g.2 with ⟨hp,hn,hc⟩ | ⟨b,hp,hl,hb,hg,hc⟩
 ·exact .inl hn
 ·exact .inr ⟨b,0,cs,elem,false,hp,hb,hg,by rw[g.1]; omega,by simp[←g.1]⟩
theorem Grow.nil (lim:Nat) (h:AH) (elem:TypeId) (sz:Nat):Grow lim h elem sz none 0 0 []:=⟨by simp,.inl ⟨rfl,rfl,rfl⟩⟩
theorem Grow.old {lim:Nat} {h h' : AH} {elem:TypeId} {sz:Nat} {p:Option Addr} {n c:Nat} {cs:List Value} (g:Grow lim h elem sz p n c cs) (o:Old h h'):Grow lim h' elem sz p n c cs:=by
 refine⟨g.1,?_⟩
 rcases g.2 with hp | ⟨b,hp,hl,hb,hg,hc⟩
 ·exact .inl hp
 ·exact .inr ⟨b,hp,hl,Nat.lt_of_lt_of_le hb o.1,by rw[o.2 b hb,hg],hc⟩
def ElemOk (P:Program) (st elem:TypeId) (sz by' : Nat):Prop:=
 P.underlying st=some (.slice elem)∧∃i z,P.info? elem=some i∧i.zero=some z∧z.cells.size=i.size∧0 < i.size∧i.size=sz∧i.bytes=by'
def apart (p:Option Addr) (b:Nat):Prop:=match p with | some a=>a.block≠b | none=>True
theorem Grow.append {P:Program} {lim:Nat} {h:AH} {st elem:TypeId} {sz by' : Nat} {p:Option Addr} {n c:Nat} {cs:List Value} (g:Grow lim h elem sz p n c cs) (E:ElemOk P st elem sz by') (hlim:lim≤h.next)
 {x:Value} {m:Nat} {ns:List Value} (hx:lenV x=some m) (hf:firstC h sz m x=some ns) (hns:ns.length=m * sz) (hroom:(n+m) * by'≤roomMax) (hroom2:n+m≤9223372036854775807)
 (hxt:∃e,P.underlying st=some (.slice e)):
 ∃p' c' h',aBuiltin P h .append #[st,st] [.slice p n c,x]=some (.slice p' (n+m) c',h')∧Grow lim h' elem sz p' (n+m) c' (cs ++ ns)∧OldB lim h h'∧(∀b,b < h.next→apart p b→h'.get b=h.get b)∧(0 < m→∃b,p'= some ⟨b,0,none⟩∧h.next≤b):=by
 obtain⟨hu,i,z,hi,hz,hzs,hpos,rfl,rfl⟩:=E
 have hlen:(cs ++ ns).length=(n+m) * i.size:=by rw[List.length_append,g.1,hns,Nat.add_mul]
 have hb0:aBuiltin P h .append #[st,st] [.slice p n c,x]=aAppend P h st false (.slice p n c) x:=aBuiltin_append hu
 rw[hb0]
 have hfc:firstC h i.size n (.slice p n c)=some cs:=g.shows.firstC (by
  rcases g.2 with ⟨hp,_⟩ | ⟨b,hp,_⟩
  ·exact .inl hp
  ·exact .inr ⟨b,0,hp⟩)
 have hcnd:z.cells.size=i.size∧0 < i.size∧ns.length=m * i.size∧cs.length=n * i.size:=⟨hzs,hpos,hns,g.1⟩
 have fresh:∃p' c' h',some (Value.slice (some ⟨h.next,0,none⟩) (n+m) openCap,h.alloc (.cells (cs ++ ns) elem false))=some (.slice p' (n+m) c',h')∧Grow lim h' elem i.size p' (n+m) c' (cs ++ ns)∧OldB lim h h'∧(∀b,b < h.next→apart p b→h'.get b=h.get b)∧(0 < m→∃b,p'= some ⟨b,0,none⟩∧h.next≤b):=
  ⟨_,_,_,rfl,⟨hlen,.inr ⟨h.next,rfl,hlim,Nat.lt_succ_self _,get_alloc_next _ _,.inl rfl⟩⟩,(Old_alloc _ _).toB hlim,fun b hb _=>get_alloc_ne (by omega),fun _=>⟨_,rfl,Nat.le_refl _⟩⟩
 unfold aAppend
 simp only[hu,hi,hx,hfc,hf,hz]
 rw[if_pos hcnd]
 rcases g.2 with ⟨rfl,rfl,rfl⟩ | ⟨b,rfl,hl,hb,hg,hc⟩
 ·rw[if_neg (by decide)]
  by_cases hm:m=0
  ·subst hm
   have:ns=[]:=by have:=hns; simp at this; exact this
   subst this
   rw[if_pos (by simp)]
   exact⟨none,0,h,rfl,⟨by simpa using g.1,.inl ⟨rfl,rfl,rfl⟩⟩,OldB.refl _ _,fun _ _ _=>rfl,fun q=>absurd q (Nat.lt_irrefl _)⟩
  ·rw[if_neg (by omega),if_pos ⟨Nat.le_refl _,hroom,hroom2⟩]
   exact fresh
 ·rcases hc with rfl | rfl
  ·rw[if_pos rfl]
   simp only[hg]
   rw[if_pos (by exact⟨trivial,hroom,hroom2⟩)]
   refine⟨_,_,_,rfl,⟨hlen,.inr ⟨h.next,rfl,hlim,by simp,?_,.inl rfl⟩⟩,⟨by simp,?_⟩,?_,fun _=>⟨_,rfl,Nat.le_refl _⟩⟩
   ·rw[AH.get_alloc,if_pos (by simp)]
   ·intro d hd
    rw[AH.get_alloc,if_neg (by simp; omega),AH.get_del,if_neg (by omega)]
   ·intro d hd ha
    rw[AH.get_alloc,if_neg (by simp; omega),AH.get_del,if_neg (fun q=>ha (by rw[q]))]
  ·have hne:c≠openCap:=by
    intro q
    have:c≤9223372036854775807:=by omega
    rw[q] at this
    exact absurd this (by decide)
   rw[if_neg hne]
   by_cases hm:m=0
   ·subst hm
    have:ns=[]:=by have:=hns; simp at this; exact this
    subst this
    rw[if_pos (by simp)]
    exact⟨_,c,h,rfl,⟨by simpa using g.1,.inr ⟨b,rfl,hl,hb,by simpa using hg,.inr rfl⟩⟩,OldB.refl _ _,fun _ _ _=>rfl,fun q=>absurd q (Nat.lt_irrefl _)⟩
   ·rw[if_neg (by omega),if_pos ⟨Nat.le_refl _,hroom,hroom2⟩]
    exact fresh
def elemOkB (P:Program) (st elem:TypeId) (sz by' : Nat):Bool:=
 match P.underlying st with
 | some (.slice e)=>
   match P.info? elem with
   | some i=>match i.zero with | some z=>Nat.beq e elem && Nat.beq z.cells.size i.size && Nat.blt 0 i.size && Nat.beq i.size sz && Nat.beq i.bytes by' | none=>false
   | none=>false
 | _=>false
theorem ElemOk_of {P:Program} {st elem:TypeId} {sz by' : Nat} (h:elemOkB P st elem sz by'= true):ElemOk P st elem sz by':=by
 unfold elemOkB at h
 split at h
 ·rename_i e hu
  split at h
  ·rename_i i hi
   split at h
   ·rename_i z hz
    simp only[Bool.and_eq_true] at h
    obtain⟨⟨⟨⟨h1,h2⟩,h3⟩,h4⟩,h5⟩:=h
    have h1:=Nat.eq_of_beq_eq_true h1
    subst h1
    exact⟨hu,i,z,hi,hz,Nat.eq_of_beq_eq_true h2,by rw[Nat.blt_eq] at h3; exact h3,Nat.eq_of_beq_eq_true h4,Nat.eq_of_beq_eq_true h5⟩
   ·cases h
  ·cases h
 ·cases h
theorem firstC_new {h h1:AH} {cs:List Value} {e:TypeId} {n sz c:Nat} {ro:Bool} (e1:h1=h.alloc (.cells cs e ro)) (hl:cs.length=n * sz):firstC h1 sz n (.slice (some ⟨h.next,0,none⟩) n c)=some cs:=by
 subst e1
 unfold Am.firstC
 cases hm:n * sz with
 | zero=>
   simp only
   rw[hm] at hl
   rw[List.eq_nil_of_length_eq_zero hl]
 | succ m=>
   simp only[get_alloc_next,Nat.le_refl,true_and,Nat.zero_add,List.drop_zero]
   rw[if_pos (by omega),←hm,←hl,List.take_length]
def intC (k:IntKind) (l:List Int):List Value:=l.map (Value.int k)
def natC (k:IntKind) (l:List Nat):List Value:=l.map fun n:Nat=>Value.int k (n:Int)
theorem natC_get {k:IntKind} {l:List Nat} {i:Nat} (hi:i < l.length):(natC k l)[i]?= some (.int k (l[i]:Nat)):=by simp[natC,hi]
theorem natC_len (k:IntKind) (l:List Nat):(natC k l).length=l.length:=by simp[natC]
theorem natC_app (k:IntKind) (l m:List Nat):natC k (l ++ m)=natC k l ++ natC k m:=by simp[natC]
theorem Grow.push {P:Program} {lim:Nat} {h h4:AH} {st elem:TypeId} {sz by' : Nat} {p:Option Addr} {n c:Nat} {cs:List Value} (g:Grow lim h elem sz p n c cs) (E:ElemOk P st elem sz by') (hlim:lim≤h.next)
 {m:Nat} {ns:List Value} (e4:h4=h.alloc (.cells ns elem false)) (hns:ns.length=m * sz) (hroom:(n+m) * by'≤roomMax) (hroom2:n+m≤9223372036854775807):
 ∃p' c' h',aBuiltin P h4 .append #[st,st] [.slice p n c,.slice (some ⟨h.next,0,none⟩) m m]=some (.slice p' (n+m) c',h')∧Grow lim h' elem sz p' (n+m) c' (cs ++ ns)∧OldB lim h h'∧(∀b,b < h.next→apart p b→h'.get b=h.get b)∧(0 < m→∃b,p'= some ⟨b,0,none⟩∧h.next≤b):=by
 obtain⟨p',c',h5,h1,h2,h3,h6,h7⟩:=(g.old (by rw[e4]; exact Old_alloc _ _)).append E (by rw[e4]; exact Nat.le_trans hlim (Nat.le_succ _)) (x:=.slice (some ⟨h.next,0,none⟩) m m) (m:=m) rfl (firstC_new e4 hns) hns hroom hroom2 ⟨_,E.1⟩
 refine⟨p',c',h5,h1,h2,((Old_alloc h _).toB hlim).trans (e4▸h3),fun b hb ha=>?_,fun q=>(h7 q).imp fun b hb=>⟨hb.1,by rw[e4] at hb; exact Nat.le_of_succ_le hb.2⟩⟩
 rw[h6 b (by rw[e4]; exact Nat.lt_succ_of_lt hb) ha,e4,get_alloc_ne (by omega)]
theorem tdivN (a b:Nat):Int.tdiv (a:Int) (b:Int)=((a / b:Nat):Int):=by
 rw[Int.tdiv_eq_ediv_of_nonneg (by omega),Int.natCast_ediv]
theorem tmodN (a b:Nat):Int.tmod (a:Int) (b:Int)=((a % b:Nat):Int):=by
 rw[Int.tmod_eq_emod_of_nonneg (by omega),Int.natCast_emod]
theorem Grow.lit {lim:Nat} {h h1:AH} {elem:TypeId} {sz n:Nat} {cs:List Value} (e1:h1=h.alloc (.cells cs elem false)) (hl:cs.length=n * sz) (hlim:lim≤h.next):Grow lim h1 elem sz (some ⟨h.next,0,none⟩) n n cs:=by
 subst e1
 exact⟨hl,.inr ⟨h.next,rfl,hlim,Nat.lt_succ_self _,get_alloc_next _ _,.inr rfl⟩⟩
theorem Shows.get {h:AH} {p:Option Addr} {n:Nat} {cs:List Value} (s:Shows h p n 1 cs) {i:Nat} (hi:i < n):∃b off,p=some ⟨b,off,none⟩∧ld1 h b (off+i)=cs[i]?:=by
 rcases s.2 with h0 | ⟨b,off,al,e,ro,hp,hb,hg,hl,hc⟩
 ·omega
 ·refine⟨b,off,hp,?_⟩
  rw[ld1_of hg,←hc,List.getElem?_take,if_pos (by omega),List.getElem?_drop]
theorem Shows.getN {h:AH} {p:Option Addr} {n sz:Nat} {cs:List Value} (s:Shows h p n sz cs) {i:Nat} (hi:i < n):∃b off,p=some ⟨b,off,none⟩∧ldN h b (off+i * sz) sz=some ((cs.drop (i * sz)).take sz)∧∀j,j < sz→ld1 h b (off+i * sz+j)=cs[i * sz+j]?:=by
 rcases s.2 with h0 | ⟨b,off,al,e,ro,hp,hb,hg,hl,hc⟩
 ·omega
 ·have hle:i * sz+sz≤n * sz:=by rw[←Nat.succ_mul]; exact Nat.mul_le_mul_right _ hi
  refine⟨b,off,hp,?_,fun j hj=>?_⟩
  ·rw[ldN_of hg (by omega),←hc]
   congr 1
   apply List.ext_getElem?
   intro j
   simp only[List.getElem?_take,List.getElem?_drop]
   split
   ·rw[if_pos (by omega)]; congr 1; omega
   ·rfl
  ·rw[ld1_of hg,←hc,List.getElem?_take,if_pos (by omega),List.getElem?_drop]
   congr 1; omega
end Go.Am
/-
 CONTRACTS:the map of sectors,plain:states,how many of each slab are free.
-/
set_option linter.unusedVariables false
set_option linter.unusedSimpArgs false
namespace Go.Am
theorem derefP_at {b off:Nat} {k:Nat→Nat→Prop} (w:k b off):derefP (some ⟨b,off,none⟩) k:=w
theorem Near.refl (b:Nat) (h:AH):Near b h h:=⟨rfl,fun _ _=>rfl⟩
theorem Near.trans {b:Nat} {h1 h2 h3:AH} (x:Near b h1 h2) (y:Near b h2 h3):Near b h1 h3:=⟨y.1.trans x.1,fun c hc=>by rw[y.2 c hc,x.2 c hc]⟩
theorem natC_set (k:IntKind) (l:List Nat) (i n:Nat):(natC k l).set i (.int k n)=natC k (l.set i n):=by
 unfold natC
 rw[List.map_set]
theorem natC_getQ (k:IntKind) (l:List Nat) (i:Nat):(natC k l)[i]?= (l[i]?).map fun n:Nat=>Value.int k (n:Int):=by simp[natC]
def cnt (M:List Nat) (k:Nat):Nat:=((M.drop (64 * k)).take 64).count 1
def cnts (M:List Nat):List Nat:=(List.range 16).map (cnt M)
def mapC (M rm:List Nat):List Value:=natC .u8 M ++ natC .i64 rm
theorem mapC_len (M rm:List Nat):(mapC M rm).length=M.length+rm.length:=by simp[mapC,natC_len]
theorem mapC_lo {M rm:List Nat} {i:Nat} (hi:i < M.length):(mapC M rm)[i]?= (M[i]?).map fun n:Nat=>Value.int .u8 (n:Int):=by
 unfold mapC
 rw[List.getElem?_append_left (by rw[natC_len]; exact hi),natC_getQ]
theorem mapC_hi {M rm:List Nat} {k:Nat} (hl:M.length=1024):(mapC M rm)[1024+k]?= (rm[k]?).map fun n:Nat=>Value.int .i64 (n:Int):=by
 unfold mapC
 rw[List.getElem?_append_right (by rw[natC_len]; omega),natC_len,natC_getQ,hl,show 1024+k - 1024=k by omega]
theorem mapC_setLo {M rm:List Nat} {i v:Nat} (hi:i < M.length):(mapC M rm).set i (.int .u8 v)=mapC (M.set i v) rm:=by
 unfold mapC
 rw[List.set_append_left _ _ (by rw[natC_len]; exact hi),natC_set]
theorem mapC_setHi {M rm:List Nat} {k v:Nat} (hl:M.length=1024):(mapC M rm).set (1024+k) (.int .i64 v)=mapC M (rm.set k v):=by
 unfold mapC
 rw[List.set_append_right _ _ (by rw[natC_len]; omega),natC_len,hl,show 1024+k - 1024=k by omega,natC_set]
theorem cnts_get {M:List Nat} {k:Nat} (hk:k < 16):(cnts M)[k]?= some (cnt M k):=by simp[cnts,hk]
theorem cnts_len (M:List Nat):(cnts M).length=16:=by simp[cnts]
theorem cnt_le (M:List Nat) (k:Nat):cnt M k≤64:=Nat.le_trans List.count_le_length (by simp; omega)
theorem cnt_set {M:List Nat} {i v k:Nat} (hi:i < M.length) (hik:64 * k≤i∧i < 64 * k+64):cnt (M.set i v) k=cnt M k - (if M[i]?= some 1 then 1 else 0)+(if v=1 then 1 else 0):=by
 unfold cnt
 have hlen:i - 64 * k < ((M.drop (64 * k)).take 64).length:=by simp; omega
 rw[List.drop_set,if_neg (by omega),List.take_set,List.count_set hlen]
 have:((M.drop (64 * k)).take 64)[i - 64 * k]?= M[i]?:=by
  rw[List.getElem?_take,if_pos (by omega),List.getElem?_drop]
  congr 1
  omega
 have h2:((M.drop (64 * k)).take 64)[i - 64 * k]=M[i]:=by
  rw[List.getElem?_eq_getElem hlen,List.getElem?_eq_getElem hi] at this
  simpa using this
 rw[h2,List.getElem?_eq_getElem hi]
 simp only[beq_iff_eq,Option.some.injEq]
theorem cnt_set_ne {M:List Nat} {i v k:Nat} (hik:i < 64 * k∨64 * k+64≤i):cnt (M.set i v) k=cnt M k:=by
 unfold cnt
 rcases hik with h | h
 ·rw[List.drop_set,if_pos h]
 ·rw[List.drop_set,if_neg (by omega),List.take_set_of_le (by omega)]
theorem cnts_set {M:List Nat} {i v:Nat} (hl:M.length=1024) (hi:i < 1024):cnts (M.set i v)=(cnts M).set (i / 64) (cnt M (i / 64) - (if M[i]?= some 1 then 1 else 0)+(if v=1 then 1 else 0)):=by
 apply List.ext_getElem?
 intro k
 by_cases hk:k < 16
 ·rw[cnts_get hk,List.getElem?_set]
  by_cases q:i / 64=k
  ·rw[if_pos q,if_pos (by rw[cnts_len]; omega),cnt_set (by omega) (by omega),q]
  ·rw[if_neg q,cnts_get hk,cnt_set_ne (by omega)]
 ·rw[List.getElem?_eq_none (by rw[cnts_len]; omega),List.getElem?_eq_none (by rw[List.length_set,cnts_len]; omega)]
theorem cnt_pos {M:List Nat} {i k:Nat} (hi:M[i]?= some 1) (hik:64 * k≤i∧i < 64 * k+64):0 < cnt M k:=by
 unfold cnt
 rw[List.count_pos_iff]
 refine List.mem_of_getElem? (i:=i - 64 * k) ?_
 rw[List.getElem?_take,if_pos (by omega),List.getElem?_drop,show 64 * k+(i - 64 * k)=i by omega,hi]
theorem cnt_zero {M:List Nat} {k:Nat} (h:∀i,64 * k≤i→i < 64 * k+64→M[i]?≠some 1):cnt M k=0:=by
 unfold cnt
 rw[List.count_eq_zero]
 intro hm
 obtain⟨j,hj⟩:=List.mem_iff_getElem?.1 hm
 rw[List.getElem?_take] at hj
 split at hj
 ·rw[List.getElem?_drop] at hj
  exact h (64 * k+j) (by omega) (by omega) hj
 ·cases hj
theorem none_free {M:List Nat} (hl:M.length=1024) (h:∀k,k < 16→cnt M k=0):1∉M:=by
 intro hm
 obtain⟨i,hi⟩:=List.mem_iff_getElem?.1 hm
 have hlt:i < 1024:=by
  rw[←hl]
  exact (List.getElem?_eq_some_iff.1 hi).1
 have:=cnt_pos (k:=i / 64) hi (by omega)
 have:=h (i / 64) (by omega)
 omega
theorem take_cnt (M:List Nat) (k:Nat):(M.take (64 * (k+1))).count 1=(M.take (64 * k)).count 1+cnt M k:=by
 unfold cnt
 rw[show 64 * (k+1)=64 * k+64 by omega,List.take_add,List.count_append]
def MapAt (ty:TypeId) (h:AH) (b:Nat) (M:List Nat):Prop:=M.length=1024∧b < h.next∧h.get b=some (.cells (mapC M (cnts M)) ty false)
theorem MapAt.near {ty:TypeId} {h h' : AH} {b c:Nat} {M:List Nat} (m:MapAt ty h b M) (n:Near c h h') (hc:b≠c):MapAt ty h' b M:=⟨m.1,by rw[n.1]; exact m.2.1,by rw[n.2 b hc]; exact m.2.2⟩
theorem MapAt.same {ty:TypeId} {h h' : AH} {b:Nat} {M:List Nat} (m:MapAt ty h b M) (hn:h.next≤h'.next) (hg:h'.get b=h.get b):MapAt ty h' b M:=⟨m.1,Nat.lt_of_lt_of_le m.2.1 hn,by rw[hg]; exact m.2.2⟩
def freed (x:Nat):Nat:=if x=3 then 1 else x
def newM (t:Nat):List Nat:=(List.range 1024).map fun i=>if 4≤i∧i < t then 1 else 0
theorem newM_len (t:Nat):(newM t).length=1024:=by simp[newM]
theorem newM_set {i:Nat} (h4:4≤i) (hi:i < 1024):(newM i).set i 1=newM (i+1):=by
 apply List.ext_getElem?
 intro j
 rw[List.getElem?_set,newM_len]
 by_cases hj:j < 1024
 ·by_cases q:i=j
  ·subst q
   rw[if_pos rfl,if_pos hj]
   simp[newM,hj,h4]
  ·rw[if_neg q]
   simp[newM,hj]
   by_cases q1:4≤j∧j < i
   ·rw[if_pos q1,if_pos ⟨q1.1,by omega⟩]
   ·rw[if_neg q1,if_neg (by omega)]
 ·rw[if_neg (by omega),List.getElem?_eq_none (by rw[newM_len]; omega),List.getElem?_eq_none (by rw[newM_len]; omega)]
theorem newM_zero:newM 4=List.replicate 1024 0:=by
 apply List.ext_getElem?
 intro j
 rw[List.getElem?_replicate]
 by_cases hj:j < 1024
 ·rw[if_pos hj]
  simp[newM,hj]
 ·rw[if_neg hj,List.getElem?_eq_none (by rw[newM_len]; omega)]
theorem mapC_zero (n m:Nat):mapC (List.replicate n 0) (List.replicate m 0)=List.replicate n (Value.int .u8 0) ++ List.replicate m (Value.int .i64 0):=by
 unfold mapC natC
 rw[List.map_replicate,List.map_replicate]
 simp
theorem cnts_zero:cnts (List.replicate 1024 0)=List.replicate 16 0:=by
 apply List.ext_getElem?
 intro k
 by_cases hk:k < 16
 ·rw[cnts_get hk,List.getElem?_replicate,if_pos hk]
  congr 1
  apply cnt_zero
  intro i _ _
  rw[List.getElem?_replicate]
  split <;> simp
 ·rw[List.getElem?_eq_none (by rw[cnts_len]; omega),List.getElem?_eq_none (by simp; omega)]
def comM (M:List Nat) (i:Nat):List Nat:=(M.take i).map freed ++ M.drop i
theorem comM_len (M:List Nat) (i:Nat):(comM M i).length=M.length:=by simp[comM]; omega
theorem comM_get {M:List Nat} {i:Nat} (hi:i < M.length):(comM M i)[i]?= M[i]?:=by
 unfold comM
 rw[List.getElem?_append_right (by simp; omega)]
 simp only[List.length_map,List.length_take,List.getElem?_drop]
 congr 1
 omega
theorem comM_step {M:List Nat} {i:Nat} (hi:i < M.length):comM M (i+1)=(comM M i).set i (freed M[i]):=by
 apply List.ext_getElem?
 intro j
 rw[List.getElem?_set,comM_len]
 unfold comM
 by_cases q:i=j
 ·subst q
  rw[if_pos rfl,if_pos hi,List.getElem?_append_left (by simp; omega)]
  simp[hi]
 ·rw[if_neg q]
  by_cases q2:j < i
  ·rw[List.getElem?_append_left (by simp; omega),List.getElem?_append_left (by simp; omega)]
   simp only[List.getElem?_map,List.getElem?_take]
   rw[if_pos (by omega),if_pos q2]
  ·rw[List.getElem?_append_right (by simp; omega),List.getElem?_append_right (by simp; omega)]
   simp only[List.length_map,List.length_take,List.getElem?_drop]
   congr 1
   omega
theorem comM_all {M:List Nat} {i:Nat} (hi:M.length≤i):comM M i=M.map freed:=by
 unfold comM
 rw[List.take_of_length_le hi,List.drop_eq_nil_of_le hi,List.append_nil]
end Go.Am
/-
 CONTRACTS:values that are built,copies,frames of several blocks.
-/
set_option linter.unusedVariables false
set_option linter.unusedSimpArgs false
namespace Go.Am
def fillL (place:Nat→Option (Nat×Nat)):List Value→List (Nat×Value)→Option (List Value)
 | cs,[]=>some cs
 | cs,(i,v) :: rest=>
   match place i with
   | none=>none
   | some (off,size)=>if v.cells.toList.length=size∧off+v.cells.toList.length≤cs.length then fillL place (cs.take off ++ v.cells.toList ++ cs.drop (off+v.cells.toList.length)) rest else none
theorem fold_put:∀(vs:List Value) (off k:Nat) (cs:Array Value),off+k+vs.length≤cs.size→
 ((vs.zipIdx k).foldl (fun (cs:Array Value) (p:Value×Nat)=>cs.setIfInBounds (off+p.2) p.1) cs).toList=cs.toList.take (off+k) ++ vs ++ cs.toList.drop (off+k+vs.length)
 | [],off,k,cs,h=>by simp
 | v :: vs,off,k,cs,h=>by
   rw[List.zipIdx_cons,List.foldl_cons,fold_put vs off (k+1) _ (by simp at h ⊢; omega)]
   simp only[Array.toList_setIfInBounds,List.length_cons]
   have hl:off+k < cs.toList.length:=by simp at h ⊢; omega
   have e1:(cs.toList.set (off+k) v).take (off+(k+1))=cs.toList.take (off+k) ++ [v]:=by
    rw[show off+(k+1)=off+k+1 by omega,List.take_succ_eq_append_getElem (by rw[List.length_set]; exact hl),List.take_set_of_le (Nat.le_refl _),List.getElem_set_self]
   have e2:(cs.toList.set (off+k) v).drop (off+(k+1)+vs.length)=cs.toList.drop (off+k+(vs.length+1)):=by
    rw[List.drop_set,if_pos (by omega)]
    congr 1
    omega
   rw[e1,e2]
   simp
theorem fill_list {place:Nat→Option (Nat×Nat)}:∀{parts:List (Nat×Value)} {cs:Array Value} {out:List Value},fillL place cs.toList parts=some out→Instr.fill place cs parts=some out.toArray
 | [],cs,out,h=>by
   simp only[fillL,Option.some.injEq] at h
   simp[Instr.fill,←h]
 | (i,v) :: rest,cs,out,h=>by
   unfold fillL at h
   unfold Instr.fill
   cases hp:place i with
   | none=>rw[hp] at h; cases h
   | some q=>
     obtain⟨off,size⟩:=q
     rw[hp] at h
     simp only at h ⊢
     split at h
     ·rename_i hc
      have h1:v.cells.size=size:=by simpa using hc.1
      have h2:off+v.cells.size≤cs.size:=by simpa using hc.2
      rw[if_neg (by simp; omega)]
      apply fill_list
      rw[←h]
      congr 1
      rw[←Array.foldl_toList,Array.toList_zipIdx]
      have:=fold_put v.cells.toList off 0 cs (by simpa using h2)
      simpa using this
     ·cases h
def placeS (P:Program) (fs:Array Field):Nat→Option (Nat×Nat):=fun i=>(fs[i]?).map fun f=>(f.offset,P.cellsOf f.type)
def structB (P:Program) (t:TypeId) (z:List Value) (pl:List (Nat×Nat)):Bool:=
 match P.underlying t with
 | some (.struct fs)=>fs.toList.all (fun f=>(P.info? f.type).isSome) && decide (fs.toList.map (fun f=>(f.offset,P.cellsOf f.type))=pl)
 | _=>false
theorem build_struct {P:Program} {t:TypeId} {z:List Value} {pl:List (Nat×Nat)} (hz:zeroCellsOf P t=some z) (hs:structB P t z pl=true) {parts:Array (Nat×Value)} {out:List Value}
 (hp:parts.toList.any (fun p=>isTup p.2)=false) (hf:fillL (fun i=>pl[i]?) z parts.toList=some out):aBuild P t parts=some (.agg out.toArray):=by
 unfold structB at hs
 split at hs
 ·rename_i fs hu
  rw[Bool.and_eq_true] at hs
  have h2:=of_decide_eq_true hs.2
  unfold aBuild
  rw[if_neg (by rw[hp]; exact Bool.false_ne_true),hz,hu]
  simp only
  rw[if_pos hs.1,fill_list (out:=out)]
  ·rfl
  ·rw[←hf,←h2]
   congr 1
   funext i
   simp
 ·cases hs
theorem copy_own {P:Program} {h:AH} {t elem:TypeId} {by' : Nat} (E:ElemOk P t elem 1 by') {b off n c:Nat} {cs:List Value} {e:TypeId} (hb:h.get b=some (.cells cs e false)) (hle:off+n≤cs.length) (hn:0 < n)
 {p:Option Addr} {m c' : Nat} {ns:List Value} (hs:Shows h p m 1 ns) (hp:p=none∨∃b off,p=some ⟨b,off,none⟩) (st:TypeId):
 ∃h',aBuiltin P h .copy #[t,st] [.slice (some ⟨b,off,none⟩) n c,.slice p m c']=some (.int .i64 ((Nat.min m n:Nat):Int),h')∧Near b h h'∧h'.get b=some (.cells (cs.take off ++ ns.take n ++ cs.drop (off+(ns.take n).length)) e false):=by
 obtain⟨hu,i,z,hi,hz,hzs,hpos,hsz,hby⟩:=E
 have hnl:ns.length=m:=by have:=hs.1; simpa using this
 have hfc:firstC h i.size (Nat.min m n) (.slice p m c')=some (ns.take n):=by
  rw[hsz]
  rcases hs.2 with h0 | ⟨b2,off2,al,e2,ro,rfl,hb2,hg2,hl2,hc2⟩
  ·subst h0
   have:ns=[]:=List.eq_nil_of_length_eq_zero hnl
   subst this
   have hmin:Nat.min 0 n=0:=Nat.zero_min n
   rw[hmin]
   rcases hp with rfl | ⟨b2,off2,rfl⟩
   ·simp[Am.firstC]
   ·simp[Am.firstC]
  ·have hmin:Nat.min m n≤m:=Nat.min_le_left _ _
   unfold Am.firstC
   cases hq:Nat.min m n * 1 with
   | zero=>
     have:m=0:=by
      have h3:min m n * 1=0:=hq
      omega
     subst this
     have:ns=[]:=List.eq_nil_of_length_eq_zero hnl
     rw[this]
     simp
   | succ q=>
     simp only[hg2]
     rw[if_pos ⟨hmin,by omega⟩,←hc2,List.take_take]
     congr 2
     rw[←hq,Nat.mul_one,Nat.mul_one]
     exact Nat.min_comm _ _
 have htl:(ns.take n).length=Nat.min m n:=by rw[List.length_take,hnl]; exact Nat.min_comm _ _
 show ∃h',(match aCopy P h t (.slice (some ⟨b,off,none⟩) n c) (.slice p m c') with | x=>x)=_∧_
 unfold aCopy
 simp only[hu,hi,lenV,hfc]
 cases hns:ns.take n with
 | nil=>
   refine⟨h,rfl,Near.refl _ _,?_⟩
   simp only[List.length_nil,List.append_nil,Nat.add_zero,List.take_append_drop]
   exact hb
 | cons x xs=>
   have hle2:off+(x :: xs).length≤cs.length:=by
    rw[←hns,htl]
    have:Nat.min m n≤n:=Nat.min_le_right _ _
    omega
   simp only
   rw[if_neg (by omega)]
   have:aStoreCells h b off (x :: xs)=some (h.set b (.cells (cs.take off ++ (x :: xs) ++ cs.drop (off+(x :: xs).length)) e false)):=by
    unfold aStoreCells
    rw[hb]
    simp only
    rw[if_pos hle2]
   rw[this]
   exact⟨_,rfl,near_set _ _ _,get_set_self _ _ _⟩
/-! ## Frames of several blocks -/
def Fr (F:List Nat) (h h' : AH) (F' : List Nat):Prop:=h.next≤h'.next∧(∀c,c < h.next→c∉F→h'.get c=h.get c)∧(∀c∈F',c∈F∨h.next≤c)
theorem Fr.refl (F:List Nat) (h:AH):Fr F h h F:=⟨Nat.le_refl _,fun _ _ _=>rfl,fun _ hc=>.inl hc⟩
theorem Fr.trans {F F' F'' : List Nat} {h1 h2 h3:AH} (a:Fr F h1 h2 F') (b:Fr F' h2 h3 F''):Fr F h1 h3 F'':=
 ⟨Nat.le_trans a.1 b.1,fun c hc hn=>by
   rw[b.2.1 c (Nat.lt_of_lt_of_le hc a.1) (fun q=>(a.2.2 c q).elim hn (fun q=>absurd hc (by omega))),a.2.1 c hc hn],
 fun c hc=>by
  rcases b.2.2 c hc with q | q
  ·exact a.2.2 c q
  ·exact .inr (Nat.le_trans a.1 q)⟩
theorem Old.fr {h h' : AH} (o:Old h h') (F:List Nat):Fr F h h' F:=⟨o.1,fun c hc _=>o.2 c hc,fun _ hc=>.inl hc⟩
theorem Near.fr {b:Nat} {h h' : AH} (n:Near b h h') {F:List Nat} (hb:b∈F):Fr F h h' F:=⟨by rw[n.1]; exact Nat.le_refl _,fun c hc hn=>n.2 c (fun q=>hn (q▸hb)),fun _ hc=>.inl hc⟩
theorem Fr.near_new {F F' : List Nat} {h g g' : AH} (f:Fr F h g F') {b:Nat} (n:Near b g g') (hb:h.next≤b):Fr F h g' F':=⟨by rw[n.1]; exact f.1,fun c hc hn=>by rw[n.2 c (by omega)]; exact f.2.1 c hc hn,f.2.2⟩
theorem Fr.next {F F' : List Nat} {h h' : AH} (f:Fr F h h' F'):h.next≤h'.next:=f.1
theorem Shows.fr {F F' : List Nat} {h h' : AH} {p:Option Addr} {n sz:Nat} {cs:List Value} (s:Shows h p n sz cs) (f:Fr F h h' F') (ha:∀a,p=some a→a.block∉F):Shows h' p n sz cs:=by
 refine⟨s.1,?_⟩
 rcases s.2 with h0 | ⟨b,off,al,e,ro,hp,hb,hg,hl,hc⟩
 ·exact .inl h0
 ·exact .inr ⟨b,off,al,e,ro,hp,Nat.lt_of_lt_of_le hb f.1,by rw[f.2.1 b hb (ha _ hp)]; exact hg,hl,hc⟩
def bl (p:Option Addr):List Nat:=match p with | some a=>[a.block] | none=>[]
theorem buildSlice_one {P:Program} {h:AH} {t elem:TypeId} {sz by' : Nat} (E:ElemOk P t elem sz by') {z:List Value} (hz:zeroCellsOf P elem=some z) (hzl:z.length=sz) (hsz:sz≤16777216) {l:List Value} (hl:l.length=sz):
 aBuildSlice P h t 1 #[(0,.agg l.toArray)]=some (.slice (some ⟨h.next,0,none⟩) 1 1,h.alloc (.cells l elem false)):=by
 obtain⟨hu,i,z0,hi,hz0,hzs,hpos,hs,hby⟩:=E
 have hf:Instr.fill (fun j=>some (j * i.size,i.size)) ((List.replicate 1 z).flatten).toArray [(0,.agg l.toArray)]=some l.toArray:=by
  apply fill_list
  simp only[fillL]
  rw[if_pos (by simp[Value.cells,hs,hl,hzl])]
  simp only[Option.some.injEq,Nat.zero_mul,List.take_zero,List.nil_append]
  simp[Value.cells,hl,hzl]
 have ht:(#[((0:Nat),Value.agg l.toArray)]).toList.any (fun p=>isTup p.2)=false:=rfl
 unfold aBuildSlice
 rw[if_neg (by rw[ht]; exact Bool.false_ne_true),hu]
 simp only[hi,hz]
 rw[if_pos ⟨by omega,by omega,by decide⟩]
 rw[hf]
end Go.Am
namespace Go.Am
/-! ## What a value reads as,as a key -/
theorem aKey_int {P:Program} {t:TypeId} {q:IntKind} (hu:P.underlying t=some (.int q)) (d:Nat) (n:Int):P.keyLits (d+1) t [.int q n]=if (Lit.int q n).wf=true then some [.int q n] else none:=by
 rw[Program.keyLits.eq_def]
 dsimp only
 rw[hu]
 simp
theorem aKey_string {P:Program} {t:TypeId} (hu:P.underlying t=some .string) (d:Nat) (s:ByteArray):P.keyLits (d+1) t [.string s]=if s.size≤maxLen then some [.string s.data.toList] else none:=by
 rw[Program.keyLits.eq_def]
 dsimp only
 rw[hu]
theorem aKey_struct {P:Program} {t:TypeId} {fs:Array Field} (hu:P.underlying t=some (.struct fs)) (d:Nat) (cs:List Value):
 P.keyLits (d+1) t cs=if cs.length=P.cellsOf t∧fs.all (·.name != "_")=true then (fs.toList.mapM fun f=>P.keyLits d f.type ((cs.drop f.offset).take (P.cellsOf f.type))).map List.flatten else none:=by
 rw[Program.keyLits.eq_def]
 dsimp only
 rw[hu]
theorem lits3 {a b c x y z:Int} {k1 k2 k3:IntKind}:litsEq [.int k1 a,.int k2 b,.int k3 c] [.int k1 x,.int k2 y,.int k3 z]=decide (a=x∧b=y∧c=z):=by
 by_cases h1:a=x <;> by_cases h2:b=y <;> by_cases h3:c=z <;> simp[litsEq,litEq,h1,h2,h3]
theorem aKey_eq {P:Program} {t:TypeId} {cs:Array Value} (hf:(Value.agg cs).formed P t=true):keyA P t (.agg cs)=P.keyLits 40 t cs.toList:=by
 unfold keyA
 rw[hf,cond_true]
 simp only[Value.cells]
theorem aKey_structN {P:Program} {t:TypeId} {fs:Array Field} (hu:P.underlying t=some (.struct fs)) {n d:Nat} (hn:n=d+1) (cs:List Value):
 P.keyLits n t cs=if cs.length=P.cellsOf t∧fs.all (·.name != "_")=true then (fs.toList.mapM fun f=>P.keyLits d f.type ((cs.drop f.offset).take (P.cellsOf f.type))).map List.flatten else none:=by
 subst hn
 exact aKey_struct hu d cs
theorem aKey_intN {P:Program} {t:TypeId} {q:IntKind} (hu:P.underlying t=some (.int q)) {m d:Nat} (hn:m=d+1) (n:Int):P.keyLits m t [.int q n]=if (Lit.int q n).wf=true then some [.int q n] else none:=by
 subst hn
 exact aKey_int hu d n
theorem aKey_stringN {P:Program} {t:TypeId} (hu:P.underlying t=some .string) {m d:Nat} (hn:m=d+1) (s:ByteArray):P.keyLits m t [.string s]=if s.size≤maxLen then some [.string s.data.toList] else none:=by
 subst hn
 exact aKey_string hu d s
theorem wf64 {x:Int} (h1:-9223372036854775808≤x) (h2:x≤9223372036854775807):(Lit.int .i64 x).wf=true:=by
 simp[Lit.wf,IntKind.min,IntKind.max,IntKind.signed,IntKind.bits]
 omega
end Go.Am
/-
 ARGUMENTS READ AS TREES. What memory's reading (DataW.trod) says of an argument becomes blocks of the abstract machine,one a slice,all read only; what stands in them is told by `Rd` (by the type).
-/
set_option linter.unusedVariables false
set_option linter.unusedSimpArgs false
namespace Go.Am
open Go.ChangeShapes Go.WideShapes
section
variable (P:Program)
def RdL (f:TypeId→List Value→Prop):List TypeId→List Value→Prop
 | [],cs=>cs=[]
 | t :: ts,cs=>P.cellsOf t≤cs.length∧f t (cs.take (P.cellsOf t))∧RdL f ts (cs.drop (P.cellsOf t))
def Rd (h:AH):Nat→TypeId→List Value→Prop
 | 0,_,_=>False
 | g+1,t,cs=>match P.underlying t with
   | some .bool=>∃b,cs=[.bool b]
   | some (.int k)=>∃n,cs=[.int k n]∧(Lit.int k n).wf=true
   | some .string=>∃s,cs=[.string s]∧s.size≤maxLen∧s.size≤reachBytes
   | some (.slice e)=>∃p n c al,cs=[.slice p n c]∧(p=none∨∃b off,p=some ⟨b,off,none⟩)∧(n≤maxLen∧(0 < n→n≤c∧c < openCap))∧n * P.bytesOf e≤reachBytes∧Shows h p n (P.cellsOf e) al∧RdL P (Rd h g) (List.replicate n e) al
   | some (.struct fs)=>RdL P (Rd h g) (fs.toList.map (·.type)) cs
   | some (.array n e)=>RdL P (Rd h g) (List.replicate n e) cs
   | _=>False
def tilesB:Nat→List Field→Nat→Bool
 | a,[],n=>a == n
 | a,f :: fs,n=>f.offset == a && tilesB (a+P.cellsOf f.type) fs n
def okT:Nat→TypeId→Bool
 | 0,_=>false
 | g+1,t=>match P.underlying t with
   | some .bool | some (.int _) | some .string=>P.cellsOf t == 1
   | some (.slice e)=>P.cellsOf t == 1 && Nat.blt 0 (P.cellsOf e) && okT g e
   | some (.struct fs)=>tilesB P 0 fs.toList (P.cellsOf t) && fs.toList.all fun f=>okT g f.type
   | some (.array n e)=>P.cellsOf t == n * P.cellsOf e && okT g e
   | _=>false
end
section
variable {P:Program}
theorem RdL.mono {f f' : TypeId→List Value→Prop} (hf:∀t cs,f t cs→f' t cs):∀{ts:List TypeId} {cs:List Value},RdL P f ts cs→RdL P f' ts cs
 | [],_,k=>k
 | _ :: _,_,k=>⟨k.1,hf _ _ k.2.1,RdL.mono hf k.2.2⟩
theorem RdL.rep {f:TypeId→List Value→Prop} {e:TypeId}:∀{n:Nat} {cs:List Value},RdL P f (List.replicate n e) cs→cs.length=n * P.cellsOf e∧∀i,i < n→f e ((cs.drop (i * P.cellsOf e)).take (P.cellsOf e))
 | 0,cs,k=>⟨by rw[show cs=[] from k]; simp,fun i hi=>absurd hi (Nat.not_lt_zero _)⟩
 | n+1,cs,k=>by
   obtain⟨k1,k2,k3⟩:=k
   obtain⟨r1,r2⟩:=RdL.rep (n:=n) k3
   rw[List.length_drop] at r1
   refine⟨by rw[Nat.add_mul]; omega,fun i hi=>?_⟩
   cases i with
   | zero=>simpa using k2
   | succ i=>
     have:=r2 i (by omega)
     rw[List.drop_drop] at this
     rw[show (i+1) * P.cellsOf e=P.cellsOf e+i * P.cellsOf e by rw[Nat.add_mul]; omega]
     exact this
theorem Rd.mono {h h' : AH} (o:Old h h'):∀(g:Nat) (t:TypeId) (cs:List Value),Rd P h g t cs→Rd P h' g t cs
 | 0,_,_,k=>k
 | g+1,t,cs,k=>by
   unfold Rd at k ⊢
   split <;> rename_i hu <;> simp only[hu] at k
   ·exact k
   ·exact k
   ·exact k
   ·obtain⟨p,n,c,al,k1,k2,k3,k3b,k4,k5⟩:=k
    exact⟨p,n,c,al,k1,k2,k3,k3b,k4.old o,k5.mono (Rd.mono o g)⟩
   ·exact k.mono (Rd.mono o g)
   ·exact k.mono (Rd.mono o g)
end

section
variable {P:Program} {w:World} {φ:Fi} {h:AH}
structure St (P:Program) (φ:Fi) (h:AH) (w:World):Prop where
 rel:R P φ h w
 ro:AllRo h
 free:∀b,h.next≤b→φ b=none
theorem St.empty (w:World):St P (fun _=>none) ⟨.nil,0⟩ w:=⟨R.empty 0,fun b o hb=>by simp[AH.get,Tr.get_nil] at hb,fun _ _=>rfl⟩
def named (φ:Fi) (b:Nat) (r:Rec):Fi:=fun c=>if c=b then some r else φ c
theorem named_le {b:Nat} {r:Rec} (hb:φ b=none):Le φ (named φ b r):=by
 intro c q e
 unfold named
 by_cases hc:c=b
 ·subst hc; rw[hb] at e; cases e
 ·rw[if_neg hc]; exact e
theorem named_self {b:Nat} {r:Rec}:named φ b r b=some r:=if_pos rfl
theorem St.block (s:St P φ h w) {B:Nat} {C:Array Value} {e:TypeId} {m:Nat×Nat} (hw:w.heap[B]?= some (.cells C e m)) {off len:Nat} (hl:off+len≤C.size) {al:List Value} (hlr:LR φ al ((C.toList.drop off).take len)):
 St P (named φ h.next ⟨B,off,C.size,P.cellsOf e⟩) (h.alloc (.cells al e true)) w:=by
 have hle:=named_le (r:=⟨B,off,C.size,P.cellsOf e⟩) (s.free h.next (Nat.le_refl _))
 refine⟨⟨fun b o r hb hr=>?_,fun b1 b2 o1 o2 r1 r2 h1 h2 k1 k2 he=>?_,fun b o hb=>?_⟩,fun b o hb=>?_,fun b hb=>?_⟩
 ·rw[AH.get_alloc] at hb
  by_cases hbn:b=h.next
  ·subst hbn
   rw[if_pos rfl] at hb
   cases hb
   rw[named_self] at hr
   cases hr
   refine⟨_,hw,rfl,rfl,rfl,⟨C.toList.take off,(C.toList.drop off).take len,(C.toList.drop off).drop len,?_,?_,hlr.mono hle⟩,fun z=>by cases z⟩
   ·rw[List.append_assoc,List.take_append_drop,List.take_append_drop]
   ·rw[List.length_take]; simp; omega
  ·rw[if_neg hbn] at hb
   unfold named at hr
   rw[if_neg hbn] at hr
   obtain⟨o',q1,q2⟩:=s.rel.obj b o r hb hr
   exact⟨o',q1,q2.mono hle⟩
 ·refine .inr ⟨?_,?_⟩
  ·rw[AH.get_alloc] at h1
   by_cases hbn:b1=h.next
   ·rw[if_pos hbn] at h1; cases h1; rfl
   ·rw[if_neg hbn] at h1; exact s.ro _ _ h1
  ·rw[AH.get_alloc] at h2
   by_cases hbn:b2=h.next
   ·rw[if_pos hbn] at h2; cases h2; rfl
   ·rw[if_neg hbn] at h2; exact s.ro _ _ h2
 ·rw[AH.get_alloc] at hb
  show b < h.next+1
  by_cases hbn:b=h.next
  ·omega
  ·rw[if_neg hbn] at hb
   have:=s.rel.lt b o hb
   omega
 ·rw[AH.get_alloc] at hb
  by_cases hbn:b=h.next
  ·rw[if_pos hbn] at hb; cases hb; rfl
  ·rw[if_neg hbn] at hb; exact s.ro _ _ hb
 ·have hb:h.next+1≤b:=hb
  unfold named
  rw[if_neg (by omega)]
  exact s.free b (by omega)
theorem St.name (s:St P φ h w) (r:Rec):St P (named φ h.next r) ⟨h.tr,h.next+1⟩ w:=by
 have hle:=named_le (r:=r) (s.free h.next (Nat.le_refl _))
 refine⟨⟨fun b o r' hb hr=>?_,fun b1 b2 o1 o2 r1 r2 h1 h2 k1 k2 he=>.inr ⟨s.ro _ _ h1,s.ro _ _ h2⟩,fun b o hb=>?_⟩,fun b o hb=>s.ro b o hb,fun b hb=>?_⟩
 ·have hb:h.get b=some o:=hb
  have hbn:b≠h.next:=by have:=s.rel.lt b o hb; omega
  unfold named at hr
  rw[if_neg hbn] at hr
  obtain⟨o',q1,q2⟩:=s.rel.obj b o r' hb hr
  exact⟨o',q1,q2.mono hle⟩
 ·have:=s.rel.lt b o hb
  show b < h.next+1
  omega
 ·have hb:h.next+1≤b:=hb
  unfold named
  rw[if_neg (by omega)]
  exact s.free b (by omega)
structure Ext (P:Program) (w:World) (φ:Fi) (h:AH) (φ' : Fi) (h' : AH):Prop where
 le:Le φ φ'
 old:Old h h'
 st:St P φ' h' w
theorem Ext.refl (s:St P φ h w):Ext P w φ h φ h:=⟨Le.refl _,Old.refl _,s⟩
theorem Ext.trans {φ2 φ3:Fi} {h2 h3:AH} (a:Ext P w φ h φ2 h2) (b:Ext P w φ2 h2 φ3 h3):Ext P w φ h φ3 h3:=⟨a.le.trans b.le,a.old.trans b.old,b.st⟩

theorem cells_block {a:Addr} {n:Nat} {cs:List Value} (hc:w.cells? 0 a n=some cs) (hn:0 < n):
 a.spot=none∧∃C e m,w.heap[a.block]?= some (.cells C e m)∧a.off+n≤C.size∧cs=(C.toList.drop a.off).take n:=by
 obtain⟨-,hl,hi⟩:=World.cells?_some hc
 have h0:=hi 0 hn
 rw[List.getElem?_eq_getElem (by omega)] at h0
 simp only[Addr.add,if_true] at h0
 have hC:∃C e m,w.heap[a.block]?= some (.cells C e m)∧a.spot=none:=by
  unfold World.cell? at h0
  cases hb:w.heap[a.block]? with
  | none=>simp[hb] at h0
  | some o=>
    simp only[hb] at h0
    cases o <;> simp at h0
    exact⟨_,_,_,rfl,h0.1⟩
 obtain⟨C,e,m,hb,hsp⟩:=hC
 have hcell:∀i,i < n→C[a.off+i]?= cs[i]?:=by
  intro i hin
  have:=hi i hin
  unfold World.cell? Addr.add at this
  by_cases h0:i=0
  ·subst h0
   simpa[hb,hsp] using this
  ·simpa[hb,h0] using this
 have hsz:a.off+n≤C.size:=by
  have:=hcell (n - 1) (by omega)
  rw[List.getElem?_eq_getElem (by omega)] at this
  have:=(Array.getElem?_eq_some_iff.1 this).1
  omega
 refine⟨hsp,C,e,m,hb,hsz,List.ext_getElem? fun i=>?_⟩
 rw[List.getElem?_take]
 split
 ·rename_i hin
  rw[List.getElem?_drop]
  exact (hcell i hin).symm.trans Array.getElem?_toList.symm
 ·rw[List.getElem?_eq_none (by omega)]

variable {H:Type} {enc:TypeId×Value→H} {held:Bool}
def Tr1 (enc:TypeId×Value→H) (P:Program) (w:World) (held:Bool) (t:TypeId) (cs:List Value):Prop:=∃fuel x,DataW.trod enc P w 0 (fun _=>true) held fuel t cs=some x∧(x.1.weights P t).all (·≤reachBytes)=true
theorem weightsAll_mem {e:TypeId}:∀{ds:List (DataW H)},(DataW.weightsAll P e ds).all (·≤reachBytes)=true→∀d∈ds,(d.weights P e).all (·≤reachBytes)=true
 | d :: ds,k,x,hx=>by
   rw[DataW.weightsAll,List.all_append,Bool.and_eq_true] at k
   rw[List.mem_cons] at hx
   rcases hx with rfl | hx
   ·exact k.1
   ·exact weightsAll_mem k.2 x hx
theorem weightsEach_at:∀{ts:List TypeId} {ds:List (DataW H)},(DataW.weightsEach P ts ds).all (·≤reachBytes)=true→∀(i:Nat) (t:TypeId) (d:DataW H),ts[i]?= some t→ds[i]?= some d→(d.weights P t).all (·≤reachBytes)=true
 | t :: ts,d :: ds,k,i,t',d',h1,h2=>by
   rw[DataW.weightsEach,List.all_append,Bool.and_eq_true] at k
   cases i with
   | zero=>simp only[List.getElem?_cons_zero,Option.some.injEq] at h1 h2; subst h1 h2; exact k.1
   | succ i=>exact weightsEach_at k.2 i t' d' (by simpa using h1) (by simpa using h2)
theorem tiles_le:∀(fs:List Field) (a n:Nat),tilesB P a fs n=true→a≤n
 | [],a,n,k=>by simp only[tilesB,beq_iff_eq] at k; omega
 | f :: fs,a,n,k=>by
   simp only[tilesB,Bool.and_eq_true,beq_iff_eq] at k
   have:=tiles_le fs _ n k.2
   omega
theorem tiles_rdl {F:TypeId→List Value→Prop} {cs:List Value}:∀(fs:List Field) (a:Nat),tilesB P a fs cs.length=true→(∀f∈fs,F f.type ((cs.drop f.offset).take (P.cellsOf f.type)))→RdL P F (fs.map (·.type)) (cs.drop a)
 | [],a,k,_=>by
   simp only[tilesB,beq_iff_eq] at k
   exact List.drop_eq_nil_of_le (by omega)
 | f :: fs,a,k,hf=>by
   simp only[tilesB,Bool.and_eq_true,beq_iff_eq] at k
   have hle:=tiles_le fs _ _ k.2
   refine⟨by show P.cellsOf f.type≤_; rw[List.length_drop]; omega,by have:=hf f (List.mem_cons_self); rw[k.1] at this; exact this,?_⟩
   rw[List.drop_drop]
   exact tiles_rdl fs _ k.2 fun g hg=>hf g (List.mem_cons_of_mem _ hg)
theorem rep_rdl {F:TypeId→List Value→Prop} {e:TypeId}:∀(n:Nat) (cs:List Value),cs.length=n * P.cellsOf e→(∀i,i < n→F e ((cs.drop (i * P.cellsOf e)).take (P.cellsOf e)))→RdL P F (List.replicate n e) cs
 | 0,cs,hl,_=>List.eq_nil_of_length_eq_zero (by omega)
 | n+1,cs,hl,hf=>by
   rw[Nat.add_mul] at hl
   refine⟨by omega,by simpa using hf 0 (by omega),rep_rdl n _ (by rw[List.length_drop]; omega) fun i hi=>?_⟩
   have:=hf (i+1) (by omega)
   rw[List.drop_drop]
   rw[show (i+1) * P.cellsOf e=P.cellsOf e+i * P.cellsOf e by rw[Nat.add_mul]; omega] at this
   exact this
theorem rows {g:Nat} (ih:∀(t:TypeId) (cs:List Value) (φ:Fi) (h:AH),okT P g t=true→Tr1 enc P w held t cs→St P φ h w→∃φ' h' acs,Ext P w φ h φ' h'∧LR φ' acs cs∧Rd P h' g t acs):
 ∀(ts:List TypeId) (cs:List Value) (φ:Fi) (h:AH),(∀t∈ts,okT P g t=true)→RdL P (Tr1 enc P w held) ts cs→St P φ h w→∃φ' h' acs,Ext P w φ h φ' h'∧LR φ' acs cs∧RdL P (Rd P h' g) ts acs
 | [],cs,φ,h,_,k,s=>⟨φ,h,[],Ext.refl s,by rw[show cs=[] from k]; trivial,rfl⟩
 | t :: ts,cs,φ,h,ho,k,s=>by
   obtain⟨k1,k2,k3⟩:=k
   obtain⟨φ1,h1,a1,e1,l1,r1⟩:=ih t _ φ h (ho t List.mem_cons_self) k2 s
   obtain⟨φ2,h2,a2,e2,l2,r2⟩:=rows ih ts _ φ1 h1 (fun u hu=>ho u (List.mem_cons_of_mem _ hu)) k3 e1.st
   have hl1:a1.length=P.cellsOf t:=by rw[l1.length,List.length_take]; omega
   refine⟨φ2,h2,a1 ++ a2,e1.trans e2,?_,?_⟩
   ·have:=(l1.mono e2.le).append l2
    rwa [List.take_append_drop] at this
   ·refine⟨by rw[List.length_append]; omega,?_,?_⟩
    ·rw[←hl1,List.take_left]; exact r1.mono e2.old
    ·rw[←hl1,List.drop_left]; exact r2
theorem lr_one {φ:Fi} {v v' : Value} (r:VR φ v v') (hm:isMulti v=false):LR φ [v] [v']:=⟨r,hm,trivial⟩
theorem tread:∀(g:Nat) (t:TypeId) (cs:List Value) (φ:Fi) (h:AH),okT P g t=true→Tr1 enc P w held t cs→St P φ h w→∃φ' h' acs,Ext P w φ h φ' h'∧LR φ' acs cs∧Rd P h' g t acs
 | 0,t,cs,φ,h,ho,_,_=>by simp[okT] at ho
 | g+1,t,cs,φ,h,ho,⟨fuel,x,hx,hwt⟩,s=>by
   unfold okT at ho
   split at ho
   ·rename_i hu
    obtain⟨b,rfl, -⟩:=DataW.trod_bool hu hx
    exact⟨φ,h,[.bool b],Ext.refl s,lr_one (.bool b) rfl,by unfold Rd; simp[hu]⟩
   ·rename_i k hu
    obtain⟨n,rfl, -,hw⟩:=DataW.trod_int hu hx
    exact⟨φ,h,[.int k n],Ext.refl s,lr_one (.int k n) rfl,by unfold Rd; simp only[hu]; exact⟨n,rfl,hw⟩⟩
   ·rename_i hu
    obtain⟨b,rfl,rfl,hw⟩:=DataW.trod_string hu hx
    have hb2:b.size≤reachBytes:=by
     simp only[DataW.weights,List.all_cons,List.all_nil,Bool.and_true,decide_eq_true_eq,Array.length_toList] at hwt
     exact hwt
    exact⟨φ,h,[.string b],Ext.refl s,lr_one (.string b) rfl,by unfold Rd; simp only[hu]; exact⟨b,rfl,hw,hb2⟩⟩
   ·rename_i e hu
    simp only[Bool.and_eq_true,beq_iff_eq,Nat.blt_eq] at ho
    obtain⟨⟨ho1,ho2⟩,ho3⟩:=ho
    rcases DataW.trod_slice hu hx with ⟨rfl, -⟩ | ⟨a,n,c,elems,rest,m,rfl,rfl,rfl, -,hnc,hc,hel,hE,hR, -⟩
    ·exact⟨φ,h,[.slice none 0 0],Ext.refl s,lr_one (.sliceNil 0 0 (by decide)) rfl,by unfold Rd; simp only[hu]; exact⟨none,0,0,[],rfl,.inl rfl,⟨Nat.zero_le _,fun z=>absurd z (Nat.lt_irrefl _)⟩,by simp,⟨by simp,.inl rfl⟩,rfl⟩⟩
    obtain⟨hrl,hR⟩:=hR rfl
    rw[DataW.weights,hu] at hwt
    simp only[List.all_cons,List.all_append,Bool.and_eq_true,decide_eq_true_eq,List.length_map] at hwt
    obtain⟨hw0,hw1,hw2⟩:=hwt
    have hnb:n * P.bytesOf e≤reachBytes:=Nat.le_trans (Nat.mul_le_mul_right _ (by omega)) hw0
    rcases Nat.eq_zero_or_pos c with hc0 | hc0
    ·have hn0:n=0:=by omega
     subst hc0 hn0
     refine⟨named φ h.next ⟨0,1,0,0⟩,⟨h.tr,h.next+1⟩,[.slice (some ⟨h.next,0,none⟩) 0 openCap],⟨named_le (s.free _ (Nat.le_refl _)),⟨Nat.le_succ _,fun _ _=>rfl⟩,s.name _⟩,lr_one (.sliceE named_self (.inr (by decide))) rfl,?_⟩
     unfold Rd
     simp only[hu]
     exact⟨_,0,openCap,[],rfl,.inr ⟨_,_,rfl⟩,⟨Nat.zero_le _,fun z=>absurd z (Nat.lt_irrefl _)⟩,by simp,⟨by simp,.inl rfl⟩,rfl⟩
    have hat:∀i,i < c→∃csi y,w.cells? 0 (a.add (i * P.cellsOf e)) (P.cellsOf e)=some csi∧DataW.trod enc P w 0 (fun _=>true) held m e csi=some y∧(y.1.weights P e).all (·≤reachBytes)=true:=by
     intro i hi
     have:∃y,(w.cells? 0 (a.add (i * P.cellsOf e)) (P.cellsOf e)).bind (DataW.trod enc P w 0 (fun _=>true) held m e)=some y∧(y.1.weights P e).all (·≤reachBytes)=true:=by
      by_cases hin:i < n
      ·exact⟨elems[i]'(by omega),by rw[hE i hin,List.getElem?_eq_getElem],weightsAll_mem hw1 _ (List.mem_map_of_mem (List.getElem_mem _))⟩
      ·obtain⟨j,rfl⟩:∃j,i=n+j:=⟨i - n,by omega⟩
       exact⟨rest[j]'(by omega),by rw[hR j (by omega),List.getElem?_eq_getElem],weightsAll_mem hw2 _ (List.mem_map_of_mem (List.getElem_mem _))⟩
     obtain⟨y,hy,hyw⟩:=this
     obtain⟨csi,h1,h2⟩:=Option.bind_eq_some_iff.1 hy
     exact⟨csi,y,h1,h2,hyw⟩
    have hblk:∀i,i < c→a.spot=none∧∃C e' mm,w.heap[a.block]?= some (.cells C e' mm)∧a.off+(i+1) * P.cellsOf e≤C.size∧Tr1 enc P w held e ((C.toList.drop (a.off+i * P.cellsOf e)).take (P.cellsOf e)):=by
     intro i hi
     obtain⟨csi,y,h1,h2,hyw⟩:=hat i hi
     obtain⟨g1,C,e',mm,g2,g3,g4⟩:=cells_block h1 ho2
     have hbo:(a.add (i * P.cellsOf e)).block=a.block∧(a.add (i * P.cellsOf e)).off=a.off+i * P.cellsOf e:=by
      unfold Addr.add
      split
      ·rename_i z; rw[z]; exact⟨rfl,rfl⟩
      ·exact⟨rfl,rfl⟩
     rw[hbo.1] at g2
     rw[hbo.2] at g3 g4
     have hsp:a.spot=none:=by
      obtain⟨cs0,y0,h10, -⟩:=hat 0 hc0
      have:=(cells_block h10 ho2).1
      simpa[Addr.add] using this
     exact⟨hsp,C,e',mm,g2,by rw[Nat.add_mul]; omega,m,y,by rw[←g4]; exact h2,hyw⟩
    obtain⟨hsp,C,e',mm,hC, -, -⟩:=hblk 0 hc0
    have hsz:a.off+n * P.cellsOf e≤C.size:=by
     rcases Nat.eq_zero_or_pos n with hn0 | hn0
     ·obtain⟨-,C',_,_,q1,q2, -⟩:=hblk 0 hc0
      rw[hC] at q1; cases q1
      rw[hn0]; omega
     ·obtain⟨-,C',_,_,q1,q2, -⟩:=hblk (n - 1) (by omega)
      rw[hC] at q1; cases q1
      rw[show n - 1+1=n by omega] at q2
      exact q2
    have hml:((C.toList.drop a.off).take (n * P.cellsOf e)).length=n * P.cellsOf e:=by rw[List.length_take,List.length_drop]; simp; omega
    have hmid:RdL P (Tr1 enc P w held) (List.replicate n e) ((C.toList.drop a.off).take (n * P.cellsOf e)):=by
     refine rep_rdl n _ hml fun i hi=>?_
     obtain⟨-,C',_,_,q1,q2,q3⟩:=hblk i (by omega)
     rw[hC] at q1; cases q1
     have hin:(i+1) * P.cellsOf e≤n * P.cellsOf e:=Nat.mul_le_mul_right _ hi
     rw[Nat.add_mul] at hin
     rw[List.drop_take,List.take_take,List.drop_drop,Nat.min_eq_left (by omega)]
     exact q3
    obtain⟨φ1,h1,al,e1,l1,r1⟩:=rows (tread g) (List.replicate n e) _ φ h (fun u hu=>by rw[List.mem_replicate] at hu; rw[hu.2]; exact ho3) hmid s
    have hal:al.length=n * P.cellsOf e:=by rw[l1.length,hml]
    refine⟨_,_,[.slice (some ⟨h1.next,0,none⟩) n c],e1.trans ⟨named_le (e1.st.free _ (Nat.le_refl _)),Old_alloc _ _,e1.st.block hC hsz l1⟩,lr_one ?_ rfl,?_⟩
    ·have hco:c < openCap:=by
      have:maxLen=9223372036854775807:=by decide
      simp only[openCap]; omega
     obtain⟨ab,ao,asp⟩:=a
     simp only at hsp
     subst hsp
     exact VR.slice named_self (hco)
    ·unfold Rd
     simp only[hu]
     refine⟨_,n,c,al,rfl,.inr ⟨_,_,rfl⟩,⟨by omega,fun _=>⟨hnc,(show c < openCap from Nat.lt_of_le_of_lt hc (by decide))⟩⟩,hnb,⟨hal,.inr ⟨_,0,al,_,true,rfl,Nat.lt_succ_self _,get_alloc_next _ _,by omega,?_⟩⟩,r1.mono (Rd.mono (Old_alloc _ _) g)⟩
     rw[List.drop_zero,←hal,List.take_length]
   ·rename_i fs hu
    simp only[Bool.and_eq_true,List.all_eq_true] at ho
    obtain⟨ho1,ho2⟩:=ho
    obtain⟨xs,m,rfl,rfl,hl,hxl,hf⟩:=DataW.trod_struct hu hx
    rw[DataW.weights,hu] at hwt
    simp only at hwt
    rw[←hl] at ho1
    have hr:RdL P (Tr1 enc P w held) (fs.toList.map (·.type)) (cs.drop 0):=tiles_rdl fs.toList 0 ho1 fun f hfm=>by
     obtain⟨i,hi,hfi⟩:=List.mem_iff_getElem.1 hfm
     have hfi' : fs[i]?= some f:=by rw[←Array.getElem?_toList,List.getElem?_eq_getElem hi,hfi]
     have:=hf i f hfi'
     have hix:i < xs.length:=by rw[hxl]; simpa using hi
     rw[List.getElem?_eq_getElem hix] at this
     exact⟨m,_,this,weightsEach_at hwt i f.type _ (by rw[List.getElem?_map,List.getElem?_eq_getElem hi,hfi]; rfl) (by rw[List.getElem?_map,List.getElem?_eq_getElem hix]; rfl)⟩
    rw[List.drop_zero] at hr
    obtain⟨φ1,h1,al,e1,l1,r1⟩:=rows (tread g) _ _ φ h (fun u hu=>by obtain⟨f,hf,rfl⟩:=List.mem_map.1 hu; exact ho2 f hf) hr s
    exact⟨φ1,h1,al,e1,l1,by unfold Rd; simp only[hu]; exact r1⟩
   ·rename_i n e hu
    simp only[Bool.and_eq_true,beq_iff_eq] at ho
    obtain⟨ho1,ho2⟩:=ho
    obtain⟨xs,m,rfl,rfl,hl,hxl,hf⟩:=DataW.trod_array hu hx
    rw[DataW.weights,hu] at hwt
    simp only at hwt
    have hr:RdL P (Tr1 enc P w held) (List.replicate n e) cs:=rep_rdl n cs (by rw[hl,ho1]) fun i hi=>by
     have:=hf i hi
     rw[List.getElem?_eq_getElem (by omega)] at this
     exact⟨m,_,this,weightsAll_mem hwt _ (List.mem_map_of_mem (List.getElem_mem _))⟩
    obtain⟨φ1,h1,al,e1,l1,r1⟩:=rows (tread g) _ _ φ h (fun u hu=>by rw[List.mem_replicate] at hu; rw[hu.2]; exact ho2) hr s
    exact⟨φ1,h1,al,e1,l1,by unfold Rd; simp only[hu]; exact r1⟩
   ·exact absurd ho (by simp)
end
end Go.Am
/-
 ARGUMENTS,LAW BY LAW:all arguments of a call as values of the abstract machine; what was read is read again where nothing that was is another.
-/
set_option linter.unusedVariables false
set_option linter.unusedSimpArgs false
namespace Go.Am
open Go.ChangeShapes Go.WideShapes
section
variable {P:Program} {w:World} {φ:Fi} {h:AH} {H:Type} {enc:TypeId×Value→H}
def RdV (P:Program) (h:AH) (g:Nat) (t:TypeId) (v:Value):Prop:=match P.underlying t with
 | some (.struct _) | some (.array _ _)=>∃cs,v=.agg cs.toArray∧Rd P h g t cs
 | _=>Rd P h g t [v]
def RdA (P:Program) (h:AH) (g:Nat):List TypeId→List Value→Prop
 | [],[]=>True
 | t :: ts,v :: vs=>RdV P h g t v∧RdA P h g ts vs
 | _,_=>False
theorem RdV.mono {h' : AH} (o:Old h h') {g:Nat} {t:TypeId} {v:Value} (k:RdV P h g t v):RdV P h' g t v:=by
 unfold RdV at k ⊢
 cases hu:P.underlying t with
 | none=>rw[hu] at k; exact Rd.mono o g _ _ k
 | some d=>
   rw[hu] at k
   cases d <;> first | exact Rd.mono o g _ _ k | exact k.imp fun cs z=>⟨z.1,Rd.mono o g _ _ z.2⟩
theorem arg_one {held:Bool} {base:Nat} {g:Nat} {t:TypeId} {v:Value} {d:DataW H} {ps:List MemPlace} (ho:okT P g t=true) (hv:Value.okWide P w .any base t v) (ht:DataW.Trod enc P w 0 (fun _=>true) held t v d ps) (hwt:(d.weights P t).all (·≤reachBytes)=true) (s:St P φ h w):
 ∃φ' h' a,Ext P w φ h φ' h'∧VR φ' a v∧RdV P h' g t a:=by
 obtain⟨fuel,hx⟩:=ht
 obtain⟨φ',h',acs,e,l,r⟩:=tread g t _ φ h ho ⟨fuel,_,hx,hwt⟩ s
 unfold Value.okWide at hv
 unfold RdV
 have agg:(∃cs:Array Value,v=.agg cs)→∃φ' h' a,Ext P w φ h φ' h'∧VR φ' a v∧∃cs,a=.agg (List.toArray cs)∧Rd P h' g t cs:=by
  rintro⟨cs,rfl⟩
  refine⟨φ',h',.agg acs.toArray,e,LR.agg ?_,acs,rfl,r⟩
  simpa[Value.cells] using l
 have scal:(∀cs:Array Value,v≠.agg cs)→∃φ' h' a,Ext P w φ h φ' h'∧VR φ' a v∧Rd P h' g t [a]:=by
  intro hn
  have hc:v.cells.toList=[v]:=by
   cases v <;> first | rfl | (rename_i cs; exact absurd rfl (hn cs))
  rw[hc] at l
  match acs,l,r with
  | [a],l,r=>exact⟨φ',h',a,e,l.1,r⟩
 cases g with
 | zero=>simp[okT] at ho
 | succ g=>
   unfold okT at ho
   cases hu:P.underlying t with
   | none=>rw[hu] at ho; exact absurd ho (by simp)
   | some dd=>
     rw[hu] at ho hv
     have sc:(∀cs:Array Value,v=.agg cs→False)→∃φ' h' a,Ext P w φ h φ' h'∧VR φ' a v∧Rd P h' (g+1) t [a]:=fun z=>scal z
     cases dd with
     | bool=>exact sc fun cs hcs=>by subst hcs; simp[hu,Cell.okWide,Cell.ok] at hv
     | int _=>exact sc fun cs hcs=>by subst hcs; simp[hu,Cell.okWide,Cell.ok] at hv
     | string=>exact sc fun cs hcs=>by subst hcs; simp[hu,Cell.okWide,Cell.ok] at hv
     | slice _=>exact sc fun cs hcs=>by subst hcs; simp[hu,Cell.okWide,Cell.ok] at hv
     | struct _=>exact agg (hv.imp fun _ z=>z.1)
     | array _ _=>exact agg (hv.imp fun _ z=>z.1)
     | _=>exact absurd ho (by simp)
theorem args_all {base g:Nat}:∀{ts:List TypeId} {vs:List Value} {ds:List (DataW H)} {ps:List MemPlace} {φ:Fi} {h:AH},ts.all (okT P g)=true→(∀(j:Nat) t v,ts[j]?= some t→vs[j]?= some v→Value.okWide P w .any base t v)→
 DataW.TrodAll enc P w 0 (fun _=>true) true ts vs ds ps→(DataW.weightsEach P ts ds).all (·≤reachBytes)=true→St P φ h w→∃φ' h' as,Ext P w φ h φ' h'∧AR φ' as vs∧RdA P h' g ts as
 | [],[],[],ps,φ,h,_,_,_,_,s=>⟨φ,h,[],Ext.refl s,trivial,trivial⟩
 | t :: ts,v :: vs,d :: ds,ps,φ,h,ho,hv,⟨p,q,h1,h2,_⟩,hw,s=>by
   rw[DataW.weightsEach,List.all_append,Bool.and_eq_true] at hw
   simp only[List.all_cons,Bool.and_eq_true] at ho
   obtain⟨φ1,g1,a,e1,r1,k1⟩:=arg_one ho.1 (hv 0 t v rfl rfl) h1 hw.1 s
   obtain⟨φ2,g2,as,e2,r2,k2⟩:=args_all ho.2 (fun j t' v' q1 q2=>hv (j+1) t' v' q1 q2) h2 hw.2 e1.st
   exact⟨φ2,g2,a :: as,e1.trans e2,⟨r1.mono e2.le,r2⟩,k1.mono e2.old,k2⟩
theorem law_args (G:Good P) {K:Xs} (X:GoodX P K) {f:FuncId} (hk:K f=none) {base g:Nat} {ts:List TypeId} (ho:ts.all (okT P g)=true)
 (law:∀(h:AH) (as:List Value),RdA P h g ts as→Wf P K f as h (fun v _=>v=.bool true)) {args:Array Value} {ds:List (DataW H)} {ps:List MemPlace}
 (hv:∀(j:Nat) t v,ts[j]?= some t→args[j]?= some v→Value.okWide P w .any base t v) (hA:DataW.TrodAll enc P w 0 (fun _=>true) true ts args.toList ds ps) (hwt:(DataW.weightsEach P ts ds).all (·≤reachBytes)=true):
 Calls P f args w fun e w'=>e=.returned (.bool true)∧Kept w w':=by
 obtain⟨φ,h,as,e,r,k⟩:=args_all ho (fun j t v q1 q2=>hv j t v q1 (by rw[←Array.getElem?_toList]; exact q2)) hA hwt (St.empty w)
 exact law_true G X hk (law h as k) e.st.rel e.st.free e.st.ro r
theorem Kept.sameAt {w w' : World} (k:Kept w w') {p:MemPlace} (hp:p.block < w.heap.size):w.sameAt w' p:=by
 obtain⟨-, -, -,k⟩:=k
 cases p with
 | cell b off=>
   have:=k b hp
   show w'.cell? ⟨b,off,none⟩=w.cell? ⟨b,off,none⟩
   unfold World.cell?
   simp only[this]
 | map b=>exact k b hp
theorem trodAll_kept (hl:laidOutB P=true) {W' : World} {sp:Nat→Bool} (hk:Kept w W'):∀{ts:List TypeId} {vs:List Value} {ds:List (DataW H)} {ps:List MemPlace},
 ts.all (fun t=>P.readableRec t && Nat.blt t P.types.size)=true→DataW.TrodAll enc P w 0 (fun _=>true) true ts vs ds ps→(∀p∈ps,p.block < w.heap.size)→(∀p∈ps,sp p.block=true)→DataW.TrodAll enc P W' 0 sp true ts vs ds ps
 | [],[],[],ps,_,k,_,_=>k
 | t :: ts,v :: vs,d :: ds,ps,ho,⟨p,q,h1,h2,he⟩,hlt,hsp=>by
   subst he
   simp only[List.all_cons,Bool.and_eq_true,Nat.blt_eq] at ho
   exact⟨p,q,WideElems.Trod_stays hl ho.1.1 ho.1.2 h1 (fun x hx=>hk.sameAt (hlt x (List.mem_append_left _ hx))) (fun x hx=>hsp x (List.mem_append_left _ hx)),
    trodAll_kept hl hk ho.2 h2 (fun x hx=>hlt x (List.mem_append_right _ hx)) (fun x hx=>hsp x (List.mem_append_right _ hx)),rfl⟩
theorem trodAll_len {base:Nat} {sp:Nat→Bool} {held:Bool}:∀{ts:List TypeId} {vs:List Value} {ds:List (DataW H)} {ps:List MemPlace},DataW.TrodAll enc P w base sp held ts vs ds ps→ds.length=ts.length
 | [],[],[],_,_=>rfl
 | _ :: ts,_ :: vs,_ :: ds,_,⟨_,_,_,h,_⟩=>by simp[trodAll_len h]
end
end Go.Am
/-
 CONTRACTS:slices with room behind them; numbers as bytes,the lower ones first.
-/
set_option linter.unusedVariables false
set_option linter.unusedSimpArgs false
namespace Go.Am
def GrowC (lim:Nat) (h:AH) (elem:TypeId) (sz b n c:Nat) (cs:List Value):Prop:=
 cs.length=n * sz∧lim≤b∧b < h.next∧n≤c∧c < openCap∧∃rest,h.get b=some (.cells (cs ++ rest) elem false)∧(cs ++ rest).length=c * sz
theorem GrowC.shows {lim:Nat} {h:AH} {elem:TypeId} {sz b n c:Nat} {cs:List Value} (g:GrowC lim h elem sz b n c cs):Shows h (some ⟨b,0,none⟩) n sz cs:=by
 obtain⟨h1,h2,h3,h4,h5,rest,h6,h7⟩:=g
 refine⟨h1,.inr ⟨b,0,_,elem,false,rfl,h3,h6,by rw[h7,Nat.zero_add]; exact Nat.mul_le_mul_right _ h4,?_⟩⟩
 rw[List.drop_zero,←h1,List.take_left]
theorem GrowC.old {lim:Nat} {h h' : AH} {elem:TypeId} {sz b n c:Nat} {cs:List Value} (g:GrowC lim h elem sz b n c cs) (o:Old h h'):GrowC lim h' elem sz b n c cs:=by
 obtain⟨h1,h2,h3,h4,h5,rest,h6,h7⟩:=g
 exact⟨h1,h2,Nat.lt_of_lt_of_le h3 o.1,h4,h5,rest,by rw[o.2 b h3,h6],h7⟩
theorem GrowC.make {h h1:AH} {elem:TypeId} {sz c:Nat} {al:List Value} (e:h1=h.alloc (.cells al elem false)) (hl:al.length=c * sz) (hc:c < openCap):GrowC h.next h1 elem sz h.next 0 c []:=by
 subst e
 exact⟨by simp,Nat.le_refl _,Nat.lt_succ_self _,Nat.zero_le _,hc,al,get_alloc_next _ _,hl⟩
theorem GrowC.push {P:Program} {lim:Nat} {h h4:AH} {st elem:TypeId} {sz by' : Nat} {b n c:Nat} {cs:List Value} (g:GrowC lim h elem sz b n c cs) (E:ElemOk P st elem sz by')
 {m:Nat} {ns:List Value} (e4:h4=h.alloc (.cells ns elem false)) (hns:ns.length=m * sz) (hm:0 < m) (hroom:n+m≤c):
 ∃h',aBuiltin P h4 .append #[st,st] [.slice (some ⟨b,0,none⟩) n c,.slice (some ⟨h.next,0,none⟩) m m]=some (.slice (some ⟨b,0,none⟩) (n+m) c,h')∧GrowC lim h' elem sz b (n+m) c (cs ++ ns)∧h'.next=h.next+1∧∀x,x < h.next→x≠b→h'.get x=h.get x:=by
 have gs:=(g.old (h':=h4) (by rw[e4]; exact Old_alloc _ _)).shows
 obtain⟨h1,h2,h3,h4',h5,rest,h6,h7⟩:=g
 obtain⟨hu,i,z,hi,hz,hzs,hpos,rfl,rfl⟩:=E
 have hfc:firstC h4 i.size n (.slice (some ⟨b,0,none⟩) n c)=some cs:=gs.firstC (.inr ⟨b,0,rfl⟩)
 have hfn:firstC h4 i.size m (.slice (some ⟨h.next,0,none⟩) m m)=some ns:=firstC_new e4 hns
 have hb4:h4.get b=some (.cells (cs ++ rest) elem false):=by rw[e4,get_alloc_ne (by omega)]; exact h6
 rw[List.length_append] at h7
 have hns2:ns.length≤rest.length:=by
  have:(n+m) * i.size≤c * i.size:=Nat.mul_le_mul_right _ hroom
  rw[Nat.add_mul] at this
  omega
 obtain⟨m',rfl⟩:∃m',m=m'+ 1:=⟨m - 1,by omega⟩
 refine⟨h4.set b (.cells (cs ++ ns ++ rest.drop ns.length) elem false),?_,⟨by rw[List.length_append,h1,hns,←Nat.add_mul],h2,?_,hroom,h5,rest.drop ns.length,get_set_self _ _ _,?_⟩,by rw[e4]; rfl,fun x hx hne=>by rw[get_set_ne hne,e4,get_alloc_ne (by omega)]⟩
 ·rw[aBuiltin_append hu]
  unfold aAppend
  simp only[hu,hi,lenV,hfc,hfn,hz]
  rw[if_pos ⟨hzs,hpos,hns,h1⟩,if_neg (by omega),if_pos hroom]
  have:aStoreCells h4 b (0+n * i.size) ns=some (h4.set b (.cells (cs ++ ns ++ rest.drop ns.length) elem false)):=by
   unfold aStoreCells
   rw[hb4]
   simp only
   rw[if_pos (by rw[List.length_append]; omega),Nat.zero_add,←h1,List.take_left,List.drop_append]
   rw[List.drop_eq_nil_of_le (by omega),List.nil_append,show cs.length+ns.length - cs.length=ns.length by omega]
  rw[this]
 ·rw[e4]; show b < h.next+1; omega
 ·rw[List.length_append,List.length_append,List.length_drop]; omega
/-! ## Numbers as bytes -/
def byB (w n:Nat):List Nat:=(List.range w).map fun k=>n / 256 ^ k % 256
theorem byB_len (w n:Nat):(byB w n).length=w:=by simp[byB]
theorem byB_succ (w n:Nat):byB (w+1) n=byB w n ++ [n / 256 ^ w % 256]:=by simp[byB,List.range_succ]
theorem byB_lt {w n x:Nat} (hx:x∈byB w n):x < 256:=by
 simp only[byB,List.mem_map] at hx
 obtain⟨k, -,rfl⟩:=hx
 omega
def enc (ws ns:List Nat):List Nat:=(List.zipWith byB ws ns).flatten
theorem enc_cons (w n:Nat) (ws ns:List Nat):enc (w :: ws) (n :: ns)=byB w n ++ enc ws ns:=rfl
theorem enc_app:∀(ws ns:List Nat) (w n:Nat),ws.length=ns.length→enc (ws ++ [w]) (ns ++ [n])=enc ws ns ++ byB w n
 | [],[],w,n,_=>by simp[enc]
 | a :: ws,b :: ns,w,n,hl=>by
   rw[List.cons_append,List.cons_append,enc_cons,enc_cons,enc_app ws ns w n (by simpa using hl),List.append_assoc]
theorem enc_len:∀(ws ns:List Nat),ws.length=ns.length→(enc ws ns).length=ws.sum
 | [],[],_=>rfl
 | a :: ws,b :: ns,hl=>by rw[enc_cons,List.length_append,byB_len,enc_len ws ns (by simpa using hl),List.sum_cons]
theorem enc_lt:∀(ws ns:List Nat) {x:Nat},x∈enc ws ns→x < 256
 | [],_,_,h=>by simp[enc] at h
 | _ :: _,[],_,h=>by simp[enc] at h
 | a :: ws,b :: ns,x,h=>by
   rw[enc_cons,List.mem_append] at h
   exact h.elim byB_lt (enc_lt ws ns)
def deB:List Nat→Nat
 | []=>0
 | b :: bs=>b+256 * deB bs
theorem deB_app:∀(bs:List Nat) (b:Nat),deB (bs ++ [b])=deB bs+b * 256 ^ bs.length
 | [],b=>by simp[deB]
 | x :: bs,b=>by
   show x+256 * deB (bs ++ [b])=x+256 * deB bs+b * 256 ^ (bs.length+1)
   have e:b * 256 ^ (bs.length+1)=256 * (b * 256 ^ bs.length):=by rw[Nat.pow_succ,←Nat.mul_assoc,Nat.mul_comm]
   rw[deB_app bs b,Nat.mul_add,e]
   omega
theorem deB_lt:∀(bs:List Nat),(∀x∈bs,x < 256)→deB bs < 256 ^ bs.length
 | [],_=>by decide
 | x :: bs,h=>by
   have h1:=h x (by simp)
   have h2:=deB_lt bs fun y hy=>h y (by simp[hy])
   show x+256 * deB bs < 256 ^ (bs.length+1)
   rw[Nat.pow_succ]
   omega
theorem deB_le (n:Nat):∀w,deB (byB w n)=n % 256 ^ w
 | 0=>by simp[byB,deB,Nat.mod_one]
 | w+1=>by
   rw[byB_succ,deB_app,deB_le n w,byB_len,Nat.pow_succ,Nat.mod_mul]
   rw[Nat.mul_comm]
def dec:List Nat→List Nat→List Nat
 | [],_=>[]
 | w :: ws,bs=>deB (bs.take w) :: dec ws (bs.drop w)
theorem dec_len:∀(ws bs:List Nat),(dec ws bs).length=ws.length
 | [],_=>rfl
 | w :: ws,bs=>by simp[dec,dec_len ws]
theorem dec_app:∀(ws:List Nat) (w:Nat) (bs:List Nat),dec (ws ++ [w]) bs=dec ws bs ++ [deB ((bs.drop ws.sum).take w)]
 | [],w,bs=>by simp[dec]
 | a :: ws,w,bs=>by
   show deB (bs.take a) :: dec (ws ++ [w]) (bs.drop a)=_
   rw[dec_app ws w,List.drop_drop,List.sum_cons]
   rfl
theorem dec_enc:∀(ws ns:List Nat),ws.length=ns.length→(∀(i:Nat) (w n:Nat),ws[i]?= some w→ns[i]?= some n→n < 256 ^ w)→dec ws (enc ws ns)=ns
 | [],[],_,_=>rfl
 | w :: ws,n :: ns,hl,h=>by
   rw[enc_cons]
   unfold dec
   have e1:(byB w n ++ enc ws ns).take w=byB w n:=by
    have:=List.take_left (l₁:=byB w n) (l₂:=enc ws ns)
    rwa [byB_len] at this
   have e2:(byB w n ++ enc ws ns).drop w=enc ws ns:=by
    have:=List.drop_left (l₁:=byB w n) (l₂:=enc ws ns)
    rwa [byB_len] at this
   rw[e1,e2,deB_le,Nat.mod_eq_of_lt (h 0 w n rfl rfl),dec_enc ws ns (by simpa using hl) fun i w n h1 h2=>h (i+1) w n h1 h2]
/-! ## What the machine says of shifts -/
theorem pow8 (k:Nat):2 ^ (8 * k)=256 ^ k:=by rw[Nat.pow_mul]
theorem shr_u64 {x k:Nat} (hk:k≤8):aShift .shr .u64 (x:Int) ((8 * k:Nat):Int)=some (.int .u64 ((x / 256 ^ k:Nat):Int)):=by
 unfold aShift
 rw[if_neg (by omega)]
 have h1:min (((8 * k:Nat):Int)).toNat (IntKind.bits .u64)=8 * k:=by
  rw[Int.toNat_natCast]
  exact Nat.min_eq_left (by show 8 * k≤64; omega)
 simp only[h1]
 congr 2
 rw[Int.fdiv_eq_ediv_of_nonneg _ (by exact Int.le_of_lt (Int.pow_pos (by decide))),←pow8]
 norm_cast
theorem shl_u64 {x k:Nat} (hk:k≤8) (hx:x * 256 ^ k < 18446744073709551616):aShift .shl .u64 (x:Int) ((8 * k:Nat):Int)=some (.int .u64 ((x * 256 ^ k:Nat):Int)):=by
 unfold aShift
 rw[if_neg (by omega)]
 have h1:min (((8 * k:Nat):Int)).toNat (IntKind.bits .u64)=8 * k:=by
  rw[Int.toNat_natCast]
  exact Nat.min_eq_left (by show 8 * k≤64; omega)
 simp only[h1]
 have e:(x:Int) * 2 ^ (8 * k)=((x * 256 ^ k:Nat):Int):=by rw[←pow8]; norm_cast
 rw[e,wrap_u64 (by omega) (by omega)]
theorem or_u64 {a b k:Nat} (hk:k≤8) (ha:a < 256 ^ k) (hb:b * 256 ^ k+a < 18446744073709551616):aInt .or .u64 (a:Int) ((b * 256 ^ k:Nat):Int)=some (.int .u64 ((a+b * 256 ^ k:Nat):Int)):=by
 unfold aInt
 simp only
 congr 2
 have h1:BitVec.ofInt (IntKind.bits .u64) (a:Int)=BitVec.ofNat 64 a:=by exact BitVec.ofInt_natCast 64 a
 have h2:BitVec.ofInt (IntKind.bits .u64) ((b * 256 ^ k:Nat):Int)=BitVec.ofNat 64 (b * 256 ^ k):=by exact BitVec.ofInt_natCast 64 _
 rw[h1,h2]
 have h3:(BitVec.ofNat 64 a ||| BitVec.ofNat 64 (b * 256 ^ k)).toNat=a+b * 256 ^ k:=by
  rw[BitVec.toNat_or,BitVec.toNat_ofNat,BitVec.toNat_ofNat,Nat.mod_eq_of_lt (by omega),Nat.mod_eq_of_lt (by omega)]
  rw[←pow8] at ha ⊢
  rw[Nat.or_comm,Nat.mul_comm,←Nat.two_pow_add_eq_or_of_lt ha,Nat.add_comm]
 show IntKind.u64.wrap (((BitVec.ofNat 64 a ||| BitVec.ofNat 64 (b * 256 ^ k)).toNat:Nat):Int)=_
 rw[h3,wrap_u64 (by omega) (by omega)]
theorem wrapN_u8 (n:Nat):IntKind.u8.wrap (n:Int)=((n % 256:Nat):Int):=by
 simp[IntKind.wrap,IntKind.bits,IntKind.signed]
theorem wrapN_u32 (n:Nat):IntKind.u32.wrap (n:Int)=((n % 4294967296:Nat):Int):=by
 simp[IntKind.wrap,IntKind.bits,IntKind.signed]
theorem sum_take {ws:List Nat} {j:Nat} (hj:j < ws.length):(ws.take (j+1)).sum=(ws.take j).sum+ws[j]:=by
 rw[List.take_succ_eq_append_getElem hj,List.sum_append]
 simp
theorem sum_take_le:∀(ws:List Nat) (j:Nat),(ws.take j).sum≤ws.sum
 | [],j=>by simp
 | w :: ws,0=>by simp
 | w :: ws,j+1=>by
   have:=sum_take_le ws j
   simp only[List.take_succ_cons,List.sum_cons]
   omega
/-! ## A slice that is cut -/
def CutOk (P:Program) (h:AH) (elem:TypeId) (b n c:Nat):Prop:=(n≤c∧c < openCap)∨(c=openCap∧∃cs e ro,h.get b=some (.cells cs e ro)∧P.cellsOf e=P.cellsOf elem)
theorem cut_lo {P:Program} {h:AH} {st elem:TypeId} {sz by' : Nat} (E:ElemOk P st elem sz by') {b off n c lo:Nat} (hsz:P.cellsOf elem=sz) (hc:CutOk P h elem b n c) (hlo:lo≤n):
 ∃off' c',aSlice P h st (.slice (some ⟨b,off,none⟩) n c) (some (.int .i64 (lo:Int))) none none=some (.slice (some ⟨b,off',none⟩) (n - lo) c')∧(lo < n→off'= off+lo * sz)∧CutOk P h elem b (n - lo) c':=by
 obtain⟨hu,i,z,hi,hz,hzs,hpos,rfl,rfl⟩:=E
 unfold aSlice
 rw[hu]
 simp only[hi,Option.isSome_some,if_true]
 have bd:∀m,boundOf (.int .i64 (lo:Int)) m=if lo≤m then some lo else none:=fun m=>by
  unfold boundOf
  simp only
  by_cases q:lo≤m
  ·rw[if_pos q,if_pos ⟨by omega,by omega⟩,Int.toNat_natCast]
  ·rw[if_neg q,if_neg (by omega)]
 rcases hc with ⟨h1,h2⟩ | ⟨rfl,cs,e,ro,hg,he⟩
 ·rw[if_neg (by omega),if_pos h2]
  unfold aBounds
  simp only[bd,if_pos hlo]
  refine⟨_,_,rfl,fun q=>?_,.inl ⟨by omega,by omega⟩⟩
  rw[if_neg (by omega),hsz]
 ·rw[if_pos rfl]
  unfold aBounds
  simp only[bd,if_pos hlo,hg,he,if_true]
  exact⟨_,_,rfl,fun _=>by rw[hsz],.inr ⟨rfl,cs,e,ro,hg,he⟩⟩
theorem boundNat (lo m:Nat):boundOf (.int .i64 (lo:Int)) m=if lo≤m then some lo else none:=by
 unfold boundOf
 simp only
 by_cases q:lo≤m
 ·rw[if_pos q,if_pos ⟨by omega,by omega⟩,Int.toNat_natCast]
 ·rw[if_neg q,if_neg (by omega)]
theorem cut_arr {P:Program} {h:AH} {t elem:TypeId} {n sz lo hi:Nat} (hu:P.underlying t=some (.array n elem)) (hi' : (P.info? elem).isSome=true) (hsz:P.cellsOf elem=sz) (hn:n < openCap) (b off:Nat) (h1:lo < n) (h2:lo≤hi) (h3:hi≤n):
 aSlice P h t (.pointer (some ⟨b,off,none⟩)) (some (.int .i64 (lo:Int))) (some (.int .i64 (hi:Int))) none=some (.slice (some ⟨b,off+lo * sz,none⟩) (hi - lo) (n - lo)):=by
 unfold aSlice
 rw[hu]
 unfold aBounds
 simp only[boundNat,if_pos h3,if_pos h2,hsz]
 rw[if_pos ⟨hi',hn⟩,if_neg (by omega)]
theorem CutOk.old {P:Program} {h h' : AH} {elem:TypeId} {b n c:Nat} (k:CutOk P h elem b n c) (o:Old h h') (hb:b < h.next):CutOk P h' elem b n c:=by
 rcases k with k | ⟨h1,cs,e,ro,h2,h3⟩
 ·exact .inl k
 ·exact .inr ⟨h1,cs,e,ro,by rw[o.2 b hb]; exact h2,h3⟩
theorem Shows.cut {h:AH} {b off n sz lo off2:Nat} {cs:List Value} (s:Shows h (some ⟨b,off,none⟩) n sz cs) (hlo:lo≤n) (hoff:lo < n→off2=off+lo * sz):Shows h (some ⟨b,off2,none⟩) (n - lo) sz (cs.drop (lo * sz)):=by
 refine⟨by rw[List.length_drop,s.1,Nat.sub_mul],?_⟩
 by_cases hq:lo < n
 ·rcases s.2 with h0 | ⟨b',off',al,e,ro,hp,hb,hg,hl,hc⟩
  ·omega
  ·simp only[Option.some.injEq,Addr.mk.injEq,and_true] at hp
   obtain⟨rfl,rfl⟩:=hp
   have hm:(n - lo) * sz=n * sz - lo * sz:=Nat.sub_mul _ _ _
   have hle:lo * sz≤n * sz:=Nat.mul_le_mul_right _ hlo
   refine .inr ⟨_,_,al,e,ro,rfl,hb,hg,by rw[hoff hq,hm]; omega,?_⟩
   rw[hoff hq,←hc,List.drop_take,List.drop_drop,hm]
 ·exact .inl (by omega)
theorem pow256_le {t:Nat} (ht:t≤8):256 ^ t≤18446744073709551616:=by
 have:256 ^ t≤256 ^ 8:=Nat.pow_le_pow_right (by decide) ht
 exact this
theorem Fr.old {F F' : List Nat} {h0 g g' : AH} (f:Fr F g g' F') (o:Old h0 g) (hF:∀c∈F,h0.next≤c):Old h0 g'∧∀c∈F',h0.next≤c:=
 ⟨⟨Nat.le_trans o.1 f.1,fun c hc=>by rw[f.2.1 c (Nat.lt_of_lt_of_le hc o.1) (fun z=>absurd (hF c z) (by omega)),o.2 c hc]⟩,fun c hc=>(f.2.2 c hc).elim (hF c) (fun z=>Nat.le_trans o.1 z)⟩
theorem Old.near {h0 g g' : AH} {b:Nat} (o:Old h0 g) (n:Near b g g') (hb:h0.next≤b):Old h0 g':=⟨by rw[n.1]; exact o.1,fun c hc=>by rw[n.2 c (by omega),o.2 c hc]⟩
/-! ## Blocks of one's own,beside a set of blocks -/
def Mine (g:AH) (F:List Nat) (b:Nat) (cs:List Value) (ty:TypeId):Prop:=g.get b=some (.cells cs ty false)∧b < g.next∧b∉F
theorem Mine.old {g g' : AH} {F:List Nat} {b:Nat} {cs:List Value} {ty:TypeId} (w:Mine g F b cs ty) (o:Old g g'):Mine g' F b cs ty:=⟨(o.2 _ w.2.1).trans w.1,Nat.lt_of_lt_of_le w.2.1 o.1,w.2.2⟩
theorem Mine.fr {g g' : AH} {F F' : List Nat} {b:Nat} {cs:List Value} {ty:TypeId} (w:Mine g F b cs ty) (f:Fr F g g' F'):Mine g' F' b cs ty:=⟨(f.2.1 _ w.2.1 w.2.2).trans w.1,Nat.lt_of_lt_of_le w.2.1 f.1,fun q=>(f.2.2 _ q).elim w.2.2 (fun z=>absurd w.2.1 (Nat.not_lt.2 z))⟩
theorem Mine.near {g g' : AH} {F:List Nat} {b c:Nat} {cs:List Value} {ty:TypeId} (w:Mine g F b cs ty) (n:Near c g g') (hne:b≠c):Mine g' F b cs ty:=⟨(n.2 _ hne).trans w.1,by rw[n.1]; exact w.2.1,w.2.2⟩
theorem put_new {g g1:AH} {z vs:List Value} {ty:TypeId} (e:g1=g.alloc (.cells z ty false)) (hl:vs.length=z.length):∃g2,stN g1 g.next 0 vs=some g2∧g2.next=g.next+1∧Old g g2∧∀F:List Nat,(∀c∈F,c < g.next)→Mine g2 F g.next vs ty:=by
 have n:=near_set g.next g1 (.cells vs ty false)
 have n1:=next_of_alloc e
 have o1:=old_of_alloc e
 refine⟨_,stN_all (get_of_alloc e) hl,by rw[n.1,n1],⟨by rw[n.1,n1]; omega,fun c hc=>by rw[n.2 c (by omega),o1.2 c hc]⟩,fun F hF=>⟨get_set_self _ _ _,by rw[n.1,n1]; omega,fun q=>absurd (hF _ q) (Nat.lt_irrefl _)⟩⟩
theorem own_new {g g1:AH} {z:List Value} {ty:TypeId} (e:g1=g.alloc (.cells z ty false)) {F:List Nat} (hF:∀c∈F,c < g.next):Mine g1 F g.next z ty:=⟨get_of_alloc e,by rw[next_of_alloc e]; omega,fun q=>absurd (hF _ q) (Nat.lt_irrefl _)⟩
theorem Mine.put {g:AH} {F:List Nat} {b:Nat} {cs vs:List Value} {ty:TypeId} (w:Mine g F b cs ty) (hl:vs.length=cs.length):∃g2,stN g b 0 vs=some g2∧Near b g g2∧Mine g2 F b vs ty:=
 ⟨_,stN_all w.1 hl,near_set _ _ _,get_set_self _ _ _,by rw[(near_set b g (.cells vs ty false)).1]; exact w.2.1,w.2.2⟩
theorem Mine.part {g:AH} {F:List Nat} {b off:Nat} {cs vs:List Value} {ty:TypeId} (w:Mine g F b cs ty) (hl:off+vs.length≤cs.length):∃g2,stN g b off vs=some g2∧Near b g g2∧Mine g2 F b (cs.take off ++ vs ++ cs.drop (off+vs.length)) ty:=
 ⟨_,stN_of w.1 hl,near_set _ _ _,get_set_self _ _ _,by rw[(near_set b g _).1]; exact w.2.1,w.2.2⟩
theorem Mine.ld {g:AH} {F:List Nat} {b n:Nat} {cs:List Value} {ty:TypeId} (w:Mine g F b cs ty) (hl:cs.length=n):ldN g b 0 n=some cs:=ldN_all w.1 hl
theorem Mine.ldp {g:AH} {F:List Nat} {b off n:Nat} {cs:List Value} {ty:TypeId} (w:Mine g F b cs ty) (hl:off+n≤cs.length):ldN g b off n=some ((cs.drop off).take n):=ldN_of w.1 hl
theorem count_setN {M:List Nat} {i a b:Nat} (hi:M[i]?= some a) (c:Nat):(M.set i b).count c=M.count c - (if a=c then 1 else 0)+(if b=c then 1 else 0):=by
 obtain⟨hlt,he⟩:=List.getElem?_eq_some_iff.1 hi
 rw[List.count_set hlt,he]
 simp only[beq_iff_eq]
theorem count_pos {M:List Nat} {i a:Nat} (hi:M[i]?= some a):0 < M.count a:=List.count_pos_iff.2 (List.mem_of_getElem? hi)
theorem Grow.near {lim lim' : Nat} {h h' : AH} {elem:TypeId} {sz b:Nat} {p:Option Addr} {n c:Nat} {cs:List Value} (g:Grow lim h elem sz p n c cs) (k:Near b h h') (hb:b < lim) (hl:lim'≤lim):Grow lim' h' elem sz p n c cs:=by
 refine⟨g.1,?_⟩
 rcases g.2 with z | ⟨b',hp,h1,h2,h3,h4⟩
 ·exact .inl z
 ·exact .inr ⟨b',hp,by omega,by rw[k.1]; exact h2,by rw[k.2 b' (by omega)]; exact h3,h4⟩
theorem Grow.block {lim:Nat} {h:AH} {elem:TypeId} {sz:Nat} {p:Option Addr} {n c:Nat} {cs:List Value} (g:Grow lim h elem sz p n c cs) {a:Addr} (e:p=some a):lim≤a.block∧a.block < h.next:=by
 rcases g.2 with ⟨z, -⟩ | ⟨b',hp,h1,h2, -⟩
 ·rw[z] at e; cases e
 ·rw[hp] at e; cases e; exact⟨h1,h2⟩
theorem Grow.form {lim:Nat} {h:AH} {elem:TypeId} {sz:Nat} {p:Option Addr} {n c:Nat} {cs:List Value} (g:Grow lim h elem sz p n c cs):p=none∨∃b off,p=some ⟨b,off,none⟩:=by
 rcases g.2 with ⟨z, -⟩ | ⟨b',hp, -⟩
 ·exact .inl z
 ·exact .inr ⟨b',0,hp⟩
theorem Grow.fr {lim:Nat} {h h' : AH} {elem:TypeId} {sz:Nat} {p:Option Addr} {n c:Nat} {cs:List Value} {F F' : List Nat} (g:Grow lim h elem sz p n c cs) (f:Fr F h h' F') (hF:∀x∈F,x < lim):Grow lim h' elem sz p n c cs:=by
 refine⟨g.1,?_⟩
 rcases g.2 with z | ⟨b',hp,h1,h2,h3,h4⟩
 ·exact .inl z
 ·exact .inr ⟨b',hp,h1,Nat.lt_of_lt_of_le h2 f.1,by rw[f.2.1 b' h2 (fun z=>absurd (hF _ z) (by omega))]; exact h3,h4⟩
theorem Grow.weak {lim lim' : Nat} {h:AH} {elem:TypeId} {sz:Nat} {p:Option Addr} {n c:Nat} {cs:List Value} (g:Grow lim h elem sz p n c cs) (hl:lim'≤lim):Grow lim' h elem sz p n c cs:=by
 refine⟨g.1,?_⟩
 rcases g.2 with z | ⟨b',hp,h1,h2,h3,h4⟩
 ·exact .inl z
 ·exact .inr ⟨b',hp,by omega,h2,h3,h4⟩
/-! ## Pointers' cells -/
def ptr3 (qs:List (Nat×Nat×Nat)):List Value:=(qs.map fun q=>[Value.int .i64 q.1,Value.int .u64 q.2.1,Value.int .u32 q.2.2]).flatten
theorem ptr3_len (qs:List (Nat×Nat×Nat)):(ptr3 qs).length=qs.length * 3:=by
 induction qs with
 | nil=>rfl
 | cons q ps ih=>simp only[ptr3,List.map_cons,List.flatten_cons,List.length_append,List.length_cons,List.length_nil] at *; omega
theorem ptr3_app (ps qs:List (Nat×Nat×Nat)):ptr3 (ps ++ qs)=ptr3 ps ++ ptr3 qs:=by simp[ptr3]
theorem ptr3_get:∀(ps:List (Nat×Nat×Nat)) (i:Nat) (hi:i < ps.length),((ptr3 ps).drop (i * 3)).take 3=[.int .i64 (ps[i].1:Nat),.int .u64 (ps[i].2.1:Nat),.int .u32 (ps[i].2.2:Nat)]
 | [],i,hi=>absurd hi (Nat.not_lt_zero _)
 | q :: ps,0,hi=>rfl
 | q :: ps,i+1,hi=>by
   have e:ptr3 (q :: ps)=[.int .i64 (q.1:Nat),.int .u64 (q.2.1:Nat),.int .u32 (q.2.2:Nat)] ++ ptr3 ps:=rfl
   rw[e,show (i+1) * 3=3+i * 3 by omega,List.drop_append]
   simp only[List.length_cons,List.length_nil]
   rw[List.drop_eq_nil_of_le (by simp),List.nil_append,show 3+i * 3 - (0+1+1+1)=i * 3 by omega]
   exact ptr3_get ps i (by simpa using hi)
theorem ptr3_cons (q:Nat×Nat×Nat) (qs:List (Nat×Nat×Nat)):ptr3 (q :: qs)=[.int .i64 (q.1:Nat),.int .u64 (q.2.1:Nat),.int .u32 (q.2.2:Nat)] ++ ptr3 qs:=rfl
theorem ptr3_set:∀(ps:List (Nat×Nat×Nat)) (i:Nat) (q:Nat×Nat×Nat),i < ps.length→(ptr3 ps).take (i * 3) ++ [.int .i64 (q.1:Nat),.int .u64 (q.2.1:Nat),.int .u32 (q.2.2:Nat)] ++ (ptr3 ps).drop (i * 3+3)=ptr3 (ps.set i q)
 | [],i,q,hi=>absurd hi (Nat.not_lt_zero _)
 | p :: ps,0,q,_=>rfl
 | p :: ps,i+1,q,hi=>by
   rw[List.set_cons_succ,ptr3_cons,ptr3_cons,←ptr3_set ps i q (by simpa using hi),show (i+1) * 3=3+i * 3 by omega]
   rw[List.take_append,List.drop_append]
   simp only[List.length_cons,List.length_nil]
   rw[List.take_of_length_le (by simp),List.drop_eq_nil_of_le (by simp),List.nil_append,show 3+i * 3 - (0+1+1+1)=i * 3 by omega,show 3+i * 3+3 - (0+1+1+1)=i * 3+3 by omega]
   simp only[List.append_assoc]
theorem ptr3_take:∀(X:List (Nat×Nat×Nat)) (i:Nat),(ptr3 X).take (i * 3)=ptr3 (X.take i)
 | [],i=>by simp[ptr3]
 | q :: X,0=>rfl
 | q :: X,i+1=>by
   rw[List.take_succ_cons,ptr3_cons,ptr3_cons,show (i+1) * 3=3+i * 3 by omega,List.take_append,List.take_of_length_le (by simp)]
   simp only[List.length_cons,List.length_nil]
   rw[show 3+i * 3 - (0+1+1+1)=i * 3 by omega,ptr3_take X i]
theorem ptr3_drop:∀(X:List (Nat×Nat×Nat)) (i:Nat),(ptr3 X).drop (i * 3)=ptr3 (X.drop i)
 | [],i=>by simp[ptr3]
 | q :: X,0=>rfl
 | q :: X,i+1=>by
   rw[List.drop_succ_cons,ptr3_cons,show (i+1) * 3=3+i * 3 by omega,List.drop_append,List.drop_eq_nil_of_le (by simp),List.nil_append]
   simp only[List.length_cons,List.length_nil]
   rw[show 3+i * 3 - (0+1+1+1)=i * 3 by omega,ptr3_drop X i]
theorem ptr3_splice (X Y:List (Nat×Nat×Nat)) (i:Nat):(ptr3 X).take (i * 3) ++ ptr3 Y ++ (ptr3 X).drop (i * 3+(ptr3 Y).length)=ptr3 (X.take i ++ Y ++ X.drop (i+Y.length)):=by
 rw[ptr3_take,ptr3_len,←Nat.add_mul,ptr3_drop,ptr3_app,ptr3_app]
theorem ptr3_at {X:List (Nat×Nat×Nat)} {i:Nat} {q:Nat×Nat×Nat} (hi:X[i]?= some q):((ptr3 X).drop (i * 3)).take 3=[.int .i64 (q.1:Nat),.int .u64 (q.2.1:Nat),.int .u32 (q.2.2:Nat)]:=by
 obtain⟨h1,rfl⟩:=List.getElem?_eq_some_iff.1 hi
 exact ptr3_get X i h1
theorem fill_set {α:Type} {A:List α} {z:α} {n j:Nat} (hn:A.length=n) (hj:j < n):(A.take j ++ List.replicate (n - j) z).set j (A[j]'(by omega))=A.take (j+1) ++ List.replicate (n - (j+1)) z:=by
 have hl:(A.take j).length=j:=by rw[List.length_take]; omega
 rw[List.set_append_right _ _ (by omega),hl,Nat.sub_self,show n - j=(n - (j+1))+1 by omega,List.replicate_succ,List.set_cons_zero,List.take_succ_eq_append_getElem (by omega),List.append_assoc]
 rfl
/-! ## Arguments,one by one -/
theorem rda1 {P:Program} {g:Nat} {t1:TypeId} {h:AH}:∀{vs:List Value},RdA P h g [t1] vs→∃a,vs=[a]∧RdV P h g t1 a
 | [a],r=>⟨a,rfl,r.1⟩
theorem rda2 {P:Program} {g:Nat} {t1 t2:TypeId} {h:AH}:∀{vs:List Value},RdA P h g [t1,t2] vs→∃a b,vs=[a,b]∧RdV P h g t1 a∧RdV P h g t2 b
 | [a,b],r=>⟨a,b,rfl,r.1,r.2.1⟩
theorem rda3 {P:Program} {g:Nat} {t1 t2 t3:TypeId} {h:AH}:∀{vs:List Value},RdA P h g [t1,t2,t3] vs→∃a b c,vs=[a,b,c]∧RdV P h g t1 a∧RdV P h g t2 b∧RdV P h g t3 c
 | [a,b,c],r=>⟨a,b,c,rfl,r.1,r.2.1,r.2.2.1⟩
end Go.Am
/-
 CONTRACTS:slices cut on both sides; copies of nothing,too; rows of texts.
-/
set_option linter.unusedVariables false
set_option linter.unusedSimpArgs false
namespace Go.Am
def CutP (P:Program) (h:AH) (elem:TypeId) (p:Option Addr) (n c:Nat):Prop:=(p=none∧n=0∧c < openCap)∨∃b off,p=some ⟨b,off,none⟩∧CutOk P h elem b n c
theorem CutP.kept {P:Program} {h h' : AH} {elem:TypeId} {p:Option Addr} {n c:Nat} (k:CutP P h elem p n c) (e:∀a,p=some a→h'.get a.block=h.get a.block):CutP P h' elem p n c:=by
 rcases k with k | ⟨b,off,rfl,k⟩
 ·exact .inl k
 ·refine .inr ⟨b,off,rfl,?_⟩
  rcases k with k | ⟨h1,cs,e',ro,h2,h3⟩
  ·exact .inl k
  ·exact .inr ⟨h1,cs,e',ro,by rw[e _ rfl]; exact h2,h3⟩
theorem CutP.old {P:Program} {h h' : AH} {elem:TypeId} {p:Option Addr} {n c:Nat} (k:CutP P h elem p n c) (o:Old h h') (hb:∀a,p=some a→a.block < h.next):CutP P h' elem p n c:=k.kept fun a ha=>o.2 _ (hb a ha)
def endV:Option Nat→Option Value
 | none=>none
 | some i=>some (.int .i64 (i:Int))
def endN (n:Nat):Option Nat→Nat
 | none=>n
 | some i=>i
theorem cutP {P:Program} {h:AH} {st elem:TypeId} {sz by' : Nat} (E:ElemOk P st elem sz by') {p:Option Addr} {n c:Nat} (hsz:P.cellsOf elem=sz) (hc:CutP P h elem p n c) (lo hi:Option Nat) (h1:endN 0 lo≤endN n hi) (h2:endN n hi≤n):
 ∃p' c',aSlice P h st (.slice p n c) (endV lo) (endV hi) none=some (.slice p' (endN n hi - endN 0 lo) c')∧(∀b off,p=some ⟨b,off,none⟩→∃off',p'= some ⟨b,off',none⟩∧(endN 0 lo < endN n hi→off'= off+endN 0 lo * sz))∧(p=none→p'= none)∧CutP P h elem p' (endN n hi - endN 0 lo) c':=by
 obtain⟨hu,i,z,hi',hz,hzs,hpos,rfl,rfl⟩:=E
 have b0:∀m,(m=n∨n≤m)→aBounds n m (endV lo) (endV hi) none=some (endN 0 lo,endN n hi,m):=fun m hm=>by
  unfold aBounds
  cases hi with
  | none=>
    simp only[endV,endN] at h1 h2 ⊢
    cases lo with
    | none=>rfl
    | some l=>
      simp only[endV,endN] at h1 ⊢
      rw[boundNat,if_pos h1]
  | some j=>
    simp only[endV,endN] at h1 h2 ⊢
    rw[boundNat,if_pos (by omega)]
    simp only
    cases lo with
    | none=>rfl
    | some l=>
      simp only[endV,endN] at h1 ⊢
      rw[boundNat,if_pos h1]
 unfold aSlice
 rw[hu]
 rcases hc with ⟨rfl,rfl,hcc⟩ | ⟨b,off,rfl,hc⟩
 ·simp only[hi',Option.isSome_some,true_and,b0 c (.inr (by omega)),if_pos hcc]
  exact⟨none,_,rfl,fun b off z=>(by cases z),fun _=>rfl,.inl ⟨rfl,by omega,by omega⟩⟩
 ·simp only[hi',Option.isSome_some,if_true]
  rcases hc with ⟨h3,h4⟩ | ⟨rfl,cs,e,ro,hg,he⟩
  ·rw[if_neg (by omega),if_pos h4,b0 c (.inr h3)]
   refine⟨_,_,rfl,fun b' off' z=>?_,fun z=>(by cases z),.inr ⟨b,_,rfl,.inl ⟨by omega,by omega⟩⟩⟩
   simp only[Option.some.injEq,Addr.mk.injEq,and_true] at z
   obtain⟨rfl,rfl⟩:=z
   exact⟨_,rfl,fun q=>by rw[if_neg (by omega),hsz]⟩
  ·rw[if_pos rfl,b0 n (.inl rfl)]
   simp only[hg,he,if_true]
   refine⟨_,_,rfl,fun b' off' z=>?_,fun z=>(by cases z),.inr ⟨b,_,rfl,.inr ⟨rfl,cs,e,ro,hg,he⟩⟩⟩
   simp only[Option.some.injEq,Addr.mk.injEq,and_true] at z
   obtain⟨rfl,rfl⟩:=z
   exact⟨_,rfl,fun _=>by rw[hsz]⟩
theorem Shows.kept {h h' : AH} {p:Option Addr} {n sz:Nat} {cs:List Value} (s:Shows h p n sz cs) (hn:h.next≤h'.next) (k:∀a,p=some a→h'.get a.block=h.get a.block):Shows h' p n sz cs:=by
 refine⟨s.1,?_⟩
 rcases s.2 with h0 | ⟨b,off,al,e,ro,hp,hb,hg,hl,hc⟩
 ·exact .inl h0
 ·exact .inr ⟨b,off,al,e,ro,hp,Nat.lt_of_lt_of_le hb hn,by rw[k _ hp]; exact hg,hl,hc⟩
theorem Shows.cut2 {h:AH} {p p' : Option Addr} {n sz lo hi:Nat} {cs:List Value} (s:Shows h p n sz cs) (h1:lo≤hi) (h2:hi≤n) (hp:∀b off,p=some ⟨b,off,none⟩→∃off',p'= some ⟨b,off',none⟩∧(lo < hi→off'= off+lo * sz)):
 Shows h p' (hi - lo) sz ((cs.drop (lo * sz)).take ((hi - lo) * sz)):=by
 have hle:hi * sz≤n * sz:=Nat.mul_le_mul_right _ h2
 have hm:(hi - lo) * sz=hi * sz - lo * sz:=Nat.sub_mul _ _ _
 refine⟨by rw[List.length_take,List.length_drop,s.1,hm]; omega,?_⟩
 by_cases hq:lo < hi
 ·rcases s.2 with h0 | ⟨b,off,al,e,ro,rfl,hb,hg,hl,hc⟩
  ·omega
  ·obtain⟨off',rfl,ho⟩:=hp b off rfl
   have hlo:lo * sz≤hi * sz:=Nat.mul_le_mul_right _ h1
   refine .inr ⟨b,off',al,e,ro,rfl,hb,hg,by rw[ho hq,hm]; omega,?_⟩
   rw[ho hq,←hc,List.drop_take,List.drop_drop,List.take_take]
   congr 1
   omega
 ·exact .inl (by omega)
theorem copy_own0 {P:Program} {h:AH} {t elem:TypeId} {by' : Nat} (E:ElemOk P t elem 1 by') {b n c:Nat} {cs:List Value} {e:TypeId} (hb:h.get b=some (.cells cs e false)) (hle:cs.length=n)
 {p:Option Addr} {m c' : Nat} {ns:List Value} (hs:Shows h p m 1 ns) (hp:p=none∨∃b off,p=some ⟨b,off,none⟩) (hnm:n≤m) (st:TypeId):
 ∃i h',aBuiltin P h .copy #[t,st] [.slice (some ⟨b,0,none⟩) n c,.slice p m c']=some (.int .i64 i,h')∧Near b h h'∧h'.get b=some (.cells (ns.take n) e false):=by
 by_cases hn:0 < n
 ·obtain⟨h',k,nr,g⟩:=copy_own E (off:=0) (n:=n) (c:=c) hb (by omega) hn hs hp (c':=c') st
  refine⟨_,h',k,nr,?_⟩
  have hl:(ns.take n).length=n:=by rw[List.length_take,hs.1]; omega
  rw[g,List.take_zero,List.nil_append,hl,Nat.zero_add,List.drop_eq_nil_of_le (by omega),List.append_nil]
 ·obtain rfl:n=0:=by omega
  obtain⟨hu,i,z,hi,hz,hzs,hpos,hsz,hby⟩:=E
  have hfc:firstC h i.size 0 (.slice p m c')=some []:=by
   rcases hp with rfl | ⟨b2,off2,rfl⟩
   ·simp[Am.firstC]
   ·simp[Am.firstC]
  have hcs:cs=[]:=List.eq_nil_of_length_eq_zero hle
  refine⟨((0:Nat):Int),h,?_,Near.refl _ _,by rw[hb,hcs]; rfl⟩
  show (match aCopy P h t (.slice (some ⟨b,0,none⟩) 0 c) (.slice p m c') with | x=>x)=_
  unfold aCopy
  simp only[hu,hi,lenV]
  rw[show Nat.min m 0=0 from Nat.min_zero m,hfc]
end Go.Am
/-
 CONTRACTS:what grows in room of its own; halves.
-/
set_option linter.unusedVariables false
set_option linter.unusedSimpArgs false
namespace Go.Am
theorem GrowC.app {P:Program} {lim:Nat} {h:AH} {st elem:TypeId} {sz by' : Nat} {b n c:Nat} {cs:List Value} (g:GrowC lim h elem sz b n c cs) (E:ElemOk P st elem sz by')
 {x:Value} {m:Nat} {ns:List Value} (hx:lenV x=some m) (hfn:firstC h sz m x=some ns) (hns:ns.length=m * sz) (hroom:n+m≤c):
 ∃h',aBuiltin P h .append #[st,st] [.slice (some ⟨b,0,none⟩) n c,x]=some (.slice (some ⟨b,0,none⟩) (n+m) c,h')∧GrowC lim h' elem sz b (n+m) c (cs ++ ns)∧Near b h h':=by
 have gs:=g.shows
 obtain⟨h1,h2,h3,h4',h5,rest,h6,h7⟩:=g
 obtain⟨hu,i,z,hi,hz,hzs,hpos,rfl,rfl⟩:=E
 have hfc:firstC h i.size n (.slice (some ⟨b,0,none⟩) n c)=some cs:=gs.firstC (.inr ⟨b,0,rfl⟩)
 rw[List.length_append] at h7
 have hns2:ns.length≤rest.length:=by
  have:(n+m) * i.size≤c * i.size:=Nat.mul_le_mul_right _ hroom
  rw[Nat.add_mul] at this
  omega
 cases m with
 | zero=>
   have:ns=[]:=by simpa using hns
   subst this
   refine⟨h,?_,⟨by simpa using h1,h2,h3,h4',h5,rest,by simpa using h6,by simpa using h7⟩,rfl,fun _ _=>rfl⟩
   rw[aBuiltin_append hu]
   unfold aAppend
   simp only[hu,hi,hx,hfc,hfn,hz]
   rw[if_pos ⟨hzs,hpos,hns,h1⟩,if_neg (by omega),if_pos hroom]
   rfl
 | succ m'=>
   refine⟨h.set b (.cells (cs ++ ns ++ rest.drop ns.length) elem false),?_,⟨by rw[List.length_append,h1,hns,←Nat.add_mul],h2,h3,hroom,h5,rest.drop ns.length,get_set_self _ _ _,?_⟩,rfl,fun x hx=>get_set_ne hx⟩
   ·rw[aBuiltin_append hu]
    unfold aAppend
    simp only[hu,hi,hx,hfc,hfn,hz]
    rw[if_pos ⟨hzs,hpos,hns,h1⟩,if_neg (by omega),if_pos hroom]
    have:aStoreCells h b (0+n * i.size) ns=some (h.set b (.cells (cs ++ ns ++ rest.drop ns.length) elem false)):=by
     unfold aStoreCells
     rw[h6]
     simp only
     rw[if_pos (by rw[List.length_append]; omega),Nat.zero_add,←h1,List.take_left,List.drop_append]
     rw[List.drop_eq_nil_of_le (by omega),List.nil_append,show cs.length+ns.length - cs.length=ns.length by omega]
    rw[this]
   ·rw[List.length_append,List.length_append,List.length_drop]; omega
theorem GrowC.near {lim:Nat} {h h' : AH} {elem:TypeId} {sz b n c x:Nat} {cs:List Value} (g:GrowC lim h elem sz b n c cs) (k:Near x h h') (hx:b≠x):GrowC lim h' elem sz b n c cs:=by
 obtain⟨h1,h2,h3,h4,h5,rest,h6,h7⟩:=g
 exact⟨h1,h2,by rw[k.1]; exact h3,h4,h5,rest,by rw[k.2 b hx]; exact h6,h7⟩
theorem GrowC.cutP {P:Program} {lim:Nat} {h:AH} {elem:TypeId} {sz b n c:Nat} {cs:List Value} (g:GrowC lim h elem sz b n c cs):CutP P h elem (some ⟨b,0,none⟩) n c:=.inr ⟨b,0,rfl,.inl ⟨g.2.2.2.1,g.2.2.2.2.1⟩⟩
theorem Grow.cutQ {P:Program} {lim:Nat} {h:AH} {elem:TypeId} {sz:Nat} {p:Option Addr} {n c:Nat} {cs:List Value} (g:Grow lim h elem sz p n c cs) (hn:n < openCap):CutP P h elem p n c:=by
 rcases g.2 with ⟨h1,h2,h3⟩ | ⟨b,h1, -, -,h4,h5⟩
 ·exact .inl ⟨h1,h2,by omega⟩
 ·refine .inr ⟨b,0,h1,?_⟩
  rcases h5 with h5 | h5
  ·exact .inr ⟨h5,_,_,_,h4,rfl⟩
  ·exact .inl ⟨by omega,by omega⟩
theorem shr1_u64 (x:Nat):aShift .shr .u64 (x:Int) 1=some (.int .u64 ((x / 2:Nat):Int)):=by
 unfold aShift
 rw[if_neg (by omega)]
 have h1:min ((1:Int)).toNat (IntKind.bits .u64)=1:=by decide
 simp only[h1]
 congr 2
 rw[Int.fdiv_eq_ediv_of_nonneg _ (by decide)]
 omega
end Go.Am
/-
 RANGES OVER MAPS,in whatever order they come:code of the model that runs,whatever the tape says,to some end of which Q holds.
-/
set_option linter.unusedVariables false
set_option linter.unusedSimpArgs false
namespace Go.Am
open Go.ChangeMaps (setBlock)
variable {P:Program} {K:Xs} {φ φ1 φ2:Fi} {h h1 h2:AH} {w w1 w2:World} {e:Env} {B N:Nat}
structure TnB (P:Program) (B:Nat) (φ:Fi) (h:AH) (w:World) (φ' : Fi) (h' : AH) (w' : World):Prop where
 le:Le φ φ'
 new:∀b,φ' b≠none→φ b≠none∨(h.next≤b∧b < h'.next)
 nle:h.next≤h'.next
 rel:R P φ' h' w'
 size:w.heap.size≤w'.heap.size
 os:w'.os=w.os
 tape:w'.tape=w.tape
 output:w'.output=w.output
 keep:∀c,c < B→¬Own φ h c→w'.heap[c]?= w.heap[c]?
 old:∀b o r,h'.get b=some o→φ' b=some r→r.blk < w.heap.size→∃b0 o0 r0,h.get b0=some o0∧φ b0=some r0∧r0.blk=r.blk∧(o.ro=false→o0.ro=false)
theorem Tn.toB (t:Tn P φ h w φ1 h1 w1) (hB:B≤w.heap.size):TnB P B φ h w φ1 h1 w1:=
 ⟨t.le,t.new,t.nle,t.rel,t.size,t.os,t.tape,t.output,fun c hc ho=>t.keep c (Nat.lt_of_lt_of_le hc hB) ho,t.old⟩
theorem TnB.toTn (t:TnB P w.heap.size φ h w φ1 h1 w1):Tn P φ h w φ1 h1 w1:=⟨t.le,t.new,t.nle,t.rel,t.size,t.os,t.tape,t.output,t.keep,t.old⟩
theorem TnB.own (t:TnB P B φ h w φ1 h1 w1) (c:Nat) (hc:c < w.heap.size) (k:Own φ1 h1 c):Own φ h c:=by
 obtain⟨b,o,r,k1,k2,k3,k4⟩:=k
 obtain⟨b0,o0,r0,g1,g2,g3,g4⟩:=t.old b o r k1 k2 (by rw[k3]; exact hc)
 exact⟨b0,o0,r0,g1,g2,by rw[g3,k3],g4 k4⟩
theorem TnB.trans (a:TnB P B φ h w φ1 h1 w1) (b:TnB P B φ1 h1 w1 φ2 h2 w2) (hB:B≤w.heap.size):TnB P B φ h w φ2 h2 w2 where
 le:=a.le.trans b.le
 new:=fun c e=>by
  rcases b.new c e with k | k
  ·rcases a.new c k with k | k
   ·exact .inl k
   ·exact .inr ⟨k.1,Nat.lt_of_lt_of_le k.2 b.nle⟩
  ·exact .inr ⟨Nat.le_trans a.nle k.1,k.2⟩
 nle:=Nat.le_trans a.nle b.nle
 rel:=b.rel
 size:=Nat.le_trans a.size b.size
 os:=b.os.trans a.os
 tape:=b.tape.trans a.tape
 output:=b.output.trans a.output
 keep:=fun c hc ho=>by
  rw[b.keep c hc (fun k=>ho (a.own c (Nat.lt_of_lt_of_le hc hB) k)),a.keep c hc ho]
 old:=fun c o r h1 h2 hc=>by
  obtain⟨c1,o1,r1,g1,g2,g3,g4⟩:=b.old c o r h1 h2 (Nat.lt_of_lt_of_le hc a.size)
  obtain⟨c0,o0,r0,k1,k2,k3,k4⟩:=a.old c1 o1 r1 g1 g2 (by rw[g3]; exact hc)
  exact⟨c0,o0,r0,k1,k2,k3.trans g3,fun q=>k4 (g4 q)⟩
theorem TnB.fresh (t:TnB P B φ h w φ1 h1 w1) (f:Free φ h.next N):Free φ1 h1.next N:=by
 intro x hx hx2
 cases e:φ1 x with
 | none=>rfl
 | some r=>
   rcases t.new x (by simp[e]) with k | k
   ·exact absurd (f x (Nat.le_trans t.nle hx) hx2) k
   ·omega
def Mc (P:Program) (B N:Nat) (c:Code) (e:Env) (h:AH) (φ:Fi) (w:World) (Q:AX→Env→AH→Fi→World→Prop):Prop:=∀a ds (b:Frame) k cs,
 Free φ h.next N→EnvR φ e a→codeDst a.size c=true→R P φ h w→b.roundOf=none→Marks P B φ h w ds→B≤w.heap.size→
 ∃x e' h' φ' a' ds' w',Q x e' h' φ' w'∧h'.next≤N∧TnB P B φ h w φ' h' w'∧EnvR φ' e' a'∧a'.size=a.size∧Marks P B φ' h' w' ds'∧Arr P (lone (At b a ds (.code c :: k)) cs w) b k cs x a' ds' w'
theorem Mc.mono {c:Code} {Q Q' : AX→Env→AH→Fi→World→Prop} (m:Mc P B N c e h φ w Q) (hq:∀x e' h' φ' w',Q x e' h' φ' w'→Q' x e' h' φ' w'):Mc P B N c e h φ w Q':=by
 intro a ds b k cs hf ke hd hr hrd hm hB
 obtain⟨x,e1,h1,φ1,a1,ds1,w1,q,r⟩:=m a ds b k cs hf ke hd hr hrd hm hB
 exact⟨x,e1,h1,φ1,a1,ds1,w1,hq _ _ _ _ _ q,r⟩
theorem Mc.of (G:Good P) (X:GoodX P K) {c:Code} {Q:AX→Env→AH→Prop} (hW:Wc P K none c e h Q) (hN:∀x e' h',Q x e' h'→h'.next≤N):Mc P B N c e h φ w fun x e' h' φ' w'=>Q x e' h'∧Tn P φ h w φ' h' w':=by
 intro a ds b k cs hf ke hd hr hrd hm hB
 obtain⟨n,x,e1,h1,hs,q⟩:=hW
 obtain⟨φ1,a1,ds1,w1,t1,k1,sz1,m1,ar1⟩:=ex_sound G X n none [] c e h x e1 h1 hs N B φ a w ds b k cs (hN _ _ _ q) hf ke hd hr hrd hm hB
 exact⟨x,e1,h1,φ1,a1,ds1,w1,⟨q,t1⟩,hN _ _ _ q,t1.toB hB,k1,sz1,m1,ar1⟩
def onM (k:Env→AH→Fi→World→Prop) (Q:AX→Env→AH→Fi→World→Prop):AX→Env→AH→Fi→World→Prop
 | .normal,e,h,φ,w=>k e h φ w
 | x,e,h,φ,w=>Q x e h φ w
theorem Mc.seq {ca cb:Code} {Q:AX→Env→AH→Fi→World→Prop} (ha:Mc P B N ca e h φ w (onM (fun e1 h1 φ1 w1=>TnB P B φ h w φ1 h1 w1→Mc P B N cb e1 h1 φ1 w1 Q) Q)):Mc P B N (.seq ca cb) e h φ w Q:=by
 intro a ds b k cs hf ke hd hr hrd hm hB
 simp only[codeDst,Bool.and_eq_true] at hd
 obtain⟨x,e1,h1,φ1,a1,ds1,w1,q,nn,t1,k1,sz1,m1,ar1⟩:=ha a ds b (.code cb :: k) cs hf ke hd.1 hr hrd hm hB
 cases x with
 | normal=>
   obtain⟨x,e2,h2,φ2,a2,ds2,w2,q2,nn2,t2,k2,sz2,m2,ar2⟩:=q t1 a1 ds1 b k cs (t1.fresh hf) k1 (by rw[sz1]; exact hd.2) t1.rel hrd m1 (Nat.le_trans hB t1.size)
   exact⟨x,e2,h2,φ2,a2,ds2,w2,q2,nn2,t1.trans t2 hB,k2,by rw[sz2,sz1],m2,Arr.of_steps (Steps.head at_seq ar1) ar2⟩
 | exit id=>
   obtain⟨k',s1,s2⟩:=ar1
   exact⟨.exit id,e1,h1,φ1,a1,ds1,w1,q,nn,t1,k1,sz1,m1,k',Steps.head at_seq s1,by rw[s2]; rfl⟩
 | ret=>
   obtain⟨k',s1⟩:=ar1
   exact⟨.ret,e1,h1,φ1,a1,ds1,w1,q,nn,t1,k1,sz1,m1,k',Steps.head at_seq s1⟩
def outM (id:Nat) (Q:AX→Env→AH→Fi→World→Prop):AX→Env→AH→Fi→World→Prop
 | .exit i,e,h,φ,w=>cond (Nat.beq i id) (Q .normal e h φ w) (Q (.exit i) e h φ w)
 | x,e,h,φ,w=>Q x e h φ w
theorem Mc.block {id:Nat} {c:Code} {Q:AX→Env→AH→Fi→World→Prop} (ha:Mc P B N c e h φ w (outM id Q)):Mc P B N (.block id c) e h φ w Q:=by
 intro a ds b k cs hf ke hd hr hrd hm hB
 simp only[codeDst] at hd
 obtain⟨x,e1,h1,φ1,a1,ds1,w1,q,nn,t1,k1,sz1,m1,ar1⟩:=ha a ds b (.inBlock id :: k) cs hf ke hd hr hrd hm hB
 cases x with
 | normal=>exact⟨.normal,e1,h1,φ1,a1,ds1,w1,q,nn,t1,k1,sz1,m1,Steps.head at_block (Steps.trans ar1 (.one at_inBlock))⟩
 | ret=>
   obtain⟨k',s1⟩:=ar1
   exact⟨.ret,e1,h1,φ1,a1,ds1,w1,q,nn,t1,k1,sz1,m1,k',Steps.head at_block s1⟩
 | exit id'=>
   obtain⟨k',s1,s2⟩:=ar1
   simp only[outM] at q
   cases hb:Nat.beq id' id with
   | true=>
     rw[hb] at q
     obtain rfl:id'= id:=Nat.eq_of_beq_eq_true hb
     refine⟨.normal,e1,h1,φ1,a1,ds1,w1,q,nn,t1,k1,sz1,m1,Steps.head at_block (s1.trans (.one (at_exit ?_)))⟩
     rw[s2]
     simp[exitTo]
   | false=>
     rw[hb] at q
     refine⟨.exit id',e1,h1,φ1,a1,ds1,w1,q,nn,t1,k1,sz1,m1,k',Steps.head at_block s1,?_⟩
     rw[s2]
     have:(id == id')=false:=by
      simp
      intro z
      subst z
      rw[Nat.beq_refl] at hb
      simp at hb
     simp[exitTo,this]
theorem Mc.cond {c:Operand} {ca cb:Code} {t:Bool} {Q:AX→Env→AH→Fi→World→Prop} (hc:ev e c=.bool t) (ha:Mc P B N (cond t ca cb) e h φ w Q):Mc P B N (.cond c ca cb) e h φ w Q:=by
 intro a ds b k cs hf ke hd hr hrd hm hB
 simp only[codeDst,Bool.and_eq_true] at hd
 have hrho:rho a c=.bool t:=by
  have hv:=VR.eval ke c
  rw[hc] at hv
  generalize hq:rho a c=q
  simp only[rho] at hq
  rw[hq] at hv
  cases hv
  rfl
 obtain⟨x,e1,h1,φ1,a1,ds1,w1,q,nn,t1,k1,sz1,m1,ar1⟩:=ha a ds b k cs hf ke (by cases t; exact hd.2; exact hd.1) hr hrd hm hB
 exact⟨x,e1,h1,φ1,a1,ds1,w1,q,nn,t1,k1,sz1,m1,Arr.of_steps (.one (at_cond hrho)) (by cases t <;> exact ar1)⟩
theorem Mc.loop1 {c:Code} {Q:AX→Env→AH→Fi→World→Prop} (ha:Mc P B N c e h φ w (onM (fun e1 h1 φ1 w1=>TnB P B φ h w φ1 h1 w1→Mc P B N (.loop c) e1 h1 φ1 w1 Q) Q)):Mc P B N (.loop c) e h φ w Q:=by
 intro a ds b k cs hf ke hd hr hrd hm hB
 have hd':=hd
 simp only[codeDst] at hd
 obtain⟨x,e1,h1,φ1,a1,ds1,w1,q,nn,t1,k1,sz1,m1,ar1⟩:=ha a ds b (.inLoop c :: k) cs hf ke hd hr hrd hm hB
 cases x with
 | normal=>
   obtain⟨x,e2,h2,φ2,a2,ds2,w2,q2,nn2,t2,k2,sz2,m2,ar2⟩:=q t1 a1 ds1 b k cs (t1.fresh hf) k1 (by rw[sz1]; exact hd') t1.rel hrd m1 (Nat.le_trans hB t1.size)
   exact⟨x,e2,h2,φ2,a2,ds2,w2,q2,nn2,t1.trans t2 hB,k2,by rw[sz2,sz1],m2,Arr.of_steps (Steps.head at_loop ar1) ar2.loopOn⟩
 | exit id=>
   obtain⟨k',s1,s2⟩:=ar1
   exact⟨.exit id,e1,h1,φ1,a1,ds1,w1,q,nn,t1,k1,sz1,m1,k',Steps.head at_loop s1,by rw[s2]; rfl⟩
 | ret=>
   obtain⟨k',s1⟩:=ar1
   exact⟨.ret,e1,h1,φ1,a1,ds1,w1,q,nn,t1,k1,sz1,m1,k',Steps.head at_loop s1⟩

/-! ## Iterators -/
def ItW (B:Nat) (φ:Fi) (w:World) (β m since:Nat) (seen:Array Nat) (c0:Nat):Prop:=
 ∃rb rm,φ β=some rb∧rb.shift=0∧φ m=some rm∧w.heap[rb.blk]?= some (.mapIter (some rm.blk) since seen c0)∧B≤rb.blk
theorem R.noIter (r:R P φ h w) {q:Nat} {x:Option Nat} {s:Nat} {seen:Array Nat} {c:Nat} (hq:w.heap[q]?= some (.mapIter x s seen c)):∀b o rc,h.get b=some o→φ b=some rc→rc.blk≠q:=by
 intro b o rc k1 k2 e
 obtain⟨o',ho,hr⟩:=r.obj b o rc k1 k2
 rw[e,hq] at ho
 cases ho
 cases o <;> simp[OR] at hr
theorem ItW.tn {β m since c0:Nat} {seen:Array Nat} (k:ItW B φ w β m since seen c0) (r:R P φ h w) (t:Tn P φ h w φ1 h1 w1):ItW B φ1 w1 β m since seen c0:=by
 obtain⟨rb,rm,k1,k2,k3,k4,k5⟩:=k
 refine⟨rb,rm,t.le _ _ k1,k2,t.le _ _ k3,?_,k5⟩
 rw[t.keep rb.blk (Array.getElem?_eq_some_iff.1 k4).1 fun ⟨b,o,rc,q1,q2,q3,_⟩=>r.noIter k4 b o rc q1 q2 q3]
 exact k4
theorem TnB.iter (r:R P φ h w) {q:Nat} {x x' : Option Nat} {s s' : Nat} {seen seen' : Array Nat} {c c' : Nat} (hq:w.heap[q]?= some (.mapIter x s seen c)) (hB:B≤q) (hw1:w1=w∨w1=w.drew):TnB P B φ h w φ h (setBlock w1 q (.mapIter x' s' seen' c')):=by
 have hh:w1.heap=w.heap:=by rcases hw1 with rfl | rfl <;> rfl
 have hne:=r.noIter hq
 have hat:∀c,c≠q→(setBlock w1 q (.mapIter x' s' seen' c')).heap[c]?= w.heap[c]?:=fun c hc=>by
  simp only[setBlock,hh]
  rw[Array.getElem?_setIfInBounds_ne (Ne.symm hc)]
 refine⟨Le.refl _,fun _ e=>.inl e,Nat.le_refl _,⟨fun b o rc k1 k2=>?_,r.inj,r.lt⟩,by simp[setBlock,hh],by rcases hw1 with rfl | rfl <;> rfl,by rcases hw1 with rfl | rfl <;> rfl,by rcases hw1 with rfl | rfl <;> rfl,
  fun c hc _=>hat c (by omega),fun b o rc k1 k2 _=>⟨b,o,rc,k1,k2,rfl,fun z=>z⟩⟩
 obtain⟨o',ho,hr⟩:=r.obj b o rc k1 k2
 exact⟨o',by rw[hat _ (hne b o rc k1 k2)]; exact ho,hr⟩
theorem Marks.iter {q:Nat} {x x' : Option Nat} {s s' : Nat} {seen seen' : Array Nat} {c c' : Nat} (hq:w.heap[q]?= some (.mapIter x s seen c)) (hw1:w1=w∨w1=w.drew):∀{ds:List Deferred},Marks P B φ h w ds→Marks P B φ h (setBlock w1 q (.mapIter x' s' seen' c')) ds
 | [],_=>trivial
 | d :: ds,⟨⟨p,k1,k2,k3,k4,k5⟩,hr⟩=>by
   have hh:w1.heap=w.heap:=by rcases hw1 with rfl | rfl <;> rfl
   have hne:p≠q:=fun e=>by rw[e,hq] at k3; cases k3
   refine⟨⟨p,k1,k2,?_,k4,k5⟩,Marks.iter hq hw1 hr⟩
   simp only[setBlock,hh]
   rw[Array.getElem?_setIfInBounds_ne (Ne.symm hne)]
   exact k3
theorem ER.ent:∀{es es' : List MapEntry},ER φ es es'→∀{x:MapEntry},x∈es'→∃y∈es,VR φ y.key x.key∧VR φ y.val x.val∧y.born=x.born
 | [],[],_,x,hx=>by cases hx
 | y :: es,z :: es',⟨k1,k2,k3,k4⟩,x,hx=>by
   rcases List.mem_cons.1 hx with rfl | hx
   ·exact⟨y,List.mem_cons_self ..,k1,k2,k3⟩
   ·obtain⟨u,hu,k⟩:=ER.ent k4 hx
    exact⟨u,List.mem_cons_of_mem _ hu,k⟩
theorem ER.borns:∀{es es' : List MapEntry},ER φ es es'→es'.map (·.born)=es.map (·.born)
 | [],[],_=>rfl
 | y :: es,z :: es',⟨_,_,k3,k4⟩=>by simp[ER.borns k4,k3]
theorem R.mapAt (r:R P φ h w) {m:Nat} {es:List MapEntry} {clock:Nat} (hm:h.get m=some (.map es clock)) {rm:Rec} (k:φ m=some rm):∃es',w.heap[rm.blk]?= some (.map es' clock)∧ER φ es es'.toList:=by
 obtain⟨o',ho,hr⟩:=r.obj m _ rm hm k
 cases o' <;> simp only[OR] at hr
 obtain⟨rfl,hr⟩:=hr
 exact⟨_,ho,hr⟩
theorem runPre {r:Ex} (Op:SOp P K r) (M:MonoEx r) {ks:List Tmp} {ops:Array Oper}:
 ∀(os:List Oper) (j:Nat) (e e' : Env) (h h' : AH),(∃rest,ops.toList.drop j=os ++ rest)→runOps P K r ks ops os e h=some (e',h')→∀(N:Nat) φ a w ds b k cs,
  h'.next≤N→Free φ h.next N→EnvR φ e a→(∀o∈ops.toList,∀t,o.dst=some t→t < a.size)→R P φ h w→
  ∃φ' a' w',Tn P φ h w φ' h' w'∧EnvR φ' e' a'∧a'.size=a.size∧Steps P (lone (At b a ds (.inRegion ops ((List.range ops.size).drop j) :: k)) cs w) (lone (At b a' ds (.inRegion ops ((List.range ops.size).drop (j+os.length)) :: k)) cs w')
 | [],j,e,e',h,h',hj,hs,N,φ,a,w,ds,b,k,cs,hN,hF,ke,hdst,hr=>by
   simp only[runOps,Option.some.injEq,Prod.mk.injEq] at hs
   obtain⟨rfl,rfl⟩:=hs
   exact⟨φ,a,w,Tn.refl hr,ke,rfl,Steps.refl P _⟩
 | o :: os,j,e,e',h,h',⟨rest,hj⟩,hs,N,φ,a,w,ds,b,k,cs,hN,hF,ke,hdst,hr=>by
   have hlt:j < ops.size:=by
    rcases Nat.lt_or_ge j ops.size with q | q
    ·exact q
    ·rw[List.drop_of_length_le (by simpa using q)] at hj; simp at hj
   have hoj:ops[j]?= some o:=by
    have:(ops.toList.drop j)[0]?= some o:=by rw[hj]; rfl
    simpa using this
   have hj' : ops.toList.drop (j+1)=os ++ rest:=by
    have:(ops.toList.drop j).drop 1=os ++ rest:=by rw[hj]; rfl
    simpa[List.drop_drop] using this
   have hmem:o∈ops.toList:=by
    have:=List.mem_of_getElem? (by simpa using hoj:ops.toList[j]?= some o)
    exact this
   have hjl:j+(o :: os).length=(j+1)+os.length:=by simp only[List.length_cons]; omega
   rw[hjl,drop_range hlt]
   unfold runOps at hs
   split at hs
   ·rename_i hw
    split at hs
    ·rename_i v h1 hr1
     have n1:=runOps_next M hs
     have n0:=runOp_next M hr1
     rw[preKill_next] at n0
     have tk:=preKill_tn hr ks o.dst e
     have hF' : Free φ (preKill ks o.dst e h).next N:=by rw[preKill_next]; exact hF
     obtain⟨φ1,v',w1,t1,hv,st⟩:=Op o e _ v h1 hr1 N φ a w ds b k cs ops j ((List.range ops.size).drop (j+1)) (by omega) hF' ke tk.rel hoj (wanted_of ke hw)
     have t01:=tk.trans t1
     obtain⟨φ2,a2,w2,t2,k2,sz2,st2⟩:=runPre Op M os (j+1) _ e' h1 h' ⟨rest,hj'⟩ hs N φ1 (putT a o.dst v') w1 ds b k cs hN (hF.tn t01) ((ke.mono t1.le).putO (fun t ht=>hdst o hmem t ht) hv)
      (fun o ho t ht=>by rw[size_putT]; exact hdst o ho t ht) t1.rel
     exact⟨φ2,a2,w2,t01.trans t2,k2,by rw[sz2,size_putT],st.trans st2⟩
    ·simp at hs
   ·rename_i hw
    obtain⟨φ2,a2,w2,t2,k2,sz2,st2⟩:=runPre Op M os (j+1) _ e' h h' ⟨rest,hj'⟩ hs N φ (putT a o.dst undef) w ds b k cs hN hF (ke.putO (fun t ht=>hdst o hmem t ht) (.skip rfl))
     (fun o ho t ht=>by rw[size_putT]; exact hdst o ho t ht) hr
    exact⟨φ2,a2,w2,t2,k2,by rw[sz2,size_putT],Steps.head (at_opSkip hoj (wanted_of ke hw)) st2⟩
   ·simp at hs
theorem wanted_none {ops:Array Oper} {o:Oper} {a:Array Value} (hg:o.guard=none) (ke:EnvR φ e a):Region.wanted o (yielded ops a)=true:=wanted_of (ops:=ops) ke (by simp[wantedA,hg])
theorem ev_map {a:Array Value} (ke:EnvR φ e a) {x:Operand} {m:Nat} (hx:ev e x=.map (some m)):∃rm,φ m=some rm∧rho a x=.map (some rm.blk):=by
 have hv:=VR.eval ke x
 rw[hx] at hv
 generalize hq:rho a x=q
 simp only[rho] at hq
 rw[hq] at hv
 cases hv with
 | map k=>exact⟨_,k,rfl⟩
theorem ev_ptr0 {a:Array Value} (ke:EnvR φ e a) {x:Operand} {β:Nat} (hx:ev e x=ptr β 0) {rb:Rec} (k:φ β=some rb) (hs:rb.shift=0):rho a x=.pointer (some ⟨rb.blk,0,none⟩):=by
 have hv:=VR.eval ke x
 rw[hx] at hv
 generalize hq:rho a x=q
 simp only[rho] at hq
 rw[hq] at hv
 unfold ptr at hv
 cases hv with
 | ptr k2=>
   rw[k] at k2
   cases k2
   rw[hs]
theorem Mc.range (G:Good P) (X:GoodX P K) {id:Nat} {ops:Array Oper} {pre:List Oper} {o:Oper} {t kt et:TypeId} {x:Operand} {d:Tmp} (hops:ops.toList=pre ++ [o]) (ho:o.op=.range t x) (hd:o.dst=some d) (hg:o.guard=none) (ht:P.underlying t=some (.map kt et))
 {n:Nat} {e1:Env} {h1:AH} (hpre:runOps P K (ex P K n) [] ops pre e h=some (e1,h1)) {m:Nat} {es:List MapEntry} {clock:Nat} (hx:ev e1 x=.map (some m)) (hm:h1.get m=some (.map es clock)) (hN:h1.next+1≤N):
 Mc P B N (.region id ops false) e h φ w fun y e' h' φ' w'=>y=.normal∧e'= e1.set d (ptr h1.next 0)∧h'= { h1 with next:=h1.next+1 }∧ItW B φ' w' h1.next m clock #[] clock:=by
 intro a ds b k cs hf ke hdst hr hrd hmk hB
 have hdst':=dst_of hdst
 obtain⟨φ1,a1,w1,t1,k1,sz1,st1⟩:=runPre (opIn_sound G X (ex_sound G X n) (ex_next n)) (ex_next n) pre 0 e e1 h h1 ⟨[o],by simpa using hops⟩ hpre N φ a w ds b k cs (by omega) hf ke hdst' hr
 obtain⟨rm,hφm,hxm⟩:=ev_map k1 hx
 obtain⟨es',hwm,hER⟩:=t1.rel.mapAt hm hφm
 have hrun:=run_range_map w1 t kt et rm.blk es' clock ht hwm
 have hsz:ops.size=pre.length+1:=by rw[←Array.length_toList,hops]; simp
 have hoj:ops[pre.length]?= some o:=by rw[←Array.getElem?_toList,hops]; simp
 have hlist:(List.range ops.size).drop (0+pre.length)=[pre.length]:=by
  rw[Nat.zero_add,drop_range (by omega),List.drop_of_length_le (by simp; omega)]
 rw[hlist] at st1
 have hexec:(execOp (rho a1) o).run P w1=.ok (.value (.pointer (some ⟨w1.heap.size,0,none⟩))) (w1.alloc (.mapIter (some rm.blk) clock #[] clock)):=by
  simp[execOp,ho,hxm,hrun]
 have st2:=at_val (b:=b) (ds:=ds) (k:=k) (cs:=cs) (rest:=[]) hoj (wanted_none hg k1) (by rw[ho]; intro c; simp) hexec
 let rc:Rec:=⟨w1.heap.size,0,0,0⟩
 let φ2:Fi:=fun c=>if c=h1.next then some rc else φ1 c
 have hfree:φ1 h1.next=none:=(t1.toB hB).fresh hf _ (Nat.le_refl _) (by omega)
 have hle:Le φ1 φ2:=fun c r hc=>by
  simp only[φ2]
  split
  ·rename_i e; rw[e,hfree] at hc; cases hc
  ·exact hc
 have hget:∀c,(w1.alloc (.mapIter (some rm.blk) clock #[] clock)).heap[c]?= if c=w1.heap.size then some (.mapIter (some rm.blk) clock #[] clock) else w1.heap[c]?:=fun c=>by
  show (w1.heap.push _)[c]?= _
  rw[Array.getElem?_push]
 have t2:Tn P φ1 h1 w1 φ2 { h1 with next:=h1.next+1 } (w1.alloc (.mapIter (some rm.blk) clock #[] clock)):=by
  have hφ2:∀c o,h1.get c=some o→φ2 c=φ1 c:=fun c o hc=>by
   have:=t1.rel.lt c o hc
   simp only[φ2]
   rw[if_neg (by omega)]
  refine⟨hle,fun c hc=>?_,by simp,⟨fun c o r k1 k2=>?_,fun c1 c2 o1 o2 r1 r2 k1 k2 k3 k4=>?_,fun c o k1=>?_⟩,by show _≤(w1.heap.push _).size; simp,rfl,rfl,rfl,fun c hc _=>?_,fun c o r k1 k2 _=>?_⟩
  ·by_cases e:c=h1.next
   ·exact .inr ⟨by omega,by simp[e]⟩
   ·simp only[φ2] at hc
    rw[if_neg e] at hc
    exact .inl hc
  ·have k1' : h1.get c=some o:=k1
   rw[hφ2 c o k1'] at k2
   obtain⟨o',q1,q2⟩:=t1.rel.obj c o r k1' k2
   have:=(Array.getElem?_eq_some_iff.1 q1).1
   exact⟨o',by rw[hget,if_neg (by omega)]; exact q1,q2.mono hle⟩
  ·have k1' : h1.get c1=some o1:=k1
   have k2' : h1.get c2=some o2:=k2
   rw[hφ2 _ _ k1'] at k3
   rw[hφ2 _ _ k2'] at k4
   exact t1.rel.inj c1 c2 o1 o2 r1 r2 k1' k2' k3 k4
  ·have k1' : h1.get c=some o:=k1
   have:=t1.rel.lt c o k1'
   show c < h1.next+1
   omega
  ·rw[hget,if_neg (by omega)]
  ·have k1' : h1.get c=some o:=k1
   rw[hφ2 c o k1'] at k2
   exact⟨c,o,r,k1',k2,rfl,fun z=>z⟩
 have t12:=t1.trans t2
 have hmem:o∈ops.toList:=by rw[hops]; simp
 refine⟨.normal,_,_,φ2,putT a1 o.dst (.pointer (some ⟨w1.heap.size,0,none⟩)),ds,_,⟨rfl,rfl,rfl,rc,rm,by simp[φ2],rfl,hle _ _ hφm,by rw[hget,if_pos rfl],Nat.le_trans hB t1.size⟩,hN,t12.toB hB,?_,by rw[size_putT,sz1],hmk.tn t12,Steps.head at_region (st1.trans (Steps.head st2 (.one at_end)))⟩
 have:=(k1.mono hle).putO (d:=o.dst) (v:=ptr h1.next 0) (v':=.pointer (some ⟨w1.heap.size,0,none⟩)) (fun t ht=>by rw[sz1]; exact hdst' o hmem t ht) (by
  have:VR φ2 (.pointer (some ⟨h1.next,0,none⟩)) (.pointer (some ⟨rc.blk,rc.shift+0,none⟩)):=.ptr (by simp[φ2])
  exact this)
 rw[hd] at this ⊢
 exact this
theorem Mc.next (G:Good P) (X:GoodX P K) {id:Nat} {ops:Array Oper} {o1 o2:Oper} {ti tn tb:Tmp} (hops:ops=#[o1,o2]) (p1:o1.op=.next (.tmp ti) false) (d1:o1.dst=some tn) (g1:o1.guard=none) (p2:o2.op=.extract (.tmp tn) 0) (d2:o2.dst=some tb) (g2:o2.guard=none)
 {β m since c0 clock:Nat} {seen:Array Nat} {es:List MapEntry} (he:ev e (.tmp ti)=ptr β 0) (hm:h.get m=some (.map es clock)) (hb:∀x∈es,x.born < since) (hc:since≤c0) (I:ItW B φ w β m since seen c0) (hN:h.next≤N):
 Mc P B N (.region id ops false) e h φ w fun x e' h' φ' w'=>x=.normal∧h'= h∧φ'= φ∧(((∀y∈es,seen.contains y.born=true)∧e'= (e.set tn (.tuple #[.bool false])).set tb (.bool false))∨
  ∃y∈es,seen.contains y.born=false∧e'= (e.set tn (.tuple #[.bool true,y.key,y.val])).set tb (.bool true)∧ItW B φ w' β m since (seen.push y.born) clock):=by
 intro a ds b k cs hf ke hdst hr hrd hmk hB
 have hdst':=dst_of hdst
 obtain⟨rb,rm,k1,k2,k3,k4,k5⟩:=I
 obtain⟨es',hwm,hER⟩:=hr.mapAt hm k3
 have hit:=ev_ptr0 ke he k1 k2
 have hold:∀x∈es'.toList,x.born < since:=fun x hx=>by
  obtain⟨y,hy, -, -,q⟩:=hER.ent hx
  rw[←q]
  exact hb y hy
 subst hops
 have hs1:∀{v:Value} {w1:World},(Instr.next (.pointer (some ⟨rb.blk,0,none⟩)) false o1.type).run P w=.ok v w1→step P (lone (At b a ds (.inRegion #[o1,o2] (0 :: [1]) :: k)) cs w)=.next (lone (At b (putT a o1.dst v) ds (.inRegion #[o1,o2] [1] :: k)) cs w1):=fun {v w1} hrun=>
  at_val (b:=b) (ds:=ds) (k:=k) (cs:=cs) (rest:=[1]) (by simp) (wanted_none g1 ke) (by rw[p1]; intro c; simp) (by simp[execOp,p1,hit,hrun])
 have m1:o1∈(#[o1,o2]:Array Oper).toList:=by simp
 have m2:o2∈(#[o1,o2]:Array Oper).toList:=by simp
 have tail:∀{v v' : Value} {w1:World} {u u' : Value},VR φ v v'→VR φ u u'→(∀a1,rho a1 (.tmp tn)=v'→(execOp (rho a1) o2).run P w1=.ok (.value u') w1)→
  ∃a',EnvR φ ((e.set tn v).set tb u) a'∧a'.size=a.size∧Steps P (lone (At b (putT a o1.dst v') ds (.inRegion #[o1,o2] [1] :: k)) cs w1) (lone (At b a' ds k) cs w1):=by
  intro v v' w1 u u' hv hu hx
  have l1:tn < a.size:=hdst' o1 m1 tn d1
  have l2:tb < (putT a o1.dst v').size:=by rw[size_putT]; exact hdst' o2 m2 tb d2
  have ke1:EnvR φ (e.set tn v) (putT a o1.dst v'):=by rw[d1]; exact ke.put l1 hv
  have hrho:rho (putT a o1.dst v') (.tmp tn)=v':=by
   rw[d1]
   simp[rho,Act.eval,putT,Array.getD_eq_getD_getElem?,l1]
  have st2:=at_val (i:=1) (ops:=#[o1,o2]) (o:=o2) (b:=b) (ds:=ds) (k:=k) (cs:=cs) (rest:=[]) (by simp) (wanted_none (ops:=#[o1,o2]) g2 ke1) (by rw[p2]; intro c; simp) (hx _ hrho)
  refine⟨putT (putT a o1.dst v') o2.dst u',?_,by rw[size_putT,size_putT],Steps.head st2 (.one at_end)⟩
  rw[d2]
  exact ke1.put l2 hu
 rcases run_next_at (P:=P) w o1.type rb.blk rm.blk since c0 seen es' clock k4 hwm hold hc with ⟨h0,hrun⟩ | ⟨x,hx,w1,hw1,hrun⟩
 ·obtain⟨a',q1,q2,q3⟩:=tail (w1:=w) (v:=.tuple #[.bool false]) (v':=.tuple #[.bool false]) (u:=.bool false) (u':=.bool false) (AR.tuple ⟨.bool _,trivial⟩) (.bool _) fun a1 ha=>by simp[execOp,p2,ha,Instr.extract]
  refine⟨.normal,_,h,φ,a',ds,w,⟨rfl,rfl,rfl,.inl ⟨fun y hy=>?_,rfl⟩⟩,hN,(Tn.refl hr).toB hB,q1,q2,hmk,Steps.head at_region (Steps.head (hs1 hrun) q3)⟩
  have hbm:y.born∈es'.toList.map (·.born):=by rw[hER.borns]; exact List.mem_map.2 ⟨y,hy,rfl⟩
  obtain⟨z,hz,hzb⟩:=List.mem_map.1 hbm
  rw[←hzb]
  exact all_seen es' seen h0 z hz
 ·obtain⟨hxm,hxs⟩:=mem_left hx
  obtain⟨y,hy,v1,v2,v3⟩:=hER.ent hxm
  obtain⟨a',q1,q2,q3⟩:=tail (w1:=setBlock w1 rb.blk (.mapIter (some rm.blk) since (seen.push x.born) clock)) (v:=.tuple #[.bool true,y.key,y.val]) (v':=.tuple #[.bool true,x.key,x.val]) (u:=.bool true) (u':=.bool true)
   (AR.tuple ⟨.bool _,v1,v2,trivial⟩) (.bool _) fun a1 ha=>by simp[execOp,p2,ha,Instr.extract]
  refine⟨.normal,_,h,φ,a',ds,_,⟨rfl,rfl,rfl,.inr ⟨y,hy,by rw[v3]; exact hxs,rfl,rb,rm,k1,k2,k3,?_,k5⟩⟩,hN,TnB.iter hr k4 k5 hw1,q1,q2,Marks.iter k4 hw1 hmk,Steps.head at_region (Steps.head (hs1 hrun) q3)⟩
  have hh:w1.heap=w.heap:=by rcases hw1 with rfl | rfl <;> rfl
  rw[v3]
  simp only[setBlock,hh]
  rw[Array.getElem?_setIfInBounds_self_of_lt (Array.getElem?_eq_some_iff.1 k4).1]
theorem Mc.entry (G:Good P) (X:GoodX P K) {id:Nat} {ops:Array Oper} {o:Oper} {post:List Oper} {ti te:Tmp} (hops:ops.toList=o :: post) (p1:o.op=.entry (.tmp ti)) (d1:o.dst=some te) (g1:o.guard=none)
 {β m since clock:Nat} {seen:Array Nat} {es:List MapEntry} (he:ev e (.tmp ti)=ptr β 0) (hm:h.get m=some (.map es clock)) (hn:(es.map (·.born)).Nodup) {y:MapEntry} (hy:y∈es) (I:ItW B φ w β m since (seen.push y.born) clock)
 {n:Nat} {e2:Env} {h2:AH} (hpost:runOps P K (ex P K n) [] ops post (e.set te (.tuple #[y.key,y.val])) h=some (e2,h2)) (hN:h2.next≤N):
 Mc P B N (.region id ops false) e h φ w fun x e' h' φ' w'=>x=.normal∧e'= e2∧h'= h2∧ItW B φ' w' β m since (seen.push y.born) clock:=by
 intro a ds b k cs hf ke hdst hr hrd hmk hB
 have hdst':=dst_of hdst
 have I':=I
 obtain⟨rb,rm,k1,k2,k3,k4,k5⟩:=I
 obtain⟨es',hwm,hER⟩:=hr.mapAt hm k3
 have hit:=ev_ptr0 ke he k1 k2
 have hn' : (es'.toList.map (·.born)).Nodup:=by rw[hER.borns]; exact hn
 have hbm:y.born∈es'.toList.map (·.born):=by rw[hER.borns]; exact List.mem_map.2 ⟨y,hy,rfl⟩
 obtain⟨x,hx,hxb⟩:=List.mem_map.1 hbm
 obtain⟨z,hz,v1,v2,v3⟩:=hER.ent hx
 have hzy:z=y:=by
  have:∀{l:List MapEntry},(l.map (·.born)).Nodup→∀{p q:MapEntry},p∈l→q∈l→p.born=q.born→p=q:=by
   intro l
   induction l with
   | nil=>intro _ p q hp; cases hp
   | cons c l ih=>
     intro hnd p q hp hq hpq
     simp only[List.map_cons,List.nodup_cons] at hnd
     rcases List.mem_cons.1 hp with hp2 | hp2
     ·rcases List.mem_cons.1 hq with hq2 | hq2
      ·rw[hp2,hq2]
      ·exact absurd (List.mem_map.2 ⟨q,hq2,by rw[←hpq,hp2]⟩) hnd.1
     ·rcases List.mem_cons.1 hq with hq2 | hq2
      ·exact absurd (List.mem_map.2 ⟨p,hp2,by rw[hpq,hq2]⟩) hnd.1
      ·exact ih hnd.2 hp2 hq2 hpq
  exact this hn hz hy (v3.trans hxb)
 subst hzy
 have hrun:=run_entry_at (P:=P) w rb.blk rm.blk since seen es' clock x (by rw[hxb]; exact k4) hwm hx hn'
 have hoj:ops[0]?= some o:=by rw[←Array.getElem?_toList,hops]; rfl
 have hsz:0 < ops.size:=by rw[←Array.length_toList,hops]; simp
 have hmem:o∈ops.toList:=by rw[hops]; simp
 have st1:=at_val (b:=b) (ds:=ds) (k:=k) (cs:=cs) (rest:=(List.range ops.size).drop (0+1)) hoj (wanted_none g1 ke) (by rw[p1]; intro c; simp) (by simp[execOp,p1,hit,hrun]:(execOp (rho a) o).run P w=.ok (.value (.tuple #[x.key,x.val])) w)
 have ke1:EnvR φ (e.set te (.tuple #[z.key,z.val])) (putT a o.dst (.tuple #[x.key,x.val])):=by
  rw[d1]
  exact ke.put (hdst' o hmem te d1) (AR.tuple ⟨v1,v2,trivial⟩)
 obtain⟨φ2,a2,w2,t2,q2,sz2,st2⟩:=runPre (opIn_sound G X (ex_sound G X n) (ex_next n)) (ex_next n) post 1 _ e2 h h2 ⟨[],by rw[hops]; simp⟩ hpost N φ (putT a o.dst (.tuple #[x.key,x.val])) w ds b k cs hN hf ke1
  (fun o ho t ht=>by rw[size_putT]; exact hdst' o ho t ht) hr
 have hend:(List.range ops.size).drop (1+post.length)=[]:=by
  rw[List.drop_of_length_le]
  have:ops.size=post.length+1:=by rw[←Array.length_toList,hops]; simp
  simp only[List.length_range]
  omega
 rw[hend] at st2
 refine⟨.normal,e2,h2,φ2,a2,ds,w2,⟨rfl,rfl,rfl,I'.tn hr t2⟩,hN,t2.toB hB,q2,by rw[sz2,size_putT],hmk.tn t2,Steps.head at_region ?_⟩
 have:List.range ops.size=0 :: (List.range ops.size).drop 1:=by
  have:=drop_range hsz
  simpa using this
 rw[this]
 exact Steps.head st1 (st2.trans (.one at_end))
theorem Mc.rangeV (G:Good P) (X:GoodX P K) {id:Nat} {ops:Array Oper} {pre:List Oper} {o:Oper} {t kt et:TypeId} {tx d:Tmp} (hops:ops.toList=pre ++ [o]) (ho:o.op=.range t (.tmp tx)) (hd:o.dst=some d) (hg:o.guard=none) (ht:P.underlying t=some (.map kt et))
 {a aa:Env} {hh:AH} (ha:agr a e) (V:vOps P K ops pre a h fun a1 h1=>a1=aa∧h1=hh) {m:Nat} {es:List MapEntry} {clock:Nat} (hx:aa.get tx=some (.map (some m))) (hm:hh.get m=some (.map es clock)) (hN:hh.next+1≤N):
 Mc P B N (.region id ops false) e h φ w fun y e' h' φ' w'=>y=.normal∧agr (aa.set d (ptr hh.next 0)) e'∧h'= { hh with next:=hh.next+1 }∧ItW B φ' w' hh.next m clock #[] clock:=by
 obtain⟨n,e1,h1,hrun,a1,ha1,rfl,rfl⟩:=vOps_sound ha V
 refine (Mc.range G X hops ho hd hg ht hrun (by show (e1.get tx).getD undef=_; rw[ha1 _ _ hx]; rfl) hm hN).mono ?_
 rintro y e' h' φ' w' ⟨rfl,rfl,rfl,I⟩
 exact⟨rfl,agr_set ha1 _ _,rfl,I⟩
theorem Mc.entryV (G:Good P) (X:GoodX P K) {id:Nat} {ops:Array Oper} {o:Oper} {post:List Oper} {ti te:Tmp} (hops:ops.toList=o :: post) (p1:o.op=.entry (.tmp ti)) (d1:o.dst=some te) (g1:o.guard=none)
 {β m since clock:Nat} {seen:Array Nat} {es:List MapEntry} {a:Env} (ha:agr a e) (he:a.get ti=some (ptr β 0)) (hm:h.get m=some (.map es clock)) (hn:(es.map (·.born)).Nodup) {y:MapEntry} (hy:y∈es) (I:ItW B φ w β m since (seen.push y.born) clock)
 {k:Env→AH→Prop} (V:vOps P K ops post (a.set te (.tuple #[y.key,y.val])) h k) (hN:∀a1 g,k a1 g→g.next≤N):
 Mc P B N (.region id ops false) e h φ w fun x e' h' φ' w'=>x=.normal∧(∃a1,agr a1 e'∧k a1 h')∧ItW B φ' w' β m since (seen.push y.born) clock:=by
 obtain⟨n,e1,h1,hrun,a1,ha1,hk⟩:=vOps_sound (agr_set ha te (.tuple #[y.key,y.val])) V
 refine (Mc.entry G X hops p1 d1 g1 (by show (e.get ti).getD undef=_; rw[ha _ _ he]; rfl) hm hn hy I hrun (hN _ _ hk)).mono ?_
 rintro x e' h' φ' w' ⟨rfl,rfl,rfl,I⟩
 exact⟨rfl,⟨a1,ha1,hk⟩,I⟩
theorem Mc.vc (G:Good P) (X:GoodX P K) {hs:List (Nat×Live)} {c:Code} {a:Env} {Q:AX→Env→AH→Prop} (ha:agr a e) (V:Am.vc P K hs none c a h Q) (hN:∀x a' g,Q x a' g→g.next≤N):Mc P B N c e h φ w fun x e' h' φ' w'=>(∃a',agr a' e'∧Q x a' h')∧Tn P φ h w φ' h' w':=
 Mc.of G X (vc_sound ha V) fun x e' h' ⟨a',_,q⟩=>hN x a' h' q
def TellsM (P:Program) (fa:FuncId) (g:List Value→AH→Option (Value×AH)):Prop:=
 ∀args h v h',(∀b o,h.get b=some o→b < h.next)→g args h=some (v,h')→∃fn c,P.funcs[fa]?= some fn∧fn.body=some c∧∀B φ w,Mc P B h'.next c (Tr.ofList args) h φ w fun x e1 h1 _ _=>(x=.normal∨x=.ret)∧aResults P e1 h1 fn.results.toList=some v∧∀b o,h'.get b=some o→h1.get b=some o
theorem tellsM_good (G:Good P) (X:GoodX P K) {fa:FuncId} {g:List Value→AH→Option (Value×AH)} (hb:∃fn c,P.funcs[fa]?= some fn∧fn.body=some c) (T:TellsM P fa g):GoodX P (xAdd K fa (.sum g)):=by
 refine add_good X hb ?_
 intro args h v h' hg hn N φ args' w cs hN hF ha hr
 obtain⟨fn,c,hfn,hc,M⟩:=T args h v h' hr.lt hg
 let b:Frame:={ (default:Frame) with fn:=fa,kind:=.normal,roundOf:=none }
 have henter:Frame.enter P fa args'.toArray .normal=At b (args'.toArray ++ Array.replicate (fn.ntmps - args'.toArray.size) undef) [] [.code c]:=by
  simp[Frame.enter,At,hfn,hc,b]
 have hdst:codeDst (args'.toArray ++ Array.replicate (fn.ntmps - args'.toArray.size) undef).size c=true:=codeDst_mono (by simp; omega) c (G.dst fa fn c hfn hc)
 obtain⟨x,e1,h1,φ1,a1,ds1,w1,⟨hx,hres,hk⟩,hle,t1,k1,sz1,m1,ar1⟩:=M w.heap.size φ w (args'.toArray ++ Array.replicate (fn.ntmps - args'.toArray.size) undef) [] b [] cs (hF.mono hN) (enter_env ha _) hdst hr rfl trivial (Nat.le_refl _)
 rw[←henter] at ar1
 have harr:∃td,Steps P (lone (Frame.enter P fa args'.toArray .normal) cs w) (lone { At b a1 ds1 td with mode:=.returning } cs w1):=by
  rcases hx with rfl | rfl
  ·exact⟨[],Steps.trans ar1 (.one (step_lone_go (by simp[stepG,stepG.exec,At,b])))⟩
  ·obtain⟨k',s⟩:=ar1
   exact⟨.code .ret :: k',Steps.trans s (.one (step_lone_go (by simp[stepG,stepG.exec,At,b])))⟩
 obtain⟨td,s1⟩:=harr
 obtain⟨w2,s2,r2,g1,g2,g3,g4,g5⟩:=unwind_marks (P:=P) (φ:=φ1) (h:=h1) (b:=b) (B:=w.heap.size) (a:=a1) (cs:=cs) (td:=td) rfl ds1 w1 m1 t1.rel
 obtain⟨v',hv1,hv2⟩:=results_sound r2 k1 hres
 refine⟨φ1,v',w2,_,⟨t1.le,fun b q=>(t1.new b q).imp id (fun q=>⟨q.1,by omega⟩),hn,⟨fun b o rc k1 k2=>r2.obj b o rc (hk b o k1) k2,fun b1 b2 o1 o2 r1 r2' k1 k2=>r2.inj b1 b2 o1 o2 r1 r2' (hk _ _ k1) (hk _ _ k2),fun b o k1=>Nat.lt_of_lt_of_le (r2.lt b o (hk _ _ k1)) hle⟩,
  by rw[g1]; exact t1.size,g2.trans t1.os,g3.trans t1.tape,g4.trans t1.output,fun c hc ho=>by rw[g5 c hc]; exact t1.keep c hc ho,fun b o rc k1=>t1.old b o rc (hk _ _ k1)⟩,hv2,s1.trans s2,rfl,rfl,rfl,rfl,fn,hfn,hv1⟩
end Go.Am
/-
 HOW MANY VERSIONS:what is told of (*model.Model).Versions,which ranges over a map.
-/
set_option linter.unusedVariables false
set_option linter.unusedSimpArgs false
namespace Go.Am
def versOf:Nat→List Value→Option (List Int)
 | 0,[]=>some []
 | k+1,l=>match l.drop 128 with | .int .u64 v :: r=>cond (Lit.int .u64 v).wf (match versOf k r with | some vs=>some (v :: vs) | none=>none) none | _=>none
 | _,_=>none
def addV (s:List Int) (v:Int):List Int:=cond (v == 0 || s.contains v) s (s ++ [v])
def versE (n:Nat):List MapEntry→List Int→Option (List Int)
 | [],s=>some s
 | e :: es,s=>match e.key,e.val with | .int .u64 _,.agg cs=>(match versOf n cs.toList with | some vs=>versE n es (vs.foldl addV s) | none=>none) | _,_=>none
def bornsOk:List MapEntry→Nat→Bool
 | [],_=>true
 | e :: es,c=>Nat.blt e.born c && (!(es.any fun x=>Nat.beq x.born e.born)) && bornsOk es c
def xVersions (n:Nat):List Value→AH→Option (Value×AH)
 | [.pointer (some ⟨b,off,none⟩)],h=>
   match h.get b with
   | some (.cells cs _ _)=>
     match cs[off+2]? with
     | some (.map (some m))=>
       match h.get m with
       | some (.map es clock)=>cond (bornsOk es clock) (match versE n es [] with | some s=>some (.int .i64 (s.length:Int),⟨h.tr,h.next+2+es.length⟩) | none=>none) none
       | _=>none
     | _=>none
   | _=>none
 | _,_=>none
end Go.Am
/-
 MAPS THAT ARE CLONED:maps.clone has no body; what is told of it.
-/
set_option linter.unusedVariables false
set_option linter.unusedSimpArgs false
namespace Go.Am
variable {P:Program} {K:Xs}
def xClone:List Value→AH→Option (Value×AH)
 | [.iface t (.map (some r))],h=>match h.get r with | some (.map es clock)=>some (.iface t (.map (some h.next)),h.alloc (.map es clock)) | _=>none
 | _,_=>none
def IsClone (P:Program) (f:FuncId):Prop:=∃fn,P.funcs[f]?= some fn∧fn.body=none∧(fn.name == "runtime.NumGoroutine")=false∧Extern.findNext fn=none∧Extern.find fn=some Extern.MapsClone.clone
theorem clone_ext {f:FuncId} (hx:IsClone P f):∀φ args args' h w v h',xClone args h=some (v,h')→h.next≤h'.next→Free φ h.next h'.next→AR φ args args'→R P φ h w→
 ∃φ' v' w',(callFunc f args'.toArray).run P w=.ok (.value v') w'∧VR φ' v v'∧Tn P φ h w φ' h' w':=by
 intro φ args args' h w v h' hs _ hF ha hr
 unfold xClone at hs
 split at hs
 ·rename_i h0 t r
  split at hs
  ·rename_i es clock hm
   simp only[Option.some.injEq,Prod.mk.injEq] at hs
   obtain⟨rfl,rfl⟩:=hs
   match args',ha with
   | [x1],ha=>
     obtain⟨hv, -⟩:=ha
     cases hv with
     | iface hv=>
       cases hv with
       | map hφ=>
         rename_i rc
         obtain⟨es',hw,hE⟩:=hr.mapAt hm hφ
         obtain⟨fn,g1,g2,g3,g4,g5⟩:=hx
         have ht:=Tn.alloc (P:=P) hr (.map es clock) (.map es' clock) ⟨w.heap.size,0,0,0⟩ (hF _ (Nat.le_refl _) (by simp)) rfl (fun ψ hle _=>⟨rfl,hE.mono hle⟩) 0
         have hrun:(Extern.MapsClone.clone [Value.iface t (.map (some rc.blk))].toArray).run P w=.ok (.iface t (.map (some w.heap.size))) { w with heap:=w.heap.push (.map es' clock),drawn:=w.drawn+0 }:=by
          show Sem.run P (getObj rc.blk >>= fun o=>match o with | Obj.map entries clock=>(newObj (Obj.map entries clock) >>= fun q=>pure (Value.iface t (.map (some q)))) | _=>stuck _) w=_
          simp only[Sem.run_bind,MapKept.run_getObj_map hw,Result.andThen_ok,run_newObj,Sem.run_pure]
          rfl
         refine⟨_,.iface t (.map (some w.heap.size)),_,?_,.iface (.map (r:=⟨w.heap.size,0,0,0⟩) (by simp)),ht⟩
         generalize Extern.MapsClone.clone=ee at g5 hrun
         simp only[callFunc,Sem.run_bind,run_program,Result.andThen_ok,g1,g3,g2,Option.isNone_none,g4,g5]
         simp[mark,Sem.run,hrun]
  ·simp at hs
 ·simp at hs
theorem ext_good (X:GoodX P K) {fa:FuncId} {g:List Value→AH→Option (Value×AH)}
 (he:∀φ args args' h w v h',g args h=some (v,h')→h.next≤h'.next→Free φ h.next h'.next→AR φ args args'→R P φ h w→∃φ' v' w',(callFunc fa args'.toArray).run P w=.ok (.value v') w'∧VR φ' v v'∧Tn P φ h w φ' h' w'):GoodX P (xAdd K fa (.ext g)) where
 ext:=fun f x hk=>by
  by_cases hf:f=fa
  ·subst hf
   rw[xAdd_at] at hk
   simp only[Option.some.injEq,XF.ext.injEq] at hk
   subst hk
   exact he
  ·rw[xAdd_ne hf] at hk
   exact X.ext f x hk
 body:=fun f x hk=>by
  by_cases hf:f=fa
  ·subst hf
   rw[xAdd_at] at hk
   simp at hk
  ·rw[xAdd_ne hf] at hk
   exact X.body f x hk
 sum:=fun f x hk=>by
  by_cases hf:f=fa
  ·subst hf
   rw[xAdd_at] at hk
   simp at hk
  ·rw[xAdd_ne hf] at hk
   exact X.sum f x hk
end Go.Am
