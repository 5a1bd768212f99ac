/-
  Texts of this proof, part 35. No condition.
-/
import Derived.Test.YtmnbboleclchcaaGreatFVMiz
set_option linter.unusedVariables false
set_option linter.unusedSimpArgs false
set_option maxRecDepth 100000
namespace Go.Am
open Go.Proofs
def natP (l:List (Int×Int)):List (Nat×Nat):=l.map λq=>(q.1.toNat,q.2.toNat)
theorem ziT:∀{e:Int} {l:List (Int×Int)},GapI e l->spI l=spC (natP l)/\Gap e (natP l)
 | _,[],_=>⟨rfl,trivial⟩
 | e,(a,b) :: r,⟨h1,h2,h3⟩=>by
   obtain⟨e1,e2⟩:=ziT h3
   unfold ztl at h2
   obtain⟨x,rfl⟩:=Int.eq_ofNat_of_zero_le h2.1
   obtain⟨y,rfl⟩:=Int.eq_ofNat_of_zero_le (a:=b) (by omega)
   exact⟨by show _ :: _ :: spI r=_; rw[e1]; rfl,h1,by omega,by omega,e2⟩
open Classical in
noncomputable def exI (l:List (Int×Int)):List Nat:=if GapI (-1) l then exN (natP l) else []
theorem zz4 {e:Int} {sp:List (Nat×Nat)} (g:Gap e sp):∀x∈exN sp,x < 4096:=by grind[exN,Q2,Gap.at]
theorem zo0 (l:List (Int×Int)):∀x∈exI l,x < 4096:=λx hx=>by
 unfold exI at hx
 split at hx
 ·rename_i h
  exact zz4 (ziT h).2 x hx
 grind
theorem zuz (l:List (Int×Int)):(exI l).Pairwise (· < ·):=by
 unfold exI
 split
 ·rename_i h
  exact zsB (ziT h).2
 simp
theorem zn1 (l:List (Int×Int)):(exI l).length<=4096:=by
 have h1:=zuz l
 have h2:=zo0 l
 have:(exI l).Nodup:=by grind[List.Pairwise.imp]
 have:=List.Nodup.length_le_of_subset (l₂:=List.range 4096) this λx hx=>List.mem_range.2 (h2 x hx)
 grind
theorem zz5 {h:AH} {p:Option Addr} {n c:Nat} {l:List (Int×Int)} (hl:l.length=n) (hi:∀q∈l,inP q) (hn:n<=281474976710656) {ya pb lim:Nat} {JJ:Nat->AH->Prop} {DD:AH->Prop} {B:AH->AH->Prop}
 (hJ:∀i h1 h2,JJ i h1->Old h1 h2->JJ i h2) (hs:∀i h1,JJ i h1->(∃t ro,h1.get pb=some (.cells [.slice p n c] t ro))/\zaz h1 p n 2 (spI l)/\lim<=h1.next)
 (hB:∀h1 h2,B h1 h2->h1.next<=h2.next/\∀c,lim<=c->c < h1.next->h2.get c=h1.get c)
 (hr:∀(k:Nat) (h1:AH),k < (exI l).length->JJ k h1->Wy Tryz.prog KB ya [.int .i64 ((exI l)[k]?.getD 0:Nat)] h1 λv h2=>((v=.bool true/\JJ (k+1) h2)\/(v=.bool false/\DD h2))/\B h1 h2)
 (h0:JJ 0 h):Wf Tryz.prog KB 232 [Value.func (Fn.yield ya) #[] #[],.pointer (some ⟨pb,0,none⟩)] h λ_ h'=>JJ (exI l).length h'\/DD h':=by
 rcases Classical.em (GapI (-1) l) with hg | hg
 ·have e:exI l=exN (natP l):=if_pos hg
  obtain⟨e1,e2⟩:=ziT hg
  rw[e] at hr ⊢
  have nl:n<=1000000:=by
   have h1:=zn1 l
   have h2:∀{e:Int} {sp:List (Nat×Nat)},Gap e sp->sp.length<=(exN sp).length:=by
    intro e sp
    induction sp generalizing e with
    | nil=>simp
    | cons q r ih=>
      intro g
      have:=ih g.2.2.2
      have e3:exN (q :: r)=List.range' q.1 q.2 ++ exN r:=rfl
      have:=g.2.1
      grind
   grind[natP]
  exact zuy (xb rfl) (xb rfl) (xb rfl) e2 nl hJ (λi h1 q=>by have:=hs i h1 q; rw[e1] at this; omega) hB (by grind) h0
 ·have e:exI l=[]:=if_neg hg
  obtain⟨⟨t0,ro0,c0⟩,s0, -⟩:=hs 0 h h0
  refine zeN (xb rfl) _ _ h _ (zaa ⟨p,n,c,zah c0 rfl,(zsD s0 hl hi hn).mono ?_⟩)
  grind
section
variable (h:AH) (own:Nat->Prop) (I:Nat->AH->Prop) (E:AX->AH->Prop)
def Fm (g:AH):Prop:=h.next < g.next/\∀c,c < h.next->¬own c->g.get c=h.get c
def Jr (i:Nat) (g:AH):Prop:=Fm h own g/\I i g
def Dr (x:AX) (g:AH):Prop:=Fm h own g/\E x g
def Gr (h1 h2:AH):Prop:=h.next < h1.next/\Old h1 h2
def Br (h1 h2:AH):Prop:=h1.next<=h2.next/\∀c,h.next < c->c < h1.next->h2.get c=h1.get c
def zqg (P:AH->Prop):Prop:=∀h1 h2,P h1->h1.next<=h2.next->(∀c,c≠h.next->c < h1.next->h2.get c=h1.get c)->P h2
variable {h own I E}
theorem Fm.keep {h1 h2:AH} (q:Fm h own h1) (hn:h1.next<=h2.next) (k:∀c,c≠h.next->c < h1.next->h2.get c=h1.get c):Fm h own h2:=⟨Qi q.1 hn,λc hc ho=>by rw[k c (by omega) (Nat.lt_trans hc q.1),q.2 c hc ho]⟩
theorem jr0 (hI:∀g,Fm h own g->(∀c,c≠h.next->g.get c=h.get c)->I 0 g):∀h1:AH,h1.next=h.next+1->(∀c,c≠h.next->h1.get c=h.get c)->Jr h own I 0 h1:=λh1 q1 q2=>by
 have f:Fm h own h1:=⟨by omega,by grind⟩
 exact⟨f,hI h1 f q2⟩
theorem jrN (hI:∀i,zqg h (I i)):∀i h1 h2,Jr h own I i h1->zaZ h.next h1 h2->Jr h own I i h2:=λi h1 h2 q n=>⟨q.1.keep (Q1 n.1.symm) λc hc _=>n.2 c hc,hI i _ _ q.2 (Q1 n.1.symm) λc hc _=>n.2 c hc⟩
theorem drN (hE:∀x,zqg h (E x)):∀x h1 h2,Dr h own E x h1->zaZ h.next h1 h2->Dr h own E x h2:=λi h1 h2 q n=>⟨q.1.keep (Q1 n.1.symm) λc hc _=>n.2 c hc,hE i _ _ q.2 (Q1 n.1.symm) λc hc _=>n.2 c hc⟩
theorem jrG (hI:∀i,zqg h (I i)):∀i h1 h2,Jr h own I i h1->Gr h h1 h2->Jr h own I i h2:=λi h1 h2 q n=>⟨q.1.keep n.2.1 λc _ hc=>n.2.2 c hc,hI i _ _ q.2 n.2.1 λc _ hc=>n.2.2 c hc⟩
theorem drG (hE:∀x,zqg h (E x)):∀x h1 h2,Dr h own E x h1->Gr h h1 h2->Dr h own E x h2:=λi h1 h2 q n=>⟨q.1.keep n.2.1 λc _ hc=>n.2.2 c hc,hE i _ _ q.2 n.2.1 λc _ hc=>n.2.2 c hc⟩
theorem gr1:∀h1 h2,Gr h h1 h2->h2.get h.next=h1.get h.next:=λh1 h2 q=>q.2.2 _ q.1
theorem zeg {g11 g16:AH} (q:Fm h own g11) (nr:zaZ h.next g11 g16) {b:Nat} (hb:b < h.next) (ho:own b) (o:zca):
 (g16.set b o).get h.next=g16.get h.next/\Fm h own (g16.set b o)/\∀h5,zaZ h.next (g16.set b o) h5->Br h g11 h5:=by
 have ns:=zam b g16 o
 refine⟨ns.2 _ (by omega),⟨by rw[ns.1,nr.1]; exact q.1,λc hc hno=>by rw[ns.2 c (by grind),nr.2 c (by omega),q.2 c hc hno]⟩,λh5 n5=>⟨by rw[n5.1,ns.1,nr.1]; omega,λc hc1 hc2=>by rw[n5.2 c (by omega),ns.2 c (by omega),nr.2 c (by omega)]⟩⟩
theorem zev {g11 g16:AH} (q:Fm h own g11) (nr:zaZ h.next g11 g16):Fm h own g16/\∀h5,zaZ h.next g16 h5->Br h g11 h5:=
 ⟨q.keep (Q1 nr.1.symm) λc hc _=>nr.2 c hc,λh5 n5=>⟨by rw[n5.1,nr.1]; omega,λc hc1 hc2=>by rw[n5.2 c (by omega),nr.2 c (by omega)]⟩⟩
theorem zkZ {p:Option Addr} {n c:Nat} {l:List (Int×Int)} (hl:l.length=n) (hi:∀q∈l,inP q) (hn:n<=281474976710656) {pb:Nat} (hpb:pb < h.next) (hop:¬own pb) {t:TypeId} {ro:Bool} (hg:h.get pb=some (.cells [.slice p n c] t ro))
 (hs:∀g,Fm h own g->zaz g p n 2 (spI l)):
 ∀(JJ:Nat->AH->Prop) (DD:AH->Prop),(∀i h1,JJ i h1->Jr h own I i h1)->(∀i h1 h2,JJ i h1->Gr h h1 h2->JJ i h2)->(∀h1 h2,DD h1->Gr h h1 h2->DD h2)->
 (∀(k:Nat) (h1:AH),k < (exI l).length->JJ k h1->Wy Tryz.prog KB h.next [.int .i64 ((exI l)[k]?.getD 0:Nat)] h1 λv h2=>((v=.bool true/\JJ (k+1) h2)\/(v=.bool false/\DD h2))/\Br h h1 h2)->
 ∀h1:AH,JJ 0 h1->Wf Tryz.prog KB 232 ([(Value.func (Fn.yield h.next) #[] #[])] ++ [.pointer (some ⟨pb,0,none⟩)]) h1 λ_ h2=>JJ (exI l).length h2\/DD h2:=
 λJJ DD h1 h2 h3 hr h25 h0=>zz5 (lim:=h.next+1) (B:=Br h) hl hi hn (λi a b q o=>h2 i a b q ⟨(h1 _ _ q).1.1,o⟩) (λi a q=>⟨⟨t,ro,((h1 _ _ q).1.2 pb hpb hop).trans hg⟩,hs _ (h1 _ _ q).1,(h1 _ _ q).1.1⟩) (λa b q=>⟨q.1,λc hc=>q.2 c hc⟩) hr h0
end
theorem zz6:cx0.fl 294=[3,3]:=by kernel_rfl
theorem zyc:sz cx0 294=2:=by grind[sz,zz6]
theorem ck3:ck cx0 3=.int .i64 (kLo .i64) (kHi .i64):=by rfl
theorem zhw {S:TY} {g:Int} {hp:AH} (w:WT cx0 S g hp) {base n:Nat} {wr fr kc:Bool} {v:Value} (s:SlV cx0 S base wr fr kc 294 n v):
 ∃p c l,v=.slice p n c/\(p=none\/∃b off ro e cc,p=some ⟨b,off,none⟩/\S.ty b=some (ro,e,cc)/\b < hp.next/\¬S.dv b/\(wr=true->ro=false))/\zaz hp p n 2 (spI l)/\l.length=n/\∀q∈l,inP q:=by
 obtain⟨p,c,cs,h1,h2,h3,h4⟩:=zjw w s (by grind[zyc])
 rw[zyc] at h3
 have h5:∀j,j < n->∃q:Int×Int,inP q/\cs[j * 2]?= some (.int .i64 q.1)/\cs[j * 2+1]?= some (.int .i64 q.2):=λj hj=>by
  obtain⟨x,e1,e2⟩:=h4 j hj 0 3 rfl
  obtain⟨y,e3,e4⟩:=h4 j hj 1 3 rfl
  unfold okC at e2 e4
  obtain⟨a,rfl,a1⟩:=e2
  obtain⟨b,rfl,b1⟩:=e4
  exact⟨(a,b),⟨a1,b1⟩,e1,e3⟩
 have:∃l:List (Int×Int),cs=spI l/\∀q∈l,inP q:=by
  have hl:=h3.1
  clear h1 h2 h3 h4 s
  induction n generalizing cs with
  | zero=>exact⟨[],List.length_eq_zero_iff.1 (by omega),by simp⟩
  | succ n ih=>
    obtain⟨q,q1,q2,q3⟩:=h5 0 (Nat.succ_pos _)
    match cs,hl,q2,q3 with
    | a :: b :: cs,hl,q2,q3=>
      obtain⟨l,e1,e2⟩:=ih cs (by grind) (by grind)
      simp only[Nat.zero_mul,List.getElem?_cons_zero,Qa,Qq,List.getElem?_cons_succ] at q2 q3
      exact⟨q :: l,by rw[e1,q2,q3]; rfl,by grind⟩
 obtain⟨l,rfl,q⟩:=this
 have:=h3.1
 have e:∀l:List (Int×Int),(spI l).length=l.length * 2:=by
  intro l
  induction l<;>grind[spI]
 grind
theorem zDA:Vl 218 zAZ:=zaY λρ g Q H S hp vs hw hg=>by
 obtain⟨(n:Nat),(i:Int),_⟩:=ρ
 obtain⟨x,y,rfl,gx,gy⟩:=zec (a:=.sl false false false 294 n) (b:=.int .i64 i) hg
 obtain⟨rfl,gy⟩:=gy
 have hn:=gx.1
 obtain⟨p,c,l,rfl,hpp,hs,hl,hi⟩:=zhw hw gx
 obtain⟨hbig,H⟩:=H
 have nb:n<=281474976710656:=hn
 refine znY (xb rfl) _ _ _ _ hp _ λg0 e0 g1 e1=>zcS (xb rfl) _ _ _ g1 _ λg3 e3=>⟨232,[.pointer (some ⟨g1.next,0,none⟩)],rfl,?_⟩
 have o0:=zab e0
 have o1:=zab e1
 have o3:=zab e3
 have n0:=zad e0
 have n1:=zad e1
 have n3:=zad e3
 have c0:g3.get hp.next=some (.cells [.int .i64 i] 3 false):=by rw[o3.2 _ (by omega),o1.2 _ (by omega)]; grind[zae]
 have c1:g3.get g0.next=some (.cells [.bool false] 4 false):=by simp_all
 have c3:=zae e3
 have o03:Old hp g3:=(by grind[Old.trans])
 have fo:∀{g:AH},Fm g3 (·= g0.next) g->Old hp g:=λq=>⟨by have:=q.1; omega,λc hc=>by rw[q.2 c (by omega) (by omega),o03.2 c hc]⟩
 have fd:∀{g:AH},Fm g3 (·= g0.next) g->Old hp (g.del g3.next):=λq=>⟨(fo q).1,λc hc=>by rw[zaU _ (by omega),(fo q).2 c hc]⟩
 have bl:∀(b:Bool) (h' : AH),Old hp h'->Fin S g hp true Q (.bool b) h':=λb h' o=>za5 hw o (zit _) rfl (zdB (q:=λv=>Q v g) H b)
 have sI:∀i:Nat,zqg g3 ((λ_ g=>g.get g0.next=some (.cells [.bool false] 4 false)/\g0.next < g.next:Nat->AH->Prop) i):=λi h1 h2 q hn k=>by grind
 have sE:∀x:AX,zqg g3 ((λx g=>x=.ret/\(∃b:Bool,g.get g0.next=some (.cells [.bool b] 4 false))/\g0.next < g.next:AX->AH->Prop) x):=λx h1 h2 q hn k=>by grind
 refine⟨Jr g3 (·= g0.next) _,Dr g3 (·= g0.next) _,(exI l).length,λi=>[.int .i64 ((exI l)[i]?.getD 0:Nat)],Gr g3,Br g3,⟨rfl,rfl⟩,by simp,jr0 λg f k=>⟨(by grind),by have:=f.1; omega⟩,jrN sI,drN sE,jrG sI,drG sE,gr1,?_,?_,?_,?_,?_⟩
 ·rintro k g11 hk q - i14 ei
  refine⟨rfl,rfl,λg16 nr hL=>?_⟩
  have c16:g16.get hp.next=some (.cells [.int .i64 i] 3 false):=by rw[nr.2 _ (by omega),q.1.2 _ (by omega) (by omega)]; omega
  have d16:g16.get g0.next=some (.cells [.bool false] 4 false):=by rw[nr.2 _ (by omega)]; exact q.2.1
  have st:∀b:Bool,∃h19,st1 g16 g0.next 0 (.bool b)=some h19/\h19.get g3.next=g16.get g3.next/\Dr g3 (·= g0.next) (λx g=>x=.ret/\(∃b:Bool,g.get g0.next=some (.cells [.bool b] 4 false))/\g0.next < g.next) .ret h19/\∀h5,zaZ g3.next h19 h5->Br g3 g11 h5:=λb=>by
   obtain⟨r1,r2,r3⟩:=zeg q.1 nr (b:=g0.next) (by omega) rfl (.cells [.bool b] 4 false)
   exact⟨_,zaN d16 (by simp),r1,⟨r2,rfl,by simp,Nat.lt_trans (by omega) r2.1⟩,r3⟩
  obtain⟨r2,r3⟩:=zev q.1 nr
  exact⟨_,zah c16 rfl,λ_=>⟨_,zah c16 rfl,λ_=>st true,λ_=>st false⟩,λ_=>⟨rfl,⟨r2,d16,by have:=r2.1; omega⟩,r3⟩⟩
 ·exact zkZ hl hi nb (by omega) (by omega) c3 λg f=>hs.old (fo f)
 ·intro h q
  have d:(h.del g3.next).get g0.next=some (.cells [.bool false] 4 false):=by rw[zaU _ (by omega)]; exact q.2.1
  refine⟨_,zaN d (by simp),.inr ⟨by grind[zah,zaf],bl _ _ ?_⟩⟩
  have ns:=zam g0.next (h.del g3.next) (.cells ([Value.bool false].set 0 (.bool false)) 4 false)
  exact⟨by exact (fd q.1).1,λc hc=>by rw[ns.2 c (by omega),(fd q.1).2 c hc]⟩
 ·rintro h ⟨f, -,⟨b,w⟩, -⟩
  have d:(h.del g3.next).get g0.next=some (.cells [.bool b] 4 false):=by grind[zaU]
  cases b
  ·exact .inr ⟨zah d rfl,bl _ _ (fd f)⟩
  ·exact .inl ⟨zah d rfl,bl _ _ (fd f)⟩
 ·rintro x h - ⟨-,rfl, -⟩
  rfl
theorem zz7:cx0.fl 336=List.replicate 4096 4:=by kernel_rfl
def zqh (cs:List Value):Prop:=cs.length=4096/\∀v∈cs,∃b,v=.bool b
theorem zn2 {S:TY} {cs:List Value} (h:zqh cs):zau cx0 S (zcO cx0 336) cs:=λi t hi=>by
 unfold zcO at hi
 rw[zz7,List.getElem?_replicate] at hi
 split at hi
 ·cases hi
  refine⟨cs[i]'(by rw[h.1]; omega),by simp,?_⟩
  unfold okC
  exact h.2 _ (by simp)
 grind
theorem zmF {cs:List Value} (h:zqh cs) (i:Nat) (b:Bool):zqh (cs.set i (.bool b)):=⟨by rw[List.length_set]; exact h.1,λv hv=>(List.mem_or_eq_of_mem_set hv).elim (h.2 v) λe=>⟨b,e⟩⟩
theorem zyd {S:TY} {h:AH} {base b:Nat} (hb:S.ty b=some (false,336,zcO cx0 336)):gam cx0 S h L0 base (.hp 336) (ptr b 0):=by
 exact⟨b,_,rfl,hb,λi ct hi=>by rw[Qq]; exact hi⟩
theorem zz8 {hp:AH} {p:Option Addr} {n c:Nat} {l:List (Int×Int)} (hs:zaz hp p n 2 (spI l)) (hl:l.length=n) (hi:∀q∈l,inP q) (nb:n<=281474976710656):
 Wf Tryz.prog KB 268 [.slice p n c] hp λv h'=>v=ptr hp.next 0/\Old hp h'/\hp.next < h'.next/\∃cs,h'.get hp.next=some (.cells cs 336 false)/\zqh cs:=by
 refine zmB (xb rfl) _ _ _ hp _ ⟨List.replicate 4096 (.bool false),by kernel_rfl,λg1 e1=>zcS (xb rfl) _ _ _ g1 _ λg3 e3=>⟨232,[.pointer (some ⟨g1.next,0,none⟩)],rfl,?_⟩⟩
 have o1:=zab e1
 have o3:=zab e3
 have n1:=zad e1
 have n3:=zad e3
 have c1:g3.get hp.next=some (.cells (List.replicate 4096 (.bool false)) 336 false):=by rw[o3.2 _ (by omega)]; grind[zae]
 have c3:=zae e3
 have o03:Old hp g3:=o1.trans o3
 have fo:∀{g:AH},Fm g3 (·= hp.next) g->Old hp g:=λq=>⟨by have:=q.1; omega,λc hc=>by rw[q.2 c (by omega) (by omega),o03.2 c hc]⟩
 have fd:∀{g:AH},Fm g3 (·= hp.next) g->Old hp (g.del g3.next):=λq=>⟨(fo q).1,λc hc=>by rw[zaU _ (by omega),(fo q).2 c hc]⟩
 have sI:∀i:Nat,zqg g3 ((λ_ g=>(∃cs,g.get hp.next=some (.cells cs 336 false)/\zqh cs)/\hp.next < g.next:Nat->AH->Prop) i):=λi h1 h2 q hn k=>by grind
 refine⟨Jr g3 (·= hp.next) _,Dr g3 (·= hp.next) λ_ _=>False,(exI l).length,λi=>[.int .i64 ((exI l)[i]?.getD 0:Nat)],Gr g3,Br g3,⟨rfl,rfl⟩,by simp,jr0 λg f k=>⟨⟨_,(k _ (by omega)).trans c1,by simp,by grind⟩,by have:=f.1; omega⟩,jrN sI,drN λ_ _ _ q=>q.elim,jrG sI,drG λ_ _ _ q=>q.elim,gr1,?_,?_,?_,?_⟩
 ·rintro k g11 hk q - i14 ei
  refine⟨rfl,rfl,λg16 nr hL=>?_⟩
  obtain⟨⟨cs,w,bs⟩,hlt⟩:=q.2
  have d16:g16.get hp.next=some (.cells cs 336 false):=by rw[nr.2 _ (by omega)]; omega
  dsimp only at ei
  rw[Qe hk] at ei
  simp only[QV,Q8,Value.int.injEq,true_and,and_true] at ei
  have hx:=zo0 l _ (Qj hk)
  obtain⟨r1,r2,r3⟩:=zeg q.1 nr (b:=hp.next) (by omega) rfl (.cells (cs.set (0+Int.toNat i14 * 1) (.bool true)) 336 false)
  exact⟨by omega,by omega,_,zaN d16 (by rw[bs.1]; omega),r1,⟨r2,by grind[zaf,zmF],Nat.lt_trans (by omega) r2.1⟩,r3⟩
 ·exact zkZ hl hi nb (by omega) (by omega) c3 λg f=>hs.old (fo f)
 ·rintro h ⟨f,⟨cs,w,bs⟩,hlt⟩
  exact⟨rfl,fd f,hlt,cs,by grind[zaU],bs⟩
 ·rintro x h - ⟨-,q⟩
  grind
end Go.Am
