/-
  LISTS OF POINTERS BY THEIR BIRTH: the program's answers.
-/
import Derived.Test.YtkapnilnhoiooaaGreatCRuA
import Derived.Test.YtkapnilnhoiooaaGreatAmH
import Derived.Test.YtkapnilnhoiooaaGreatVRule
import Derived.Test.YtkapnilnhoiooaaGreatVRref
set_option linter.unusedVariables false
set_option linter.unusedSimpArgs false
set_option maxRecDepth 100000
namespace Go.Am
open Go.Proofs
def qV (q:PtI):Value:=.agg #[.int .i64 q.1,.int .u64 q.2.1,.int .u32 q.2.2]
def qC (q:PtI):List Value:=[.int .i64 q.1,.int .u64 q.2.1,.int .u32 q.2.2]
theorem zcr (a b:List PtI):ptI (a ++ b)=ptI a ++ ptI b:=by simp[ptI]
theorem zo0:∀(l:List PtI) (i:Nat),(ptI l).drop (i * 3)=ptI (l.drop i)
 | [],i=>by simp[ptI]
 | q :: l,0=>rfl
 | q :: l,i+1=>by
   rw[show (i+1) * 3=i * 3+3 by omega,show ptI (q :: l)=qC q ++ ptI l from rfl,Nat.add_comm,←List.drop_drop]
   show ((qC q ++ ptI l).drop 3).drop (i * 3)=_
   rw[show (qC q ++ ptI l).drop 3=ptI l from rfl,zo0 l i]
   rfl
theorem zti (l:List PtI) (i:Nat):(ptI l).take (i * 3)=ptI (l.take i):=by
 by_cases h:i≤l.length
 ·have e:ptI l=ptI (l.take i) ++ ptI (l.drop i):=by rw[←zcr,List.take_append_drop]
  rw[e,List.take_left' (by rw[ziW,List.length_take]; omega)]
 ·rw[List.take_of_length_le (by rw[ziW]; omega),List.take_of_length_le (by omega)]
theorem zpQ {h:AH} {p p' : Option Addr} {n lo hi:Nat} {l:List PtI} (S:zaR h p n 3 (ptI l)) (h1:lo≤hi) (h2:hi≤n) (hp:∀b off,p=some ⟨b,off,none⟩→∃off',p'= some ⟨b,off',none⟩∧(lo < hi→off'= off+lo * 3)):zaR h p' (hi - lo) 3 (ptI ((l.drop lo).take (hi - lo))):=by
 have:=S.cut2 h1 h2 hp
 rwa [zo0,zti] at this
structure ztj (K:Xs):Prop where
 split:K 91=none
 merge:K 92=none
 since:K 97=none
 less:K 98=none
section
variable {K:Xs} {h:AH}
theorem zri (kk:ztj K) {q:PtI} (hw:zc9 q) {st:Int} (hst:0≤st):Wf Tryz.prog K 97 [qV q,.int .u64 st] h fun v h'=>zbI v (st < q.2.1)∧Old h h':=by
 refine zmu kk.since _ _ _ _ h _ fun g0 e0=>?_
 have o0:=zab e0
 refine⟨_,_,_,zah (zaf e0) rfl,_,_,zs9 hw.1 hw.2.1 hw.2.2,zvN,fun z=>?_,fun z=>?_⟩
 ·rw[zvL,decide_eq_true_eq] at z
  exact⟨.inr ⟨rfl,by omega⟩,o0⟩
 ·exact⟨_,zae (zaf e0) rfl,fun y=>⟨.inl ⟨rfl,y⟩,o0⟩,fun y=>⟨.inr ⟨rfl,y⟩,o0⟩⟩
structure DL (h:AH) (p:Option Addr) (n:Nat) (l:List PtI):Prop where
 shows:zaR h p n 3 (ptI l)
 wf:∀q∈l,zc9 q
 len:n=l.length
 form:p=none∨∃b off,p=some ⟨b,off,none⟩
theorem DL.old {h h' : AH} {p:Option Addr} {n:Nat} {l:List PtI} (d:DL h p n l) (o:Old h h'):DL h' p n l:=⟨d.shows.old o,d.wf,d.len,d.form⟩
theorem DL.at {h:AH} {p:Option Addr} {n:Nat} {l:List PtI} (d:DL h p n l) {i:Nat} (hi:i < l.length):∃b off,p=some ⟨b,off,none⟩∧ldN h b (off+i * 3) 3=some (qC l[i])∧zc9 l[i]:=by
 obtain⟨b,off,hp,hl, -⟩:=d.shows.getN (i:=i) (by have:=d.len; omega)
 rw[znU l i hi] at hl
 exact⟨b,off,hp,hl,d.wf _ (List.getElem_mem hi)⟩
theorem znZ {lim:Nat} {h:AH} {p:Option Addr} {n c:Nat} {l:List PtI} (G:zaY lim h 78 3 p n c (ptI l)) (hw:∀q∈l,zc9 q):DL h p n l:=⟨G.shows,hw,by have:=G.1; rw[ziW] at this; omega,G.form⟩
theorem zpR (kk:ztj K) {p:Option Addr} {n c:Nat} {l:List PtI} (D:DL h p n l) (hn:n≤100000) {st:Int} (hst:0≤st):
 Wf Tryz.prog K 91 [.slice p n c,.int .u64 st] h fun v h'=>(∃p1 n1 c1 p2 n2 c2,v=.tuple #[.slice p1 n1 c1,.slice p2 n2 c2]∧zaY h.next h' 78 3 p1 n1 c1 (ptI (oldD st l))∧zaY h.next h' 78 3 p2 n2 c2 (ptI (zld st l)))∧Old h h':=by
 have hrm:zaU=140737488355328:=rfl
 have hnl:=D.len
 refine zk2 kk.split _ _ _ _ h _ ⟨fun p4 n5 c6 p7 n8 c9 i10 k g=>∃j:Nat,i10=j∧j≤n∧n - j=k∧Old h g∧n5≤j∧n8≤j∧zaY h.next g 78 3 p4 n5 c6 (ptI (oldD st (l.take j)))∧zaY h.next g 78 3 p7 n8 c9 (ptI (zld st (l.take j)))∧(∀a,p4=some a→apart p7 a.block),⟨_,0,rfl,Nat.zero_le _,rfl,Old.refl _,Nat.le_refl _,Nat.le_refl _,zaY.nil _ _ _ _,zaY.nil _ _ _ _,fun a ha=>by cases ha⟩,?_⟩
 rintro k1 g2 p4 n5 c6 p7 n8 c9 i10 ⟨j,rfl,hj,rfl,o2,h5,h8,GO,GY,ap⟩
 refine⟨fun z=>?_,fun z=>?_⟩
 ·have hjl:j < l.length:=by omega
  obtain⟨b,off,rfl,hld,hw⟩:=(D.old o2).at hjl
  refine zag ⟨by omega,z,_,_,_,by rw[Int.toNat_natCast]; exact hld,fun g16 e16=>?_⟩
  obtain⟨g17,k17,n17,o17,v17⟩:=zap e16 (vs:=qC l[j]) rfl
  have w17:=v17 [] (fun c hc=>by cases hc)
  refine⟨rfl,g17,k17,_,_,_,w17.ld rfl,(zri kk hw hst).mono ?_⟩
  rintro _ g22 ⟨hq,o22⟩
  have w22:=w17.old o22
  have o222:=o17.trans o22
  have oh22:=o2.trans o222
  have tk:l.take (j+1)=l.take j ++ [l[j]]:=List.take_succ_eq_append_getElem hjl
  have GO22:=GO.old o222
  have GY22:=GY.old o222
  rcases hq with ⟨rfl,hs⟩ | ⟨rfl,hs⟩
  ·refine .inl ⟨rfl,_,_,_,w22.ld rfl,fun g26 e26=>?_⟩
   obtain⟨p27,c29,g30,k30,G30,o30,f30,m30⟩:=GY22.push zev oh22.1 (m:=1) (ns:=ptI [l[j]]) e26 rfl (by omega) (by omega)
   obtain⟨b27,rfl,hb27⟩:=m30 (by omega)
   refine⟨_,_,c29,g30,k30,fun i31 e31=>?_⟩
   have e31:=zcj e31 (by omega) (by omega)
   refine⟨_,by omega,j+1,by rw[e31]; rfl,by omega,rfl,⟨Nat.le_trans oh22.1 o30.1,fun b hb=>by rw[o30.2 b hb,oh22.2 b hb]⟩,by omega,by omega,?_,?_,fun a ha=>?_⟩
   ·rw[tk,show oldD st (l.take j ++ [l[j]])=oldD st (l.take j) by unfold oldD; rw[List.filter_append]; simp[hs]]
    refine⟨GO22.1,?_⟩
    rcases GO22.2 with q | ⟨b,q1,q2,q3,q4,q5⟩
    ·exact .inl q
    ·exact .inr ⟨b,q1,q2,Nat.lt_of_lt_of_le q3 o30.1,by rw[f30 b q3 (ap _ q1)]; exact q4,q5⟩
   ·rw[tk,show zld st (l.take j ++ [l[j]])=zld st (l.take j) ++ [l[j]] by unfold zld; rw[List.filter_append]; simp[hs],zcr]
    exact G30
   ·have:=(GO22.block ha).2
    show b27≠a.block
    omega
  ·refine .inr ⟨rfl,_,_,_,w22.ld rfl,fun g26 e26=>?_⟩
   obtain⟨p27,c29,g30,k30,G30,o30,f30,m30⟩:=GO22.push zev oh22.1 (m:=1) (ns:=ptI [l[j]]) e26 rfl (by omega) (by omega)
   obtain⟨b27,rfl,hb27⟩:=m30 (by omega)
   refine⟨_,_,c29,g30,k30,fun i31 e31=>?_⟩
   have e31:=zcj e31 (by omega) (by omega)
   have ap' : ∀a,p7=some a→apart p4 a.block:=fun a ha=>by
    cases p4 with
    | none=>exact trivial
    | some x=>have:=ap x rfl; rw[ha] at this; exact fun e=>this e.symm
   refine⟨_,by omega,j+1,by rw[e31]; rfl,by omega,rfl,⟨Nat.le_trans oh22.1 o30.1,fun b hb=>by rw[o30.2 b hb,oh22.2 b hb]⟩,by omega,by omega,?_,?_,fun a ha=>?_⟩
   ·rw[tk,show oldD st (l.take j ++ [l[j]])=oldD st (l.take j) ++ [l[j]] by unfold oldD; rw[List.filter_append]; simp[hs],zcr]
    exact G30
   ·rw[tk,show zld st (l.take j ++ [l[j]])=zld st (l.take j) by unfold zld; rw[List.filter_append]; simp[hs]]
    refine⟨GY22.1,?_⟩
    rcases GY22.2 with q | ⟨b,q1,q2,q3,q4,q5⟩
    ·exact .inl q
    ·exact .inr ⟨b,q1,q2,Nat.lt_of_lt_of_le q3 o30.1,by rw[f30 b q3 (ap' _ q1)]; exact q4,q5⟩
   ·cases ha
    cases p7 with
    | none=>exact trivial
    | some x=>have:=(GY22.block rfl).2; show x.block≠b27; omega
 ·obtain rfl:j=n:=by omega
  rw[List.take_of_length_le (by omega)] at GO GY
  exact⟨⟨_,_,_,_,_,_,rfl,GO,GY⟩,o2⟩
def zxB (lim:Nat) (l:List PtI) (q:PtI) (v:Value) (g:AH):Prop:=(∃d p n c,zu3 l q=some d∧v=.tuple #[.slice p n c,.int .i64 0]∧DL g p n d∧zka Tryz.prog g 78 p n c∧∀a,p=some a→lim≤a.block∧a.block < g.next)∨(zu3 l q=none∧v=.tuple #[.slice none 0 0,.int .i64 131])
theorem zrj {l:List PtI} {q:PtI} (hw:∀x∈l,zc9 x) (hq:zc9 q):∀x∈insD q l,zc9 x:=fun x hx=>(zh0.1 hx).elim (fun e=>e▸hq) (hw x)
theorem zuf (a b:PtI):zaN [.int .i64 a.1,.int .u64 a.2.1,.int .u32 a.2.2] [.int .i64 b.1,.int .u64 b.2.1,.int .u32 b.2.2]=decide (a=b):=by
 rw[zvL]
 obtain⟨a1,a2,a3⟩:=a
 obtain⟨b1,b2,b3⟩:=b
 simp only[Prod.mk.injEq]
end
structure zle (K:Xs):Prop where
 r1:zua K
 add:K 93=none
 split:K 77=none
 merge:K 78=none
def zrk (lim:Nat) (o:Option (List PtI)) (v:Value) (g:AH):Prop:=(∃d p n c,o=some d∧v=.tuple #[.slice p n c,.int .i64 0]∧DL g p n d∧zka Tryz.prog g 78 p n c∧∀a,p=some a→lim≤a.block∧a.block < g.next)∨(o=none∧v=.tuple #[.slice none 0 0,.int .i64 131])
theorem zi8 {P:Program} {h h' : AH} {t:TypeId} {p:Option Addr} {n c:Nat} (hp:p=none∨∃b off,p=some ⟨b,off,none⟩) (k:∀a,p=some a→h'.get a.block=h.get a.block) (lo hi mx:Option Value):zaB P h' t (.slice p n c) lo hi mx=zaB P h t (.slice p n c) lo hi mx:=by
 rcases hp with rfl | ⟨b,off,rfl⟩
 ·unfold zaB
  cases P.underlying t with
  | none=>rfl
  | some d=>cases d <;> rfl
 ·have hk:h'.get b=h.get b:=k _ rfl
  unfold zaB
  cases P.underlying t with
  | none=>rfl
  | some d=>cases d <;> first | rfl | simp only[hk]
theorem DL.cons {g:AH} {p:Option Addr} {n:Nat} {l:List PtI} (d:DL g p n l) (hn:0 < n):∃x l' b off,l=x :: l'∧p=some ⟨b,off,none⟩∧ldN g b off 3=some (qC x)∧zc9 x:=by
 cases l with
 | nil=>have:=d.len; simp at this; omega
 | cons x l'=>
   obtain⟨b,off,hp,hl,hw⟩:=d.at (i:=0) (by simp)
   exact⟨x,l',b,off,rfl,hp,by simpa using hl,hw⟩
theorem DL.cutTail {g:AH} {p p' : Option Addr} {n:Nat} {x:PtI} {l:List PtI} (d:DL g p n (x :: l)) (hp:∀b off,p=some ⟨b,off,none⟩→∃off',p'= some ⟨b,off',none⟩∧(1 < n→off'= off+1 * 3)) (hf:p'= none∨∃b off,p'= some ⟨b,off,none⟩):DL g p' (n - 1) l:=by
 have hl:=d.len
 simp at hl
 have:=zpQ d.shows (lo:=1) (hi:=n) (by omega) (Nat.le_refl _) hp
 rw[List.drop_succ_cons,List.drop_zero,List.take_of_length_le (by omega)] at this
 exact⟨this,fun q hq=>d.wf q (List.mem_cons_of_mem _ hq),by omega,hf⟩
theorem zn0 {c:Bool} {A B:Prop} (h:c=true) (a:A):cond c A B:=by subst h; exact a
theorem zvZ {c:Bool} {A B:Prop} (h:c=false) (b:B):cond c A B:=by subst h; exact b
section
variable {K:Xs} {h:AH}
theorem zrl (kk:ztj K) {p q:Option Addr} {n m c d:Nat} {xs ys:List PtI} (A:DL h p n xs) (CA:zka Tryz.prog h 78 p n c) (ba:∀a,p=some a→a.block < h.next) (B:DL h q m ys) (CB:zka Tryz.prog h 78 q m d) (bb:∀a,q=some a→a.block < h.next) (hn:n≤100000) (hm:m≤100000):
 Wf Tryz.prog K 92 [.slice p n c,.slice q m d] h fun v h'=>zrk h.next (mrg xs ys) v h'∧Old h h':=by
 have hnl:=A.len
 have hml:=B.len
 refine zk3 kk.merge _ _ _ _ _ _ h _ fun i0 e0=>?_
 have e0:=zcj e0 (by omega) (by omega)
 have e0' : i0=((n+m:Nat):Int):=by omega
 subst e0'
 refine⟨⟨by omega,by omega,by omega,by omega⟩,fun g1 e1=>?_⟩
 rw[Int.toNat_natCast] at *
 have o1:=zab e1
 have G1:zdH h.next g1 78 3 h.next 0 (n+m) []:=zdH.make e1 (by simp) (by simp only[zar]; omega)
 have fin:∀{g:AH} {p6 p9:Option Addr} {n7 n10 n13 c8 c11:Nat} {done as' bs:List PtI},Old h g→zdH h.next g 78 3 h.next n13 (n+m) (ptI done)→n13+n7+n10=n+m→DL g p6 n7 as'→(∀a,p6=some a→a.block < h.next)→DL g p9 n10 bs→(∀a,p9=some a→a.block < h.next)→(as'= []∨bs=[])→(∀x∈done,zc9 x)→mrg xs ys=(mrg as' bs).map (done ++ ·)→
  ∃(p65:Option Addr) (n66 c67:Nat) (h68:AH),zan Tryz.prog g .append #[79,79] [(.slice (some ⟨h.next,0,none⟩) n13 (n+m)),(.slice p6 n7 c8)]=some (.slice p65 n66 c67,h68)∧
  (∃(p69:Option Addr) (n70 c71:Nat) (h72:AH),zan Tryz.prog h68 .append #[79,79] [(.slice p65 n66 c67),(.slice p9 n10 c11)]=some (.slice p69 n70 c71,h72)∧
  (zrk h.next (mrg xs ys) (.tuple #[(.slice p69 n70 c71),(.int .i64 0)]) h72∧Old h h72)):=fun {g p6 p9 n7 n10 n13 c8 c11 done as' bs} o G hs DA b6 DB b9 he hw hr=>by
  obtain⟨g68,k68,G68,nr68⟩:=G.app zev (x:=.slice p6 n7 c8) (m:=n7) rfl (DA.shows.firstC DA.form) DA.shows.1 (by omega)
  have o68:=o.near nr68 (Nat.le_refl _)
  have S9:zaR g68 p9 n10 3 (ptI bs):=DB.shows.kept (by rw[nr68.1]; exact Nat.le_refl _) fun a ha=>nr68.2 _ (by have:=b9 a ha; omega)
  obtain⟨g72,k72,G72,nr72⟩:=G68.app zev (x:=.slice p9 n10 c11) (m:=n10) rfl (S9.firstC DB.form) S9.1 (by omega)
  have hmg:mrg as' bs=some (as' ++ bs):=by
   rcases he with rfl | rfl
   ·rw[zrh]; rfl
   ·rw[zoZ,List.append_nil]
  have h1:=DA.len
  have h2:=DB.len
  have h3:=G.1
  rw[ziW] at h3
  refine⟨_,_,_,g68,k68,_,_,_,g72,k72,.inl ⟨done ++ (as' ++ bs),_,_,_,by rw[hr,hmg]; rfl,rfl,⟨?_,fun x hx=>?_,by simp; omega,.inr ⟨_,_,rfl⟩⟩,G72.cutP,fun a ha=>by cases ha; exact⟨Nat.le_refl _,G72.2.2.1⟩⟩,o68.near nr72 (Nat.le_refl _)⟩
  ·have:=G72.shows
   rw[zcr,zcr,←List.append_assoc]
   exact this
  ·rcases List.mem_append.1 hx with hx | hx
   ·exact hw x hx
   ·exact (List.mem_append.1 hx).elim (DA.wf x) (DB.wf x)
 refine⟨fun p6 n7 c8 p9 n10 c11 p12 n13 c14 k g=>∃done as' bs,Old h g∧n7+n10=k∧n13+n7+n10=n+m∧p12=some ⟨h.next,0,none⟩∧c14=n+m∧zdH h.next g 78 3 h.next n13 (n+m) (ptI done)∧DL g p6 n7 as'∧zka Tryz.prog g 78 p6 n7 c8∧(∀a,p6=some a→a.block < h.next)∧DL g p9 n10 bs∧zka Tryz.prog g 78 p9 n10 c11∧(∀a,p9=some a→a.block < h.next)∧(∀x∈done,zc9 x)∧mrg xs ys=(mrg as' bs).map (done ++ ·),
  ⟨_,[],xs,ys,o1,rfl,by simp,rfl,rfl,G1,A.old o1,CA.old o1 ba,ba,B.old o1,CB.old o1 bb,bb,fun x hx=>(by cases hx),by simp⟩,?_⟩
 rintro k3 g4 p6 n7 c8 p9 n10 c11 p12 n13 c14 ⟨done,as',bs,o4,rfl,hs,rfl,rfl,G4,DA,C6,b6,DB,C9,b9,hw,hr⟩
 refine⟨fun z1=>⟨fun z2=>?_,fun z2=>?_⟩,fun z1=>?_⟩
 rotate_left
 ·have hb:bs=[]:=List.eq_nil_of_length_eq_zero (by have:=DB.len; omega)
  exact fin o4 G4 hs DA b6 DB b9 (.inr hb) hw hr
 ·have hb:as'= []:=List.eq_nil_of_length_eq_zero (by have:=DA.len; omega)
  exact fin o4 G4 hs DA b6 DB b9 (.inl hb) hw hr
 obtain⟨x,a',ax,ox,rfl,rfl,lx,wx⟩:=DA.cons (by omega)
 obtain⟨y,b',ay,oy,rfl,rfl,ly,wy⟩:=DB.cons (by omega)
 have fA:(some (⟨ax,ox,none⟩:Addr))=none∨∃b off,(some (⟨ax,ox,none⟩:Addr))=some ⟨b,off,none⟩:=.inr ⟨_,_,rfl⟩
 have fB:(some (⟨ay,oy,none⟩:Addr))=none∨∃b off,(some (⟨ay,oy,none⟩:Addr))=some ⟨b,off,none⟩:=.inr ⟨_,_,rfl⟩
 have lax:ax < h.next:=b6 _ rfl
 have lay:ay < h.next:=b9 _ rfl
 refine zag ⟨by omega,by omega,_,_,_,lx,zag ⟨by omega,by omega,_,_,_,ly,(zoM kk.less x y).mono ?_⟩⟩
 rintro _ g26 ⟨⟨rfl,k⟩ | ⟨rfl,k⟩,o26⟩
 ·have o26':=o4.trans o26
  have lx26:ldN g26 ax ox 3=some (qC x):=by rw[←lx]; unfold ldN; rw[o26.2 ax (by have:=o4.1; omega)]
  refine .inl ⟨rfl,zag ⟨by omega,by omega,_,_,_,lx26,fun g32 e32=>?_⟩⟩
  obtain⟨g36,k36,G36,n36,f36⟩:=(G4.old o26).push zev (m:=1) (ns:=qC x) e32 rfl (by decide) (by omega)
  have o36:Old h g36:=⟨by have:=o26'.1; omega,fun b hb=>by rw[f36 b (by have:=o26'.1; omega) (by omega),o26'.2 b hb]⟩
  have k32:∀b,b < h.next→g36.get b=g32.get b:=fun b hb=>by rw[f36 b (by have:=o26'.1; omega) (by omega),(zab e32).2 b (by have:=o26'.1; omega)]
  have old436:∀b,b < h.next→g36.get b=g4.get b:=fun b hb=>by rw[o36.2 b hb,o4.2 b hb]
  obtain⟨p37,c39,k37,hp37, -,C37⟩:=cutP zev (by simp) (C6.kept fun a ha=>old436 _ (b6 a ha)) (some 1) none (by simp[zhV]; omega) (Nat.le_refl _)
  have hsame:zaB Tryz.prog g36 79 (.slice (some ⟨ax,ox,none⟩) n7 c8) (some (.int .i64 1)) none none=zaB Tryz.prog g32 79 (.slice (some ⟨ax,ox,none⟩) n7 c8) (some (.int .i64 1)) none none:=zi8 fA (fun a ha=>k32 _ (b6 a ha)) _ _ _
  obtain⟨off',rfl,ho⟩:=hp37 ax ox rfl
  have k37' : zaB Tryz.prog g36 79 (.slice (some ⟨ax,ox,none⟩) n7 c8) (some (.int .i64 1)) none none=some (.slice (some ⟨ax,off',none⟩) (n7 - 1) c39):=by simpa[zhV,zsi] using k37
  have DA36:DL g36 (some ⟨ax,ox,none⟩) n7 (x :: a'):=⟨DA.shows.kept (by have:=o36.1; have:=o26.1; omega) fun a ha=>old436 _ (b6 a ha),DA.wf,DA.len,DA.form⟩
  have DB36:DL g36 (some ⟨ay,oy,none⟩) n10 (y :: b'):=⟨DB.shows.kept (by have:=o36.1; have:=o26.1; omega) fun a ha=>old436 _ (b9 a ha),DB.wf,DB.len,DB.form⟩
  refine⟨_,_,_,g36,k36,some ⟨ax,off',none⟩,n7 - 1,c39,k37',by rw[←hsame]; exact k37',k37',n7 - 1+n10,by omega,done ++ [x],a',y :: b',o36,rfl,by omega,rfl,rfl,by rw[zcr]; exact G36,DA36.cutTail (fun b off z=>by cases z; exact⟨off',rfl,fun q=>ho (by simp[zhV]; omega)⟩) (.inr ⟨_,_,rfl⟩),by simpa[zhV] using C37,fun a ha=>by cases ha; exact lax,DB36,C9.kept fun a ha=>old436 _ (b9 a ha),b9,fun z hz=>?_,?_⟩
  ·rcases List.mem_append.1 hz with hz | hz
   ·exact hw z hz
   ·rw[List.mem_singleton] at hz; rw[hz]; exact wx
  ·rw[hr,zh1,if_pos k,Option.map_map]
   congr 1
   funext u
   simp
 ·refine .inr ⟨rfl,?_⟩
  have ly26:ldN g26 ay oy 3=some (qC y):=by rw[←ly]; unfold ldN; rw[o26.2 ay (by have:=o4.1; omega)]
  have lx26:ldN g26 ax ox 3=some (qC x):=by rw[←lx]; unfold ldN; rw[o26.2 ax (by have:=o4.1; omega)]
  refine zag ⟨by omega,by omega,_,_,_,ly26,zag ⟨by omega,by omega,_,_,_,lx26,(zoM kk.less y x).mono ?_⟩⟩
  rintro _ g51 ⟨⟨rfl,k2⟩ | ⟨rfl,k2⟩,o51⟩
  rotate_left
  ·refine .inr ⟨rfl,.inr ⟨?_,rfl⟩,(o4.trans o26).trans o51⟩
   rw[hr,zh1,if_neg k,if_neg k2]
   rfl
  have o451:=o26.trans o51
  have o51':=o4.trans o451
  have ly51:ldN g51 ay oy 3=some (qC y):=by rw[←ly]; unfold ldN; rw[o451.2 ay (by have:=o4.1; omega)]
  refine .inl ⟨rfl,zag ⟨by omega,by omega,_,_,_,ly51,fun g57 e57=>?_⟩⟩
  obtain⟨g36,k36,G36,n36,f36⟩:=(G4.old o451).push zev (m:=1) (ns:=qC y) e57 rfl (by decide) (by omega)
  have o36:Old h g36:=⟨by have:=o51'.1; omega,fun b hb=>by rw[f36 b (by have:=o51'.1; omega) (by omega),o51'.2 b hb]⟩
  have k32:∀b,b < h.next→g36.get b=g57.get b:=fun b hb=>by rw[f36 b (by have:=o51'.1; omega) (by omega),(zab e57).2 b (by have:=o51'.1; omega)]
  have old436:∀b,b < h.next→g36.get b=g4.get b:=fun b hb=>by rw[o36.2 b hb,o4.2 b hb]
  obtain⟨p37,c39,k37,hp37, -,C37⟩:=cutP zev (by simp) (C9.kept fun a ha=>old436 _ (b9 a ha)) (some 1) none (by simp[zhV]; omega) (Nat.le_refl _)
  have hsame:zaB Tryz.prog g36 79 (.slice (some ⟨ay,oy,none⟩) n10 c11) (some (.int .i64 1)) none none=zaB Tryz.prog g57 79 (.slice (some ⟨ay,oy,none⟩) n10 c11) (some (.int .i64 1)) none none:=zi8 fB (fun a ha=>k32 _ (b9 a ha)) _ _ _
  obtain⟨off',rfl,ho⟩:=hp37 ay oy rfl
  have k37' : zaB Tryz.prog g36 79 (.slice (some ⟨ay,oy,none⟩) n10 c11) (some (.int .i64 1)) none none=some (.slice (some ⟨ay,off',none⟩) (n10 - 1) c39):=by simpa[zhV,zsi] using k37
  have DA36:DL g36 (some ⟨ax,ox,none⟩) n7 (x :: a'):=⟨DA.shows.kept (by have:=o36.1; have:=o451.1; omega) fun a ha=>old436 _ (b6 a ha),DA.wf,DA.len,DA.form⟩
  have DB36:DL g36 (some ⟨ay,oy,none⟩) n10 (y :: b'):=⟨DB.shows.kept (by have:=o36.1; have:=o451.1; omega) fun a ha=>old436 _ (b9 a ha),DB.wf,DB.len,DB.form⟩
  refine⟨_,_,_,g36,k36,some ⟨ay,off',none⟩,n10 - 1,c39,k37',by rw[←hsame]; exact k37',k37',n7+(n10 - 1),by omega,done ++ [y],x :: a',b',o36,rfl,by omega,rfl,rfl,by rw[zcr]; exact G36,DA36,C6.kept fun a ha=>old436 _ (b6 a ha),b6,DB36.cutTail (fun b off z=>by cases z; exact⟨off',rfl,fun q=>ho (by simp[zhV]; omega)⟩) (.inr ⟨_,_,rfl⟩),by simpa[zhV] using C37,fun a ha=>by cases ha; exact lay,fun z hz=>?_,?_⟩
  ·rcases List.mem_append.1 hz with hz | hz
   ·exact hw z hz
   ·rw[List.mem_singleton] at hz; rw[hz]; exact wy
  ·rw[hr,zh1,if_neg k,if_pos k2,Option.map_map]
   congr 1
   funext u
   simp
theorem zu5 (kk:zle K) {p:Option Addr} {n c:Nat} {l:List PtI} (D:DL h p n l) (hn:n≤100000) (st:Int):
 Wf Tryz.prog K 77 [.slice p n c,.int .u64 st] h fun v h'=>(∃p1 n1 c1 p2 n2 c2,v=.tuple #[.slice p1 n1 c1,.slice p2 n2 c2]∧zaY h.next h' 78 3 p1 n1 c1 (ptI (oldD st l))∧zaY h.next h' 78 3 p2 n2 c2 (ptI (zld st l)))∧Old h h':=by
 have hrm:zaU=140737488355328:=rfl
 have hnl:=D.len
 refine zeT kk.split _ _ _ _ h _ fun g0 e0 g1 e1=>?_
 have o0:=zab e0
 have o1:=zab e1
 have n0:=zaa e0
 have n1:=zaa e1
 have oh1:=o0.trans o1
 refine⟨fun p4 n5 c6 p7 n8 c9 i10 k g=>∃j:Nat,i10=j∧j≤n∧n - j=k∧Old h g∧n5≤j∧n8≤j∧zaY h.next g 78 3 p4 n5 c6 (ptI (oldD st (l.take j)))∧zaY h.next g 78 3 p7 n8 c9 (ptI (zld st (l.take j)))∧(∀a,p4=some a→apart p7 a.block),⟨_,0,rfl,Nat.zero_le _,rfl,oh1,Nat.le_refl _,Nat.le_refl _,(zaY.lit (n:=0) e0 rfl (Nat.le_refl _)).old o1,zaY.lit (n:=0) e1 rfl o0.1,fun a ha=>by cases ha; show g0.next≠h.next; omega⟩,?_⟩
 rintro k1 g2 p4 n5 c6 p7 n8 c9 i10 ⟨j,rfl,hj,rfl,o2,h5,h8,GO,GY,ap⟩
 refine⟨fun z=>?_,fun z=>?_⟩
 ·have hjl:j < l.length:=by omega
  obtain⟨b,off,rfl,hld,hw⟩:=(D.old o2).at hjl
  refine zag ⟨by omega,z,_,_,_,by rw[Int.toNat_natCast]; exact hld,fun g16 e16=>?_⟩
  obtain⟨g17,k17,n17,o17,v17⟩:=zap e16 (vs:=qC l[j]) rfl
  have w22:=v17 [] (fun c hc=>by cases hc)
  have oh22:=o2.trans o17
  have tk:l.take (j+1)=l.take j ++ [l[j]]:=List.take_succ_eq_append_getElem hjl
  have GO22:=GO.old o17
  have GY22:=GY.old o17
  refine⟨rfl,g17,k17,_,zae w22.1 rfl,fun hs=>⟨_,_,_,w22.ld rfl,fun g26 e26=>?_⟩,fun hs=>⟨_,_,_,w22.ld rfl,fun g26 e26=>?_⟩⟩
  ·obtain⟨p27,c29,g30,k30,G30,o30,f30,m30⟩:=GY22.push zev oh22.1 (m:=1) (ns:=ptI [l[j]]) e26 rfl (by omega) (by omega)
   obtain⟨b27,rfl,hb27⟩:=m30 (by omega)
   refine⟨_,_,c29,g30,k30,fun i31 e31=>?_⟩
   have e31:=zcj e31 (by omega) (by omega)
   refine⟨_,by omega,j+1,by rw[e31]; rfl,by omega,rfl,⟨Nat.le_trans oh22.1 o30.1,fun b hb=>by rw[o30.2 b hb,oh22.2 b hb]⟩,by omega,by omega,?_,?_,fun a ha=>?_⟩
   ·rw[tk,show oldD st (l.take j ++ [l[j]])=oldD st (l.take j) by unfold oldD; rw[List.filter_append]; simp[hs]]
    refine⟨GO22.1,?_⟩
    rcases GO22.2 with q | ⟨b,q1,q2,q3,q4,q5⟩
    ·exact .inl q
    ·exact .inr ⟨b,q1,q2,Nat.lt_of_lt_of_le q3 o30.1,by rw[f30 b q3 (ap _ q1)]; exact q4,q5⟩
   ·rw[tk,show zld st (l.take j ++ [l[j]])=zld st (l.take j) ++ [l[j]] by unfold zld; rw[List.filter_append]; simp[hs],zcr]
    exact G30
   ·have:=(GO22.block ha).2
    show b27≠a.block
    omega
  ·obtain⟨p27,c29,g30,k30,G30,o30,f30,m30⟩:=GO22.push zev oh22.1 (m:=1) (ns:=ptI [l[j]]) e26 rfl (by omega) (by omega)
   obtain⟨b27,rfl,hb27⟩:=m30 (by omega)
   refine⟨_,_,c29,g30,k30,fun i31 e31=>?_⟩
   have e31:=zcj e31 (by omega) (by omega)
   have ap' : ∀a,p7=some a→apart p4 a.block:=fun a ha=>by
    cases p4 with
    | none=>exact trivial
    | some x=>have:=ap x rfl; rw[ha] at this; exact fun e=>this e.symm
   refine⟨_,by omega,j+1,by rw[e31]; rfl,by omega,rfl,⟨Nat.le_trans oh22.1 o30.1,fun b hb=>by rw[o30.2 b hb,oh22.2 b hb]⟩,by omega,by omega,?_,?_,fun a ha=>?_⟩
   ·rw[tk,show oldD st (l.take j ++ [l[j]])=oldD st (l.take j) ++ [l[j]] by unfold oldD; rw[List.filter_append]; simp[hs],zcr]
    exact G30
   ·rw[tk,show zld st (l.take j ++ [l[j]])=zld st (l.take j) by unfold zld; rw[List.filter_append]; simp[hs]]
    refine⟨GY22.1,?_⟩
    rcases GY22.2 with q | ⟨b,q1,q2,q3,q4,q5⟩
    ·exact .inl q
    ·exact .inr ⟨b,q1,q2,Nat.lt_of_lt_of_le q3 o30.1,by rw[f30 b q3 (ap' _ q1)]; exact q4,q5⟩
   ·cases ha
    cases p7 with
    | none=>exact trivial
    | some x=>have:=(GY22.block rfl).2; show x.block≠b27; omega
 ·obtain rfl:j=n:=by omega
  rw[List.take_of_length_le (by omega)] at GO GY
  exact⟨⟨_,_,_,_,_,_,rfl,GO,GY⟩,o2⟩
def zug (q:PtI) (done:Bool) (a:List PtI):List PtI:=if done=true then insD q a else a
theorem zwY (kk:zle K) {p:Option Addr} {n c:Nat} {l:List PtI} {q:PtI} (D:DL h p n l) (hn40:n≤100000) (hq:zc9 q):
 Wf Tryz.prog K 93 [.slice p n c,qV q] h fun v h'=>zxB h.next l q v h'∧Old h h':=by
 have hrm:zaU=140737488355328:=rfl
 have hnl:=D.len
 refine zf9 kk.add _ _ _ _ _ _ h _ fun g0 e0=>?_
 have o0:=zab e0
 have n0:=zaa e0
 refine⟨_,_,_,zah (zaf e0) rfl,(zwT kk.r1 q.1 q.2.1 q.2.2).mono ?_⟩
 rintro _ g5 ⟨⟨rfl,kf⟩ | ⟨rfl,kf⟩,o5⟩
 rotate_left
 ·exact .inr ⟨rfl,.inr ⟨zi6 (.inl kf),rfl⟩,o0.trans o5⟩
 refine .inl ⟨rfl,fun g6 e6=>?_⟩
 have oh5:=o0.trans o5
 have o6:=zab e6
 have oh6:=oh5.trans o6
 have n6:=zaa e6
 have wq:∀{g:AH},zha g5.next g5 g→g.get h.next=some (.cells (qC q) 78 false):=fun o=>(o.2 _ (by have:=o5.1; omega)).trans ((o5.2 _ (by omega)).trans (zaf e0))
 refine⟨fun p11 n12 c13 b14 i15 k g=>∃j:Nat,i15=j∧j≤n∧n - j=k∧Old g5 g∧n12≤j+1∧q∉l.take j∧(b14=true→∃x∈l.take j,zbJ q x)∧(b14=false→∀x∈l.take j,¬zbJ q x)∧zaY g5.next g 78 3 p11 n12 c13 (ptI (zug q b14 (l.take j))),
  ⟨_,0,rfl,Nat.zero_le _,rfl,o6,Nat.zero_le _,by simp,fun z=>(by cases z),fun _ x hx=>(by simp at hx),zaY.lit (n:=0) e6 rfl (Nat.le_refl _)⟩,?_⟩
 rintro k8 g9 p11 n12 c13 b14 i15 ⟨j,rfl,hj,rfl,o9,hn12,hnot,hdone,hnd,G9⟩
 have oh9:=oh5.trans o9
 refine⟨fun z=>?_,fun z=>?_⟩
 ·have hjl:j < l.length:=by omega
  obtain⟨b,off,rfl,hld,hw⟩:=(D.old oh9).at hjl
  have tk:l.take (j+1)=l.take j ++ [l[j]]:=List.take_succ_eq_append_getElem hjl
  refine zag ⟨by omega,z,_,_,_,by rw[Int.toNat_natCast]; exact hld,fun g21 e21=>?_⟩
  obtain⟨g22,k22,n22,o22,v22⟩:=zap e21 (vs:=qC l[j]) rfl
  have w22:=v22 [] (fun c hc=>by cases hc)
  have o922:=o9.trans o22
  refine⟨rfl,g22,k22,_,_,_,w22.ld rfl,_,_,_,zah (wq o922) rfl,_,_,zs9 hw.1 hw.2.1 hw.2.2,zs9 hq.1 hq.2.1 hq.2.2,fun y=>?_,fun y=>?_⟩
  ·rw[zuf,decide_eq_true_eq] at y
   exact⟨.inr ⟨zi6 (.inr (by rw[←y]; exact List.getElem_mem hjl)),rfl⟩,oh9.trans o22⟩
  rw[zuf,decide_eq_false_iff_not] at y
  have hnot1:q∉l.take (j+1):=by
   rw[tk]
   simp only[List.mem_append,List.mem_singleton,not_or]
   exact⟨hnot,fun e=>y e.symm⟩
  have more:∀{g:AH} {b' : Bool},Old g22 g→zt6 g [] g9.next (qC l[j]) 78→zug q b' (l.take (j+1))=zug q b' (l.take j) ++ [l[j]]→b'= b14→(b'= true→∃x∈l.take (j+1),zbJ q x)→(b'= false→∀x∈l.take (j+1),¬zbJ q x)→
   ∃i j' k:Int,ldN g g9.next 0 3=some ([.int .i64 i,.int .u64 j',.int .u32 k]:List Value)∧(∀h59:AH,h59=g.alloc (.cells ([.int .i64 i,.int .u64 j',.int .u32 k]:List Value) 78 false)→
   ∃(p60:Option Addr) (n61 c62:Nat) (h63:AH),zan Tryz.prog h59 .append #[79,79] [(.slice p11 n12 c13),(.slice (some ⟨g.next,0,none⟩) 1 1)]=some (.slice p60 n61 c62,h63)∧
   (∀i64:Int,i64=IntKind.wrap .i64 ((j:Int)+1)→∃j10,j10 < n - j∧(∃j:Nat,i64=j∧j≤n∧n - j=j10∧Old g5 h63∧n61≤j+1∧q∉l.take j∧(b'= true→∃x∈l.take j,zbJ q x)∧(b'= false→∀x∈l.take j,¬zbJ q x)∧zaY g5.next h63 78 3 p60 n61 c62 (ptI (zug q b' (l.take j)))))):=fun {g b'} og mg ho hb hd1 hd2=>by
   subst hb
   have og9:=o22.trans og
   have og5:=o9.trans og9
   refine⟨_,_,_,mg.ld rfl,fun g26 e26=>?_⟩
   obtain⟨p27,c29,g30,k30,G30,o30,f30,m30⟩:=(G9.old og9).push zev og5.1 (m:=1) (ns:=ptI [l[j]]) e26 rfl (by omega) (by omega)
   refine⟨p27,_,c29,g30,k30,fun i31 e31=>?_⟩
   have e31:=zcj e31 (by omega) (by omega)
   refine⟨_,by omega,j+1,by rw[e31]; rfl,by omega,rfl,⟨Nat.le_trans og5.1 o30.1,fun b hb=>by rw[o30.2 b hb,og5.2 b hb]⟩,by omega,hnot1,hd1,hd2,?_⟩
   rw[ho,zcr]
   exact G30
  cases b14 with
  | true=>
    repeat' (first | refine zvZ rfl ?_ | refine zn0 rfl ?_ | fail)
    obtain⟨x,hx,hxq⟩:=hdone rfl
    exact more (Old.refl _) w22 (by rw[tk]; exact zi4 ⟨x,hx,hxq⟩) rfl (fun _=>⟨x,by rw[tk]; exact List.mem_append_left _ hx,hxq⟩) (fun z=>by cases z)
  | false=>
    have hno:=hnd rfl
    refine zn0 rfl ⟨_,_,_,zah (wq o922) rfl,zn0 rfl ⟨_,_,_,w22.ld rfl,zn0 rfl ((zvT kk.r1 q l[j]).mono ?_)⟩⟩
    rintro _ g38 ⟨⟨rfl,kl⟩ | ⟨rfl,kl⟩,o38⟩
    ·refine .inl ⟨rfl,zn0 rfl ⟨_,_,_,zah (wq (o922.trans o38)) rfl,fun g42 e42=>?_⟩⟩
     have og9:=o22.trans o38
     have og5:=o9.trans og9
     have hlen0:n12=j:=by
      have:=G9.1
      rw[ziW] at this
      simp only[zug,Bool.false_eq_true,if_false,List.length_take] at this
      omega
     obtain⟨p43,c45,g46,k46,G46,o46,f46,m46⟩:=(G9.old og9).push zev og5.1 (m:=1) (ns:=ptI [q]) e42 rfl (by omega) (by omega)
     obtain⟨b43,rfl,hb43⟩:=m46 (by omega)
     have ap11:apart p11 g9.next:=by
      rcases G9.2 with ⟨rfl, -⟩ | ⟨b',rfl,q3,q4, -⟩
      ·exact trivial
      ·show b'≠g9.next; omega
     have w46:zt6 g46 [] g9.next (qC l[j]) 78:=by
      have w38:=w22.old o38
      exact⟨(f46 _ w38.2.1 ap11).trans w38.1,Nat.lt_of_lt_of_le w38.2.1 o46.1,w38.2.2⟩
     refine⟨_,_,c45,g46,k46,_,_,_,w46.ld rfl,fun g50 e50=>?_⟩
     obtain⟨p51,c53,g54,k54,G54,o54,f54, -⟩:=G46.push zev (by have:=og5.1; have:=o46.1; omega) (m:=1) (ns:=ptI [l[j]]) e50 rfl (by omega) (by omega)
     refine⟨p51,_,c53,g54,k54,fun i55 e55=>?_⟩
     have e55:=zcj e55 (by omega) (by omega)
     refine⟨_,by omega,j+1,by rw[e55]; rfl,by omega,rfl,⟨by have:=og5.1; have:=o46.1; have:=o54.1; omega,fun b hb=>by rw[o54.2 b hb,o46.2 b hb,og5.2 b hb]⟩,by omega,hnot1,fun _=>⟨l[j],by rw[tk]; exact List.mem_append_right _ (List.mem_singleton.2 rfl),kl⟩,fun z=>(by cases z),?_⟩
     have e:zug q true (l.take (j+1))=zug q false (l.take j) ++ [q] ++ [l[j]]:=by
      show insD q (l.take (j+1))=l.take j ++ [q] ++ [l[j]]
      rw[tk,zhg hno,show insD q [l[j]]=[q,l[j]] by unfold insD; rw[if_pos kl],List.append_assoc]
      rfl
     rw[e,zcr,zcr]
     exact G54
    ·refine .inr ⟨rfl,zn0 rfl (more o38 (w22.old o38) (by rw[tk]; rfl) rfl (fun z=>by cases z) fun _ x hx=>?_)⟩
     rw[tk] at hx
     rcases List.mem_append.1 hx with hx | hx
     ·exact hno x hx
     ·rw[List.mem_singleton] at hx; rw[hx]; exact kl
 ·obtain rfl:j=n:=by omega
  rw[List.take_of_length_le (by omega)] at *
  cases b14 with
  | true=>exact zvZ rfl ⟨.inl ⟨_,_,_,_,zi5 kf hnot,rfl,znZ G9 (zrj D.wf hq),G9.cutQ (by simp only[zar]; omega),fun a ha=>by have:=G9.block ha; have:=oh5.1; omega⟩,oh9⟩
  | false=>
    refine zn0 rfl ⟨_,_,_,zah (wq o9) rfl,fun g63 e63=>?_⟩
    obtain⟨p64,c66,g67,k67,G67,o67, -, -⟩:=G9.push zev o9.1 (m:=1) (ns:=ptI [q]) e63 rfl (by omega) (by omega)
    have e:insD q l=zug q false l ++ [q]:=by
     have:=zhg (q:=q) (a:=l) (b:=[]) (hnd rfl)
     rw[List.append_nil] at this
     exact this
    rw[←zcr,←e] at G67
    exact⟨p64,_,c66,g67,k67,.inl ⟨_,_,_,_,zi5 kf hnot,rfl,znZ G67 (zrj D.wf hq),G67.cutQ (by simp only[zar]; omega),fun a ha=>by have:=G67.block ha; have:=oh5.1; omega⟩,⟨by have:=oh9.1; have:=o67.1; omega,fun b hb=>by rw[o67.2 b (by have:=oh5.1; omega),oh9.2 b hb]⟩⟩
theorem zu6 (kk:zle K) {p q:Option Addr} {n m c d:Nat} {xs ys:List PtI} (A:DL h p n xs) (B:DL h q m ys) (hn:n≤50000) (hm:m≤50000):
 Wf Tryz.prog K 78 [.slice p n c,.slice q m d] h fun v h'=>zrk h.next (zrg xs ys) v h'∧Old h h':=by
 have hrm:zaU=140737488355328:=rfl
 have hnl:=A.len
 have hml:=B.len
 refine zeU kk.merge _ _ _ _ _ _ h _ fun g0 e0=>?_
 have o0:=zab e0
 obtain⟨p1,c3,g4,k4,G4,o4, -, -⟩:=(zaY.lit (n:=0) (cs:=[]) e0 rfl (Nat.le_refl _)).append zev o0.1 (x:=.slice p n c) (m:=n) rfl ((A.shows.old o0).firstC A.form) A.shows.1 (by omega) (by omega) ⟨_,zev.1⟩
 rw[List.nil_append] at G4
 have oh4:Old h g4:=⟨Nat.le_trans o0.1 o4.1,fun b hb=>by rw[o4.2 b hb,o0.2 b hb]⟩
 refine⟨p1,_,c3,g4,k4,fun p9 n10 c11 i12 k g=>∃(j:Nat) (out:List PtI),i12=j∧j≤m∧m - j=k∧Old h g∧n10≤n+j∧DL g p9 n10 out∧zka Tryz.prog g 78 p9 n10 c11∧(∀a,p9=some a→h.next≤a.block∧a.block < g.next)∧zrg xs ys=zrg out (ys.drop j),⟨_,0,xs,rfl,Nat.zero_le _,rfl,oh4,by omega,znZ G4 A.wf,G4.cutQ (by simp only[zar]; omega),fun a ha=>G4.block ha,rfl⟩,?_⟩
 rintro k6 g7 p9 n10 c11 i12 ⟨j,out,rfl,hj,rfl,o7,h10,DO,CO,bo,hr⟩
 refine⟨fun z=>?_,fun z=>?_⟩
 ·have hjl:j < ys.length:=by omega
  obtain⟨b,off,rfl,hld,hw⟩:=(B.old o7).at hjl
  have ed:ys.drop j=ys[j] :: ys.drop (j+1):=List.drop_eq_getElem_cons hjl
  refine zag ⟨by omega,z,_,_,_,by rw[Int.toNat_natCast]; exact hld,fun g18 e18=>?_⟩
  obtain⟨g19,k19,n19,o19,v19⟩:=zap e18 (vs:=qC ys[j]) rfl
  have w19:=v19 [] (fun c hc=>by cases hc)
  have oh19:=o7.trans o19
  refine⟨rfl,g19,k19,_,_,_,w19.ld rfl,(zwY kk (DO.old o19) (by omega) hw).mono ?_⟩
  rintro _ g24 ⟨⟨d',p25,n26,c27,hd,rfl,DD,CD,bd⟩ | ⟨hd,rfl⟩,o24⟩
  ·refine⟨_,_,_,_,rfl,fun _ i29 e29=>?_,fun y=>absurd rfl y⟩
   have e29:=zcj e29 (by omega) (by omega)
   have l1:=DD.len
   have l2:=DO.len
   obtain⟨-, -,q3⟩:=zpP hd
   have l3:d'.length=out.length+1:=by rw[q3,ztg]
   refine⟨_,by omega,j+1,d',by rw[e29]; rfl,by omega,rfl,oh19.trans o24,by omega,DD,CD,fun a ha=>⟨by have:=(bd a ha).1; have:=oh19.1; omega,(bd a ha).2⟩,?_⟩
   rw[hr,ed]
   conv=>lhs; unfold zrg
   rw[hd]
  ·refine⟨_,_,_,_,rfl,fun z=>absurd z (by decide),fun _=>⟨.inr ⟨?_,rfl⟩,oh19.trans o24⟩⟩
   rw[hr,ed]
   conv=>lhs; unfold zrg
   rw[hd]
 ·refine⟨.inl ⟨out,_,_,_,?_,rfl,DO,CO,bo⟩,o7⟩
  rw[hr,List.drop_eq_nil_of_le (by omega)]
  rfl
end
def zbh (g:AH) (r:zaj):Prop:=zbC g r∧zka Tryz.prog g 78 r.dp r.dn r.dc∧∀a,r.dp=some a→a.block < g.next
theorem zbh.old {g g' : AH} {r:zaj} (k:zbh g r) (o:Old g g'):zbh g' r:=⟨k.1.old o,k.2.1.old o k.2.2,fun a ha=>Nat.lt_of_lt_of_le (k.2.2 a ha) o.1⟩
theorem zbh.kept {g g' : AH} {r:zaj} (k:zbh g r) (hn:g.next≤g'.next) (q:∀a,r.dp=some a→g'.get a.block=g.get a.block):zbh g' r:=⟨k.1.keep hn q,k.2.1.kept q,fun a ha=>Nat.lt_of_lt_of_le (k.2.2 a ha) hn⟩
structure zb0 (h:AH) (p:Option Addr) (n:Nat) (rs:List zaj):Prop where
 sets:zbL h p n rs
 recs:∀r∈rs,zbh h r
 form:p=none∨∃b off,p=some ⟨b,off,none⟩
theorem zb0.old {h h' : AH} {p:Option Addr} {n:Nat} {rs:List zaj} (t:zb0 h p n rs) (o:Old h h'):zb0 h' p n rs:=⟨t.1.old o,fun r hr=>(t.2 r hr).old o,t.3⟩
structure zgk (lim:Nat) (g:AH) (b:Nat) (xs:List zaj):Prop where
 lo:lim≤b
 hi:b < g.next
 get:g.get b=some (.cells (setsC xs) 81 false)
 recs:∀r∈xs,zbh g r∧∀a,r.dp=some a→a.block≠b
theorem zgk.old {lim:Nat} {g g' : AH} {b:Nat} {xs:List zaj} (w:zgk lim g b xs) (o:Old g g'):zgk lim g' b xs:=⟨w.lo,Nat.lt_of_lt_of_le w.hi o.1,(o.2 _ w.hi).trans w.get,fun r hr=>⟨(w.recs r hr).1.old o,(w.recs r hr).2⟩⟩
theorem zgk.weak {lim lim' : Nat} {g:AH} {b:Nat} {xs:List zaj} (w:zgk lim g b xs) (h:lim'≤lim):zgk lim' g b xs:=⟨Nat.le_trans h w.lo,w.hi,w.get,w.recs⟩
theorem zgk.shows {lim:Nat} {g:AH} {b:Nat} {xs:List zaj} (w:zgk lim g b xs):zaR g (some ⟨b,0,none⟩) xs.length 11 (setsC xs):=by
 refine⟨zaI xs,.inr ⟨b,0,_,_,_,rfl,w.hi,w.get,by rw[zaI]; omega,?_⟩⟩
 rw[List.drop_zero,←zaI,List.take_length]
theorem zgk.book {lim:Nat} {g:AH} {b:Nat} {xs:List zaj} (w:zgk lim g b xs) (hl:xs.length≤100000):zb0 g (some ⟨b,0,none⟩) xs.length xs:=by
 have hre:reachBytes=140737488351232:=rfl
 exact⟨zla w.shows (by omega) fun r hr=>(w.recs r hr).1.1,fun r hr=>(w.recs r hr).1,.inr ⟨_,_,rfl⟩⟩
theorem zo1 {xs:List zaj} {i:Nat} (hi:i < xs.length):setsC xs=setsC (xs.take i) ++ setC xs[i] ++ setsC (xs.drop (i+1)):=by
 rw[←zdS,←zbg,←zbg,List.append_assoc,List.singleton_append,←List.drop_eq_getElem_cons hi,List.take_append_drop]
theorem ze3 {xs:List zaj} {i k:Nat} {vs:List Value} {r' : zaj} (hi:i < xs.length) (hk:k+vs.length≤11) (he:(setC xs[i]).take k ++ vs ++ (setC xs[i]).drop (k+vs.length)=setC r'):
 (setsC xs).take (i * 11+k) ++ vs ++ (setsC xs).drop (i * 11+k+vs.length)=setsC (xs.set i r'):=by
 have l1:(setsC (xs.take i)).length=i * 11:=by rw[zaI,List.length_take]; omega
 have l2:=zbA xs[i]
 have e2:setsC (xs.set i r')=setsC (xs.take i) ++ setC r' ++ setsC (xs.drop (i+1)):=by
  rw[zo1 (xs:=xs.set i r') (by rw[List.length_set]; exact hi),List.getElem_set_self,List.take_set_of_le (Nat.le_refl _),List.drop_set,if_pos (by omega)]
 rw[e2,←he,zo1 hi]
 generalize setsC (xs.take i)=A at *
 generalize setsC (xs.drop (i+1))=C
 generalize setC xs[i]=B at *
 have t1:(A ++ B ++ C).take (i * 11+k)=A ++ B.take k:=by
  rw[List.append_assoc,List.take_append,List.take_of_length_le (by omega),show i * 11+k - A.length=k by omega,List.take_append_of_le_length (by omega)]
 have t2:(A ++ B ++ C).drop (i * 11+k+vs.length)=B.drop (k+vs.length) ++ C:=by
  rw[List.append_assoc,List.drop_append,List.drop_eq_nil_of_le (by omega),List.nil_append,show i * 11+k+vs.length - A.length=k+vs.length by omega,List.drop_append_of_le_length (by omega)]
 rw[t1,t2]
 simp only[List.append_assoc]
theorem zke {α:Type} (l:List α) (j:Nat) (v:α) (hj:j < l.length):l.set j v=l.take j ++ [v] ++ l.drop (j+1):=by
 rw[List.append_assoc,List.singleton_append]
 exact List.set_eq_take_append_cons_drop .. |>.trans (if_pos hj)
theorem zgk.stN {lim:Nat} {g:AH} {b i k:Nat} {xs:List zaj} {vs:List Value} {r' : zaj} (w:zgk lim g b xs) (hi:i < xs.length) (hk:k+vs.length≤11) (he:(setC xs[i]).take k ++ vs ++ (setC xs[i]).drop (k+vs.length)=setC r') (ok:zbh g r') (ha:∀a,r'.dp=some a→a.block≠b):
 ∃g',Am.stN g b (i * 11+k) vs=some g'∧zbR b g g'∧zgk lim g' b (xs.set i r'):=by
 have hl:=zaI xs
 have hle:i * 11+k+vs.length≤(setsC xs).length:=by omega
 refine⟨_,zj7 w.get hle,zak _ _ _,w.lo,w.hi,by rw[zad,ze3 hi hk he],fun r hr=>?_⟩
 rcases List.mem_or_eq_of_mem_set hr with h | rfl
 ·obtain⟨h1,h2⟩:=w.recs r h
  exact⟨h1.kept (Nat.le_refl _) fun a ha=>zaC (h2 a ha),h2⟩
 ·exact⟨ok.kept (Nat.le_refl _) fun a h=>zaC (ha a h),ha⟩
theorem zgk.st1 {lim:Nat} {g:AH} {b i k:Nat} {xs:List zaj} {v:Value} {r' : zaj} (w:zgk lim g b xs) (hi:i < xs.length) (hk:k < 11) (he:(setC xs[i]).set k v=setC r') (ok:zbh g r') (ha:∀a,r'.dp=some a→a.block≠b):
 ∃g',Am.st1 g b (i * 11+k) v=some g'∧zbR b g g'∧zgk lim g' b (xs.set i r'):=by
 have hl:=zaI xs
 have l2:=zbA xs[i]
 have he' : (setC xs[i]).take k ++ [v] ++ (setC xs[i]).drop (k+1)=setC r':=by rw[←he,zke _ _ _ (by omega)]
 have hcell:(setsC xs).set (i * 11+k) v=setsC (xs.set i r'):=by rw[zke _ _ _ (by omega)]; exact ze3 (vs:=[v]) hi hk he'
 refine⟨_,zbi w.get (by omega),zak _ _ _,w.lo,w.hi,by rw[zad,hcell],fun r hr=>?_⟩
 rcases List.mem_or_eq_of_mem_set hr with h | rfl
 ·obtain⟨h1,h2⟩:=w.recs r h
  exact⟨h1.kept (Nat.le_refl _) fun a ha=>zaC (h2 a ha),h2⟩
 ·exact⟨ok.kept (Nat.le_refl _) fun a h=>zaC (ha a h),ha⟩
structure zhh (K:Xs):Prop where
 dead:ztj K
 named0:zoP K
 copied:K 47=none
 place:K 60=none
 place1:K 85=none
 index:K 84=none
 added:K 49=none
 volName:K 46=none
 snapName:K 54=none
 named:K 48=none
 volAt:K 57=none
theorem zmF {xs rs:List zaj} {j:Nat} {x:zaj} (h:xs.map cor=(rs.take j).map cor) (hj:j < rs.length) (hx:cor x=cor rs[j]):(xs ++ [x]).map cor=(rs.take (j+1)).map cor:=by
 rw[List.take_succ_eq_append_getElem hj,List.map_append,List.map_append,h]
 simp[hx]
section
variable {K:Xs} {h:AH} {p:Option Addr} {n c:Nat} {rs:List zaj}
theorem zfm (kk:zhh K) (T:zb0 h p n rs) (hn40:n≤1000) (nx:Int):
 Wf Tryz.prog K 47 [.agg #[.int .u64 nx,.slice p n c]] h fun v h'=>(∃b rs',v=.agg #[.int .u64 nx,.slice (some ⟨b,0,none⟩) n n]∧zgk h.next h' b rs'∧rs'.map cor=rs.map cor∧∀r∈rs',∀a,r.dp=some a→h.next≤a.block)∧Old h h':=by
 have hn:=T.1.1
 refine zjH kk.copied _ _ _ _ h _ fun g0 e0 g1 e1=>?_
 have o0:=zab e0
 have o1:=zab e1
 have n0:=zaa e0
 have n1:=zaa e1
 have oh1:=o0.trans o1
 have c0:∀{g:AH},Old g1 g→g.get h.next=some (.cells [.int .u64 nx,.slice p n c] 29 false):=fun o=>(o.2 _ (by omega)).trans ((o1.2 _ (by omega)).trans (zaf e0))
 have c1:∀{g:AH},Old g1 g→g.get g0.next=some (.cells [.int .u64 0,.slice none 0 0] 29 false):=fun o=>(o.2 _ (by omega)).trans (zaf e1)
 refine⟨_,_,_,zae (c0 (Old.refl _)) rfl,⟨by omega,by omega,by omega,by omega⟩,fun g5 e5=>?_⟩
 rw[Int.toNat_natCast] at *
 have o5:=zab e5
 have n5:=zaa e5
 have hz:(List.replicate n (setC zaq)).flatten=setsC (List.replicate n zaq):=by simp[setsC]
 have e5' : g5=g1.alloc (.cells (setsC (List.replicate n zaq)) 81 false):=by rw[←hz]; exact e5
 have w5:=zaf e5'
 refine⟨_,_,_,zae (c0 o5) rfl,fun i13 k g=>∃(j:Nat) (xs:List zaj),i13=j∧j≤n∧n - j=k∧Old g1 g∧g1.next < g.next∧xs.length=j∧g.get g1.next=some (.cells (setsC (xs ++ List.replicate (n - j) zaq)) 81 false)∧(∀r∈xs,zbh g r∧∀a,r.dp=some a→g1.next < a.block)∧xs.map cor=(rs.take j).map cor,
  ⟨_,0,[],rfl,Nat.zero_le _,rfl,o5,by omega,rfl,by simpa using w5,fun r hr=>(by cases hr),by simp⟩,?_⟩
 rintro k10 g11 i13 ⟨j,xs,rfl,hj,rfl,o11,l11,hxl,w11,hxs,hcor⟩
 have oh11:=oh1.trans o11
 refine⟨fun z=>?_,fun z=>?_⟩
 ·have hjn:j < n:=by omega
  obtain⟨b,off,rfl,hj',hld, -,hok⟩:=(T.1.old oh11).at hjn
  refine⟨_,_,_,zae (c0 o11) rfl,zag ⟨by omega,z,_,_,_,_,_,_,_,_,_,_,_,_,_,by rw[Int.toNat_natCast]; exact hld,(zfj kk.named0.copy hok).mono ?_⟩⟩
  rintro _ g33 ⟨p',c',rfl,hok',G',o33⟩
  have w33:=(o33.2 _ l11).trans w11
  have hlen:(setsC (xs ++ List.replicate (n - j) zaq)).length=n * 11:=by rw[zaI]; simp; omega
  have hge:(xs ++ List.replicate (n - j) zaq)[j]'(by simp; omega)=zaq:=by rw[List.getElem_append_right (by omega)]; simp
  have hsp:=ze3 (xs:=xs ++ List.replicate (n - j) zaq) (i:=j) (k:=0) (vs:=setC { rs[j] with dp:=p',dc:=c' }) (r':={ rs[j] with dp:=p',dc:=c' }) (by simp; omega) (by rw[zbA]; omega) (by rw[hge]; rfl)
  have hset:(xs ++ List.replicate (n - j) zaq).set j { rs[j] with dp:=p',dc:=c' }= (xs ++ [{ rs[j] with dp:=p',dc:=c' }]) ++ List.replicate (n - (j+1)) zaq:=by
   rw[List.set_append_right _ _ (by omega),hxl,Nat.sub_self,show n - j=(n - (j+1))+1 by omega,List.replicate_succ,List.set_cons_zero]
   simp
  refine⟨_,_,_,_,_,_,_,_,_,_,_,_,_,rfl,by omega,by omega,rfl,_,zj7 w33 (by rw[hlen,Int.toNat_natCast]; show 0+j * 11+11≤n * 11; omega),fun i48 e48=>?_⟩
  have e48:=zcj e48 (by omega) (by omega)
  have nx:∀o:AObj,(g33.set g1.next o).next=g33.next:=fun o=>rfl
  refine⟨_,by omega,j+1,xs ++ [{ rs[j] with dp:=p',dc:=c' }],by rw[e48]; rfl,by omega,rfl,⟨by have:=o11.1; have:=o33.1; rw[nx]; omega,fun b hb=>by rw[zaC (by omega),o33.2 b (by have:=o11.1; omega),o11.2 b hb]⟩,by have:=o33.1; rw[nx]; omega,by simp[hxl],?_,fun r hr=>?_,zmF hcor hj' rfl⟩
  ·rw[zad,Int.toNat_natCast,←hset,←hsp]
   simp only[Nat.zero_add,Nat.add_zero]
   rfl
  ·rcases za1.1 hr with hr | rfl
   ·obtain⟨h1,h2⟩:=hxs r hr
    exact⟨(h1.old o33).kept (Nat.le_refl _) fun a ha=>zaC (by have:=h2 a ha; omega),h2⟩
   ·have hb:∀a,p'= some a→g11.next≤a.block∧a.block < g33.next:=fun a ha=>G'.block ha
    have hne:∀a,p'= some a→g1.next < a.block:=fun a ha=>by have:=(hb a ha).1; omega
    exact⟨zbh.kept (g:=g33) ⟨hok',G'.cutQ (by have:=hok.room; have:reachBytes=140737488351232:=rfl; simp only[zar]; omega),fun a ha=>(hb a ha).2⟩ (Nat.le_refl _) fun a ha=>zaC (by have:=hne a ha; omega),hne⟩
 ·obtain rfl:j=n:=by omega
  rw[List.take_of_length_le (by omega)] at hcor
  rw[Nat.sub_self,List.replicate_zero,List.append_nil] at w11
  have nx' : ∀o:AObj,(g11.set g0.next o).next=g11.next:=fun o=>rfl
  refine⟨_,zae (c0 o11) rfl,rfl,_,zat (c1 o11) rfl,_,_,_,_,zah (zad _ _ _) rfl,⟨g1.next,xs,rfl,⟨by omega,by rw[nx']; exact l11,by rw[zaC (by omega)]; exact w11,fun r hr=>?_⟩,hcor,fun r hr a ha=>by have:=(hxs r hr).2 a ha; omega⟩,⟨by rw[nx']; exact oh11.1,fun b hb=>by rw[zaC (by omega)]; exact oh11.2 b hb⟩⟩
  obtain⟨h1,h2⟩:=hxs r hr
  exact⟨h1.kept (Nat.le_refl _) fun a ha=>zaC (by have:=h2 a ha; omega),fun a ha=>by have:=h2 a ha; omega⟩
end
open Classical in
noncomputable def spl (f:ByteArray):Option (ByteArray×ByteArray):=if h:∃p:ByteArray×ByteArray,zaX f p.1 p.2 then some (Classical.choose h) else none
theorem zaH {f a b:ByteArray} (h:zaX f a b):spl f=some (a,b):=by
 unfold spl
 have hex:∃p:ByteArray×ByteArray,zaX f p.1 p.2:=⟨(a,b),h⟩
 rw[dif_pos hex]
 have:=(Classical.choose_spec hex).uniq h
 congr 1
 exact Prod.ext this.1 this.2
theorem zbB {f:ByteArray} (h:∀a b,¬zaX f a b):spl f=none:=by
 unfold spl
 rw[dif_neg fun ⟨p,hp⟩=>h p.1 p.2 hp]
theorem spl_ok {f a b:ByteArray} (h:spl f=some (a,b)):zaX f a b:=by
 unfold spl at h
 split at h
 ·rename_i hex
  have hs:=Classical.choose_spec hex
  have e:=Option.some.inj h
  rw[e] at hs
  exact hs
 ·cases h
def volOf (o:Option (ByteArray×ByteArray)):Option ByteArray:=match o with | some (a,b)=>if b=noB then some a else none | none=>none
def snapOf (o:Option (ByteArray×ByteArray)):Option (ByteArray×ByteArray):=match o with | some (a,b)=>if b=noB then none else some (a,b) | none=>none
def lookOf (rs:List zaj) (o:Option (ByteArray×ByteArray)):Option Nat:=match o with | some (a,b)=>lookN rs a b | none=>none
def zmG (o:Option Nat):Int:=match o with | some i=>(i:Int) | none=>-1
section
variable {K:Xs} {h:AH} {p:Option Addr} {n c:Nat} {rs:List zaj} {nx:Int}
theorem zpS (kk:zhh K) {r:zaj} {id:Int} {pb:Nat} (wi:∃t ro,h.get pb=some (.cells [.int .u64 id] t ro)) (hpb:pb < h.next):
 Wf Tryz.prog K 85 [.agg (setC r).toArray,.pointer (some ⟨pb,0,none⟩)] h fun v h'=>zbI v (r.id=id)∧Old h h':=by
 obtain⟨t,ro,wi⟩:=wi
 refine ziS kk.place1 _ _ _ _ _ _ _ _ _ _ _ _ _ _ h _ fun g0 e0=>?_
 have o0:=zab e0
 exact⟨_,zae (zaf e0) rfl,zag ⟨_,zae ((o0.2 _ hpb).trans wi) rfl,fun z=>⟨.inl ⟨rfl,z⟩,o0⟩,fun z=>⟨.inr ⟨rfl,z⟩,o0⟩⟩⟩
theorem zhi (kk:zhh K) (T:zbL h p n rs) (id:Int):Wf Tryz.prog K 60 [.slice p n c,.int .u64 id] h fun v h'=>v=.int .i64 (plc rs id)∧Old h h':=by
 have hn:=T.1
 have hn2:=T.2.1
 have hre:reachBytes=140737488351232:=rfl
 refine zkX kk.place _ _ _ _ h _ fun g0 e0=>zch kk.index _ _ _ _ g0 _ ?_
 have o0:=zab e0
 have n0:=zaa e0
 refine⟨fun i k g=>∃u:Nat,i=u∧u≤n∧n - u=k∧Old g0 g∧∀(j:Nat) x,j < u→rs[j]?= some x→x.id≠id,⟨_,0,rfl,Nat.zero_le _,rfl,Old.refl _,fun j x hj=>absurd hj (Nat.not_lt_zero _)⟩,?_⟩
 rintro k1 g2 i4 ⟨u,rfl,hu,rfl,o2,hb⟩
 have oh2:=o0.trans o2
 refine⟨fun z=>?_,fun z=>?_⟩
 ·obtain⟨b,off,rfl,hu',hld, -⟩:=(T.old oh2).at (i:=u) (by omega)
  refine zag ⟨by omega,z,_,_,_,_,_,_,_,_,_,_,_,_,_,by rw[Int.toNat_natCast]; exact hld,(zpS kk (r:=rs[u]) (id:=id) ⟨_,_,(o2.2 _ (by omega)).trans (zaf e0)⟩ (by have:=o2.1; omega)).mono ?_⟩
  rintro _ g21 ⟨⟨rfl,k⟩ | ⟨rfl,k⟩,o21⟩
  ·exact .inl ⟨rfl,_,rfl,by rw[zaS (zdO (List.getElem?_eq_getElem hu') k hb)],oh2.trans o21⟩
  ·refine .inr ⟨rfl,fun i22 e22=>?_⟩
   have e22:=zcj e22 (by omega) (by omega)
   refine⟨_,by omega,u+1,by rw[e22]; rfl,by omega,rfl,o2.trans o21,fun j x hj hx=>?_⟩
   by_cases hju:j=u
   ·subst hju
    rw[List.getElem?_eq_getElem hu'] at hx
    cases hx
    exact k
   ·exact hb j x (by omega) hx
 ·refine⟨_,rfl,?_,oh2⟩
  rw[zcc (zeX fun r hr e=>?_)]
  obtain⟨j,hj,rfl⟩:=List.mem_iff_getElem.1 hr
  exact hb j _ (by omega) (List.getElem?_eq_getElem hj) e
theorem zgl (kk:zhh K) (f:ByteArray) (hf:f.size≤9223372036854775806):Wf Tryz.prog K 46 [.string f] h fun v h'=>((∃a,volOf (spl f)=some a∧zaX f a noB∧v=.tuple #[.string a,.int .i64 0])∨(volOf (spl f)=none∧v=.tuple #[.string noB,.int .i64 141]))∧Old h h':=by
 refine ziT kk.volName _ h _ ((zeY kk.named0.name f hf).mono ?_)
 rintro _ g ⟨⟨a,b,hs,rfl⟩ | ⟨hs,rfl⟩,o⟩
 ·refine⟨_,_,_,rfl,fun _=>⟨fun e=>⟨.inl ⟨a,by rw[zaH hs]; exact if_pos e,by rw[←(show b=noB from e)]; exact hs,rfl⟩,o⟩,fun e=>⟨.inr ⟨by rw[zaH hs]; exact if_neg e,rfl⟩,o⟩⟩,fun z=>absurd rfl z⟩
 ·exact⟨_,_,_,rfl,fun z=>absurd z (by decide),fun _=>⟨.inr ⟨by rw[zbB hs]; rfl,rfl⟩,o⟩⟩
theorem ze4 (kk:zhh K) (f:ByteArray) (hf:f.size≤9223372036854775806):Wf Tryz.prog K 54 [.string f] h fun v h'=>((∃a b,snapOf (spl f)=some (a,b)∧zaX f a b∧b≠noB∧v=.tuple #[.string a,.string b,.int .i64 0])∨(snapOf (spl f)=none∧v=.tuple #[.string noB,.string noB,.int .i64 141]))∧Old h h':=by
 refine zhK kk.snapName _ h _ ((zeY kk.named0.name f hf).mono ?_)
 rintro _ g ⟨⟨a,b,hs,rfl⟩ | ⟨hs,rfl⟩,o⟩
 ·refine⟨_,_,_,rfl,fun _=>⟨fun e=>⟨.inr ⟨by rw[zaH hs]; exact if_pos e,rfl⟩,o⟩,fun e=>⟨.inl ⟨a,b,by rw[zaH hs]; exact if_neg e,hs,e,rfl⟩,o⟩⟩,fun z=>absurd rfl z⟩
 ·exact⟨_,_,_,rfl,fun z=>absurd z (by decide),fun _=>⟨.inr ⟨by rw[zbB hs]; rfl,rfl⟩,o⟩⟩
theorem zcs (kk:zhh K) (T:zbL h p n rs) (R:zam nx rs) (f:ByteArray) (hf:f.size≤9223372036854775806) (bn:Int):
 Wf Tryz.prog K 48 [.agg #[.int .u64 bn,.slice p n c],.string f] h fun v h'=>v=.int .i64 (zmG (lookOf rs (spl f)))∧Old h h':=by
 refine zkZ kk.named _ _ _ _ _ h _ fun g0 e0=>?_
 have o0:=zab e0
 have n0:=zaa e0
 have c0:∀{g:AH},Old g0 g→ld1 g h.next 1=some (.slice p n c):=fun o=>zae ((o.2 _ (by omega)).trans (zaf e0)) rfl
 refine⟨_,_,_,c0 (Old.refl _),(zgK kk.named0 (T.old o0) R.calOk (fun r hr=>by
  have e:=(R.ent hr).1
  simp[Lit.wf,IntKind.min,IntKind.max,IntKind.signed,IntKind.bits]
  omega) f hf).mono ?_⟩
 rintro _ g5 ⟨q,o5⟩
 have none' : lookOf rs (spl f)=none→∀{g21:AH},Old g5 g21→(Value.int .i64 (-1)=.int .i64 (zmG (lookOf rs (spl f)))∧Old h g21):=fun e {g21} o=>⟨by rw[e]; rfl,(o0.trans o5).trans o⟩
 rcases q with ⟨a,b,hs,⟨i,r,p',c',hl,hr,rfl,ok⟩ | ⟨hl,rfl⟩⟩ | ⟨hs,rfl⟩
 ·refine⟨_,_,_,_,_,_,_,_,_,_,_,_,_,_,rfl,fun g20 e20=>?_⟩
  obtain⟨g21,k21,n21,o21,v21⟩:=zap e20 (vs:=setC { r with dp:=p',dc:=c' }) rfl
  have w21:=v21 [] (fun c hc=>by cases hc)
  refine⟨rfl,g21,k21,fun _=>⟨_,_,_,c0 (o5.trans o21),_,zae w21.1 rfl,(zhi kk (T.old ((o0.trans o5).trans o21)) r.id).mono ?_⟩,fun z=>absurd rfl z⟩
  rintro _ g27 ⟨rfl,o27⟩
  refine⟨_,rfl,?_,((o0.trans o5).trans o21).trans o27⟩
  rw[zaS (R.uniq hr),zaH hs]
  show _=Value.int .i64 (zmG (lookN rs a b))
  rw[hl]
  rfl
 ·refine⟨_,_,_,_,_,_,_,_,_,_,_,_,_,_,rfl,fun g20 e20=>?_⟩
  obtain⟨g21,k21,n21,o21,v21⟩:=zap e20 (vs:=setC zaq) rfl
  exact⟨rfl,g21,k21,fun z=>absurd z (by decide),fun _=>none' (by rw[zaH hs]; exact hl) o21⟩
 ·refine⟨_,_,_,_,_,_,_,_,_,_,_,_,_,_,rfl,fun g20 e20=>?_⟩
  obtain⟨g21,k21,n21,o21,v21⟩:=zap e20 (vs:=setC zaq) rfl
  exact⟨rfl,g21,k21,fun z=>absurd z (by decide),fun _=>none' (by rw[zbB hs]; rfl) o21⟩
def ze5 (rs:List zaj) (o:Option (ByteArray×ByteArray)):Int×Int:=match volOf o with
 | none=>(-1,141)
 | some _=>match lookOf rs o with
   | none=>(-1,172)
   | some i=>((i:Int),0)
theorem zi9 (kk:zhh K) (T:zbL h p n rs) (R:zam nx rs) (f:ByteArray) (hf:f.size≤9223372036854775806) (bn:Int):
 Wf Tryz.prog K 57 [.agg #[.int .u64 bn,.slice p n c],.string f] h fun v h'=>v=.tuple #[.int .i64 (ze5 rs (spl f)).1,.int .i64 (ze5 rs (spl f)).2]∧Old h h':=by
 refine zk0 kk.volAt _ _ _ _ _ h _ fun g0 e0=>?_
 have o0:=zab e0
 have n0:=zaa e0
 have c0:∀{g:AH},Old g0 g→ldN g h.next 0 2=some [.int .u64 bn,.slice p n c]:=fun o=>zah ((o.2 _ (by omega)).trans (zaf e0)) rfl
 refine (zgl kk f hf).mono ?_
 rintro _ g2 ⟨⟨a,ha,hs,rfl⟩ | ⟨ha,rfl⟩,o2⟩
 ·refine⟨_,_,rfl,fun _=>⟨_,_,_,_,c0 o2,(zcs kk (c:=c) (T.old (o0.trans o2)) R f hf bn).mono ?_⟩,fun z=>absurd rfl z⟩
  rintro _ g10 ⟨rfl,o10⟩
  have oo:=(o0.trans o2).trans o10
  unfold ze5
  rw[ha]
  simp only
  cases hl:lookOf rs (spl f) with
  | none=>exact⟨_,rfl,fun _=>⟨rfl,oo⟩,fun z=>absurd (by decide) z⟩
  | some i=>
    refine⟨_,rfl,fun z=>absurd z (by show ¬((i:Int) < 0); omega),fun _=>⟨rfl,oo⟩⟩
 ·refine⟨_,_,rfl,fun z=>absurd z (by decide),fun _=>⟨?_,o0.trans o2⟩⟩
  unfold ze5
  rw[ha]
theorem zmH (kk:zhh K) (T:zb0 h p n rs) (hn40:n≤1000) (bn:Int) (hbn:0≤bn∧bn < 1000000000000000) {r:zaj} (ok:zbh h r):
 Wf Tryz.prog K 49 [.agg #[.int .u64 bn,.slice p n c],.agg (setC r).toArray] h fun v h'=>(∃b c' rs',v=.agg #[.int .u64 (bn+1),.slice (some ⟨b,0,none⟩) (n+1) c']∧zgk h.next h' b (rs' ++ [r])∧rs'.map cor=rs.map cor∧∀x∈rs',∀a,x.dp=some a→h.next≤a.block)∧Old h h':=by
 have hn:=T.1.1
 have hrm:zaU=140737488355328:=rfl
 refine zkY kk.added _ _ _ _ _ _ _ _ _ _ _ _ _ _ _ _ _ h _ fun g0 e0 g1 e1 g2 e2=>?_
 have o0:=zab e0
 have o1:=zab e1
 have o2:=zab e2
 have n0:=zaa e0
 have n1:=zaa e1
 have n2:=zaa e2
 have oh2:=(o0.trans o1).trans o2
 have c0:∀{g:AH},Old g2 g→g.get h.next=some (.cells [.int .u64 bn,.slice p n c] 29 false):=fun o=>(o.2 _ (by omega)).trans ((o2.2 _ (by omega)).trans ((o1.2 _ (by omega)).trans (zaf e0)))
 have c1:∀{g:AH},Old g2 g→g.get g0.next=some (.cells (setC r) 81 false):=fun o=>(o.2 _ (by omega)).trans ((o2.2 _ (by omega)).trans (zaf e1))
 have c2:∀{g:AH},Old g2 g→g.get g1.next=some (.cells [.int .u64 0,.slice none 0 0] 29 false):=fun o=>(o.2 _ (by omega)).trans (zaf e2)
 refine⟨_,_,_,_,zah (c0 (Old.refl _)) rfl,(zfm kk (T.old oh2) hn40 bn).mono ?_⟩
 rintro _ g8 ⟨⟨b,rs',rfl,OW,hcor,hnew⟩,o8⟩
 have hrl:rs'.length=n:=by rw[hn]; exact za5 hcor
 refine⟨_,_,_,_,rfl,fun g13 e13=>?_⟩
 obtain⟨g14,k14,n14,o14,v14⟩:=zap e13 (vs:=[.int .u64 bn,.slice (some ⟨b,0,none⟩) n n]) rfl
 have w14:=(v14 [] (fun c hc=>by cases hc)).1
 have o814:=o8.trans o14
 have OW14:=OW.old o14
 refine⟨rfl,g14,k14,_,_,_,zae w14 rfl,_,_,_,_,_,_,_,_,_,_,_,_,_,zah (c1 o814) rfl,fun g31 e31=>?_⟩
 have GB:zaY g2.next g14 81 11 (some ⟨b,0,none⟩) n n (setsC rs'):=⟨by rw[zaI,hrl],.inr ⟨b,rfl,OW14.lo,OW14.hi,OW14.get,.inr rfl⟩⟩
 obtain⟨p32,c34,g35,k35,G35,o35,f35,m35⟩:=GB.push znY o814.1 (m:=1) (ns:=setC r) e31 (by rw[zbA]) (by omega) (by omega)
 obtain⟨b35,rfl,hb35⟩:=m35 (by omega)
 obtain⟨b35',e35, -,q2,q3, -⟩:∃b',(some (⟨b35,0,none⟩:Addr))=some ⟨b',0,none⟩∧g2.next≤b'∧b' < g35.next∧g35.get b'= some (.cells (setsC rs' ++ setC r) 81 false)∧(c34=zar∨c34=n+1):=by
  rcases G35.2 with ⟨z, -⟩ | q
  ·cases z
  ·exact q
 obtain rfl:b35=b35':=by injection e35 with e35; injection e35
 have f:∀x,x < g14.next→x≠b→g35.get x=g14.get x:=fun x hx hne=>f35 x hx (fun e=>hne e.symm)
 have L8:=o8.1
 have L814:=o814.1
 have Lh:=oh2.1
 have L35:=o35.1
 have lb:h.next < b∧b≠g0.next∧b≠g1.next∧b≠g8.next:=by have:=OW.lo; have:=OW.hi; omega
 have w35:g35.get g8.next=_:=(f _ (by omega) (by omega)).trans w14
 refine⟨_,_,c34,g35,k35,_,zbi w35 (by simp),_,zae (zad _ _ _) rfl,fun i38 e38=>⟨_,zbi (zad _ _ _) (by simp),?_⟩⟩
 have e38:=zuV e38 (by omega) (by omega)
 subst e38
 have hc2:∀{o o' : AObj},((g35.set g8.next o).set g8.next o').get g1.next=some (.cells [.int .u64 0,.slice none 0 0] 29 false):=fun {o o'}=>by
  rw[zaC (by have:=o8.1; omega),zaC (by have:=o8.1; omega),f _ (by have:=o814.1; omega) (by omega)]
  exact c2 o814
 refine⟨_,_,_,_,zah (zad _ _ _) rfl,rfl,_,zat hc2 rfl,_,_,_,_,zah (zad _ _ _) rfl,⟨b35,c34,rs',rfl,?_,hcor,fun x hx a ha=>by have:=hnew x hx a ha; omega⟩,?_⟩
 ·have nx:∀{o o' o'' : AObj},(((g35.set g8.next o).set g8.next o').set g1.next o'').next=g35.next:=rfl
  have ne1:∀{x:Nat} {o o' o'' : AObj},x≠g8.next→x≠g1.next→(((g35.set g8.next o).set g8.next o').set g1.next o'').get x=g35.get x:=fun {x o o' o''} a b=>by rw[zaC b,zaC a,zaC a]
  refine⟨by have:=o814.1; have:=oh2.1; omega,by rw[nx]; exact q2,by rw[ne1 (by omega) (by omega),q3,zbg,zdS],fun x hx=>?_⟩
  rcases za1.1 hx with hx | rfl
  ·obtain⟨r1,r2⟩:=OW14.recs x hx
   have r0:=(OW.recs x hx)
   refine⟨r1.kept (by rw[nx]; have:=o35.1; omega) fun a ha=>?_,fun a ha=>by have:=r1.2.2 a ha; omega⟩
   have:=hnew x hx a ha
   have hab:=r1.2.2 a ha
   have hab8:=r0.1.2.2 a ha
   rw[ne1 (by omega) (by omega),f _ hab (r2 a ha)]
  ·have rh:zbh g14 x:=(ok.old oh2).old o814
   refine⟨rh.kept (by rw[nx]; have:=o35.1; omega) fun a ha=>?_,fun a ha=>by have:=ok.2.2 a ha; omega⟩
   have:=ok.2.2 a ha
   rw[ne1 (by have:=oh2.1; have:=o8.1; omega) (by omega),f _ (by have:=oh2.1; have:=o814.1; omega) (by omega)]
 ·refine⟨by show h.next≤g35.next; have:=o814.1; have:=oh2.1; have:=o35.1; omega,fun x hx=>?_⟩
  rw[zaC (by omega),zaC (by have:=oh2.1; have:=o8.1; omega),zaC (by have:=oh2.1; have:=o8.1; omega),f x (by have:=oh2.1; have:=o814.1; omega) (by omega),o814.2 x (by omega),oh2.2 x hx]
end
end Go.Am
