/-
  LISTS OF POINTERS BY THEIR BIRTH: the program's answers.
-/
import Derived.Test.YtnkbkpajlikkaaaCRuA
import Derived.Test.YtnkbkpajlikkaaaAmH
import Derived.Test.YtnkbkpajlikkaaaVRule
import Derived.Test.YtnkbkpajlikkaaaVRref
set_option linter.unusedVariables false
set_option linter.unusedSimpArgs false
set_option maxRecDepth 100000
namespace Go.Am
open Go.Proofs
def qV (q:PtI):Value:=.agg #[.int .i64 q.1,.int .u64 q.2.1,.int .u32 q.2.2]
def qC (q:PtI):List Value:=[.int .i64 q.1,.int .u64 q.2.1,.int .u32 q.2.2]
theorem ptI_app (a b:List PtI):ptI (a ++ b)=ptI a ++ ptI b:=by simp[ptI]
theorem ptI_one (q:PtI):ptI [q]=qC q:=rfl
theorem ptI_drop:∀(l:List PtI) (i:Nat),(ptI l).drop (i * 3)=ptI (l.drop i)
 | [],i=>by simp[ptI]
 | q :: l,0=>rfl
 | q :: l,i+1=>by
   rw[show (i+1) * 3=i * 3+3 by omega,show ptI (q :: l)=qC q ++ ptI l from rfl,Nat.add_comm,←List.drop_drop]
   show ((qC q ++ ptI l).drop 3).drop (i * 3)=_
   rw[show (qC q ++ ptI l).drop 3=ptI l from rfl,ptI_drop l i]
   rfl
theorem ptI_take (l:List PtI) (i:Nat):(ptI l).take (i * 3)=ptI (l.take i):=by
 by_cases h:i≤l.length
 ·have e:ptI l=ptI (l.take i) ++ ptI (l.drop i):=by rw[←ptI_app,List.take_append_drop]
  rw[e,List.take_left' (by rw[ptI_len,List.length_take]; omega)]
 ·rw[List.take_of_length_le (by rw[ptI_len]; omega),List.take_of_length_le (by omega)]
theorem shows_cutD {h:AH} {p p' : Option Addr} {n lo hi:Nat} {l:List PtI} (S:Shows h p n 3 (ptI l)) (h1:lo≤hi) (h2:hi≤n) (hp:∀b off,p=some ⟨b,off,none⟩→∃off',p'= some ⟨b,off',none⟩∧(lo < hi→off'= off+lo * 3)):Shows h p' (hi - lo) 3 (ptI ((l.drop lo).take (hi - lo))):=by
 have:=S.cut2 h1 h2 hp
 rwa [ptI_drop,ptI_take] at this
theorem isF (p:Option Addr) (q:p=none∨∃b off,p=some ⟨b,off,none⟩) {p' : Option Addr} (h1:∀b off,p=some ⟨b,off,none⟩→∃off',p'= some ⟨b,off',none⟩) (h2:p=none→p'= none):p'= none∨∃b off,p'= some ⟨b,off,none⟩:=by
 rcases q with rfl | ⟨b,off,rfl⟩
 ·exact .inl (h2 rfl)
 ·obtain⟨o,e⟩:=h1 b off rfl
  exact .inr ⟨b,o,e⟩
theorem CutP.form {P:Program} {h:AH} {elem:TypeId} {p:Option Addr} {n c:Nat} (k:CutP P h elem p n c):p=none∨∃b off,p=some ⟨b,off,none⟩:=by
 rcases k with ⟨e, -⟩ | ⟨b,off,e, -⟩
 ·exact .inl e
 ·exact .inr ⟨b,off,e⟩
structure KDead (K:Xs):Prop where
 split:K 64=none
 merge:K 65=none
 since:K 69=none
 less:K 70=none
section
variable {K:Xs} {h:AH}
theorem sinceSpec (kk:KDead K) {q:PtI} (hw:PtrWfI q) {st:Int} (hst:0≤st):Wf Try.prog K 69 [qV q,.int .u64 st] h fun v h'=>BoolIs v (st < q.2.1)∧Old h h':=by
 refine vc_ptr_Since kk.since _ _ _ _ h _ fun g0 e0=>?_
 have o0:=old_of_alloc e0
 refine⟨_,_,_,ldN_all (get_of_alloc e0) rfl,_,_,kPtrF hw.1 hw.2.1 hw.2.2,kHoleF,fun z=>?_,fun z=>?_⟩
 ·rw[lits3,decide_eq_true_eq] at z
  exact⟨.inr ⟨rfl,by omega⟩,o0⟩
 ·exact⟨_,ld1_at (get_of_alloc e0) rfl,fun y=>⟨.inl ⟨rfl,y⟩,o0⟩,fun y=>⟨.inr ⟨rfl,y⟩,o0⟩⟩
structure DL (h:AH) (p:Option Addr) (n:Nat) (l:List PtI):Prop where
 shows:Shows h p n 3 (ptI l)
 wf:∀q∈l,PtrWfI q
 len:n=l.length
 form:p=none∨∃b off,p=some ⟨b,off,none⟩
theorem DL.old {h h' : AH} {p:Option Addr} {n:Nat} {l:List PtI} (d:DL h p n l) (o:Old h h'):DL h' p n l:=⟨d.shows.old o,d.wf,d.len,d.form⟩
theorem DL.at {h:AH} {p:Option Addr} {n:Nat} {l:List PtI} (d:DL h p n l) {i:Nat} (hi:i < l.length):∃b off,p=some ⟨b,off,none⟩∧ldN h b (off+i * 3) 3=some (qC l[i])∧PtrWfI l[i]:=by
 obtain⟨b,off,hp,hl, -⟩:=d.shows.getN (i:=i) (by have:=d.len; omega)
 rw[ptI_get l i hi] at hl
 exact⟨b,off,hp,hl,d.wf _ (List.getElem_mem hi)⟩
theorem GrowD {lim:Nat} {h:AH} {p:Option Addr} {n c:Nat} {l:List PtI} (G:Grow lim h 56 3 p n c (ptI l)) (hw:∀q∈l,PtrWfI q):DL h p n l:=⟨G.shows,hw,by have:=G.1; rw[ptI_len] at this; omega,G.form⟩
theorem splitDSpec (kk:KDead K) {p:Option Addr} {n c:Nat} {l:List PtI} (D:DL h p n l) (hn:n≤100000) {st:Int} (hst:0≤st):
 Wf Try.prog K 64 [.slice p n c,.int .u64 st] h fun v h'=>(∃p1 n1 c1 p2 n2 c2,v=.tuple #[.slice p1 n1 c1,.slice p2 n2 c2]∧Grow h.next h' 56 3 p1 n1 c1 (ptI (oldD st l))∧Grow h.next h' 56 3 p2 n2 c2 (ptI (yngD st l)))∧Old h h':=by
 have hrm:roomMax=140737488355328:=rfl
 have hnl:=D.len
 refine vc_dead_Split kk.split _ _ _ _ h _ ⟨fun p4 n5 c6 p7 n8 c9 i10 k g=>∃j:Nat,i10=j∧j≤n∧n - j=k∧Old h g∧n5≤j∧n8≤j∧Grow h.next g 56 3 p4 n5 c6 (ptI (oldD st (l.take j)))∧Grow h.next g 56 3 p7 n8 c9 (ptI (yngD st (l.take j)))∧(∀a,p4=some a→apart p7 a.block),⟨_,0,rfl,Nat.zero_le _,rfl,Old.refl _,Nat.le_refl _,Nat.le_refl _,Grow.nil _ _ _ _,Grow.nil _ _ _ _,fun a ha=>by cases ha⟩,?_⟩
 rintro k1 g2 p4 n5 c6 p7 n8 c9 i10 ⟨j,rfl,hj,rfl,o2,h5,h8,GO,GY,ap⟩
 refine⟨fun z=>?_,fun z=>?_⟩
 ·have hjl:j < l.length:=by omega
  obtain⟨b,off,rfl,hld,hw⟩:=(D.old o2).at hjl
  refine derefP_at ⟨by omega,z,_,_,_,by rw[Int.toNat_natCast]; exact hld,fun g16 e16=>?_⟩
  obtain⟨g17,k17,n17,o17,v17⟩:=put_new e16 (vs:=qC l[j]) rfl
  have w17:=v17 [] (fun c hc=>by cases hc)
  refine⟨rfl,g17,k17,_,_,_,w17.ld rfl,(sinceSpec kk hw hst).mono ?_⟩
  rintro _ g22 ⟨hq,o22⟩
  have w22:=w17.old o22
  have o222:=o17.trans o22
  have oh22:=o2.trans o222
  have tk:l.take (j+1)=l.take j ++ [l[j]]:=List.take_succ_eq_append_getElem hjl
  have GO22:=GO.old o222
  have GY22:=GY.old o222
  rcases hq with ⟨rfl,hs⟩ | ⟨rfl,hs⟩
  ·refine .inl ⟨rfl,_,_,_,w22.ld rfl,fun g26 e26=>?_⟩
   obtain⟨p27,c29,g30,k30,G30,o30,f30,m30⟩:=GY22.push ePtrF oh22.1 (m:=1) (ns:=ptI [l[j]]) e26 rfl (by omega) (by omega)
   obtain⟨b27,rfl,hb27⟩:=m30 (by omega)
   refine⟨_,_,c29,g30,k30,fun i31 e31=>?_⟩
   have e31:=i64w e31 (by omega) (by omega)
   refine⟨_,by omega,j+1,by rw[e31]; rfl,by omega,rfl,⟨Nat.le_trans oh22.1 o30.1,fun b hb=>by rw[o30.2 b hb,oh22.2 b hb]⟩,by omega,by omega,?_,?_,fun a ha=>?_⟩
   ·rw[tk,show oldD st (l.take j ++ [l[j]])=oldD st (l.take j) by unfold oldD; rw[List.filter_append]; simp[hs]]
    refine⟨GO22.1,?_⟩
    rcases GO22.2 with q | ⟨b,q1,q2,q3,q4,q5⟩
    ·exact .inl q
    ·exact .inr ⟨b,q1,q2,Nat.lt_of_lt_of_le q3 o30.1,by rw[f30 b q3 (ap _ q1)]; exact q4,q5⟩
   ·rw[tk,show yngD st (l.take j ++ [l[j]])=yngD st (l.take j) ++ [l[j]] by unfold yngD; rw[List.filter_append]; simp[hs],ptI_app]
    exact G30
   ·have:=(GO22.block ha).2
    show b27≠a.block
    omega
  ·refine .inr ⟨rfl,_,_,_,w22.ld rfl,fun g26 e26=>?_⟩
   obtain⟨p27,c29,g30,k30,G30,o30,f30,m30⟩:=GO22.push ePtrF oh22.1 (m:=1) (ns:=ptI [l[j]]) e26 rfl (by omega) (by omega)
   obtain⟨b27,rfl,hb27⟩:=m30 (by omega)
   refine⟨_,_,c29,g30,k30,fun i31 e31=>?_⟩
   have e31:=i64w e31 (by omega) (by omega)
   have ap' : ∀a,p7=some a→apart p4 a.block:=fun a ha=>by
    cases p4 with
    | none=>exact trivial
    | some x=>have:=ap x rfl; rw[ha] at this; exact fun e=>this e.symm
   refine⟨_,by omega,j+1,by rw[e31]; rfl,by omega,rfl,⟨Nat.le_trans oh22.1 o30.1,fun b hb=>by rw[o30.2 b hb,oh22.2 b hb]⟩,by omega,by omega,?_,?_,fun a ha=>?_⟩
   ·rw[tk,show oldD st (l.take j ++ [l[j]])=oldD st (l.take j) ++ [l[j]] by unfold oldD; rw[List.filter_append]; simp[hs],ptI_app]
    exact G30
   ·rw[tk,show yngD st (l.take j ++ [l[j]])=yngD st (l.take j) by unfold yngD; rw[List.filter_append]; simp[hs]]
    refine⟨GY22.1,?_⟩
    rcases GY22.2 with q | ⟨b,q1,q2,q3,q4,q5⟩
    ·exact .inl q
    ·exact .inr ⟨b,q1,q2,Nat.lt_of_lt_of_le q3 o30.1,by rw[f30 b q3 (ap' _ q1)]; exact q4,q5⟩
   ·cases ha
    cases p7 with
    | none=>exact trivial
    | some x=>have:=(GY22.block rfl).2; show x.block≠b27; omega
 ·obtain rfl:j=n:=by omega
  rw[List.take_of_length_le (by omega)] at GO GY
  exact⟨⟨_,_,_,_,_,_,rfl,GO,GY⟩,o2⟩
def AddQ (lim:Nat) (l:List PtI) (q:PtI) (v:Value) (g:AH):Prop:=(∃d p n c,addD l q=some d∧v=.tuple #[.slice p n c,.int .i64 0]∧DL g p n d∧CutP Try.prog g 56 p n c∧∀a,p=some a→lim≤a.block∧a.block < g.next)∨(addD l q=none∧v=.tuple #[.slice none 0 0,.int .i64 131])
theorem insD_wf {l:List PtI} {q:PtI} (hw:∀x∈l,PtrWfI x) (hq:PtrWfI q):∀x∈insD q l,PtrWfI x:=fun x hx=>(insD_mem.1 hx).elim (fun e=>e▸hq) (hw x)
theorem lits_q (a b:PtI):litsEq [.int .i64 a.1,.int .u64 a.2.1,.int .u32 a.2.2] [.int .i64 b.1,.int .u64 b.2.1,.int .u32 b.2.2]=decide (a=b):=by
 rw[lits3]
 obtain⟨a1,a2,a3⟩:=a
 obtain⟨b1,b2,b3⟩:=b
 simp only[Prod.mk.injEq]
end
end Go.Am
/-
 LISTS OF POINTERS BY THEIR BIRTH:two made one; the document's answers.
-/
set_option linter.unusedVariables false
set_option linter.unusedSimpArgs false
set_option maxRecDepth 100000
namespace Go.Am
open Go.Proofs
structure KDead13 (K:Xs):Prop where
 r1:KRef K
def MergeQ (lim:Nat) (o:Option (List PtI)) (v:Value) (g:AH):Prop:=(∃d p n c,o=some d∧v=.tuple #[.slice p n c,.int .i64 0]∧DL g p n d∧CutP Try.prog g 56 p n c∧∀a,p=some a→lim≤a.block∧a.block < g.next)∨(o=none∧v=.tuple #[.slice none 0 0,.int .i64 131])
theorem aSlice_same {P:Program} {h h' : AH} {t:TypeId} {p:Option Addr} {n c:Nat} (hp:p=none∨∃b off,p=some ⟨b,off,none⟩) (k:∀a,p=some a→h'.get a.block=h.get a.block) (lo hi mx:Option Value):aSlice P h' t (.slice p n c) lo hi mx=aSlice P h t (.slice p n c) lo hi mx:=by
 rcases hp with rfl | ⟨b,off,rfl⟩
 ·unfold aSlice
  cases P.underlying t with
  | none=>rfl
  | some d=>cases d <;> rfl
 ·have hk:h'.get b=h.get b:=k _ rfl
  unfold aSlice
  cases P.underlying t with
  | none=>rfl
  | some d=>cases d <;> first | rfl | simp only[hk]
theorem DL.cons {g:AH} {p:Option Addr} {n:Nat} {l:List PtI} (d:DL g p n l) (hn:0 < n):∃x l' b off,l=x :: l'∧p=some ⟨b,off,none⟩∧ldN g b off 3=some (qC x)∧PtrWfI x:=by
 cases l with
 | nil=>have:=d.len; simp at this; omega
 | cons x l'=>
   obtain⟨b,off,hp,hl,hw⟩:=d.at (i:=0) (by simp)
   exact⟨x,l',b,off,rfl,hp,by simpa using hl,hw⟩
theorem DL.cutTail {g:AH} {p p' : Option Addr} {n:Nat} {x:PtI} {l:List PtI} (d:DL g p n (x :: l)) (hp:∀b off,p=some ⟨b,off,none⟩→∃off',p'= some ⟨b,off',none⟩∧(1 < n→off'= off+1 * 3)) (hf:p'= none∨∃b off,p'= some ⟨b,off,none⟩):DL g p' (n - 1) l:=by
 have hl:=d.len
 simp at hl
 have:=shows_cutD d.shows (lo:=1) (hi:=n) (by omega) (Nat.le_refl _) hp
 rw[List.drop_succ_cons,List.drop_zero,List.take_of_length_le (by omega)] at this
 exact⟨this,fun q hq=>d.wf q (List.mem_cons_of_mem _ hq),by omega,hf⟩
theorem condT {c:Bool} {A B:Prop} (h:c=true) (a:A):cond c A B:=by subst h; exact a
theorem condF {c:Bool} {A B:Prop} (h:c=false) (b:B):cond c A B:=by subst h; exact b
section
variable {K:Xs} {h:AH}
theorem mergeSpec (kk:KDead K) {p q:Option Addr} {n m c d:Nat} {xs ys:List PtI} (A:DL h p n xs) (CA:CutP Try.prog h 56 p n c) (ba:∀a,p=some a→a.block < h.next) (B:DL h q m ys) (CB:CutP Try.prog h 56 q m d) (bb:∀a,q=some a→a.block < h.next) (hn:n≤100000) (hm:m≤100000):
 Wf Try.prog K 65 [.slice p n c,.slice q m d] h fun v h'=>MergeQ h.next (mrg xs ys) v h'∧Old h h':=by
 have hnl:=A.len
 have hml:=B.len
 refine vc_dead_Merge kk.merge _ _ _ _ _ _ h _ fun i0 e0=>?_
 have e0:=i64w e0 (by omega) (by omega)
 have e0' : i0=((n+m:Nat):Int):=by omega
 subst e0'
 refine⟨⟨by omega,by omega,by omega,by omega⟩,fun g1 e1=>?_⟩
 rw[Int.toNat_natCast] at *
 have o1:=old_of_alloc e1
 have G1:GrowC h.next g1 56 3 h.next 0 (n+m) []:=GrowC.make e1 (by simp) (by simp only[openCap]; omega)
 have fin:∀{g:AH} {p6 p9:Option Addr} {n7 n10 n13 c8 c11:Nat} {done as' bs:List PtI},Old h g→GrowC h.next g 56 3 h.next n13 (n+m) (ptI done)→n13+n7+n10=n+m→DL g p6 n7 as'→(∀a,p6=some a→a.block < h.next)→DL g p9 n10 bs→(∀a,p9=some a→a.block < h.next)→(as'= []∨bs=[])→(∀x∈done,PtrWfI x)→mrg xs ys=(mrg as' bs).map (done ++ ·)→
  ∃(p65:Option Addr) (n66 c67:Nat) (h68:AH),aBuiltin Try.prog g .append #[57,57] [(.slice (some ⟨h.next,0,none⟩) n13 (n+m)),(.slice p6 n7 c8)]=some (.slice p65 n66 c67,h68)∧
  (∃(p69:Option Addr) (n70 c71:Nat) (h72:AH),aBuiltin Try.prog h68 .append #[57,57] [(.slice p65 n66 c67),(.slice p9 n10 c11)]=some (.slice p69 n70 c71,h72)∧
  (MergeQ h.next (mrg xs ys) (.tuple #[(.slice p69 n70 c71),(.int .i64 0)]) h72∧Old h h72)):=fun {g p6 p9 n7 n10 n13 c8 c11 done as' bs} o G hs DA b6 DB b9 he hw hr=>by
  obtain⟨g68,k68,G68,nr68⟩:=G.app ePtrF (x:=.slice p6 n7 c8) (m:=n7) rfl (DA.shows.firstC DA.form) DA.shows.1 (by omega)
  have o68:=o.near nr68 (Nat.le_refl _)
  have S9:Shows g68 p9 n10 3 (ptI bs):=DB.shows.kept (by rw[nr68.1]; exact Nat.le_refl _) fun a ha=>nr68.2 _ (by have:=b9 a ha; omega)
  obtain⟨g72,k72,G72,nr72⟩:=G68.app ePtrF (x:=.slice p9 n10 c11) (m:=n10) rfl (S9.firstC DB.form) S9.1 (by omega)
  have hmg:mrg as' bs=some (as' ++ bs):=by
   rcases he with rfl | rfl
   ·rw[mrg_nil]; rfl
   ·rw[mrg_nil',List.append_nil]
  have h1:=DA.len
  have h2:=DB.len
  have h3:=G.1
  rw[ptI_len] at h3
  refine⟨_,_,_,g68,k68,_,_,_,g72,k72,.inl ⟨done ++ (as' ++ bs),_,_,_,by rw[hr,hmg]; rfl,rfl,⟨?_,fun x hx=>?_,by simp; omega,.inr ⟨_,_,rfl⟩⟩,G72.cutP,fun a ha=>by cases ha; exact⟨Nat.le_refl _,G72.2.2.1⟩⟩,o68.near nr72 (Nat.le_refl _)⟩
  ·have:=G72.shows
   rw[ptI_app,ptI_app,←List.append_assoc]
   exact this
  ·rcases List.mem_append.1 hx with hx | hx
   ·exact hw x hx
   ·exact (List.mem_append.1 hx).elim (DA.wf x) (DB.wf x)
 refine⟨fun p6 n7 c8 p9 n10 c11 p12 n13 c14 k g=>∃done as' bs,Old h g∧n7+n10=k∧n13+n7+n10=n+m∧p12=some ⟨h.next,0,none⟩∧c14=n+m∧GrowC h.next g 56 3 h.next n13 (n+m) (ptI done)∧DL g p6 n7 as'∧CutP Try.prog g 56 p6 n7 c8∧(∀a,p6=some a→a.block < h.next)∧DL g p9 n10 bs∧CutP Try.prog g 56 p9 n10 c11∧(∀a,p9=some a→a.block < h.next)∧(∀x∈done,PtrWfI x)∧mrg xs ys=(mrg as' bs).map (done ++ ·),
  ⟨_,[],xs,ys,o1,rfl,by simp,rfl,rfl,G1,A.old o1,CA.old o1 ba,ba,B.old o1,CB.old o1 bb,bb,fun x hx=>(by cases hx),by simp⟩,?_⟩
 rintro k3 g4 p6 n7 c8 p9 n10 c11 p12 n13 c14 ⟨done,as',bs,o4,rfl,hs,rfl,rfl,G4,DA,C6,b6,DB,C9,b9,hw,hr⟩
 refine⟨fun z1=>⟨fun z2=>?_,fun z2=>?_⟩,fun z1=>?_⟩
 rotate_left
 ·have hb:bs=[]:=List.eq_nil_of_length_eq_zero (by have:=DB.len; omega)
  exact fin o4 G4 hs DA b6 DB b9 (.inr hb) hw hr
 ·have hb:as'= []:=List.eq_nil_of_length_eq_zero (by have:=DA.len; omega)
  exact fin o4 G4 hs DA b6 DB b9 (.inl hb) hw hr
 obtain⟨x,a',ax,ox,rfl,rfl,lx,wx⟩:=DA.cons (by omega)
 obtain⟨y,b',ay,oy,rfl,rfl,ly,wy⟩:=DB.cons (by omega)
 have fA:(some (⟨ax,ox,none⟩:Addr))=none∨∃b off,(some (⟨ax,ox,none⟩:Addr))=some ⟨b,off,none⟩:=.inr ⟨_,_,rfl⟩
 have fB:(some (⟨ay,oy,none⟩:Addr))=none∨∃b off,(some (⟨ay,oy,none⟩:Addr))=some ⟨b,off,none⟩:=.inr ⟨_,_,rfl⟩
 have lax:ax < h.next:=b6 _ rfl
 have lay:ay < h.next:=b9 _ rfl
 refine derefP_at ⟨by omega,by omega,_,_,_,lx,derefP_at ⟨by omega,by omega,_,_,_,ly,(lessSpec kk.less x y).mono ?_⟩⟩
 rintro _ g26 ⟨⟨rfl,k⟩ | ⟨rfl,k⟩,o26⟩
 ·have o26':=o4.trans o26
  have lx26:ldN g26 ax ox 3=some (qC x):=by rw[←lx]; unfold ldN; rw[o26.2 ax (by have:=o4.1; omega)]
  refine .inl ⟨rfl,derefP_at ⟨by omega,by omega,_,_,_,lx26,fun g32 e32=>?_⟩⟩
  obtain⟨g36,k36,G36,n36,f36⟩:=(G4.old o26).push ePtrF (m:=1) (ns:=qC x) e32 rfl (by decide) (by omega)
  have o36:Old h g36:=⟨by have:=o26'.1; omega,fun b hb=>by rw[f36 b (by have:=o26'.1; omega) (by omega),o26'.2 b hb]⟩
  have k32:∀b,b < h.next→g36.get b=g32.get b:=fun b hb=>by rw[f36 b (by have:=o26'.1; omega) (by omega),(old_of_alloc e32).2 b (by have:=o26'.1; omega)]
  have old436:∀b,b < h.next→g36.get b=g4.get b:=fun b hb=>by rw[o36.2 b hb,o4.2 b hb]
  obtain⟨p37,c39,k37,hp37, -,C37⟩:=cutP ePtrF (by simp) (C6.kept fun a ha=>old436 _ (b6 a ha)) (some 1) none (by simp[endN]; omega) (Nat.le_refl _)
  have hsame:aSlice Try.prog g36 57 (.slice (some ⟨ax,ox,none⟩) n7 c8) (some (.int .i64 1)) none none=aSlice Try.prog g32 57 (.slice (some ⟨ax,ox,none⟩) n7 c8) (some (.int .i64 1)) none none:=aSlice_same fA (fun a ha=>k32 _ (b6 a ha)) _ _ _
  obtain⟨off',rfl,ho⟩:=hp37 ax ox rfl
  have k37' : aSlice Try.prog g36 57 (.slice (some ⟨ax,ox,none⟩) n7 c8) (some (.int .i64 1)) none none=some (.slice (some ⟨ax,off',none⟩) (n7 - 1) c39):=by simpa[endN,endV] using k37
  have DA36:DL g36 (some ⟨ax,ox,none⟩) n7 (x :: a'):=⟨DA.shows.kept (by have:=o36.1; have:=o26.1; omega) fun a ha=>old436 _ (b6 a ha),DA.wf,DA.len,DA.form⟩
  have DB36:DL g36 (some ⟨ay,oy,none⟩) n10 (y :: b'):=⟨DB.shows.kept (by have:=o36.1; have:=o26.1; omega) fun a ha=>old436 _ (b9 a ha),DB.wf,DB.len,DB.form⟩
  refine⟨_,_,_,g36,k36,some ⟨ax,off',none⟩,n7 - 1,c39,k37',by rw[←hsame]; exact k37',k37',n7 - 1+n10,by omega,done ++ [x],a',y :: b',o36,rfl,by omega,rfl,rfl,by rw[ptI_app]; exact G36,DA36.cutTail (fun b off z=>by cases z; exact⟨off',rfl,fun q=>ho (by simp[endN]; omega)⟩) (.inr ⟨_,_,rfl⟩),by simpa[endN] using C37,fun a ha=>by cases ha; exact lax,DB36,C9.kept fun a ha=>old436 _ (b9 a ha),b9,fun z hz=>?_,?_⟩
  ·rcases List.mem_append.1 hz with hz | hz
   ·exact hw z hz
   ·rw[List.mem_singleton] at hz; rw[hz]; exact wx
  ·rw[hr,mrg_cons,if_pos k,Option.map_map]
   congr 1
   funext u
   simp
 ·refine .inr ⟨rfl,?_⟩
  have ly26:ldN g26 ay oy 3=some (qC y):=by rw[←ly]; unfold ldN; rw[o26.2 ay (by have:=o4.1; omega)]
  have lx26:ldN g26 ax ox 3=some (qC x):=by rw[←lx]; unfold ldN; rw[o26.2 ax (by have:=o4.1; omega)]
  refine derefP_at ⟨by omega,by omega,_,_,_,ly26,derefP_at ⟨by omega,by omega,_,_,_,lx26,(lessSpec kk.less y x).mono ?_⟩⟩
  rintro _ g51 ⟨⟨rfl,k2⟩ | ⟨rfl,k2⟩,o51⟩
  rotate_left
  ·refine .inr ⟨rfl,.inr ⟨?_,rfl⟩,(o4.trans o26).trans o51⟩
   rw[hr,mrg_cons,if_neg k,if_neg k2]
   rfl
  have o451:=o26.trans o51
  have o51':=o4.trans o451
  have ly51:ldN g51 ay oy 3=some (qC y):=by rw[←ly]; unfold ldN; rw[o451.2 ay (by have:=o4.1; omega)]
  refine .inl ⟨rfl,derefP_at ⟨by omega,by omega,_,_,_,ly51,fun g57 e57=>?_⟩⟩
  obtain⟨g36,k36,G36,n36,f36⟩:=(G4.old o451).push ePtrF (m:=1) (ns:=qC y) e57 rfl (by decide) (by omega)
  have o36:Old h g36:=⟨by have:=o51'.1; omega,fun b hb=>by rw[f36 b (by have:=o51'.1; omega) (by omega),o51'.2 b hb]⟩
  have k32:∀b,b < h.next→g36.get b=g57.get b:=fun b hb=>by rw[f36 b (by have:=o51'.1; omega) (by omega),(old_of_alloc e57).2 b (by have:=o51'.1; omega)]
  have old436:∀b,b < h.next→g36.get b=g4.get b:=fun b hb=>by rw[o36.2 b hb,o4.2 b hb]
  obtain⟨p37,c39,k37,hp37, -,C37⟩:=cutP ePtrF (by simp) (C9.kept fun a ha=>old436 _ (b9 a ha)) (some 1) none (by simp[endN]; omega) (Nat.le_refl _)
  have hsame:aSlice Try.prog g36 57 (.slice (some ⟨ay,oy,none⟩) n10 c11) (some (.int .i64 1)) none none=aSlice Try.prog g57 57 (.slice (some ⟨ay,oy,none⟩) n10 c11) (some (.int .i64 1)) none none:=aSlice_same fB (fun a ha=>k32 _ (b9 a ha)) _ _ _
  obtain⟨off',rfl,ho⟩:=hp37 ay oy rfl
  have k37' : aSlice Try.prog g36 57 (.slice (some ⟨ay,oy,none⟩) n10 c11) (some (.int .i64 1)) none none=some (.slice (some ⟨ay,off',none⟩) (n10 - 1) c39):=by simpa[endN,endV] using k37
  have DA36:DL g36 (some ⟨ax,ox,none⟩) n7 (x :: a'):=⟨DA.shows.kept (by have:=o36.1; have:=o451.1; omega) fun a ha=>old436 _ (b6 a ha),DA.wf,DA.len,DA.form⟩
  have DB36:DL g36 (some ⟨ay,oy,none⟩) n10 (y :: b'):=⟨DB.shows.kept (by have:=o36.1; have:=o451.1; omega) fun a ha=>old436 _ (b9 a ha),DB.wf,DB.len,DB.form⟩
  refine⟨_,_,_,g36,k36,some ⟨ay,off',none⟩,n10 - 1,c39,k37',by rw[←hsame]; exact k37',k37',n7+(n10 - 1),by omega,done ++ [y],x :: a',b',o36,rfl,by omega,rfl,rfl,by rw[ptI_app]; exact G36,DA36,C6.kept fun a ha=>old436 _ (b6 a ha),b6,DB36.cutTail (fun b off z=>by cases z; exact⟨off',rfl,fun q=>ho (by simp[endN]; omega)⟩) (.inr ⟨_,_,rfl⟩),by simpa[endN] using C37,fun a ha=>by cases ha; exact lay,fun z hz=>?_,?_⟩
  ·rcases List.mem_append.1 hz with hz | hz
   ·exact hw z hz
   ·rw[List.mem_singleton] at hz; rw[hz]; exact wy
  ·rw[hr,mrg_cons,if_neg k,if_pos k2,Option.map_map]
   congr 1
   funext u
   simp
/-! ## The document -/
def outD (q:PtI) (done:Bool) (a:List PtI):List PtI:=if done=true then insD q a else a
end
end Go.Am
/-
 BOOKS:copies,places,names; one record more.
-/
set_option linter.unusedVariables false
set_option linter.unusedSimpArgs false
set_option maxRecDepth 100000
namespace Go.Am
open Go.Proofs
def RecOk (g:AH) (r:SetR):Prop:=SetOk g r∧CutP Try.prog g 56 r.dp r.dn r.dc∧∀a,r.dp=some a→a.block < g.next
theorem RecOk.old {g g' : AH} {r:SetR} (k:RecOk g r) (o:Old g g'):RecOk g' r:=⟨k.1.old o,k.2.1.old o k.2.2,fun a ha=>Nat.lt_of_lt_of_le (k.2.2 a ha) o.1⟩
theorem RecOk.kept {g g' : AH} {r:SetR} (k:RecOk g r) (hn:g.next≤g'.next) (q:∀a,r.dp=some a→g'.get a.block=g.get a.block):RecOk g' r:=⟨k.1.keep hn q,k.2.1.kept q,fun a ha=>Nat.lt_of_lt_of_le (k.2.2 a ha) hn⟩
structure BookOk (h:AH) (p:Option Addr) (n:Nat) (rs:List SetR):Prop where
 sets:Sets h p n rs
 recs:∀r∈rs,RecOk h r
 form:p=none∨∃b off,p=some ⟨b,off,none⟩
theorem BookOk.old {h h' : AH} {p:Option Addr} {n:Nat} {rs:List SetR} (t:BookOk h p n rs) (o:Old h h'):BookOk h' p n rs:=⟨t.1.old o,fun r hr=>(t.2 r hr).old o,t.3⟩
structure OwnB (lim:Nat) (g:AH) (b:Nat) (xs:List SetR):Prop where
 lo:lim≤b
 hi:b < g.next
 get:g.get b=some (.cells (setsC xs) 59 false)
 recs:∀r∈xs,RecOk g r∧∀a,r.dp=some a→a.block≠b
theorem OwnB.old {lim:Nat} {g g' : AH} {b:Nat} {xs:List SetR} (w:OwnB lim g b xs) (o:Old g g'):OwnB lim g' b xs:=⟨w.lo,Nat.lt_of_lt_of_le w.hi o.1,(o.2 _ w.hi).trans w.get,fun r hr=>⟨(w.recs r hr).1.old o,(w.recs r hr).2⟩⟩
theorem OwnB.weak {lim lim' : Nat} {g:AH} {b:Nat} {xs:List SetR} (w:OwnB lim g b xs) (h:lim'≤lim):OwnB lim' g b xs:=⟨Nat.le_trans h w.lo,w.hi,w.get,w.recs⟩
theorem OwnB.shows {lim:Nat} {g:AH} {b:Nat} {xs:List SetR} (w:OwnB lim g b xs):Shows g (some ⟨b,0,none⟩) xs.length 11 (setsC xs):=by
 refine⟨setsC_len xs,.inr ⟨b,0,_,_,_,rfl,w.hi,w.get,by rw[setsC_len]; omega,?_⟩⟩
 rw[List.drop_zero,←setsC_len,List.take_length]
theorem OwnB.book {lim:Nat} {g:AH} {b:Nat} {xs:List SetR} (w:OwnB lim g b xs) (hl:xs.length≤100000):BookOk g (some ⟨b,0,none⟩) xs.length xs:=by
 have hre:reachBytes=140737488351232:=rfl
 exact⟨sets_of w.shows (by omega) fun r hr=>(w.recs r hr).1.1,fun r hr=>(w.recs r hr).1,.inr ⟨_,_,rfl⟩⟩
theorem setsC_at {xs:List SetR} {i:Nat} (hi:i < xs.length):setsC xs=setsC (xs.take i) ++ setC xs[i] ++ setsC (xs.drop (i+1)):=by
 rw[←setsC_one,←setsC_app,←setsC_app,List.append_assoc,List.singleton_append,←List.drop_eq_getElem_cons hi,List.take_append_drop]
theorem setsC_splice {xs:List SetR} {i k:Nat} {vs:List Value} {r' : SetR} (hi:i < xs.length) (hk:k+vs.length≤11) (he:(setC xs[i]).take k ++ vs ++ (setC xs[i]).drop (k+vs.length)=setC r'):
 (setsC xs).take (i * 11+k) ++ vs ++ (setsC xs).drop (i * 11+k+vs.length)=setsC (xs.set i r'):=by
 have l1:(setsC (xs.take i)).length=i * 11:=by rw[setsC_len,List.length_take]; omega
 have l2:=setC_len xs[i]
 have e2:setsC (xs.set i r')=setsC (xs.take i) ++ setC r' ++ setsC (xs.drop (i+1)):=by
  rw[setsC_at (xs:=xs.set i r') (by rw[List.length_set]; exact hi),List.getElem_set_self,List.take_set_of_le (Nat.le_refl _),List.drop_set,if_pos (by omega)]
 rw[e2,←he,setsC_at hi]
 generalize setsC (xs.take i)=A at *
 generalize setsC (xs.drop (i+1))=C
 generalize setC xs[i]=B at *
 have t1:(A ++ B ++ C).take (i * 11+k)=A ++ B.take k:=by
  rw[List.append_assoc,List.take_append,List.take_of_length_le (by omega),show i * 11+k - A.length=k by omega,List.take_append_of_le_length (by omega)]
 have t2:(A ++ B ++ C).drop (i * 11+k+vs.length)=B.drop (k+vs.length) ++ C:=by
  rw[List.append_assoc,List.drop_append,List.drop_eq_nil_of_le (by omega),List.nil_append,show i * 11+k+vs.length - A.length=k+vs.length by omega,List.drop_append_of_le_length (by omega)]
 rw[t1,t2]
 simp only[List.append_assoc]
theorem set_splice {α:Type} (l:List α) (j:Nat) (v:α) (hj:j < l.length):l.set j v=l.take j ++ [v] ++ l.drop (j+1):=by
 rw[List.append_assoc,List.singleton_append]
 exact List.set_eq_take_append_cons_drop .. |>.trans (if_pos hj)
theorem OwnB.stN {lim:Nat} {g:AH} {b i k:Nat} {xs:List SetR} {vs:List Value} {r' : SetR} (w:OwnB lim g b xs) (hi:i < xs.length) (hk:k+vs.length≤11) (he:(setC xs[i]).take k ++ vs ++ (setC xs[i]).drop (k+vs.length)=setC r') (ok:RecOk g r') (ha:∀a,r'.dp=some a→a.block≠b):
 ∃g',Am.stN g b (i * 11+k) vs=some g'∧Near b g g'∧OwnB lim g' b (xs.set i r'):=by
 have hl:=setsC_len xs
 have hle:i * 11+k+vs.length≤(setsC xs).length:=by omega
 refine⟨_,stN_of w.get hle,near_set _ _ _,w.lo,w.hi,by rw[get_set_self,setsC_splice hi hk he],fun r hr=>?_⟩
 rcases List.mem_or_eq_of_mem_set hr with h | rfl
 ·obtain⟨h1,h2⟩:=w.recs r h
  exact⟨h1.kept (Nat.le_refl _) fun a ha=>get_set_ne (h2 a ha),h2⟩
 ·exact⟨ok.kept (Nat.le_refl _) fun a h=>get_set_ne (ha a h),ha⟩
theorem OwnB.st1 {lim:Nat} {g:AH} {b i k:Nat} {xs:List SetR} {v:Value} {r' : SetR} (w:OwnB lim g b xs) (hi:i < xs.length) (hk:k < 11) (he:(setC xs[i]).set k v=setC r') (ok:RecOk g r') (ha:∀a,r'.dp=some a→a.block≠b):
 ∃g',Am.st1 g b (i * 11+k) v=some g'∧Near b g g'∧OwnB lim g' b (xs.set i r'):=by
 have hl:=setsC_len xs
 have l2:=setC_len xs[i]
 have he' : (setC xs[i]).take k ++ [v] ++ (setC xs[i]).drop (k+1)=setC r':=by rw[←he,set_splice _ _ _ (by omega)]
 have hcell:(setsC xs).set (i * 11+k) v=setsC (xs.set i r'):=by rw[set_splice _ _ _ (by omega)]; exact setsC_splice (vs:=[v]) hi hk he'
 refine⟨_,st1_of w.get (by omega),near_set _ _ _,w.lo,w.hi,by rw[get_set_self,hcell],fun r hr=>?_⟩
 rcases List.mem_or_eq_of_mem_set hr with h | rfl
 ·obtain⟨h1,h2⟩:=w.recs r h
  exact⟨h1.kept (Nat.le_refl _) fun a ha=>get_set_ne (h2 a ha),h2⟩
 ·exact⟨ok.kept (Nat.le_refl _) fun a h=>get_set_ne (ha a h),ha⟩
def BookQ (lim:Nat) (nx:Int) (pl:List SetR) (v:Value) (g:AH):Prop:=∃b c rs',v=.agg #[.int .u64 nx,.slice (some ⟨b,0,none⟩) rs'.length c]∧OwnB lim g b rs'∧rs'.map cor=pl.map cor
structure KRule (K:Xs):Prop where
 dead:KDead K
 named0:KNamed K
 copied:K 35=none
 place:K 48=none
 place1:K 59=none
 index:K 58=none
 added:K 37=none
 volName:K 34=none
 snapName:K 42=none
 named:K 36=none
 volAt:K 45=none
theorem map_cor_take {xs rs:List SetR} {j:Nat} {x:SetR} (h:xs.map cor=(rs.take j).map cor) (hj:j < rs.length) (hx:cor x=cor rs[j]):(xs ++ [x]).map cor=(rs.take (j+1)).map cor:=by
 rw[List.take_succ_eq_append_getElem hj,List.map_append,List.map_append,h]
 simp[hx]
section
variable {K:Xs} {h:AH} {p:Option Addr} {n c:Nat} {rs:List SetR}
theorem copiedSpec (kk:KRule K) (T:BookOk h p n rs) (hn40:n≤1000) (nx:Int):
 Wf Try.prog K 35 [.agg #[.int .u64 nx,.slice p n c]] h fun v h'=>(∃b rs',v=.agg #[.int .u64 nx,.slice (some ⟨b,0,none⟩) n n]∧OwnB h.next h' b rs'∧rs'.map cor=rs.map cor∧∀r∈rs',∀a,r.dp=some a→h.next≤a.block)∧Old h h':=by
 have hn:=T.1.1
 refine vc_rule_copied kk.copied _ _ _ _ h _ fun g0 e0 g1 e1=>?_
 have o0:=old_of_alloc e0
 have o1:=old_of_alloc e1
 have n0:=next_of_alloc e0
 have n1:=next_of_alloc e1
 have oh1:=o0.trans o1
 have c0:∀{g:AH},Old g1 g→g.get h.next=some (.cells [.int .u64 nx,.slice p n c] 49 false):=fun o=>(o.2 _ (by omega)).trans ((o1.2 _ (by omega)).trans (get_of_alloc e0))
 have c1:∀{g:AH},Old g1 g→g.get g0.next=some (.cells [.int .u64 0,.slice none 0 0] 49 false):=fun o=>(o.2 _ (by omega)).trans (get_of_alloc e1)
 refine⟨_,_,_,ld1_at (c0 (Old.refl _)) rfl,⟨by omega,by omega,by omega,by omega⟩,fun g5 e5=>?_⟩
 rw[Int.toNat_natCast] at *
 have o5:=old_of_alloc e5
 have n5:=next_of_alloc e5
 have hz:(List.replicate n (setC zeroR)).flatten=setsC (List.replicate n zeroR):=by simp[setsC]
 have e5' : g5=g1.alloc (.cells (setsC (List.replicate n zeroR)) 59 false):=by rw[←hz]; exact e5
 have w5:=get_of_alloc e5'
 refine⟨_,_,_,ld1_at (c0 o5) rfl,fun i13 k g=>∃(j:Nat) (xs:List SetR),i13=j∧j≤n∧n - j=k∧Old g1 g∧g1.next < g.next∧xs.length=j∧g.get g1.next=some (.cells (setsC (xs ++ List.replicate (n - j) zeroR)) 59 false)∧(∀r∈xs,RecOk g r∧∀a,r.dp=some a→g1.next < a.block)∧xs.map cor=(rs.take j).map cor,
  ⟨_,0,[],rfl,Nat.zero_le _,rfl,o5,by omega,rfl,by simpa using w5,fun r hr=>(by cases hr),by simp⟩,?_⟩
 rintro k10 g11 i13 ⟨j,xs,rfl,hj,rfl,o11,l11,hxl,w11,hxs,hcor⟩
 have oh11:=oh1.trans o11
 refine⟨fun z=>?_,fun z=>?_⟩
 ·have hjn:j < n:=by omega
  obtain⟨b,off,rfl,hj',hld, -,hok⟩:=(T.1.old oh11).at hjn
  refine⟨_,_,_,ld1_at (c0 o11) rfl,derefP_at ⟨by omega,z,_,_,_,_,_,_,_,_,_,_,_,_,_,by rw[Int.toNat_natCast]; exact hld,(copySpec kk.named0.copy hok).mono ?_⟩⟩
  rintro _ g33 ⟨p',c',rfl,hok',G',o33⟩
  have w33:=(o33.2 _ l11).trans w11
  have hlen:(setsC (xs ++ List.replicate (n - j) zeroR)).length=n * 11:=by rw[setsC_len]; simp; omega
  have hge:(xs ++ List.replicate (n - j) zeroR)[j]'(by simp; omega)=zeroR:=by rw[List.getElem_append_right (by omega)]; simp
  have hsp:=setsC_splice (xs:=xs ++ List.replicate (n - j) zeroR) (i:=j) (k:=0) (vs:=setC { rs[j] with dp:=p',dc:=c' }) (r':={ rs[j] with dp:=p',dc:=c' }) (by simp; omega) (by rw[setC_len]; omega) (by rw[hge]; rfl)
  have hset:(xs ++ List.replicate (n - j) zeroR).set j { rs[j] with dp:=p',dc:=c' }= (xs ++ [{ rs[j] with dp:=p',dc:=c' }]) ++ List.replicate (n - (j+1)) zeroR:=by
   rw[List.set_append_right _ _ (by omega),hxl,Nat.sub_self,show n - j=(n - (j+1))+1 by omega,List.replicate_succ,List.set_cons_zero]
   simp
  refine⟨_,_,_,_,_,_,_,_,_,_,_,_,_,rfl,by omega,by omega,rfl,_,stN_of w33 (by rw[hlen,Int.toNat_natCast]; show 0+j * 11+11≤n * 11; omega),fun i48 e48=>?_⟩
  have e48:=i64w e48 (by omega) (by omega)
  have nx:∀o:AObj,(g33.set g1.next o).next=g33.next:=fun o=>rfl
  refine⟨_,by omega,j+1,xs ++ [{ rs[j] with dp:=p',dc:=c' }],by rw[e48]; rfl,by omega,rfl,⟨by have:=o11.1; have:=o33.1; rw[nx]; omega,fun b hb=>by rw[get_set_ne (by omega),o33.2 b (by have:=o11.1; omega),o11.2 b hb]⟩,by have:=o33.1; rw[nx]; omega,by simp[hxl],?_,fun r hr=>?_,map_cor_take hcor hj' rfl⟩
  ·rw[get_set_self,Int.toNat_natCast,←hset,←hsp]
   simp only[Nat.zero_add,Nat.add_zero]
   rfl
  ·rcases mem_snoc.1 hr with hr | rfl
   ·obtain⟨h1,h2⟩:=hxs r hr
    exact⟨(h1.old o33).kept (Nat.le_refl _) fun a ha=>get_set_ne (by have:=h2 a ha; omega),h2⟩
   ·have hb:∀a,p'= some a→g11.next≤a.block∧a.block < g33.next:=fun a ha=>G'.block ha
    have hne:∀a,p'= some a→g1.next < a.block:=fun a ha=>by have:=(hb a ha).1; omega
    exact⟨RecOk.kept (g:=g33) ⟨hok',G'.cutQ (by have:=hok.room; have:reachBytes=140737488351232:=rfl; simp only[openCap]; omega),fun a ha=>(hb a ha).2⟩ (Nat.le_refl _) fun a ha=>get_set_ne (by have:=hne a ha; omega),hne⟩
 ·obtain rfl:j=n:=by omega
  rw[List.take_of_length_le (by omega)] at hcor
  rw[Nat.sub_self,List.replicate_zero,List.append_nil] at w11
  have nx' : ∀o:AObj,(g11.set g0.next o).next=g11.next:=fun o=>rfl
  refine⟨_,ld1_at (c0 o11) rfl,rfl,_,stN_all (c1 o11) rfl,_,_,_,_,ldN_all (get_set_self _ _ _) rfl,⟨g1.next,xs,rfl,⟨by omega,by rw[nx']; exact l11,by rw[get_set_ne (by omega)]; exact w11,fun r hr=>?_⟩,hcor,fun r hr a ha=>by have:=(hxs r hr).2 a ha; omega⟩,⟨by rw[nx']; exact oh11.1,fun b hb=>by rw[get_set_ne (by omega)]; exact oh11.2 b hb⟩⟩
  obtain⟨h1,h2⟩:=hxs r hr
  exact⟨h1.kept (Nat.le_refl _) fun a ha=>get_set_ne (by have:=h2 a ha; omega),fun a ha=>by have:=h2 a ha; omega⟩
end
end Go.Am
/-
 BOOKS:places,names; one record more.
-/
set_option linter.unusedVariables false
set_option linter.unusedSimpArgs false
set_option maxRecDepth 100000
namespace Go.Am
open Go.Proofs
open Classical in
noncomputable def spl (f:ByteArray):Option (ByteArray×ByteArray):=if h:∃p:ByteArray×ByteArray,SplitOk f p.1 p.2 then some (Classical.choose h) else none
theorem spl_some {f a b:ByteArray} (h:SplitOk f a b):spl f=some (a,b):=by
 unfold spl
 have hex:∃p:ByteArray×ByteArray,SplitOk f p.1 p.2:=⟨(a,b),h⟩
 rw[dif_pos hex]
 have:=(Classical.choose_spec hex).uniq h
 congr 1
 exact Prod.ext this.1 this.2
theorem spl_none {f:ByteArray} (h:∀a b,¬SplitOk f a b):spl f=none:=by
 unfold spl
 rw[dif_neg fun ⟨p,hp⟩=>h p.1 p.2 hp]
theorem spl_ok {f a b:ByteArray} (h:spl f=some (a,b)):SplitOk f a b:=by
 unfold spl at h
 split at h
 ·rename_i hex
  have hs:=Classical.choose_spec hex
  have e:=Option.some.inj h
  rw[e] at hs
  exact hs
 ·cases h
def volOf (o:Option (ByteArray×ByteArray)):Option ByteArray:=match o with | some (a,b)=>if b=noB then some a else none | none=>none
def snapOf (o:Option (ByteArray×ByteArray)):Option (ByteArray×ByteArray):=match o with | some (a,b)=>if b=noB then none else some (a,b) | none=>none
def lookOf (rs:List SetR) (o:Option (ByteArray×ByteArray)):Option Nat:=match o with | some (a,b)=>lookN rs a b | none=>none
def placeI (o:Option Nat):Int:=match o with | some i=>(i:Int) | none=>-1
section
variable {K:Xs} {h:AH} {p:Option Addr} {n c:Nat} {rs:List SetR} {nx:Int}
theorem place1Spec (kk:KRule K) {r:SetR} {id:Int} {pb:Nat} (wi:∃t ro,h.get pb=some (.cells [.int .u64 id] t ro)) (hpb:pb < h.next):
 Wf Try.prog K 59 [.agg (setC r).toArray,.pointer (some ⟨pb,0,none⟩)] h fun v h'=>BoolIs v (r.id=id)∧Old h h':=by
 obtain⟨t,ro,wi⟩:=wi
 refine vc_rule_place_1 kk.place1 _ _ _ _ _ _ _ _ _ _ _ _ _ _ h _ fun g0 e0=>?_
 have o0:=old_of_alloc e0
 exact⟨_,ld1_at (get_of_alloc e0) rfl,derefP_at ⟨_,ld1_at ((o0.2 _ hpb).trans wi) rfl,fun z=>⟨.inl ⟨rfl,z⟩,o0⟩,fun z=>⟨.inr ⟨rfl,z⟩,o0⟩⟩⟩
theorem placeRSpec (kk:KRule K) (T:Sets h p n rs) (id:Int):Wf Try.prog K 48 [.slice p n c,.int .u64 id] h fun v h'=>v=.int .i64 (plc rs id)∧Old h h':=by
 have hn:=T.1
 have hn2:=T.2.1
 have hre:reachBytes=140737488351232:=rfl
 refine vc_rule_place kk.place _ _ _ _ h _ fun g0 e0=>vc_slices_IndexFunc_rule_place_1 kk.index _ _ _ _ g0 _ ?_
 have o0:=old_of_alloc e0
 have n0:=next_of_alloc e0
 refine⟨fun i k g=>∃u:Nat,i=u∧u≤n∧n - u=k∧Old g0 g∧∀(j:Nat) x,j < u→rs[j]?= some x→x.id≠id,⟨_,0,rfl,Nat.zero_le _,rfl,Old.refl _,fun j x hj=>absurd hj (Nat.not_lt_zero _)⟩,?_⟩
 rintro k1 g2 i4 ⟨u,rfl,hu,rfl,o2,hb⟩
 have oh2:=o0.trans o2
 refine⟨fun z=>?_,fun z=>?_⟩
 ·obtain⟨b,off,rfl,hu',hld, -⟩:=(T.old oh2).at (i:=u) (by omega)
  refine derefP_at ⟨by omega,z,_,_,_,_,_,_,_,_,_,_,_,_,_,by rw[Int.toNat_natCast]; exact hld,(place1Spec kk (r:=rs[u]) (id:=id) ⟨_,_,(o2.2 _ (by omega)).trans (get_of_alloc e0)⟩ (by have:=o2.1; omega)).mono ?_⟩
  rintro _ g21 ⟨⟨rfl,k⟩ | ⟨rfl,k⟩,o21⟩
  ·exact .inl ⟨rfl,_,rfl,by rw[plc_some (plcN_some (List.getElem?_eq_getElem hu') k hb)],oh2.trans o21⟩
  ·refine .inr ⟨rfl,fun i22 e22=>?_⟩
   have e22:=i64w e22 (by omega) (by omega)
   refine⟨_,by omega,u+1,by rw[e22]; rfl,by omega,rfl,o2.trans o21,fun j x hj hx=>?_⟩
   by_cases hju:j=u
   ·subst hju
    rw[List.getElem?_eq_getElem hu'] at hx
    cases hx
    exact k
   ·exact hb j x (by omega) hx
 ·refine⟨_,rfl,?_,oh2⟩
  rw[plc_none (plcN_none fun r hr e=>?_)]
  obtain⟨j,hj,rfl⟩:=List.mem_iff_getElem.1 hr
  exact hb j _ (by omega) (List.getElem?_eq_getElem hj) e
theorem volNameSpec (kk:KRule K) (f:ByteArray) (hf:f.size≤9223372036854775806):Wf Try.prog K 34 [.string f] h fun v h'=>((∃a,volOf (spl f)=some a∧SplitOk f a noB∧v=.tuple #[.string a,.int .i64 0])∨(volOf (spl f)=none∧v=.tuple #[.string noB,.int .i64 141]))∧Old h h':=by
 refine vc_rule_volName kk.volName _ h _ ((splitSpec kk.named0.name f hf).mono ?_)
 rintro _ g ⟨⟨a,b,hs,rfl⟩ | ⟨hs,rfl⟩,o⟩
 ·refine⟨_,_,_,rfl,fun _=>⟨fun e=>⟨.inl ⟨a,by rw[spl_some hs]; exact if_pos e,by rw[←(show b=noB from e)]; exact hs,rfl⟩,o⟩,fun e=>⟨.inr ⟨by rw[spl_some hs]; exact if_neg e,rfl⟩,o⟩⟩,fun z=>absurd rfl z⟩
 ·exact⟨_,_,_,rfl,fun z=>absurd z (by decide),fun _=>⟨.inr ⟨by rw[spl_none hs]; rfl,rfl⟩,o⟩⟩
theorem snapNameSpec (kk:KRule K) (f:ByteArray) (hf:f.size≤9223372036854775806):Wf Try.prog K 42 [.string f] h fun v h'=>((∃a b,snapOf (spl f)=some (a,b)∧SplitOk f a b∧b≠noB∧v=.tuple #[.string a,.string b,.int .i64 0])∨(snapOf (spl f)=none∧v=.tuple #[.string noB,.string noB,.int .i64 141]))∧Old h h':=by
 refine vc_rule_snapName kk.snapName _ h _ ((splitSpec kk.named0.name f hf).mono ?_)
 rintro _ g ⟨⟨a,b,hs,rfl⟩ | ⟨hs,rfl⟩,o⟩
 ·refine⟨_,_,_,rfl,fun _=>⟨fun e=>⟨.inr ⟨by rw[spl_some hs]; exact if_pos e,rfl⟩,o⟩,fun e=>⟨.inl ⟨a,b,by rw[spl_some hs]; exact if_neg e,hs,e,rfl⟩,o⟩⟩,fun z=>absurd rfl z⟩
 ·exact⟨_,_,_,rfl,fun z=>absurd z (by decide),fun _=>⟨.inr ⟨by rw[spl_none hs]; rfl,rfl⟩,o⟩⟩
theorem namedRSpec (kk:KRule K) (T:Sets h p n rs) (R:RightP nx rs) (f:ByteArray) (hf:f.size≤9223372036854775806) (bn:Int):
 Wf Try.prog K 36 [.agg #[.int .u64 bn,.slice p n c],.string f] h fun v h'=>v=.int .i64 (placeI (lookOf rs (spl f)))∧Old h h':=by
 refine vc_rule_named kk.named _ _ _ _ _ h _ fun g0 e0=>?_
 have o0:=old_of_alloc e0
 have n0:=next_of_alloc e0
 have c0:∀{g:AH},Old g0 g→ld1 g h.next 1=some (.slice p n c):=fun o=>ld1_at ((o.2 _ (by omega)).trans (get_of_alloc e0)) rfl
 refine⟨_,_,_,c0 (Old.refl _),(namedSpec kk.named0 (T.old o0) R.calOk (fun r hr=>by
  have e:=(R.ent hr).1
  simp[Lit.wf,IntKind.min,IntKind.max,IntKind.signed,IntKind.bits]
  omega) f hf).mono ?_⟩
 rintro _ g5 ⟨q,o5⟩
 have none' : lookOf rs (spl f)=none→∀{g21:AH},Old g5 g21→(Value.int .i64 (-1)=.int .i64 (placeI (lookOf rs (spl f)))∧Old h g21):=fun e {g21} o=>⟨by rw[e]; rfl,(o0.trans o5).trans o⟩
 rcases q with ⟨a,b,hs,⟨i,r,p',c',hl,hr,rfl,ok⟩ | ⟨hl,rfl⟩⟩ | ⟨hs,rfl⟩
 ·refine⟨_,_,_,_,_,_,_,_,_,_,_,_,_,_,rfl,fun g20 e20=>?_⟩
  obtain⟨g21,k21,n21,o21,v21⟩:=put_new e20 (vs:=setC { r with dp:=p',dc:=c' }) rfl
  have w21:=v21 [] (fun c hc=>by cases hc)
  refine⟨rfl,g21,k21,fun _=>⟨_,_,_,c0 (o5.trans o21),_,ld1_at w21.1 rfl,(placeRSpec kk (T.old ((o0.trans o5).trans o21)) r.id).mono ?_⟩,fun z=>absurd rfl z⟩
  rintro _ g27 ⟨rfl,o27⟩
  refine⟨_,rfl,?_,((o0.trans o5).trans o21).trans o27⟩
  rw[plc_some (R.uniq hr),spl_some hs]
  show _=Value.int .i64 (placeI (lookN rs a b))
  rw[hl]
  rfl
 ·refine⟨_,_,_,_,_,_,_,_,_,_,_,_,_,_,rfl,fun g20 e20=>?_⟩
  obtain⟨g21,k21,n21,o21,v21⟩:=put_new e20 (vs:=setC zeroR) rfl
  exact⟨rfl,g21,k21,fun z=>absurd z (by decide),fun _=>none' (by rw[spl_some hs]; exact hl) o21⟩
 ·refine⟨_,_,_,_,_,_,_,_,_,_,_,_,_,_,rfl,fun g20 e20=>?_⟩
  obtain⟨g21,k21,n21,o21,v21⟩:=put_new e20 (vs:=setC zeroR) rfl
  exact⟨rfl,g21,k21,fun z=>absurd z (by decide),fun _=>none' (by rw[spl_none hs]; rfl) o21⟩
def volAtOf (rs:List SetR) (o:Option (ByteArray×ByteArray)):Int×Int:=match volOf o with
 | none=>(-1,141)
 | some _=>match lookOf rs o with
   | none=>(-1,172)
   | some i=>((i:Int),0)
theorem volAtSpec (kk:KRule K) (T:Sets h p n rs) (R:RightP nx rs) (f:ByteArray) (hf:f.size≤9223372036854775806) (bn:Int):
 Wf Try.prog K 45 [.agg #[.int .u64 bn,.slice p n c],.string f] h fun v h'=>v=.tuple #[.int .i64 (volAtOf rs (spl f)).1,.int .i64 (volAtOf rs (spl f)).2]∧Old h h':=by
 refine vc_rule_volAt kk.volAt _ _ _ _ _ h _ fun g0 e0=>?_
 have o0:=old_of_alloc e0
 have n0:=next_of_alloc e0
 have c0:∀{g:AH},Old g0 g→ldN g h.next 0 2=some [.int .u64 bn,.slice p n c]:=fun o=>ldN_all ((o.2 _ (by omega)).trans (get_of_alloc e0)) rfl
 refine (volNameSpec kk f hf).mono ?_
 rintro _ g2 ⟨⟨a,ha,hs,rfl⟩ | ⟨ha,rfl⟩,o2⟩
 ·refine⟨_,_,rfl,fun _=>⟨_,_,_,_,c0 o2,(namedRSpec kk (c:=c) (T.old (o0.trans o2)) R f hf bn).mono ?_⟩,fun z=>absurd rfl z⟩
  rintro _ g10 ⟨rfl,o10⟩
  have oo:=(o0.trans o2).trans o10
  unfold volAtOf
  rw[ha]
  simp only
  cases hl:lookOf rs (spl f) with
  | none=>exact⟨_,rfl,fun _=>⟨rfl,oo⟩,fun z=>absurd (by decide) z⟩
  | some i=>
    refine⟨_,rfl,fun z=>absurd z (by show ¬((i:Int) < 0); omega),fun _=>⟨rfl,oo⟩⟩
 ·refine⟨_,_,rfl,fun z=>absurd z (by decide),fun _=>⟨?_,o0.trans o2⟩⟩
  unfold volAtOf
  rw[ha]
theorem addedSpec (kk:KRule K) (T:BookOk h p n rs) (hn40:n≤1000) (bn:Int) (hbn:0≤bn∧bn < 1000000000000000) {r:SetR} (ok:RecOk h r):
 Wf Try.prog K 37 [.agg #[.int .u64 bn,.slice p n c],.agg (setC r).toArray] h fun v h'=>(∃b c' rs',v=.agg #[.int .u64 (bn+1),.slice (some ⟨b,0,none⟩) (n+1) c']∧OwnB h.next h' b (rs' ++ [r])∧rs'.map cor=rs.map cor∧∀x∈rs',∀a,x.dp=some a→h.next≤a.block)∧Old h h':=by
 have hn:=T.1.1
 have hrm:roomMax=140737488355328:=rfl
 refine vc_rule_added kk.added _ _ _ _ _ _ _ _ _ _ _ _ _ _ _ _ _ h _ fun g0 e0 g1 e1 g2 e2=>?_
 have o0:=old_of_alloc e0
 have o1:=old_of_alloc e1
 have o2:=old_of_alloc e2
 have n0:=next_of_alloc e0
 have n1:=next_of_alloc e1
 have n2:=next_of_alloc e2
 have oh2:=(o0.trans o1).trans o2
 have c0:∀{g:AH},Old g2 g→g.get h.next=some (.cells [.int .u64 bn,.slice p n c] 49 false):=fun o=>(o.2 _ (by omega)).trans ((o2.2 _ (by omega)).trans ((o1.2 _ (by omega)).trans (get_of_alloc e0)))
 have c1:∀{g:AH},Old g2 g→g.get g0.next=some (.cells (setC r) 59 false):=fun o=>(o.2 _ (by omega)).trans ((o2.2 _ (by omega)).trans (get_of_alloc e1))
 have c2:∀{g:AH},Old g2 g→g.get g1.next=some (.cells [.int .u64 0,.slice none 0 0] 49 false):=fun o=>(o.2 _ (by omega)).trans (get_of_alloc e2)
 refine⟨_,_,_,_,ldN_all (c0 (Old.refl _)) rfl,(copiedSpec kk (T.old oh2) hn40 bn).mono ?_⟩
 rintro _ g8 ⟨⟨b,rs',rfl,OW,hcor,hnew⟩,o8⟩
 have hrl:rs'.length=n:=by rw[hn]; exact cor_len hcor
 refine⟨_,_,_,_,rfl,fun g13 e13=>?_⟩
 obtain⟨g14,k14,n14,o14,v14⟩:=put_new e13 (vs:=[.int .u64 bn,.slice (some ⟨b,0,none⟩) n n]) rfl
 have w14:=(v14 [] (fun c hc=>by cases hc)).1
 have o814:=o8.trans o14
 have OW14:=OW.old o14
 refine⟨rfl,g14,k14,_,_,_,ld1_at w14 rfl,_,_,_,_,_,_,_,_,_,_,_,_,_,ldN_all (c1 o814) rfl,fun g31 e31=>?_⟩
 have GB:Grow g2.next g14 59 11 (some ⟨b,0,none⟩) n n (setsC rs'):=⟨by rw[setsC_len,hrl],.inr ⟨b,rfl,OW14.lo,OW14.hi,OW14.get,.inr rfl⟩⟩
 obtain⟨p32,c34,g35,k35,G35,o35,f35,m35⟩:=GB.push eSetF o814.1 (m:=1) (ns:=setC r) e31 (by rw[setC_len]) (by omega) (by omega)
 obtain⟨b35,rfl,hb35⟩:=m35 (by omega)
 obtain⟨b35',e35, -,q2,q3, -⟩:∃b',(some (⟨b35,0,none⟩:Addr))=some ⟨b',0,none⟩∧g2.next≤b'∧b' < g35.next∧g35.get b'= some (.cells (setsC rs' ++ setC r) 59 false)∧(c34=openCap∨c34=n+1):=by
  rcases G35.2 with ⟨z, -⟩ | q
  ·cases z
  ·exact q
 obtain rfl:b35=b35':=by injection e35 with e35; injection e35
 have f:∀x,x < g14.next→x≠b→g35.get x=g14.get x:=fun x hx hne=>f35 x hx (fun e=>hne e.symm)
 have L8:=o8.1
 have L814:=o814.1
 have Lh:=oh2.1
 have L35:=o35.1
 have lb:h.next < b∧b≠g0.next∧b≠g1.next∧b≠g8.next:=by have:=OW.lo; have:=OW.hi; omega
 have w35:g35.get g8.next=_:=(f _ (by omega) (by omega)).trans w14
 refine⟨_,_,c34,g35,k35,_,st1_of w35 (by simp),_,ld1_at (get_set_self _ _ _) rfl,fun i38 e38=>⟨_,st1_of (get_set_self _ _ _) (by simp),?_⟩⟩
 have e38:=u64w e38 (by omega) (by omega)
 subst e38
 have hc2:∀{o o' : AObj},((g35.set g8.next o).set g8.next o').get g1.next=some (.cells [.int .u64 0,.slice none 0 0] 49 false):=fun {o o'}=>by
  rw[get_set_ne (by have:=o8.1; omega),get_set_ne (by have:=o8.1; omega),f _ (by have:=o814.1; omega) (by omega)]
  exact c2 o814
 refine⟨_,_,_,_,ldN_all (get_set_self _ _ _) rfl,rfl,_,stN_all hc2 rfl,_,_,_,_,ldN_all (get_set_self _ _ _) rfl,⟨b35,c34,rs',rfl,?_,hcor,fun x hx a ha=>by have:=hnew x hx a ha; omega⟩,?_⟩
 ·have nx:∀{o o' o'' : AObj},(((g35.set g8.next o).set g8.next o').set g1.next o'').next=g35.next:=rfl
  have ne1:∀{x:Nat} {o o' o'' : AObj},x≠g8.next→x≠g1.next→(((g35.set g8.next o).set g8.next o').set g1.next o'').get x=g35.get x:=fun {x o o' o''} a b=>by rw[get_set_ne b,get_set_ne a,get_set_ne a]
  refine⟨by have:=o814.1; have:=oh2.1; omega,by rw[nx]; exact q2,by rw[ne1 (by omega) (by omega),q3,setsC_app,setsC_one],fun x hx=>?_⟩
  rcases mem_snoc.1 hx with hx | rfl
  ·obtain⟨r1,r2⟩:=OW14.recs x hx
   have r0:=(OW.recs x hx)
   refine⟨r1.kept (by rw[nx]; have:=o35.1; omega) fun a ha=>?_,fun a ha=>by have:=r1.2.2 a ha; omega⟩
   have:=hnew x hx a ha
   have hab:=r1.2.2 a ha
   have hab8:=r0.1.2.2 a ha
   rw[ne1 (by omega) (by omega),f _ hab (r2 a ha)]
  ·have rh:RecOk g14 x:=(ok.old oh2).old o814
   refine⟨rh.kept (by rw[nx]; have:=o35.1; omega) fun a ha=>?_,fun a ha=>by have:=ok.2.2 a ha; omega⟩
   have:=ok.2.2 a ha
   rw[ne1 (by have:=oh2.1; have:=o8.1; omega) (by omega),f _ (by have:=oh2.1; have:=o814.1; omega) (by omega)]
 ·refine⟨by show h.next≤g35.next; have:=o814.1; have:=oh2.1; have:=o35.1; omega,fun x hx=>?_⟩
  rw[get_set_ne (by omega),get_set_ne (by have:=oh2.1; have:=o8.1; omega),get_set_ne (by have:=oh2.1; have:=o8.1; omega),f x (by have:=oh2.1; have:=o814.1; omega) (by omega),o814.2 x (by omega),oh2.2 x hx]
end
end Go.Am
