/-
  PARTS OF A SLICE, one after the other; so many sectors are taken.
-/
import Derived.Test.YtihmdaifbmchjaaGreatCpB
import Derived.Test.YtihmdaifbmchjaaGreatCpD
import Derived.Test.YtihmdaifbmchjaaGreatVBlob
import Derived.Test.YtihmdaifbmchjaaGreatCpC
set_option linter.unusedVariables false
set_option linter.unusedSimpArgs false
set_option maxRecDepth 100000
namespace Go.Am
open Go.Proofs
theorem ztS:zaZ Tryz.prog 53 5 1 1:=zaG (by kernel_rfl)
theorem ztT:zaZ Tryz.prog 60 42 3 24:=zaG (by kernel_rfl)
theorem ztU:zaZ Tryz.prog 48 3 1 8:=zaG (by kernel_rfl)
theorem znj {P:Program} {h:AH} {st elem:TypeId} {sz by' : Nat} (E:zaZ P st elem sz by') {b off n c lo hi:Nat} (hsz:P.cellsOf elem=sz) (hc:zbu P h elem b n c) (h1:lo < hi) (h2:hi≤n):
 zar P h st (.slice (some ⟨b,off,none⟩) n c) (some (.int .i64 (lo:Int))) (some (.int .i64 (hi:Int))) (some (.int .i64 (hi:Int)))=some (.slice (some ⟨b,off+lo * sz,none⟩) (hi - lo) (hi - lo)):=by
 obtain⟨hu,i,z,hi',hz,hzs,hpos,rfl,rfl⟩:=E
 unfold zar
 rw[hu]
 simp only[hi',Option.isSome_some,if_true]
 rcases hc with ⟨q1,q2⟩ | ⟨rfl,cs,e,ro,hg,he⟩
 ·rw[if_neg (by omega),if_pos q2]
  unfold aBounds
  simp only[zbO,if_pos (show hi≤c by omega),if_pos (Nat.le_refl hi),if_pos (Nat.le_of_lt h1)]
  rw[if_neg (by omega),hsz]
 ·rw[if_pos rfl]
  unfold aBounds
  simp only[zbO,if_pos h2,if_pos (Nat.le_refl hi),if_pos (Nat.le_of_lt h1),hg]
  rw[if_pos (by omega),if_neg (by omega),hsz]
section
variable {K:Xs} {h:AH}
theorem zAt (hk:K 172=none) {ya pb0 pb1 b off n c m:Nat} (hm:1≤m∧m≤1000) (hn:n≤1000000) {JJ:Nat→AH→Prop} {DD:AH→Prop} {BB:AH→AH→Prop}
 (hs:∀i h1,JJ i h1→(∃t ro,h1.get pb0=some (.cells [.slice (some ⟨b,off,none⟩) n c] t ro))∧(∃t ro,h1.get pb1=some (.cells [.int .i64 (m:Nat)] t ro))∧zbu Tryz.prog h1 5 b n c)
 (hr:∀(k:Nat) (h1:AH),k < (n+m - 1) / m→JJ k h1→Wy Tryz.prog K ya [.slice (some ⟨b,off+k * m * 1,none⟩) (min m (n - k * m)) (min m (n - k * m))] h1 fun v h2=>((v=.bool true∧JJ (k+1) h2)∨(v=.bool false∧DD h2))∧BB h1 h2)
 (h0:JJ 0 h):Wf Tryz.prog K 172 [Value.func (Fn.yield ya) #[] #[],.pointer (some ⟨pb0,0,none⟩),.pointer (some ⟨pb1,0,none⟩)] h fun _ h'=>JJ ((n+m - 1) / m) h'∨DD h':=by
 have hdiv:∀j,j < (n+m - 1) / m↔j * m < n:=fun j=>by
  rw[Nat.lt_div_iff_mul_lt (by omega)]
  constructor
  ·intro z; omega
  ·intro z; omega
 refine zcm hk _ _ _ h _ ⟨fun i k g=>∃j:Nat,i=((j * m:Nat):Int)∧j≤(n+m - 1) / m∧(n+m - 1) / m - j=k∧JJ j g,⟨_,0,by simp,Nat.zero_le _,rfl,h0⟩,?_⟩
 rintro k1 g2 i4 ⟨j,rfl,hj,rfl,J2⟩
 obtain⟨⟨t0,r0,c0⟩,⟨t1,r1,c1⟩,C2⟩:=hs j g2 J2
 refine zae ⟨_,_,_,zah c0 rfl,fun z=>zae ⟨_,zah c1 rfl,zae ⟨_,_,_,zah c0 rfl,?_⟩⟩,fun z=>?_⟩
 ·have hjm:j * m < n:=by omega
  have hjN:=(hdiv j).2 hjm
  obtain⟨off2,c2,k2, -, -⟩:=zdD (ztS) (by simp) (h:=g2) (b:=b) (off:=off) (lo:=j * m) C2 (by omega)
  refine⟨_,_,_,k2,fun i21 e21=>zae ⟨_,_,_,zah c0 rfl,fun i27 e27 i28 e28=>?_⟩⟩
  have e21:i21=((min m (n - j * m):Nat):Int):=by rw[e21]; split <;> omega
  subst e21
  have e27:=zaJ e27 (by omega) (by omega)
  have e28:=zaJ e28 (by omega) (by omega)
  have e27:i27=((j * m+min m (n - j * m):Nat):Int):=by omega
  have e28:i28=((j * m+min m (n - j * m):Nat):Int):=by omega
  subst e27
  subst e28
  have k3:=znj (ztS) (by simp) (h:=g2) (b:=b) (off:=off) (lo:=j * m) (hi:=j * m+min m (n - j * m)) C2 (by omega) (by omega)
  rw[show j * m+min m (n - j * m) - j * m=min m (n - j * m) by omega] at k3
  refine⟨_,_,_,k3,(hr j g2 hjN J2).mono' ?_⟩
  rintro v g33 ⟨⟨rfl,J33⟩ | ⟨rfl,D33⟩, -⟩
  ·obtain⟨-,⟨t3,r3,c3⟩, -⟩:=hs (j+1) g33 J33
   refine⟨true,rfl,?_⟩
   simp only[Bool.not_true,cond_false]
   refine zae ⟨_,zah c3 rfl,fun i38 e38=>?_⟩
   have e38:=zaJ e38 (by omega) (by omega)
   exact⟨_,by omega,j+1,by rw[e38,Nat.add_mul]; omega,hjN,rfl,J33⟩
  ·exact⟨false,rfl,.inr D33⟩
 ·have hjN:¬j < (n+m - 1) / m:=fun y=>z (by have:=(hdiv j).1 y; omega)
  obtain rfl:j=(n+m - 1) / m:=by omega
  exact .inl J2
theorem zAu (hk:K 173=none) {ya pb0 pb1 b off n c m:Nat} (hm:1≤m∧m≤1000) (hn:n≤1000000) {JJ:Nat→AH→Prop} {DD:AH→Prop} {BB:AH→AH→Prop}
 (hs:∀i h1,JJ i h1→(∃t ro,h1.get pb0=some (.cells [.slice (some ⟨b,off,none⟩) n c] t ro))∧(∃t ro,h1.get pb1=some (.cells [.int .i64 (m:Nat)] t ro))∧zbu Tryz.prog h1 42 b n c)
 (hr:∀(k:Nat) (h1:AH),k < (n+m - 1) / m→JJ k h1→Wy Tryz.prog K ya [.slice (some ⟨b,off+k * m * 3,none⟩) (min m (n - k * m)) (min m (n - k * m))] h1 fun v h2=>((v=.bool true∧JJ (k+1) h2)∨(v=.bool false∧DD h2))∧BB h1 h2)
 (h0:JJ 0 h):Wf Tryz.prog K 173 [Value.func (Fn.yield ya) #[] #[],.pointer (some ⟨pb0,0,none⟩),.pointer (some ⟨pb1,0,none⟩)] h fun _ h'=>JJ ((n+m - 1) / m) h'∨DD h':=by
 have hdiv:∀j,j < (n+m - 1) / m↔j * m < n:=fun j=>by
  rw[Nat.lt_div_iff_mul_lt (by omega)]
  constructor
  ·intro z; omega
  ·intro z; omega
 refine zkZ hk _ _ _ h _ ⟨fun i k g=>∃j:Nat,i=((j * m:Nat):Int)∧j≤(n+m - 1) / m∧(n+m - 1) / m - j=k∧JJ j g,⟨_,0,by simp,Nat.zero_le _,rfl,h0⟩,?_⟩
 rintro k1 g2 i4 ⟨j,rfl,hj,rfl,J2⟩
 obtain⟨⟨t0,r0,c0⟩,⟨t1,r1,c1⟩,C2⟩:=hs j g2 J2
 refine zae ⟨_,_,_,zah c0 rfl,fun z=>zae ⟨_,zah c1 rfl,zae ⟨_,_,_,zah c0 rfl,?_⟩⟩,fun z=>?_⟩
 ·have hjm:j * m < n:=by omega
  have hjN:=(hdiv j).2 hjm
  obtain⟨off2,c2,k2, -, -⟩:=zdD (ztT) (by simp) (h:=g2) (b:=b) (off:=off) (lo:=j * m) C2 (by omega)
  refine⟨_,_,_,k2,fun i21 e21=>zae ⟨_,_,_,zah c0 rfl,fun i27 e27 i28 e28=>?_⟩⟩
  have e21:i21=((min m (n - j * m):Nat):Int):=by rw[e21]; split <;> omega
  subst e21
  have e27:=zaJ e27 (by omega) (by omega)
  have e28:=zaJ e28 (by omega) (by omega)
  have e27:i27=((j * m+min m (n - j * m):Nat):Int):=by omega
  have e28:i28=((j * m+min m (n - j * m):Nat):Int):=by omega
  subst e27
  subst e28
  have k3:=znj (ztT) (by simp) (h:=g2) (b:=b) (off:=off) (lo:=j * m) (hi:=j * m+min m (n - j * m)) C2 (by omega) (by omega)
  rw[show j * m+min m (n - j * m) - j * m=min m (n - j * m) by omega] at k3
  refine⟨_,_,_,k3,(hr j g2 hjN J2).mono' ?_⟩
  rintro v g33 ⟨⟨rfl,J33⟩ | ⟨rfl,D33⟩, -⟩
  ·obtain⟨-,⟨t3,r3,c3⟩, -⟩:=hs (j+1) g33 J33
   refine⟨true,rfl,?_⟩
   simp only[Bool.not_true,cond_false]
   refine zae ⟨_,zah c3 rfl,fun i38 e38=>?_⟩
   have e38:=zaJ e38 (by omega) (by omega)
   exact⟨_,by omega,j+1,by rw[e38,Nat.add_mul]; omega,hjN,rfl,J33⟩
  ·exact⟨false,rfl,.inr D33⟩
 ·have hjN:¬j < (n+m - 1) / m:=fun y=>z (by have:=(hdiv j).1 y; omega)
  obtain rfl:j=(n+m - 1) / m:=by omega
  exact .inl J2
variable {p:Nat} {F:List Nat} {d m:Nat} {W:Nat} {nw:List (List Nat)} {M:List Nat} {st:Nat} {ba:Int}
def zbj (M:List Nat) (A:List Nat):List Nat:=A.foldl (fun M a=>M.set a 2) M
theorem zet (M A:List Nat) (a:Nat):zbj M (A ++ [a])=(zbj M A).set a 2:=by simp[zbj]
theorem zj8:∀(A M:List Nat) (x:Nat),M[x]?= some 2→(zbj M A)[x]?= some 2
 | [],M,x,h=>h
 | a :: A,M,x,h=>by
   refine zj8 A (M.set a 2) x ?_
   rw[List.getElem?_set]
   by_cases e:a=x
   ·rw[if_pos e,if_pos (by rw[e]; exact (List.getElem?_eq_some_iff.1 h).1)]
   ·rw[if_neg e]; exact h
theorem zqa (kM:K 14=none) (kC:K 22=none) (kA:K 39=none) (kI:K 56=none) (kS:K 52=none) (B:PO h p F d m W nw M st ba) (hn:nw.length≤1024) {n:Nat} (hc:n≤M.count 1) (hn2:n≤1000):
 Wf Tryz.prog K 14 [.pointer (some ⟨m,0,none⟩),.int .i64 (n:Nat)] h fun v h'=>∃pp c A,v=.tuple #[.slice pp n c,.int .i64 0]∧zbe h.next h' 3 1 pp n c (zav .i64 A)∧A.length=n∧A.Nodup∧(∀a∈A,(zbj M A)[a]?= some 2∧a < nw.length∧4≤a)∧PO h' p F d m W nw (zbj M A) st ba∧Fr F h h' F:=by
 obtain⟨Fd0,B0⟩:=B
 refine zg4 kM _ _ h _ ((zpW kC B0.map).mono ?_)
 rintro _ _ ⟨rfl,rfl⟩
 refine⟨_,rfl,fun z=>absurd z (by omega),fun _=>⟨fun pp k c j g=>∃A:List Nat,n - k=j∧k≤n∧A.length=k∧A.Nodup∧(∀a∈A,M[a]?= some 1∧(zbj M A)[a]?= some 2∧a < nw.length∧4≤a)∧(zbj M A).count 1+k=M.count 1∧PO g p F d m W nw (zbj M A) st ba∧Fr F h g F∧zbe h.next g 3 1 pp k c (zav .i64 A),⟨_,[],rfl,Nat.zero_le _,rfl,List.nodup_nil,(fun a ha=>by cases ha),rfl,⟨Fd0,B0⟩,Fr.refl _ _,zbe.nil _ _ _ _⟩,?_⟩⟩
 rintro k4 g5 p7 n8 c9 ⟨A,rfl,hk,hA,hnd,hall,hcnt,B5,f5,G5⟩
 refine⟨fun z=>?_,fun z=>?_⟩
 ·obtain⟨Fd,P5⟩:=B5
  have hF:=P5.mem_lt
  refine (zpX kA kI kS P5.map).mono ?_
  rintro v g11 (⟨i,hi,hMi,rfl,hm11,nr11⟩ | ⟨hno,rfl,rfl⟩)
  rotate_left
  ·exact absurd (List.count_pos_iff.1 (show 0 < (zbj M A).count 1 by omega)) hno
  obtain⟨P11,f11⟩:=P5.onMap hm11 nr11 (zj3 P5.within hMi (by decide))
  refine⟨_,_,rfl,fun _ g14 e14=>?_,fun z=>absurd rfl z⟩
  have o14:=zaa e14
  have hmF:m∈F:=by rw[P5.F_eq]; simp
  have hmlt:m < h.next:=(by
   have:=B0.mem_lt m hmF
   exact this)
  have G11:zbe h.next g11 3 1 p7 n8 c9 (zav .i64 A):=G5.fr f11 B0.mem_lt
  obtain⟨p15,c17,g18,k18,G18,ob18, -, -⟩:=G11.push ztU (by have:=f5.1; have:=f11.1; omega) (m:=1) e14 rfl (by unfold zaE; omega) (by omega)
  have hMi1:M[i]?= some 1:=by
   have key:∀(A M:List Nat),(zbj M A)[i]?= some 1→M[i]?= some 1:=by
    intro A
    induction A with
    | nil=>exact fun M h=>h
    | cons a A ih=>
      intro M h
      have h1:=ih (M.set a 2) h
      rw[List.getElem?_set] at h1
      split at h1
      ·split at h1
       ·cases h1
       ·cases h1
      ·exact h1
   exact key A M hMi
  have hiA:i∉A:=fun q=>by rw[(hall i q).2.1] at hMi; cases hMi
  have hwi:=P5.within i 1 hMi (by decide)
  have hlen:i < (zbj M A).length:=(List.getElem?_eq_some_iff.1 hMi).1
  refine⟨p15,_,c17,g18,k18,n - (n8+1),by omega,A ++ [i],rfl,by omega,by simp[hA],?_,fun a ha=>?_,?_,?_,?_,by rw[zaI]; exact G18⟩
  ·rw[List.nodup_append]
   exact⟨hnd,by simp,fun a ha b hb=>by rw[List.mem_singleton.1 hb]; exact fun e=>hiA (by rw[←e]; exact ha)⟩
  ·rw[zet]
   rcases List.mem_append.1 ha with ha | ha
   ·obtain⟨q1,q2,q3,q4⟩:=hall a ha
    refine⟨q1,?_,q3,q4⟩
    rw[List.getElem?_set,if_neg (fun e=>hiA (by rw[e]; exact ha))]
    exact q2
   ·rw[List.mem_singleton.1 ha]
    exact⟨hMi1,by rw[List.getElem?_set,if_pos rfl,if_pos hlen],hwi.2,hwi.1⟩
  ·rw[zet]
   have h2:=zj2 hMi 1 (b:=2)
   have h3:=zts hMi
   simp at h2
   omega
  ·rw[zet]
   exact⟨Fd,(P11.keep ob18.1 fun c hc=>ob18.2 c (B0.mem_lt c hc))⟩
  ·have f:=f5.trans f11
   exact⟨Nat.le_trans f.1 ob18.1,fun c hc hnF=>by rw[ob18.2 c hc,f.2.1 c hc hnF],fun c hc=>.inl hc⟩
 ·have hkn:n8=n:=by omega
  subst hkn
  exact⟨p7,c9,A,rfl,G5,hA,hnd,fun a ha=>(hall a ha).2,B5,f5⟩
end
def wr (nw:List (List Nat)) (as' : List Nat) (ss:List (List Nat)):List (List Nat):=(as'.zip ss).foldl (fun nw q=>nw.set q.1 q.2) nw
def mkP (st:Nat) (as' : List Nat) (ss:List (List Nat)):List Tr3:=List.zipWith (fun a s=>(a,st,zbk s)) as' ss
theorem ztV:∀(nw:List (List Nat)) (as' : List Nat) (ss:List (List Nat)),(wr nw as' ss).length=nw.length
 | nw,[],ss=>by simp[wr]
 | nw,a :: as',[]=>by simp[wr]
 | nw,a :: as',s :: ss=>by
   show (wr (nw.set a s) as' ss).length=nw.length
   rw[ztV,List.length_set]
theorem zyH (nw:List (List Nat)) (as' : List Nat) (ss:List (List Nat)) (a:Nat) (s:List Nat) (h:as'.length=ss.length):wr nw (as' ++ [a]) (ss ++ [s])=(wr nw as' ss).set a s:=by
 unfold wr
 rw[List.zip_append h,List.foldl_append]
 rfl
theorem zv8 (st:Nat) (as' : List Nat) (ss:List (List Nat)) (a:Nat) (s:List Nat) (h:as'.length=ss.length):mkP st (as' ++ [a]) (ss ++ [s])=mkP st as' ss ++ [(a,st,zbk s)]:=by
 unfold mkP
 rw[List.zipWith_append h]
 rfl
theorem ziH (st:Nat) (as' : List Nat) (ss:List (List Nat)) (h:as'.length=ss.length):(mkP st as' ss).length=as'.length:=by
 unfold mkP
 rw[List.length_zipWith]
 omega
theorem zaq.take {h:AH} {p:Option Addr} {n m sz:Nat} {cs:List Value} (s:zaq h p n sz cs) (hm:m≤n):zaq h p m sz (cs.take (m * sz)):=by
 have hle:m * sz≤n * sz:=Nat.mul_le_mul_right _ hm
 refine⟨by rw[List.length_take,s.1]; omega,?_⟩
 rcases s.2 with h0 | ⟨b,off,al,e,ro,hp,hb,hg,hl,hc⟩
 ·exact .inl (by omega)
 ·exact .inr ⟨b,off,al,e,ro,hp,hb,hg,by omega,by rw[←hc,List.take_take,Nat.min_eq_left hle]⟩
theorem zaq.keep {h h' : AH} {p:Option Addr} {n sz:Nat} {cs:List Value} (s:zaq h p n sz cs) (hn:h.next≤h'.next) (hg:∀a,p=some a→a.block < h.next→h'.get a.block=h.get a.block):zaq h' p n sz cs:=by
 refine⟨s.1,s.2.imp id ?_⟩
 rintro⟨b,off,al,e,ro,hp,hb,hgb,hl,hc⟩
 exact⟨b,off,al,e,ro,hp,Nat.lt_of_lt_of_le hb hn,by rw[hg _ hp hb]; exact hgb,hl,hc⟩
def zgt (text:List Nat) (N:Nat):List (List Nat):=(List.range N).map fun k=>zaM ((text.drop (k * 128)).take 128)
theorem zv9 (text:List Nat) {N k:Nat} (h:k < N):(zgt text N)[k]?= some (zaM ((text.drop (k * 128)).take 128)):=by simp[zgt,h]
theorem zdz (text:List Nat) (N:Nat):(zgt text N).length=N:=by simp[zgt]
theorem zbe.near' {l:Nat} {h h' : AH} {elem:TypeId} {sz:Nat} {p:Option Addr} {n c:Nat} {cs:List Value} (g:zbe (l+1) h elem sz p n c cs) (k:za9 l h h'):zbe (l+1) h' elem sz p n c cs:=g.near k (Nat.lt_succ_self _) (Nat.le_refl _)
def ztW (p:Option Addr) (g g' : AH):Prop:=g.next≤g'.next∧∀b,b < g.next→(∀a,p=some a→a.block≠b)→g'.get b=g.get b
section
variable {K:Xs} {h:AH} {p:Nat} {F:List Nat} {d m:Nat} {W:Nat} {nw:List (List Nat)} {M:List Nat} {st:Nat} {ba:Int}
structure ztX (K:Xs):Prop where
 pPutAt:K 117=none
 mTaken:K 10=none
 mAll:K 33=some (.sum (znv 90))
 sHas:K 146=none
 sEach:K 111=none
 sEach1:K 143=none
 sRight:K 140=none
 sSingle:K 161=none
 pWrite:K 40=none
 dWrite:K 59=none
 dCount:K 83=none
 dHas:K 84=none
 dSpend:K 85=none
 sOf:K 60=none
 sMore:K 86=some (.sum zdF)
 nBytes:K 165=none
 qBytes:K 120=none
 qRight:K 128=none
 qWidths:K 127=none
 fPut:K 119=none
 fRoom:K 129=none
 cB:K 163=none
 cB1:K 172=none
 cP:K 164=none
 cP1:K 173=none
 bUp:K 124=none
 bLevels:K 92=none
 bNeed:K 114=none
 bText:K 144=none
 bNodes:K 145=none
 bSave:K 115=none
theorem ztY (kk:ztX K) (B:PO h p F d m W nw M st ba) (hw:W < 100000) {i:Nat} (hi:M[i]?= some 2) {pp:Option Addr} {n c:Nat} {data:List Nat} (hd:zaq h pp n 1 (zav .u8 data)) (hpp:pp=none∨∃b off,pp=some ⟨b,off,none⟩) (hb:∀x∈data,x < 256) (hl:data.length≤128):
 Wf Tryz.prog K 117 [.pointer (some ⟨p,0,none⟩),.int .i64 (i:Nat),.slice pp n c] h fun v h'=>v=.tuple #[qV (i,st,zbk (zaM data)),.int .i64 0]∧∃F',PO h' p F' d m (W+1) (nw.set i (zaM data)) M st ba∧Fr F h h' F':=by
 obtain⟨Fd,B⟩:=B
 refine (ztR kk.pPutAt kk.mTaken kk.mAll kk.sHas kk.sEach kk.sEach1 kk.sRight kk.sSingle kk.pWrite kk.dWrite kk.dCount kk.dHas kk.dSpend kk.sOf kk.sMore B hw i hd hpp hb).mono ?_
 rintro v g (⟨z, -⟩ | ⟨-, -,rfl,Fd',P,f⟩ | ⟨-,z, -⟩)
 ·omega
 ·exact⟨rfl,_,⟨Fd',P⟩,f⟩
 ·exact absurd hi z
def SJ (h:AH) (p:Nat) (F:List Nat) (d m:Nat) (W:Nat) (nw:List (List Nat)) (M:List Nat) (st:Nat) (ba:Int) (a0 a1 a2 a3 a4 l:Nat) (vat vsl:Value) (step:Nat) (as' : List Nat) (SS:List (List Nat)) (k:Nat) (g:AH):Prop:=
 ∃(F' : List Nat) (pp:Option Addr) (cc:Nat),PO g p F' d m (W+k) (wr nw (as'.take k) (SS.take k)) M st ba∧(∀c,c < h.next→c∉F→g.get c=h.get c)∧(∀c∈F',c∈F∨l < c)∧l < g.next∧
  g.get h.next=some (.cells [.pointer (some ⟨p,0,none⟩)] 36 false)∧g.get a0=some (.cells [vat] 48 false)∧g.get a1=some (.cells [.slice none 0 0] 60 false)∧g.get a2=some (.cells [.int .i64 0] 31 false)∧
  g.get a3=some (.cells [.slice pp k cc] 60 false)∧(∃t,g.get a4=some (.cells [vsl] t false))∧g.get (a4+1)=some (.cells [.int .i64 (step:Nat)] 3 false)∧zbe (l+1) g 42 3 pp k cc (zbE (mkP st (as'.take k) (SS.take k)))∧(∀a,pp=some a→a.block∉F')
theorem SJ.near {h g g' : AH} {a0 a1 a2 a3 a4 l:Nat} {vat vsl:Value} {step:Nat} {as' : List Nat} {SS:List (List Nat)} {k:Nat} (j:SJ h p F d m W nw M st ba a0 a1 a2 a3 a4 l vat vsl step as' SS k g) (n:za9 l g g') (hF:∀c∈F,c < h.next) (hl:h.next < l∧a0 < l∧a1 < l∧a2 < l∧a3 < l∧a4+1 < l):SJ h p F d m W nw M st ba a0 a1 a2 a3 a4 l vat vsl step as' SS k g':=by
 obtain⟨F',pp,cc,j1,j2,j3,j4,j5,j6,j7,j8,j9,⟨t,j10⟩,j11,j12,j13⟩:=j
 have lF:l∉F':=fun z=>(j3 l z).elim (fun y=>by have:=hF l y; omega) (fun y=>by omega)
 exact⟨F',pp,cc,j1.nearN n lF,fun c hc hn=>by rw[n.2 c (by omega),j2 c hc hn],j3,by rw[n.1]; exact j4,by rw[n.2 _ (by omega)]; exact j5,by rw[n.2 _ (by omega)]; exact j6,by rw[n.2 _ (by omega)]; exact j7,by rw[n.2 _ (by omega)]; exact j8,by rw[n.2 _ (by omega)]; exact j9,⟨t,by rw[n.2 _ (by omega)]; exact j10⟩,by rw[n.2 _ (by omega)]; exact j11,j12.near' n,j13⟩
theorem SJ.next {h g23 g35 g41 g52:AH} {a0 a1 a2 a3 a4 l:Nat} {vat vsl:Value} {step:Nat} {as' : List Nat} {SS:List (List Nat)} {k a:Nat} {s:List Nat} (hF:∀c∈F,c < h.next) (hl:h.next < l∧a0 < l∧a1 < l∧a2 < l∧a3 < l∧a4+1 < l) (ne:h.next < a0∧a0 < a1∧a1 < a2∧a2 < a3∧a3 < a4)
 (ha:as'[k]?= some a) (hs:SS[k]?= some s) {F' F'' : List Nat} {pp p' : Option Addr} {cc c' : Nat}
 (j2:∀c,c < h.next→c∉F→g23.get c=h.get c) (j3:∀c∈F',c∈F∨l < c) (j4:l < g23.next) (j5:g23.get h.next=some (.cells [.pointer (some ⟨p,0,none⟩)] 36 false)) (j6:g23.get a0=some (.cells [vat] 48 false)) (j7:g23.get a1=some (.cells [.slice none 0 0] 60 false)) (j8:g23.get a2=some (.cells [.int .i64 0] 31 false))
 (j10:∃t,g23.get a4=some (.cells [vsl] t false)) (j11:g23.get (a4+1)=some (.cells [.int .i64 (step:Nat)] 3 false)) (f35:Fr F' g23 g35 F'') (o41:Old g35 g41) (B41:PO g41 p F'' d m (W+k+1) ((wr nw (as'.take k) (SS.take k)).set a s) M st ba)
 (kp:ztW pp g41 g52) (hpp:∀x,pp=some x→l < x.block∧x.block∉F'') (G52:zbe (l+1) g52 42 3 p' (k+1) c' (zbE (mkP st (as'.take k) (SS.take k) ++ [(a,st,zbk s)]))) (hp' : ∀x,p'= some x→x.block∉F'') (hkl:k < as'.length∧k < SS.length):
 SJ h p F d m W nw M st ba a0 a1 a2 a3 a4 l vat vsl step as' SS (k+1) (g52.set a3 (.cells [.slice p' (k+1) c'] 60 false))∧(g52.set a3 (.cells [.slice p' (k+1) c'] 60 false)).get l=g23.get l:=by
 have n53:=zaj a3 g52 (.cells [.slice p' (k+1) c'] 60 false)
 have l35:=f35.1
 have l41:=o41.1
 have keep:∀c,c≤l→c∉F'→g52.get c=g23.get c:=fun c hc hn=>by rw[kp.2 c (by omega) (fun x e z=>by have:=(hpp x e).1; omega),o41.2 c (by omega),f35.2.1 c (by omega) hn]
 have nF:∀c,h.next≤c→c≤l→c∉F':=fun c h1 h2 z=>(j3 c z).elim (fun y=>by have:=hF c y; omega) (fun y=>by omega)
 have nF2:∀c,c < h.next→c∉F→c∉F':=fun c h1 h2 z=>(j3 c z).elim h2 (fun y=>by omega)
 have nF'' : ∀c,h.next≤c→c≤l→c∉F'':=fun c h1 h2 z=>(f35.2.2 c z).elim (nF c h1 h2) (fun y=>by omega)
 have e1:as'.take (k+1)=as'.take k ++ [a]:=by
  obtain⟨h1,rfl⟩:=List.getElem?_eq_some_iff.1 ha
  exact List.take_succ_eq_append_getElem h1
 have e2:SS.take (k+1)=SS.take k ++ [s]:=by
  obtain⟨h1,rfl⟩:=List.getElem?_eq_some_iff.1 hs
  exact List.take_succ_eq_append_getElem h1
 have el:(as'.take k).length=(SS.take k).length:=by rw[List.length_take,List.length_take]; omega
 have B52:PO g52 p F'' d m (W+k+1) ((wr nw (as'.take k) (SS.take k)).set a s) M st ba:=B41.imp fun Fd P=>P.keep kp.1 fun c hc=>kp.2 c (P.mem_lt c hc) (fun x e z=>(hpp x e).2 (z▸hc))
 refine⟨⟨F'',p',c',?_,fun c hc hn=>by rw[n53.2 c (by omega),keep c (by omega) (nF2 c hc hn),j2 c hc hn],fun c hc=>(f35.2.2 c hc).elim (j3 c) (fun y=>.inr (by omega)),by rw[n53.1]; have:=kp.1; omega,?_,?_,?_,?_,zag _ _ _,?_,?_,?_,hp'⟩,by rw[n53.2 _ (by omega),keep l (Nat.le_refl _) (nF l (by omega) (Nat.le_refl _))]⟩
 ·rw[e1,e2,zyH _ _ _ _ _ el,←Nat.add_assoc]
  exact B52.nearN n53 (nF'' a3 (by omega) (by omega))
 ·rw[n53.2 _ (by omega),keep _ (by omega) (nF _ (by omega) (by omega))]; exact j5
 ·rw[n53.2 _ (by omega),keep _ (by omega) (nF _ (by omega) (by omega))]; exact j6
 ·rw[n53.2 _ (by omega),keep _ (by omega) (nF _ (by omega) (by omega))]; exact j7
 ·rw[n53.2 _ (by omega),keep _ (by omega) (nF _ (by omega) (by omega))]; exact j8
 ·obtain⟨t,j10⟩:=j10
  exact⟨t,by rw[n53.2 _ (by omega),keep _ (by omega) (nF _ (by omega) (by omega))]; exact j10⟩
 ·rw[n53.2 _ (by omega),keep _ (by omega) (nF _ (by omega) (by omega))]; exact j11
 ·rw[e1,e2,zv8 _ _ _ _ _ el]
  exact G52.near n53 (by omega) (Nat.le_refl _)
theorem zbe.frM {lim:Nat} {h h' : AH} {elem:TypeId} {sz:Nat} {p:Option Addr} {n c:Nat} {cs:List Value} {F F' : List Nat} (g:zbe lim h elem sz p n c cs) (f:Fr F h h' F') (ha:∀a,p=some a→a.block∉F):zbe lim h' elem sz p n c cs:=by
 refine⟨g.1,?_⟩
 rcases g.2 with z | ⟨b',hp,h1,h2,h3,h4⟩
 ·exact .inl z
 ·exact .inr ⟨b',hp,h1,Nat.lt_of_lt_of_le h2 f.1,by rw[f.2.1 b' h2 (ha _ hp)]; exact h3,h4⟩
theorem zyI:zaZ Tryz.prog 60 42 3 24:=zaG (by kernel_rfl)
theorem zwa {P:Program} {h:AH} {t elem:TypeId} {sz by' : Nat} (E:zaZ P t elem sz by') {b n c:Nat} {cs:List Value} {e:TypeId} (hb:h.get b=some (.cells cs e false)) {p:Option Addr} {m c' : Nat} {ns:List Value} (hs:zaq h p m sz ns) (hp:p=none∨∃b off,p=some ⟨b,off,none⟩) (hm:0 < m) (hmn:m≤n) (hle:n * sz≤cs.length) (st:TypeId):
 ∃h',zal P h .copy #[t,st] [.slice (some ⟨b,0,none⟩) n c,.slice p m c']=some (.int .i64 (m:Nat),h')∧za9 b h h'∧h'.get b=some (.cells (ns ++ cs.drop ns.length) e false):=by
 obtain⟨hu,i,z,hi,hz,hzs,hpos,rfl,rfl⟩:=E
 have hmin:Nat.min m n=m:=Nat.min_eq_left hmn
 have hfc:firstC h i.size m (.slice p m c')=some ns:=hs.firstC hp
 have hnl:=hs.1
 show ∃h',(match zeL P h t (.slice (some ⟨b,0,none⟩) n c) (.slice p m c') with | x=>x)=_∧_
 unfold zeL
 simp only[hu,hi,zlx,hmin,hfc]
 have hp' : 0 < m * i.size:=Nat.mul_pos hm hpos
 cases hns:ns with
 | nil=>rw[hns] at hnl; simp at hnl; omega
 | cons x xs=>
   have hle2:0+(x :: xs).length≤cs.length:=by
    rw[←hns,hnl]
    have:m * i.size≤n * i.size:=Nat.mul_le_mul_right _ hmn
    omega
   simp only
   rw[if_neg (by omega)]
   have:zas h b 0 (x :: xs)=some (h.set b (.cells (x :: xs ++ cs.drop (x :: xs).length) e false)):=by
    unfold zas
    rw[hb]
    simp only
    rw[if_pos hle2,List.take_zero,List.nil_append,Nat.zero_add]
   rw[this]
   exact⟨_,rfl,zaj _ _ _,zag _ _ _⟩
theorem ztZ (g:AH) (b:Nat):zar Tryz.prog g 192 (.pointer (some ⟨b,0,none⟩)) none none none=some (.slice (some ⟨b,0,none⟩) 8 8):=by kernel_rfl
def zj9 (l:List Tr3):List Tr3:=l ++ List.replicate (8 - l.length) (0,0,0)
theorem zlp {l:List Tr3} (h:l.length≤8):(zj9 l).length=8:=by simp[zj9]; omega
theorem zoW {l:List Tr3} (h:∀q∈l,QOk q):∀q∈zj9 l,QOk q:=fun q hq=>(List.mem_append.1 hq).elim (h q) (zv4 q)
def nds (below:List Tr3) (N:Nat):List (List Nat):=(List.range N).map fun k=>zbQ (zj9 ((below.drop (k * 8)).take 8))
theorem zt0 (below:List Tr3) {N k:Nat} (h:k < N):(nds below N)[k]?= some (zbQ (zj9 ((below.drop (k * 8)).take 8))):=by simp[nds,h]
theorem ze6 (below:List Tr3) (N:Nat):(nds below N).length=N:=by simp[nds]
theorem zqb {α:Type} {X:List α} {n m:Nat} (h:X.length=n):X.take (min m n)=X.take m:=by
 rw[List.take_eq_take_iff,h]
 omega
theorem zwb (kk:ztX K) (B:PO h p F d m W nw M st ba) (hw:W+1000 < 100000)  {tb toff n c:Nat} {text:List Nat} (hn1:1≤n) (hn2:n≤65535) (T:zaq h (some ⟨tb,toff,none⟩) n 1 (zav .u8 text)) (C:zbu Tryz.prog h 5 tb n c) (tF:tb∉F) (tl:tb < h.next) (hb:∀x∈text,x < 256)
 {pa:Option Addr} {na ca:Nat} {as' : List Nat} (S:zaq h pa na 1 (zav .i64 as')) (pF:∀a,pa=some a→a.block∉F) (hat:(n+128 - 1) / 128≤as'.length) (hM:∀a∈as',M[a]?= some 2) (hN:(n+128 - 1) / 128≤600):
 Wf Tryz.prog K 144 [.pointer (some ⟨p,0,none⟩),.slice (some ⟨tb,toff,none⟩) n c,.slice pa na ca] h fun v h'=>∃pp cc F',v=.tuple #[.slice pp ((n+128 - 1) / 128) cc,.int .i64 0]∧PO h' p F' d m (W+(n+128 - 1) / 128) (wr nw (as'.take ((n+128 - 1) / 128)) (zgt text ((n+128 - 1) / 128))) M st ba∧Fr F h h' F'∧
  zbe h.next h' 42 3 pp ((n+128 - 1) / 128) cc (zbE (mkP st (as'.take ((n+128 - 1) / 128)) (zgt text ((n+128 - 1) / 128))))∧∀a,pp=some a→a.block∉F':=by
 have hF:=B.lt
 have hna:na=as'.length:=by have:=S.1; rw[zam] at this; omega
 have hxl:text.length=n:=by have:=T.1; rw[zam] at this; omega
 refine zha kk.bText _ _ _ _ _ _ _ h _ fun g0 e0 g1 e1 g2 e2 g3 e3 g4 e4=>zcx kk.cB _ _ _ _ g4 _ fun g5 e5 g6 e6=>⟨_,zah (zac e6) rfl,fun z=>absurd z (by decide),fun _=>⟨172,[.pointer (some ⟨g4.next,0,none⟩),.pointer (some ⟨g5.next,0,none⟩)],rfl,?_⟩⟩
 have o0:=zaa e0
 have n0:=zab e0
 have o1:=zaa e1
 have n1:=zab e1
 have o2:=zaa e2
 have n2:=zab e2
 have o3:=zaa e3
 have n3:=zab e3
 have o4:=zaa e4
 have n4:=zab e4
 have o5:=zaa e5
 have n5:=zab e5
 have o6:=zaa e6
 have n6:=zab e6
 have oh:Old h g6:=(((((o0.trans o1).trans o2).trans o3).trans o4).trans o5).trans o6
 have c0:g6.get h.next=some (.cells [.pointer (some ⟨p,0,none⟩)] 36 false):=by rw[o6.2 _ (by omega),o5.2 _ (by omega),o4.2 _ (by omega),o3.2 _ (by omega),o2.2 _ (by omega),o1.2 _ (by omega)]; exact zac e0
 have c1:g6.get g0.next=some (.cells [.slice pa na ca] 48 false):=by rw[o6.2 _ (by omega),o5.2 _ (by omega),o4.2 _ (by omega),o3.2 _ (by omega),o2.2 _ (by omega)]; exact zac e1
 have c2:g6.get g1.next=some (.cells [.slice none 0 0] 60 false):=by rw[o6.2 _ (by omega),o5.2 _ (by omega),o4.2 _ (by omega),o3.2 _ (by omega)]; exact zac e2
 have c3:g6.get g2.next=some (.cells [.int .i64 0] 31 false):=by rw[o6.2 _ (by omega),o5.2 _ (by omega),o4.2 _ (by omega)]; exact zac e3
 have c4:g6.get g3.next=some (.cells [.slice none 0 0] 60 false):=by rw[o6.2 _ (by omega),o5.2 _ (by omega)]; exact zac e4
 have c5:g6.get g4.next=_:=(o6.2 _ (by omega)).trans (zac e5)
 have c6:=zac e6
 have hl:h.next < g6.next∧g0.next < g6.next∧g1.next < g6.next∧g2.next < g6.next∧g3.next < g6.next∧g4.next+1 < g6.next:=by omega
 have ne:h.next < g0.next∧g0.next < g1.next∧g1.next < g2.next∧g2.next < g3.next∧g3.next < g4.next:=by omega
 have n45:g5.next=g4.next+1:=n5
 refine⟨SJ h p F d m W nw M st ba g0.next g1.next g2.next g3.next g4.next g6.next (.slice pa na ca) (.slice (some ⟨tb,toff,none⟩) n c) 128 as' (zgt text ((n+128 - 1) / 128)),fun _ _=>False,(n+128 - 1) / 128,fun k=>[.slice (some ⟨tb,toff+k * 128 * 1,none⟩) (min 128 (n - k * 128)) (min 128 (n - k * 128))],fun _ _=>False,fun _ _=>True,
  ⟨kk.cB1,rfl⟩,fun i hi=>⟨_,_,_,rfl⟩,fun h1 q1 q2=>⟨F,none,0,B.imp fun Fd P=>P.keep (by have:=oh.1; omega) fun x hx=>(q2 x (by have:=hF x hx; omega)).trans (oh.2 x (hF x hx)),fun x hx _=>by rw[q2 x (by omega),oh.2 x hx],fun x hx=>.inl hx,by omega,(q2 _ (by omega)).trans c0,(q2 _ (by omega)).trans c1,(q2 _ (by omega)).trans c2,(q2 _ (by omega)).trans c3,(q2 _ (by omega)).trans c4,⟨_,(q2 _ (by omega)).trans c5⟩,by rw[←n45]; exact (q2 _ (by omega)).trans c6,zbe.nil _ _ _ _,fun a e=>by cases e⟩,
  fun i h1 h2 j n=>j.near n hF hl,fun x h1 h2 q=>q.elim,fun i h1 h2 j r=>r.elim,fun x h1 h2 q=>q.elim,fun h1 h2 r=>r.elim,?_,?_,?_,fun h1 q=>q.elim,fun x h1 _ q=>q.elim⟩
 ·
  rintro k g14 hk J14 - p17 n18 c19 hit
  simp only[List.cons.injEq,Value.slice.injEq,and_true] at hit
  obtain⟨rfl,rfl,rfl⟩:=hit
  refine⟨rfl,rfl,fun g23 nr hL=>?_⟩
  have J23:=J14.near nr hF hl
  obtain⟨F',pp,cc,j1,j2,j3,j4,j5,j6,j7,j8,j9,j10,j11,j12,j13⟩:=J23
  have hkm:k * 128 < n:=by
   have:=(Nat.lt_div_iff_mul_lt (show 0 < 128 by decide)).1 hk
   omega
  have hka:k < as'.length:=by omega
  have hnF' : ∀x,x < h.next→x∉F→x∉F':=fun x h1 h2 z=>(j3 x z).elim h2 (fun y=>by omega)
  have S23:zaq g23 pa na 1 (zav .i64 as'):=S.keep (by have:=oh.1; omega) fun a e hb=>j2 _ hb (pF a e)
  have T23:=T.keep (h':=g23) (by have:=oh.1; omega) fun a e hb=>by cases e; exact j2 _ hb tF
  have Tc:=(T23.cut (lo:=k * 128) (off2:=toff+k * 128 * 1) (by omega) (fun _=>rfl)).take (m:=min 128 (n - k * 128)) (by omega)
  have hcell:((zav .u8 text).drop (k * 128 * 1)).take (min 128 (n - k * 128) * 1)=zav .u8 ((text.drop (k * 128)).take 128):=by
   unfold zav
   rw[Nat.mul_one,Nat.mul_one,←List.map_drop,←List.map_take,zqb (by rw[List.length_drop]; omega)]
  rw[hcell] at Tc
  obtain⟨b31,o32,rfl,hld⟩:=S23.get (i:=k) (by omega)
  rw[zbN hka] at hld
  have hMa:=hM _ (List.getElem_mem hka)
  refine⟨_,zah j5 rfl,_,_,_,zah j6 rfl,pp,k,cc,zah j9 rfl,zae ⟨by omega,by omega,_,by rw[Int.toNat_natCast,Nat.mul_one]; exact hld,?_⟩⟩
  refine (ztY kk j1 (by omega) hMa Tc (.inr ⟨_,_,rfl⟩) (fun x hx=>hb x (List.mem_of_mem_drop (List.mem_of_mem_take hx))) (by rw[List.length_take]; omega)).mono ?_
  rintro _ g35 ⟨rfl,F'',B35,f35⟩
  refine⟨_,_,_,_,rfl,fun g40 e40=>?_⟩
  obtain⟨g41,k41,n41,o41,v41⟩:=zaF e40 (vs:=[.int .i64 (as'[k]:Nat),.int .u64 (st:Nat),.int .u32 (zbk (zaM ((text.drop (k * 128)).take 128)):Nat)]) rfl
  have w41:=v41 F'' B35.lt
  have hlt23:g6.next < g23.next:=j4
  have nF:∀x,h.next≤x→x≤g6.next→x∉F':=fun x h1 h2 z=>(j3 x z).elim (fun y=>by have:=hF x y; omega) (fun y=>by omega)
  have l35:=f35.1
  have get41:∀x,h.next≤x→x≤g6.next→g41.get x=g23.get x:=fun x h1 h2=>by rw[o41.2 x (by omega),f35.2.1 x (by omega) (nF x h1 h2)]
  have G41:=(j12.frM f35 j13).old o41
  have hpp:∀x,pp=some x→g6.next < x.block∧x.block∉F'':=fun x e=>⟨by have:=(j12.block e).1; omega,fun z=>(f35.2.2 _ z).elim (j13 x e) (fun y=>by have:=(j12.block e).2; omega)⟩
  refine⟨rfl,g41,k41,fun _=>⟨pp,k,cc,zah ((get41 _ (by omega) (by omega)).trans j9) rfl,_,_,_,w41.ld rfl,fun g48 e48=>?_⟩,fun z=>absurd rfl z⟩
  obtain⟨p',c',g52,k52,G52,ob52,ap52,fr52⟩:=G41.push zyI (by omega) (m:=1) (ns:=zbE [(as'[k],st,zbk (zaM ((text.drop (k * 128)).take 128)))]) e48 rfl (by unfold zaE; omega) (by omega)
  obtain⟨b',rfl,hb'⟩:=fr52 (by decide)
  rw[←zfA] at G52
  have kp:ztW pp g41 g52:=⟨by have:=ob52.1; exact this,fun x hx ha=>ap52 x hx (by
   cases hq:pp with
   | none=>trivial
   | some a=>exact ha a hq)⟩
  have g52a:g52.get g3.next=some (.cells [.slice pp k cc] 60 false):=by
   rw[kp.2 _ (by omega) (fun x e z=>by have:=(hpp x e).1; omega),get41 _ (by omega) (by omega)]
   exact j9
  have sj:=SJ.next (step:=128) (st:=st) (ba:=ba) hF hl ne (List.getElem?_eq_getElem hka) (s:=zaM ((text.drop (k * 128)).take 128)) (SS:=zgt text ((n+128 - 1) / 128)) (zv9 text hk) j2 j3 j4 j5 j6 j7 j8 j10 j11 f35 o41 (B35.old o41) kp hpp (k:=k) (cc:=cc) (p':=some ⟨b',0,none⟩) (c':=c') G52 (fun x e z=>by cases e; exact absurd ((B35.old o41).lt _ z) (Nat.not_lt.2 hb')) ⟨hka,by rw[zdz]; exact hk⟩
  refine⟨_,_,c',g52,k52,_,zbm g52a (by simp),?_,sj.1,fun _ _=>trivial⟩
  exact sj.2
 ·
  intro JJ DD hJ hG hDG hround g60 hj0
  exact zAt kk.cB1 (ya:=g6.next) (pb0:=g4.next) (pb1:=g5.next) (b:=tb) (off:=toff) (n:=n) (c:=c) (m:=128) (by decide) (by omega) (JJ:=JJ) (DD:=DD) (BB:=fun _ _=>True)
   (fun i h1 j=>by
     obtain⟨F',pp,cc, -,j2, -,j4, -, -, -, -, -,⟨t,j10⟩,j11, -, -⟩:=hJ i h1 j
     refine⟨⟨t,false,j10⟩,⟨_,false,by rw[n45]; exact j11⟩,?_⟩
     rcases C with C | ⟨z1,cs,e,ro,z2,z3⟩
     ·exact .inl C
     ·exact .inr ⟨z1,cs,e,ro,by rw[j2 tb tl tF]; exact z2,z3⟩)
   (fun k h1 hk j=>hround k h1 hk j) hj0
 ·rintro g64 ⟨F',pp,cc,j1,j2,j3,j4,j5,j6,j7,j8,j9,j10,j11,j12,j13⟩
  have dl:∀x,x≠g6.next→(g64.del g6.next).get x=g64.get x:=fun x hx=>by rw[AH.get_del,if_neg hx]
  have n68:=zaj g1.next (g64.del g6.next) (.cells [.slice pp ((n+128 - 1) / 128) cc] 60 false)
  have n69:=zaj g2.next ((g64.del g6.next).set g1.next (.cells [.slice pp ((n+128 - 1) / 128) cc] 60 false)) (.cells [.int .i64 0] 31 false)
  have nF:∀x,h.next≤x→x≤g6.next→x∉F':=fun x h1 h2 z=>(j3 x z).elim (fun y=>by have:=hF x y; omega) (fun y=>by omega)
  have l64:(g64.del g6.next).next=g64.next:=rfl
  have k68:st1 (g64.del g6.next) g1.next 0 (.slice pp ((n+128 - 1) / 128) cc)=some ((g64.del g6.next).set g1.next (.cells [.slice pp ((n+128 - 1) / 128) cc] 60 false)):=zbm ((dl _ (by omega)).trans j7) (by simp)
  have k69:st1 ((g64.del g6.next).set g1.next (.cells [.slice pp ((n+128 - 1) / 128) cc] 60 false)) g2.next 0 (.int .i64 0)=some (((g64.del g6.next).set g1.next (.cells [.slice pp ((n+128 - 1) / 128) cc] 60 false)).set g2.next (.cells [.int .i64 0] 31 false)):=zbm ((n68.2 _ (by omega)).trans ((dl _ (by omega)).trans j8)) (by simp)
  refine⟨pp,_,cc,zah ((dl _ (by omega)).trans j9) rfl,_,k68,_,k69,pp,_,cc,zah ((n69.2 _ (by omega)).trans (zag _ _ _)) rfl,_,zah (zag _ _ _) rfl,pp,cc,F',rfl,?_,?_,?_,j13⟩
  ·have B64:PO (g64.del g6.next) p F' d m (W+(n+128 - 1) / 128) (wr nw (as'.take ((n+128 - 1) / 128)) ((zgt text ((n+128 - 1) / 128)).take ((n+128 - 1) / 128))) M st ba:=j1.imp fun Fd P=>P.keep (Nat.le_refl _) fun x hx=>dl x (fun e=>nF g6.next (by omega) (Nat.le_refl _) (e▸hx))
   rw[List.take_of_length_le (l:=zgt text ((n+128 - 1) / 128)) (by rw[zdz]; exact Nat.le_refl _)] at B64
   exact (B64.nearN n68 (nF _ (by omega) (by omega))).nearN n69 (nF _ (by omega) (by omega))
  ·exact⟨by rw[n69.1,n68.1,l64]; omega,fun x hx hnx=>by rw[n69.2 x (by omega),n68.2 x (by omega),dl x (by omega),j2 x hx hnx],fun x hx=>(j3 x hx).imp id (fun y=>by omega)⟩
  ·have G64:zbe (g6.next+1) (g64.del g6.next) 42 3 pp ((n+128 - 1) / 128) cc (zbE (mkP st (as'.take ((n+128 - 1) / 128)) ((zgt text ((n+128 - 1) / 128)).take ((n+128 - 1) / 128)))):=by
    refine⟨j12.1,j12.2.imp id ?_⟩
    rintro⟨b',q1,q2,q3,q4,q5⟩
    exact⟨b',q1,q2,q3,by rw[dl b' (by omega)]; exact q4,q5⟩
   rw[List.take_of_length_le (l:=zgt text ((n+128 - 1) / 128)) (by rw[zdz]; exact Nat.le_refl _)] at G64
   exact (G64.near n68 (by omega) (Nat.le_refl _)).near n69 (by omega) (by omega)
theorem zt1 (kk:ztX K) (B:PO h p F d m W nw M st ba) (hw:W+1000 < 100000)  {tb toff n c:Nat} {below:List Tr3} (hn1:1≤n) (hn2:n≤65535) (T:zaq h (some ⟨tb,toff,none⟩) n 3 (zbE below)) (C:zbu Tryz.prog h 42 tb n c) (tF:tb∉F) (tl:tb < h.next) (hok:∀q∈below,QOk q)
 {pa:Option Addr} {na ca:Nat} {as' : List Nat} (S:zaq h pa na 1 (zav .i64 as')) (pF:∀a,pa=some a→a.block∉F) (hat:(n+8 - 1) / 8≤as'.length) (hM:∀a∈as',M[a]?= some 2) (hN:(n+8 - 1) / 8≤600):
 Wf Tryz.prog K 145 [.pointer (some ⟨p,0,none⟩),.slice (some ⟨tb,toff,none⟩) n c,.slice pa na ca] h fun v h'=>∃pp cc F',v=.tuple #[.slice pp ((n+8 - 1) / 8) cc,.int .i64 0]∧PO h' p F' d m (W+(n+8 - 1) / 8) (wr nw (as'.take ((n+8 - 1) / 8)) (nds below ((n+8 - 1) / 8))) M st ba∧Fr F h h' F'∧
  zbe h.next h' 42 3 pp ((n+8 - 1) / 8) cc (zbE (mkP st (as'.take ((n+8 - 1) / 8)) (nds below ((n+8 - 1) / 8))))∧∀a,pp=some a→a.block∉F':=by
 have hF:=B.lt
 have hna:na=as'.length:=by have:=S.1; rw[zam] at this; omega
 have hxl:below.length=n:=by have:=T.1; rw[za0] at this; omega
 refine zgm kk.bNodes _ _ _ _ _ _ _ h _ fun g0 e0 g1 e1 g2 e2 g3 e3 g4 e4=>zoL kk.cP _ _ _ _ g4 _ fun g5 e5 g6 e6=>⟨_,zah (zac e6) rfl,fun z=>absurd z (by decide),fun _=>⟨173,[.pointer (some ⟨g4.next,0,none⟩),.pointer (some ⟨g5.next,0,none⟩)],rfl,?_⟩⟩
 have o0:=zaa e0
 have n0:=zab e0
 have o1:=zaa e1
 have n1:=zab e1
 have o2:=zaa e2
 have n2:=zab e2
 have o3:=zaa e3
 have n3:=zab e3
 have o4:=zaa e4
 have n4:=zab e4
 have o5:=zaa e5
 have n5:=zab e5
 have o6:=zaa e6
 have n6:=zab e6
 have oh:Old h g6:=(((((o0.trans o1).trans o2).trans o3).trans o4).trans o5).trans o6
 have c0:g6.get h.next=some (.cells [.pointer (some ⟨p,0,none⟩)] 36 false):=by rw[o6.2 _ (by omega),o5.2 _ (by omega),o4.2 _ (by omega),o3.2 _ (by omega),o2.2 _ (by omega),o1.2 _ (by omega)]; exact zac e0
 have c1:g6.get g0.next=some (.cells [.slice pa na ca] 48 false):=by rw[o6.2 _ (by omega),o5.2 _ (by omega),o4.2 _ (by omega),o3.2 _ (by omega),o2.2 _ (by omega)]; exact zac e1
 have c2:g6.get g1.next=some (.cells [.slice none 0 0] 60 false):=by rw[o6.2 _ (by omega),o5.2 _ (by omega),o4.2 _ (by omega),o3.2 _ (by omega)]; exact zac e2
 have c3:g6.get g2.next=some (.cells [.int .i64 0] 31 false):=by rw[o6.2 _ (by omega),o5.2 _ (by omega),o4.2 _ (by omega)]; exact zac e3
 have c4:g6.get g3.next=some (.cells [.slice none 0 0] 60 false):=by rw[o6.2 _ (by omega),o5.2 _ (by omega)]; exact zac e4
 have c5:g6.get g4.next=_:=(o6.2 _ (by omega)).trans (zac e5)
 have c6:=zac e6
 have hl:h.next < g6.next∧g0.next < g6.next∧g1.next < g6.next∧g2.next < g6.next∧g3.next < g6.next∧g4.next+1 < g6.next:=by omega
 have ne:h.next < g0.next∧g0.next < g1.next∧g1.next < g2.next∧g2.next < g3.next∧g3.next < g4.next:=by omega
 have n45:g5.next=g4.next+1:=n5
 refine⟨SJ h p F d m W nw M st ba g0.next g1.next g2.next g3.next g4.next g6.next (.slice pa na ca) (.slice (some ⟨tb,toff,none⟩) n c) 8 as' (nds below ((n+8 - 1) / 8)),fun _ _=>False,(n+8 - 1) / 8,fun k=>[.slice (some ⟨tb,toff+k * 8 * 3,none⟩) (min 8 (n - k * 8)) (min 8 (n - k * 8))],fun _ _=>False,fun _ _=>True,
  ⟨kk.cP1,rfl⟩,fun i hi=>⟨_,_,_,rfl⟩,fun h1 q1 q2=>⟨F,none,0,B.imp fun Fd P=>P.keep (by have:=oh.1; omega) fun x hx=>(q2 x (by have:=hF x hx; omega)).trans (oh.2 x (hF x hx)),fun x hx _=>by rw[q2 x (by omega),oh.2 x hx],fun x hx=>.inl hx,by omega,(q2 _ (by omega)).trans c0,(q2 _ (by omega)).trans c1,(q2 _ (by omega)).trans c2,(q2 _ (by omega)).trans c3,(q2 _ (by omega)).trans c4,⟨_,(q2 _ (by omega)).trans c5⟩,by rw[←n45]; exact (q2 _ (by omega)).trans c6,zbe.nil _ _ _ _,fun a e=>by cases e⟩,
  fun i h1 h2 j n=>j.near n hF hl,fun x h1 h2 q=>q.elim,fun i h1 h2 j r=>r.elim,fun x h1 h2 q=>q.elim,fun h1 h2 r=>r.elim,?_,?_,?_,fun h1 q=>q.elim,fun x h1 _ q=>q.elim⟩
 ·
  rintro k g14 hk J14 - p17 n18 c19 hit
  simp only[List.cons.injEq,Value.slice.injEq,and_true] at hit
  obtain⟨rfl,rfl,rfl⟩:=hit
  refine⟨rfl,rfl,fun g23 nr hL=>?_⟩
  have J23:=J14.near nr hF hl
  obtain⟨F',pp,cc,j1,j2,j3,j4,j5,j6,j7,j8,j9,j10,j11,j12,j13⟩:=J23
  have hkm:k * 8 < n:=by
   have:=(Nat.lt_div_iff_mul_lt (show 0 < 8 by decide)).1 hk
   omega
  have hka:k < as'.length:=by omega
  have hnF' : ∀x,x < h.next→x∉F→x∉F':=fun x h1 h2 z=>(j3 x z).elim h2 (fun y=>by omega)
  have S23:zaq g23 pa na 1 (zav .i64 as'):=S.keep (by have:=oh.1; omega) fun a e hb=>j2 _ hb (pF a e)
  have T23:=T.keep (h':=g23) (by have:=oh.1; omega) fun a e hb=>by cases e; exact j2 _ hb tF
  have Tc:=(T23.cut (lo:=k * 8) (off2:=toff+k * 8 * 3) (by omega) (fun _=>rfl)).take (m:=min 8 (n - k * 8)) (by omega)
  have hcell:((zbE below).drop (k * 8 * 3)).take (min 8 (n - k * 8) * 3)=zbE ((below.drop (k * 8)).take 8):=by
   rw[zit,zis,zqb (by rw[List.length_drop]; omega)]
  rw[hcell] at Tc
  have hpl:((below.drop (k * 8)).take 8).length≤8:=by rw[List.length_take]; omega
  have hp0:((below.drop (k * 8)).take 8).length=min 8 (n - k * 8):=by rw[List.length_take,List.length_drop]; omega
  have hpo:∀q∈(below.drop (k * 8)).take 8,QOk q:=fun q hq=>hok q (List.mem_of_mem_drop (List.mem_of_mem_take hq))
  generalize hpart:(below.drop (k * 8)).take 8=part at Tc hpl hp0 hpo hcell
  intro g24 e24
  have o24:=zaa e24
  have n24:=zab e24
  have c24:g24.get g23.next=some (.cells (zbE (List.replicate 8 (0,0,0))) 192 false):=zac e24
  have hz24:(zbE (List.replicate 8 ((0,0,0):Tr3))).length=24:=by rw[za0]; rfl
  obtain⟨g29,k29,nr29,c29⟩:=zwa (c:=8) (c':=min 8 (n - k * 8)) zyI c24 (Tc.old o24) (.inr ⟨_,_,rfl⟩) (by omega) (show min 8 (n - k * 8)≤8 by omega) (by rw[hz24]; decide) 60
  have hpad:zbE part ++ (zbE (List.replicate 8 ((0,0,0):Tr3))).drop (zbE part).length=zbE (zj9 part):=by
   rw[za0,zit,List.drop_replicate,←zfA]
   rfl
  rw[hpad] at c29
  have hp8:=zlp hpl
  have hpd:=zoW hpo
  have hl24:(zbE (zj9 part)).length=24:=by rw[za0,hp8]
  refine⟨_,_,_,ztZ _ _,_,g29,k29,_,zao c29 hl24,(ztJ kk.nBytes kk.qBytes kk.qRight kk.qWidths kk.fPut kk.fRoom hp8 hpd).mono ?_⟩
  rintro _ g32 ⟨rfl,o32⟩
  have hsec:=ziF hp8
  have hls:=zaw hsec
  refine⟨_,_,rfl,fun g35' e35'=>?_⟩
  obtain⟨g36,k36,n36,o36,v36⟩:=zaF e35' (vs:=za8 (zbQ (zj9 part))) (by rw[hls]; simp)
  have o29:Old g23 g29:=⟨by rw[nr29.1,n24]; omega,fun x hx=>by rw[nr29.2 x (by omega),o24.2 x hx]⟩
  have o23:Old g23 g36:=o29.trans (o32.trans o36)
  have w36:=v36 F' (by
   have hlt:=j1.lt
   intro x hx
   have:=hlt x hx
   have:=nr29.1
   have:=o32.1
   omega)
  have B36:=j1.old o23
  have S36:zaq g36 (some ⟨g32.next,0,none⟩) 128 1 (zav .u8 (zbQ (zj9 part))):=⟨hls,.inr ⟨_,0,_,_,_,rfl,w36.2.1,w36.1,by rw[hls]; decide,by rw[List.drop_zero,List.take_of_length_le (by rw[hls]; decide)]; rfl⟩⟩
  obtain⟨b31,o32',rfl,hld⟩:=(S23.old o23).get (i:=k) (by omega)
  rw[zbN hka] at hld
  have hMa:=hM _ (List.getElem_mem hka)
  have hlt23:g6.next < g23.next:=j4
  refine⟨hls,g36,k36,fun _=>⟨_,zah ((o23.2 _ (by omega)).trans j5) rfl,_,_,_,zah ((o23.2 _ (by omega)).trans j6) rfl,pp,k,cc,zah ((o23.2 _ (by omega)).trans j9) rfl,zae ⟨by omega,by omega,_,by rw[Int.toNat_natCast,Nat.mul_one]; exact hld,_,_,_,zeo _ _,?_⟩⟩,fun z=>absurd rfl z⟩
  refine (ztY kk B36 (by omega) hMa S36 (.inr ⟨_,_,rfl⟩) hsec.2 (Nat.le_of_eq hsec.1)).mono ?_
  rintro _ g35 ⟨rfl,F'',B35,f35a⟩
  have ebl:zaM (zbQ (zj9 part))=zbQ (zj9 part):=by unfold zaM; rw[hsec.1]; simp
  rw[ebl] at B35
  rw[ebl]
  have f35:Fr F' g23 g35 F'':=(o23.fr F').trans f35a
  refine⟨_,_,_,_,rfl,fun g40 e40=>?_⟩
  obtain⟨g41,k41,n41,o41,v41⟩:=zaF e40 (vs:=[.int .i64 (as'[k]:Nat),.int .u64 (st:Nat),.int .u32 (zbk (zbQ (zj9 part)):Nat)]) rfl
  have w41:=v41 F'' B35.lt
  have hlt23:g6.next < g23.next:=j4
  have nF:∀x,h.next≤x→x≤g6.next→x∉F':=fun x h1 h2 z=>(j3 x z).elim (fun y=>by have:=hF x y; omega) (fun y=>by omega)
  have l35:=f35.1
  have get41:∀x,h.next≤x→x≤g6.next→g41.get x=g23.get x:=fun x h1 h2=>by rw[o41.2 x (by omega),f35.2.1 x (by omega) (nF x h1 h2)]
  have G41:=(j12.frM f35 j13).old o41
  have hpp:∀x,pp=some x→g6.next < x.block∧x.block∉F'':=fun x e=>⟨by have:=(j12.block e).1; omega,fun z=>(f35.2.2 _ z).elim (j13 x e) (fun y=>by have:=(j12.block e).2; omega)⟩
  refine⟨rfl,g41,k41,fun _=>⟨pp,k,cc,zah ((get41 _ (by omega) (by omega)).trans j9) rfl,_,_,_,w41.ld rfl,fun g48 e48=>?_⟩,fun z=>absurd rfl z⟩
  obtain⟨p',c',g52,k52,G52,ob52,ap52,fr52⟩:=G41.push zyI (by omega) (m:=1) (ns:=zbE [(as'[k],st,zbk (zbQ (zj9 part)))]) e48 rfl (by unfold zaE; omega) (by omega)
  obtain⟨b',rfl,hb'⟩:=fr52 (by decide)
  rw[←zfA] at G52
  have kp:ztW pp g41 g52:=⟨by have:=ob52.1; exact this,fun x hx ha=>ap52 x hx (by
   cases hq:pp with
   | none=>trivial
   | some a=>exact ha a hq)⟩
  have g52a:g52.get g3.next=some (.cells [.slice pp k cc] 60 false):=by
   rw[kp.2 _ (by omega) (fun x e z=>by have:=(hpp x e).1; omega),get41 _ (by omega) (by omega)]
   exact j9
  have sj:=SJ.next (step:=8) (st:=st) (ba:=ba) hF hl ne (List.getElem?_eq_getElem hka) (s:=zbQ (zj9 part)) (SS:=nds below ((n+8 - 1) / 8)) (by rw[zt0 below hk,hpart]) j2 j3 j4 j5 j6 j7 j8 j10 j11 f35 o41 (B35.old o41) kp hpp (k:=k) (cc:=cc) (p':=some ⟨b',0,none⟩) (c':=c') G52 (fun x e z=>by cases e; exact absurd ((B35.old o41).lt _ z) (Nat.not_lt.2 hb')) ⟨hka,by rw[ze6]; exact hk⟩
  refine⟨_,_,c',g52,k52,_,zbm g52a (by simp),?_,sj.1,fun _ _=>trivial⟩
  exact sj.2
 ·
  intro JJ DD hJ hG hDG hround g60 hj0
  exact zAu kk.cP1 (ya:=g6.next) (pb0:=g4.next) (pb1:=g5.next) (b:=tb) (off:=toff) (n:=n) (c:=c) (m:=8) (by decide) (by omega) (JJ:=JJ) (DD:=DD) (BB:=fun _ _=>True)
   (fun i h1 j=>by
     obtain⟨F',pp,cc, -,j2, -,j4, -, -, -, -, -,⟨t,j10⟩,j11, -, -⟩:=hJ i h1 j
     refine⟨⟨t,false,j10⟩,⟨_,false,by rw[n45]; exact j11⟩,?_⟩
     rcases C with C | ⟨z1,cs,e,ro,z2,z3⟩
     ·exact .inl C
     ·exact .inr ⟨z1,cs,e,ro,by rw[j2 tb tl tF]; exact z2,z3⟩)
   (fun k h1 hk j=>hround k h1 hk j) hj0
 ·rintro g64 ⟨F',pp,cc,j1,j2,j3,j4,j5,j6,j7,j8,j9,j10,j11,j12,j13⟩
  have dl:∀x,x≠g6.next→(g64.del g6.next).get x=g64.get x:=fun x hx=>by rw[AH.get_del,if_neg hx]
  have n68:=zaj g1.next (g64.del g6.next) (.cells [.slice pp ((n+8 - 1) / 8) cc] 60 false)
  have n69:=zaj g2.next ((g64.del g6.next).set g1.next (.cells [.slice pp ((n+8 - 1) / 8) cc] 60 false)) (.cells [.int .i64 0] 31 false)
  have nF:∀x,h.next≤x→x≤g6.next→x∉F':=fun x h1 h2 z=>(j3 x z).elim (fun y=>by have:=hF x y; omega) (fun y=>by omega)
  have l64:(g64.del g6.next).next=g64.next:=rfl
  have k68:st1 (g64.del g6.next) g1.next 0 (.slice pp ((n+8 - 1) / 8) cc)=some ((g64.del g6.next).set g1.next (.cells [.slice pp ((n+8 - 1) / 8) cc] 60 false)):=zbm ((dl _ (by omega)).trans j7) (by simp)
  have k69:st1 ((g64.del g6.next).set g1.next (.cells [.slice pp ((n+8 - 1) / 8) cc] 60 false)) g2.next 0 (.int .i64 0)=some (((g64.del g6.next).set g1.next (.cells [.slice pp ((n+8 - 1) / 8) cc] 60 false)).set g2.next (.cells [.int .i64 0] 31 false)):=zbm ((n68.2 _ (by omega)).trans ((dl _ (by omega)).trans j8)) (by simp)
  refine⟨pp,_,cc,zah ((dl _ (by omega)).trans j9) rfl,_,k68,_,k69,pp,_,cc,zah ((n69.2 _ (by omega)).trans (zag _ _ _)) rfl,_,zah (zag _ _ _) rfl,pp,cc,F',rfl,?_,?_,?_,j13⟩
  ·have B64:PO (g64.del g6.next) p F' d m (W+(n+8 - 1) / 8) (wr nw (as'.take ((n+8 - 1) / 8)) ((nds below ((n+8 - 1) / 8)).take ((n+8 - 1) / 8))) M st ba:=j1.imp fun Fd P=>P.keep (Nat.le_refl _) fun x hx=>dl x (fun e=>nF g6.next (by omega) (Nat.le_refl _) (e▸hx))
   rw[List.take_of_length_le (l:=nds below ((n+8 - 1) / 8)) (by rw[ze6]; exact Nat.le_refl _)] at B64
   exact (B64.nearN n68 (nF _ (by omega) (by omega))).nearN n69 (nF _ (by omega) (by omega))
  ·exact⟨by rw[n69.1,n68.1,l64]; omega,fun x hx hnx=>by rw[n69.2 x (by omega),n68.2 x (by omega),dl x (by omega),j2 x hx hnx],fun x hx=>(j3 x hx).imp id (fun y=>by omega)⟩
  ·have G64:zbe (g6.next+1) (g64.del g6.next) 42 3 pp ((n+8 - 1) / 8) cc (zbE (mkP st (as'.take ((n+8 - 1) / 8)) ((nds below ((n+8 - 1) / 8)).take ((n+8 - 1) / 8)))):=by
    refine⟨j12.1,j12.2.imp id ?_⟩
    rintro⟨b',q1,q2,q3,q4,q5⟩
    exact⟨b',q1,q2,q3,by rw[dl b' (by omega)]; exact q4,q5⟩
   rw[List.take_of_length_le (l:=nds below ((n+8 - 1) / 8)) (by rw[ze6]; exact Nat.le_refl _)] at G64
   exact (G64.near n68 (by omega) (Nat.le_refl _)).near n69 (by omega) (by omega)
end
end Go.Am
