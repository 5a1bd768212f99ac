/-
  HOW MANY SECTORS A TEXT NEEDS: the levels of a text, in this program.
-/
import Derived.Test.YtihmdaifbmchjaaGreatAmH
import Derived.Test.YtihmdaifbmchjaaGreatVBlob
import Derived.Test.YtihmdaifbmchjaaGreatCpB
set_option linter.unusedVariables false
set_option linter.unusedSimpArgs false
set_option maxRecDepth 100000
namespace Go.Am
open Go.Proofs
def ups (k:Nat):List Nat:=if 1 < k then ((k+7) / 8) :: ups ((k+7) / 8) else []
termination_by k
decreasing_by omega
def levelsL (n:Int):List Nat:=if n < 1∨65535 < n then [] else ((n.toNat+127) / 128) :: ups ((n.toNat+127) / 128)
def ze5 (n:Int):Nat:=(levelsL n).sum
theorem zbX {k:Nat} (h:1 < k):ups k=((k+7) / 8) :: ups ((k+7) / 8):=by
 conv=>lhs; unfold ups
 rw[if_pos h]
theorem zbR {k:Nat} (h:¬1 < k):ups k=[]:=by
 conv=>lhs; unfold ups
 rw[if_neg h]
section
variable {K:Xs}
theorem zxc (hk:K 124=none) (a b:Nat) (ha:a≤100000) (hb:1≤b∧b≤1000) (h:AH):
 Wf Tryz.prog K 124 [.int .i64 a,.int .i64 b] h fun v h'=>v=.int .i64 ((a+b - 1) / b:Nat)∧h=h':=by
 refine zix hk _ _ h _ fun i0 e0 i1 e1=>?_
 have e0:=zaJ e0 (by omega) (by omega)
 subst e0
 have e1:=zaJ e1 (by omega) (by omega)
 subst e1
 refine⟨by omega,fun i2 e2=>?_⟩
 have hq:Int.tdiv ((a:Int)+b - 1) b=(((a+b - 1) / b:Nat):Int):=by
  rw[Int.tdiv_eq_ediv_of_nonneg (by omega)]
  rw[Int.natCast_ediv]
  congr 1
  omega
 have hle:(a+b - 1) / b≤a+b:=Nat.le_trans (Nat.div_le_self _ _) (by omega)
 rw[hq] at e2
 obtain⟨q,hq2⟩:∃q,q=(a+b - 1) / b:=⟨_,rfl⟩
 rw[←hq2] at e2 hle ⊢
 have e2:=zaJ e2 (by omega) (by omega)
 exact⟨by rw[e2],rfl⟩
theorem zj4 (hk:K 92=none) (hk2:K 124=none) (n:Int) (h:AH):
 Wf Tryz.prog K 92 [.int .i64 n] h fun v h'=>∃p m c,v=.slice p m c∧zbe h.next h' 3 1 p m c (zav .i64 (levelsL n))∧Old h h':=by
 refine zjl hk _ h _ ⟨fun h1=>?_,fun h1=>⟨fun h2=>?_,fun h2=>?_⟩⟩
 ·exact⟨_,_,_,rfl,by unfold levelsL; rw[if_pos (.inl h1)]; exact zbe.nil _ _ _ _,Old.refl _⟩
 ·exact⟨_,_,_,rfl,by unfold levelsL; rw[if_pos (.inr h2)]; exact zbe.nil _ _ _ _,Old.refl _⟩
 ·obtain⟨N,rfl⟩:∃N:Nat,n=N:=⟨n.toNat,by omega⟩
  refine (zxc hk2 N 128 (by omega) (by omega) h).mono ?_
  rintro _ _ ⟨rfl,rfl⟩
  refine⟨_,rfl,fun h3 e3=>?_⟩
  have hL:levelsL N=((N+127) / 128) :: ups ((N+127) / 128):=by
   unfold levelsL
   rw[if_neg (by omega),Int.toNat_natCast]
  refine⟨fun i p m c k h'=>∃(s:Nat) (done:List Nat),i=s∧s=k∧s+done.length≤1000∧zbe h.next h' 3 1 p m c (zav .i64 done)∧Old h h'∧levelsL N=done ++ ups s,⟨(N+128 - 1) / 128,(N+128 - 1) / 128,[(N+128 - 1) / 128],rfl,rfl,?_,?_,Old.alloc (Old.refl _) e3,?_⟩,?_⟩
  ·simp; omega
  ·subst e3
   exact⟨rfl,.inr ⟨h.next,rfl,Nat.le_refl _,Nat.lt_succ_self _,zau _ _,.inr rfl⟩⟩
  ·rw[hL]; rfl
  ·rintro k h' i p m c ⟨s,done,rfl,rfl,hs,hg,ho,hl⟩
   refine⟨fun hi=>?_,fun hi=>⟨_,_,_,rfl,?_,ho⟩⟩
   ·refine (zxc hk2 s 8 (by omega) (by omega) h').mono ?_
    rintro _ _ ⟨rfl,rfl⟩
    refine⟨_,rfl,fun h4 e4=>?_⟩
    have hm:m=done.length:=by have:=hg.1; rw[zam] at this; omega
    obtain⟨p',c',h5,ha,hg2,hob, -⟩:=hg.push (zaG (st:=48) (by':=8) (by kernel_rfl)) ho.1 (ns:=zav .i64 [(s+8 - 1) / 8]) (m:=1) e4 rfl (by unfold zaE; omega) (by omega)
    refine⟨p',m+1,c',h5,ha,(s+8 - 1) / 8,by omega,(s+8 - 1) / 8,done ++ [(s+8 - 1) / 8],rfl,rfl,by simp; omega,by rw[zaI]; exact hg2,?_,?_⟩
    ·exact ((ho.toB (Nat.le_refl _)).trans hob).toOld
    ·rw[hl,zbX (by omega)]; simp
   ·rw[hl,zbR (by omega),List.append_nil]; exact hg
theorem zyC (k:Nat):(ups k).sum≤k:=by
 induction k using Nat.strongRecOn with
 | ind k ih=>
   by_cases h:1 < k
   ·rw[zbX h,List.sum_cons]
    have:=ih ((k+7) / 8) (by omega)
    by_cases h2:k≤8
    ·have:(k+7) / 8=1:=by omega
     rw[this,zbR (by omega)]
     simp; omega
    ·omega
   ·rw[zbR h]; simp
theorem zj5 (n:Int):(levelsL n).sum≤2000:=by
 unfold levelsL
 split
 ·simp
 ·rw[List.sum_cons]
  have:=zyC ((n.toNat+127) / 128)
  omega
theorem zyD (k:Nat):(ups k).length≤k:=by
 induction k using Nat.strongRecOn with
 | ind k ih=>
   by_cases h:1 < k
   ·rw[zbX h,List.length_cons]
    have:=ih ((k+7) / 8) (by omega)
    omega
   ·rw[zbR h]; simp
theorem zj6 (n:Int):(levelsL n).length≤2000:=by
 unfold levelsL
 split
 ·simp
 ·rw[List.length_cons]
  have:=zyD ((n.toNat+127) / 128)
  omega
theorem zp5 (l:List Nat) (i:Nat):(l.take i).sum≤l.sum:=by
 have:=List.take_append_drop i l
 have h2:(l.take i ++ l.drop i).sum=l.sum:=by rw[this]
 rw[List.sum_append] at h2
 omega
theorem zhw (hk:K 114=none) (hk1:K 92=none) (hk2:K 124=none) (n:Int) (h:AH):
 Wf Tryz.prog K 114 [.int .i64 n] h fun v h'=>v=.int .i64 (ze5 n)∧Old h h':=by
 refine zmR hk _ h _ ((zj4 hk1 hk2 n h).mono ?_)
 rintro _ h1 ⟨p,m,c,rfl,hg,ho⟩
 refine⟨p,m,c,rfl,fun s i k h'=>∃j:Nat,i=j∧j≤m∧m - j=k∧s=(((levelsL n).take j).sum:Nat)∧h1=h',⟨m,0,rfl,Nat.zero_le _,rfl,by simp,rfl⟩,?_⟩
 have hm:(levelsL n).length=m:=by have:=hg.1; rw[zam] at this; omega
 rintro k h' s i ⟨j,rfl,hj,rfl,rfl,rfl⟩
 refine⟨fun hi=>?_,fun hi=>⟨?_,ho⟩⟩
 ·obtain⟨b,off,rfl,hl⟩:=hg.shows.get (i:=j) (by omega)
  have hjl:j < (levelsL n).length:=by omega
  refine⟨by omega,by omega,(((levelsL n)[j]:Nat):Int),?_,fun i1 e1 i2 e2=>?_⟩
  ·rw[Int.toNat_natCast,Nat.mul_one,hl,zbN hjl]
  ·have q1:=zp5 (levelsL n) (j+1)
   have q2:=zj5 n
   have q4:=zj6 n
   have q3:((levelsL n).take (j+1)).sum=((levelsL n).take j).sum+(levelsL n)[j]:=by
    rw[List.take_succ_eq_append_getElem hjl,List.sum_append]; simp
   have e1:=zaJ e1 (by omega) (by omega)
   have e2:=zaJ e2 (by omega) (by omega)
   exact⟨m - (j+1),by omega,j+1,by omega,by omega,rfl,by omega,rfl⟩
 ·have:j=m:=by omega
  subst this
  rw[List.take_of_length_le (by omega)]
  rfl
end
theorem zaW.fr {lim:Nat} {h h' : AH} {elem:TypeId} {sz b n c:Nat} {cs:List Value} {F F' : List Nat} (g:zaW lim h elem sz b n c cs) (f:Fr F h h' F') (hF:∀x∈F,x < lim):zaW lim h' elem sz b n c cs:=by
 obtain⟨h1,h2,h3,h4,h5,rest,h6,h7⟩:=g
 exact⟨h1,h2,Nat.lt_of_lt_of_le h3 f.1,h4,h5,rest,by rw[f.2.1 b h3 (fun z=>absurd (hF _ z) (by omega)),h6],h7⟩
theorem zaW.pushS {P:Program} {lim:Nat} {h:AH} {st elem:TypeId} {sz by' : Nat} {b n c cx:Nat} {cs:List Value} (g:zaW lim h elem sz b n c cs) (E:zaZ P st elem sz by')
 {px:Option Addr} {m:Nat} {ns:List Value} (S:zaq h px m sz ns) (fx:px=none∨∃b off,px=some ⟨b,off,none⟩) (hroom:n+m≤c):
 ∃h',zal P h .append #[st,st] [.slice (some ⟨b,0,none⟩) n c,.slice px m cx]=some (.slice (some ⟨b,0,none⟩) (n+m) c,h')∧zaW lim h' elem sz b (n+m) c (cs ++ ns)∧za9 b h h':=by
 have gs:=g.shows
 have g0:=g
 obtain⟨h1,h2,h3,h4',h5,rest,h6,h7⟩:=g
 obtain⟨hu,i,z,hi,hz,hzs,hpos,rfl,rfl⟩:=E
 have hfc:firstC h i.size n (.slice (some ⟨b,0,none⟩) n c)=some cs:=gs.firstC (.inr ⟨b,0,rfl⟩)
 have hfn:firstC h i.size m (.slice px m cx)=some ns:=S.firstC fx
 have hns:=S.1
 cases m with
 | zero=>
   have e:ns=[]:=by rw[Nat.zero_mul] at hns; exact List.eq_nil_of_length_eq_zero hns
   subst e
   refine⟨h,?_,by rw[List.append_nil]; exact g0,za9.refl _ _⟩
   rw[zaT hu]
   unfold zaS
   simp only[hu,hi,zlx,hfc,hfn,hz]
   rw[if_pos ⟨hzs,hpos,hns,h1⟩,if_neg (by omega),if_pos hroom]
   rfl
 | succ m'=>
   rw[List.length_append] at h7
   have hns2:ns.length≤rest.length:=by
    have:(n+(m'+ 1)) * i.size≤c * i.size:=Nat.mul_le_mul_right _ hroom
    rw[Nat.add_mul] at this
    omega
   refine⟨h.set b (.cells (cs ++ ns ++ rest.drop ns.length) elem false),?_,⟨by rw[List.length_append,h1,hns,←Nat.add_mul],h2,h3,hroom,h5,rest.drop ns.length,zag _ _ _,?_⟩,zaj _ _ _⟩
   ·rw[zaT hu]
    unfold zaS
    simp only[hu,hi,zlx,hfc,hfn,hz]
    rw[if_pos ⟨hzs,hpos,hns,h1⟩,if_neg (by omega),if_pos hroom]
    have:zas h b (0+n * i.size) ns=some (h.set b (.cells (cs ++ ns ++ rest.drop ns.length) elem false)):=by
     unfold zas
     rw[h6]
     simp only
     rw[if_pos (by rw[List.length_append]; omega),Nat.zero_add,←h1,List.take_left,List.drop_append]
     rw[List.drop_eq_nil_of_le (by omega),List.nil_append,show cs.length+ns.length - cs.length=ns.length by omega]
    rw[this]
   ·rw[List.length_append,List.length_append,List.length_drop]; omega
theorem zrl {P:Program} {h:AH} {t elem:TypeId} {n sz hi:Nat} (hu:P.underlying t=some (.array n elem)) (hi' : (P.info? elem).isSome=true) (hsz:P.cellsOf elem=sz) (hn:n < zak) (b off:Nat) (h0:0 < n) (h3:hi≤n):
 zar P h t (.pointer (some ⟨b,off,none⟩)) none (some (.int .i64 (hi:Int))) none=some (.slice (some ⟨b,off,none⟩) hi n):=by
 unfold zar
 rw[hu]
 unfold aBounds
 simp only[zbO,if_pos h3,hsz]
 rw[if_pos ⟨hi',hn⟩,if_neg (by omega)]
 simp
theorem zAq {P:Program} {h:AH} {st elem:TypeId} {sz by' : Nat} (E:zaZ P st elem sz by') {b n c hi:Nat} (hc:n≤c∧c < zak) (h0:0 < hi) (hn:hi≤n):
 zar P h st (.slice (some ⟨b,0,none⟩) n c) none (some (.int .i64 (hi:Int))) (some (.int .i64 (hi:Int)))=some (.slice (some ⟨b,0,none⟩) hi hi):=by
 obtain⟨hu,i,z,hi',hz,hzs,hpos,rfl,rfl⟩:=E
 unfold zar
 rw[hu]
 unfold aBounds
 simp only[hi',Option.isSome_some,if_true,zbO,if_pos (show hi≤c by omega),if_pos (Nat.le_refl hi)]
 rw[if_neg (by omega),if_pos hc.2,if_neg (by omega)]
 simp
noncomputable def getS (nw:List (List Nat)) (q:Tr3):Option (List Nat):=if q=hole then some (List.replicate 128 0) else match nw[q.1]? with | some s=>if zbk s=q.2.2 then some s else none | none=>none
def okN (l:List Tr3) (m:Nat):Prop:=(∀x∈l,QOk x)∧∀(i:Nat) x,l[i]?= some x→(x≠hole↔i < m)
open Classical in
noncomputable def zbK (nw:List (List Nat)) (want:Nat):List Tr3→List Tr3→Option (List Tr3)
 | [],out=>some out
 | q :: qs,out=>match getS nw q with
   | some s=>if okN (nodeD s) (min 8 (want - out.length)) then zbK nw want qs (out ++ (nodeD s).take (min 8 (want - out.length))) else none
   | none=>none
open Classical in
theorem zdy (nw:List (List Nat)) (want:Nat) (q:Tr3) (qs out:List Tr3):zbK nw want (q :: qs) out=match getS nw q with
 | some s=>if okN (nodeD s) (min 8 (want - out.length)) then zbK nw want qs (out ++ (nodeD s).take (min 8 (want - out.length))) else none
 | none=>none:=rfl
theorem zj7 {nw:List (List Nat)} {want:Nat}:∀{qs out l:List Tr3},zbK nw want qs out=some l→out.length≤want→l.length=min want (out.length+8 * qs.length)
 | [],out,l,h,ho=>by
   simp only[zbK,Option.some.injEq] at h
   subst h
   simp; omega
 | q :: qs,out,l,h,ho=>by
   unfold zbK at h
   split at h
   ·split at h
    ·have:=zj7 h (by rw[List.length_append,List.length_take,zbJ]; omega)
     rw[this,List.length_append,List.length_take,zbJ,List.length_cons]
     omega
    ·cases h
   ·cases h
theorem znf {nw:List (List Nat)} {want:Nat}:∀{qs out l:List Tr3},zbK nw want qs out=some l→(∀x∈out,QOk x∧x≠hole)→∀x∈l,QOk x∧x≠hole
 | [],out,l,h,ho=>by
   simp only[zbK,Option.some.injEq] at h
   subst h
   exact ho
 | q :: qs,out,l,h,ho=>by
   unfold zbK at h
   split at h
   ·split at h
    ·rename_i s _ k
     refine znf h fun x hx=>?_
     rcases List.mem_append.1 hx with hx | hx
     ·exact ho x hx
     ·refine⟨k.1 x (List.mem_of_mem_take hx),?_⟩
      obtain⟨i,hi⟩:=List.mem_iff_getElem?.1 hx
      rw[List.getElem?_take] at hi
      split at hi
      ·rename_i hlt
       exact (k.2 i x hi).2 hlt
      ·cases hi
    ·cases h
   ·cases h
noncomputable def zgs (nw:List (List Nat)):List Tr3→List Nat→Option (List Nat)
 | [],acc=>some acc
 | q :: qs,acc=>match getS nw q with
   | some s=>zgs nw qs (acc ++ s)
   | none=>none
section
variable {K:Xs} {h:AH} {p:Nat} {F:List Nat} {d m:Nat} {W:Nat} {nw:List (List Nat)} {M:List Nat} {st:Nat} {ba:Int}
structure ztL (K:Xs):Prop where
 pGet:K 125=none
 dRead:K 87=none
 dCount:K 83=none
 dHas:K 84=none
 sOf:K 60=none
 sMore:K 86=some (.sum zdF)
 nRead:K 126=none
 qRead:K 95=none
 qRight:K 128=none
 qWidths:K 127=none
 fGet:K 96=none
 fRoom:K 129=none
 bUp:K 124=none
 bLevels:K 92=none
 bNodes:K 93=none
 bText:K 94=none
 bLoad:K 63=none
theorem zDM (kk:ztL K) (B:PO h p F d m W nw M st ba) {q:Tr3} (hq:QOk q):
 Wf Tryz.prog K 125 [.pointer (some ⟨p,0,none⟩),qV q] h fun v h'=>((∃s,getS nw q=some s∧Sec s∧v=.tuple #[.agg (za8 s).toArray,.int .i64 0])∨(getS nw q=none∧v=.tuple #[.agg (za8 (List.replicate 128 0)).toArray,.int .i64 91]))∧PO h' p F d m W nw M st ba∧Fr F h h' F:=by
 obtain⟨Fd,B⟩:=B
 refine (zyy kk.pGet kk.dRead kk.dCount kk.dHas kk.sOf kk.sMore B hq.wf).mono ?_
 rintro v g ⟨P,f,hv⟩
 refine⟨?_,⟨Fd,P⟩,f⟩
 obtain⟨x,y,z⟩:=q
 unfold getS
 rcases hv with ⟨z1,z2,z3,rfl⟩ | ⟨z0,t, -,z3,z4,rfl⟩ | ⟨z0,z2,rfl⟩
 ·simp only at z1 z2 z3
  rw[if_pos (by simp only[hole,Prod.mk.injEq]; omega)]
  exact .inl ⟨_,rfl,zck,rfl⟩
 ·simp only at z0 z3 z4
  rw[Int.toNat_natCast] at z3
  rw[if_neg (by simp only[hole,Prod.mk.injEq]; omega)]
  simp only[z3]
  rw[if_pos (by omega)]
  exact .inl ⟨t,rfl,P.dev.secs t (List.mem_of_getElem? z3),rfl⟩
 ·simp only at z0 z2
  rw[if_neg (by simp only[hole,Prod.mk.injEq]; omega)]
  refine .inr ⟨?_,rfl⟩
  cases e:nw[x]? with
  | none=>simp only[e]
  | some s=>
    simp only[e]
    have:=z2 s (by omega) (by rw[Int.toNat_natCast]; exact e)
    rw[if_neg (by omega)]
theorem zv5:zaZ Tryz.prog 60 42 3 24:=zaG (by kernel_rfl)
theorem zyE {q:Tr3} (k:QOk q):zcp Tryz.prog 42 (.agg #[.int .i64 (q.1:Nat),.int .u64 (q.2.1:Nat),.int .u32 (q.2.2:Nat)])=some [.int .i64 (q.1:Nat),.int .u64 (q.2.1:Nat),.int .u32 (q.2.2:Nat)]:=zBf k.wf.1 k.wf.2.1 k.wf.2.2
theorem ztM (q:Tr3):zaC [.int .i64 (q.1:Nat),.int .u64 (q.2.1:Nat),.int .u32 (q.2.2:Nat)] [.int .i64 0,.int .u64 0,.int .u32 0]=decide (q=hole):=by
 rw[zd7]
 obtain⟨x,y,z⟩:=q
 by_cases e:x=0∧y=0∧z=0
 ·obtain⟨rfl,rfl,rfl⟩:=e
  rfl
 ·rw[decide_eq_false (by simp only; omega),decide_eq_false (by simp only[hole,Prod.mk.injEq]; exact e)]
theorem ztN (kk:ztL K) (B:PO h p F d m W nw M st ba) {pn:Option Addr} {nn cn:Nat} {nodes:List Tr3} (S:zaq h pn nn 3 (zbE nodes)) (hpn:∀a,pn=some a→a.block∉F) (hok:∀q∈nodes,QOk q) (hnn:nn≤1000) {want:Nat} (hw:want≤1000):
 Wf Tryz.prog K 93 [.pointer (some ⟨p,0,none⟩),.slice pn nn cn,.int .i64 (want:Nat)] h fun v h'=>
  ((∃l b,zbK nw want nodes []=some l∧v=.tuple #[.slice (some ⟨b,0,none⟩) l.length want,.int .i64 0]∧zaW h.next h' 42 3 b l.length want (zbE l))∨(zbK nw want nodes []=none∧v=.tuple #[.slice none 0 0,.int .i64 91]))∧PO h' p F d m W nw M st ba∧Fr F h h' F:=by
 have hnl:nn=nodes.length:=by have:=S.1; rw[za0] at this; omega
 have hF:=B.lt
 refine zgl kk.bNodes _ _ _ _ _ h _ ⟨⟨by omega,by omega,by omega,by omega⟩,fun g0 e0=>?_⟩
 have o0:=zaa e0
 have hlz:(List.replicate want ([.int .i64 0,.int .u64 0,.int .u32 0]:List Value)).flatten.length=want * 3:=by simp
 have hg0:zaW h.next g0 42 3 h.next 0 want []:=zaW.make e0 (by rw[Int.toNat_natCast]; exact hlz) (by simp only[zak]; omega)
 refine⟨fun pp n c i k g=>∃(j:Nat) (out:List Tr3),i=j∧j≤nn∧nn - j=k∧pp=some ⟨h.next,0,none⟩∧want=c∧out.length≤want∧zbK nw want nodes []=zbK nw want (nodes.drop j) out∧PO g p F d m W nw M st ba∧Fr F h g F∧zaW h.next g 42 3 h.next n want (zbE out),⟨_,0,[],rfl,Nat.zero_le _,rfl,rfl,(Int.toNat_natCast _).symm,Nat.zero_le _,rfl,B.old o0,o0.fr F,hg0⟩,?_⟩
 rintro k2 g3 p5 n6 c7 i8 ⟨j,out,rfl,hj,rfl,rfl,rfl,hout,hR,B3,f3,G3⟩
 have hn6:n6=out.length:=by have:=G3.1; rw[za0] at this; omega
 subst hn6
 refine⟨fun z=>?_,fun z=>?_⟩
 ·have hjn:j < nodes.length:=by omega
  obtain⟨b9,o10,rfl,hld, -⟩:=(S.fr f3 hpn).getN (i:=j) (by omega)
  rw[zen nodes j hjn] at hld
  have hqo:=hok _ (List.getElem_mem hjn)
  have hdr:nodes.drop j=nodes[j] :: nodes.drop (j+1):=List.drop_eq_getElem_cons hjn
  generalize nodes[j]=q at hld hqo hdr
  rw[hdr,zdy] at hR
  refine zae ⟨by omega,z,_,_,_,by rw[Int.toNat_natCast]; exact hld,fun g14 e14=>?_⟩
  obtain⟨g15,k15,n15,o15,v15⟩:=zaF e14 (vs:=[.int .i64 (q.1:Nat),.int .u64 (q.2.1:Nat),.int .u32 (q.2.2:Nat)]) rfl
  have w15:=v15 F B3.lt
  refine⟨rfl,g15,k15,_,_,_,w15.ld rfl,(zDM kk (B3.old o15) hqo).mono ?_⟩
  rintro v g20 ⟨hv,B20,f20⟩
  have f20':=(f3.trans (o15.fr F)).trans f20
  have G20:=(G3.old o15).fr f20 hF
  rcases hv with ⟨s,hs,hsec,rfl⟩ | ⟨hs,rfl⟩
  rotate_left
  ·refine⟨_,_,rfl,fun g23 e23=>?_⟩
   obtain⟨g24,k24,n24,o24,v24⟩:=zaF e23 (vs:=za8 (List.replicate 128 0)) (by rw[zaw zck]; simp)
   refine⟨zaw zck,g24,k24,fun z=>absurd z (by decide),fun _=>⟨.inr ⟨by rw[hR,hs],rfl⟩,B20.old o24,f20'.trans (o24.fr F)⟩⟩
  rw[hs] at hR
  simp only at hR
  refine⟨_,_,rfl,fun g23 e23=>?_⟩
  obtain⟨g24,k24,n24,o24,v24⟩:=zaF e23 (vs:=za8 s) (by rw[zaw hsec]; simp)
  have w24:=v24 F B20.lt
  refine⟨zaw hsec,g24,k24,fun _=>⟨_,w24.ld (zaw hsec),(zv3 kk.nRead kk.qRead kk.qRight kk.qWidths kk.fGet kk.fRoom hsec).mono ?_⟩,fun z=>absurd rfl z⟩
  rintro v g27 ⟨hv,o27⟩
  have B27:=(B20.old o24).old o27
  have f27:=(f20'.trans (o24.fr F)).trans (o27.fr F)
  have G27:=(G20.old o24).old o27
  rcases hv with ⟨hall,rfl⟩ | ⟨hall,rfl⟩
  rotate_left
  ·refine⟨_,_,rfl,fun g30 e30=>?_⟩
   have hz:(zbE (List.replicate 8 ((0,0,0):Tr3))).length=24:=by rw[za0]; rfl
   obtain⟨g31,k31,n31,o31,v31⟩:=zaF e30 (vs:=zbE (List.replicate 8 (0,0,0))) (by rw[hz]; rfl)
   exact⟨hz,g31,k31,fun z=>absurd z (by decide),fun _=>⟨.inr ⟨by rw[hR,if_neg (fun k=>hall k.1)],rfl⟩,B27.old o31,f27.trans (o31.fr F)⟩⟩
  have hl24:(zbE (nodeD s)).length=24:=by rw[za0,zbJ]
  refine⟨_,_,rfl,fun g30 e30=>?_⟩
  obtain⟨g31,k31,n31,o31,v31⟩:=zaF e30 (vs:=zbE (nodeD s)) (by rw[hl24]; rfl)
  have w31:=v31 F B27.lt
  have B31:=B27.old o31
  have f31:=f27.trans (o31.fr F)
  have G31:=G27.old o31
  refine⟨hl24,g31,k31,fun _ i32 e32 i33 e33=>?_,fun z=>absurd rfl z⟩
  have e32:=zaJ e32 (by omega) (by omega)
  have e33:i33=((min 8 (want - out.length):Nat):Int):=by rw[e33,e32]; split <;> omega
  subst e33
  clear e32
  have hmw:out.length+min 8 (want - out.length)≤want:=by omega
  have hmm:min 8 (want - out.length)≤8:=Nat.min_le_left _ _
  have hND:=zbJ s
  generalize min 8 (want - out.length)=mm at hR hmw hmm
  refine⟨_,w31.ld hl24,fun i k g=>∃u:Nat,i=u∧u≤8∧8 - u=k∧Old g31 g∧∀(y:Nat) x,y < u→(nodeD s)[y]?= some x→(x≠hole↔y < mm),⟨_,0,rfl,by decide,rfl,Old.refl _,fun y x hy=>absurd hy (Nat.not_lt_zero _)⟩,?_⟩
  rintro k36 g37 i39 ⟨u,rfl,hu,rfl,o37,hlow⟩
  refine⟨fun y=>?_,fun y=>?_⟩
  ·have hu8:u < (nodeD s).length:=by omega
   have hg2:=zen (nodeD s) u hu8
   have hxe:(nodeD s)[u]?= some (nodeD s)[u]:=List.getElem?_eq_getElem hu8
   have hok2:=hall _ (List.getElem_mem hu8)
   generalize (nodeD s)[u]=x at hg2 hxe hok2
   refine⟨by omega,y,((x.1:Nat):Int),((x.2.1:Nat):Int),((x.2.2:Nat):Int),by rw[Int.toNat_natCast]; exact hg2,fun g43 e43=>?_⟩
   obtain⟨g44,k44,n44,o44,v44⟩:=zaF e43 (vs:=[.int .i64 (x.1:Nat),.int .u64 (x.2.1:Nat),.int .u32 (x.2.2:Nat)]) rfl
   have w44:=v44 [] (fun c hc=>by cases hc)
   have o44':=o37.trans o44
   have next:(x≠hole↔u < mm)→∀i50:Int,i50=IntKind.wrap .i64 ((u:Int)+1)→∃j38,j38 < 8 - u∧∃w:Nat,i50=w∧w≤8∧8 - w=j38∧Old g31 g44∧∀(y:Nat) x,y < w→(nodeD s)[y]?= some x→(x≠hole↔y < mm):=by
    intro hx i50 e50
    have e50:=zaJ e50 (by omega) (by omega)
    refine⟨_,by omega,u+1,by rw[e50]; rfl,by omega,rfl,o44',fun y' x' hy hx'=>?_⟩
    rcases Nat.lt_or_ge y' u with q1 | q1
    ·exact hlow y' x' q1 hx'
    ·obtain rfl:y'= u:=by omega
     rw[hxe] at hx'
     cases hx'
     exact hx
   have bad:¬(x≠hole↔u < mm)→((∃l b,zbK nw want nodes []=some l∧Value.tuple #[.slice none 0 0,.int .i64 91]=.tuple #[.slice (some ⟨b,0,none⟩) l.length want,.int .i64 0]∧zaW h.next g44 42 3 b l.length want (zbE l))∨(zbK nw want nodes []=none∧Value.tuple #[.slice none 0 0,.int .i64 91]=.tuple #[.slice none 0 0,.int .i64 91]))∧PO g44 p F d m W nw M st ba∧Fr F h g44 F:=
    fun hx=>⟨.inr ⟨by rw[hR,if_neg (fun k=>hx (k.2 u x hxe))],rfl⟩,B31.old o44',f31.trans (o44'.fr F)⟩
   refine⟨rfl,g44,k44,_,_,_,w44.ld rfl,_,_,zyE hok2,ztC,fun e=>⟨fun q=>bad ?_,fun q=>next ?_⟩,fun e=>⟨fun q=>next ?_,fun q=>bad ?_⟩⟩ <;> rw[ztM] at e
   ·have e:=of_decide_eq_true e
    exact fun k=>k.2 (by omega) e
   ·have e:=of_decide_eq_true e
    exact⟨fun k=>absurd e k,fun k=>absurd k (by omega)⟩
   ·have e:=of_decide_eq_false e
    exact⟨fun _=>by omega,fun _=>e⟩
   ·have e:=of_decide_eq_false e
    exact fun k=>q (by have:=k.1 e; omega)
  ·have hu8:u=8:=by omega
   subst hu8
   have okk:okN (nodeD s) mm:=⟨hall,fun y x hx=>hlow y x (by have:=(List.getElem?_eq_some_iff.1 hx).1; omega) hx⟩
   rw[if_pos okk] at hR
   have w37:=w31.old o37
   have ks:=zrl (h:=g37) (t:=192) Tryz.underlying192 (by simp) (sz:=3) (by simp) (by decide) g27.next 0 (by decide) hmm
   have Sx:zaq g37 (some ⟨g27.next,0,none⟩) mm 3 (zbE ((nodeD s).take mm)):=⟨by rw[za0,List.length_take]; omega,.inr ⟨_,0,_,_,_,rfl,w37.2.1,w37.1,by rw[hl24]; omega,by rw[List.drop_zero,zis]⟩⟩
   obtain⟨g58,k58,G58,nr58⟩:=(G31.old o37).pushS (cx:=8) zv5 Sx (.inr ⟨_,_,rfl⟩) hmw
   refine⟨_,_,_,ks,_,_,_,g58,k58,fun i59 e59=>?_⟩
   have e59:=zaJ e59 (by omega) (by omega)
   rw[←zfA] at G58
   refine⟨_,by omega,j+1,_,by rw[e59]; rfl,by omega,rfl,rfl,rfl,?_,hR,(B31.old o37).nearN nr58 (fun z=>absurd (hF _ z) (Nat.lt_irrefl _)),(f31.trans (o37.fr F)).near_new nr58 (Nat.le_refl _),G58⟩
   rw[List.length_append,List.length_take]
   omega
 ·have hjn:j=nodes.length:=by omega
  subst hjn
  rw[List.drop_length] at hR
  exact⟨.inl ⟨out,h.next,hR,rfl,G3⟩,B3,f3⟩
theorem zeq (nw:List (List Nat)) (q:Tr3) (qs:List Tr3) (acc:List Nat):zgs nw (q :: qs) acc=match getS nw q with
 | some s=>zgs nw qs (acc ++ s)
 | none=>none:=rfl
theorem zCB:zaZ Tryz.prog 53 5 1 1:=zaG (by kernel_rfl)
def zoT (nw:List (List Nat)) (level:List Tr3) (n:Nat) (t:List Nat):Prop:=∃al,zgs nw level []=some al∧(∀(i:Nat) x,n≤i→al[i]?= some x→x=0)∧t=al.take n
theorem zv6 (kk:ztL K) (B:PO h p F d m W nw M st ba) {pn:Option Addr} {nn cn:Nat} {level:List Tr3} (S:zaq h pn nn 3 (zbE level)) (hpn:∀a,pn=some a→a.block∉F) (hok:∀q∈level,QOk q) (hnn:nn≤1000) {n:Nat} (hn1:1≤n) (hn2:n≤128 * nn):
 Wf Tryz.prog K 94 [.pointer (some ⟨p,0,none⟩),.slice pn nn cn,.int .i64 (n:Nat)] h fun v h'=>
  ((∃t b,zoT nw level n t∧v=.tuple #[.slice (some ⟨b,0,none⟩) n n,.int .i64 0]∧zaq h' (some ⟨b,0,none⟩) n 1 (zav .u8 t)∧h.next≤b)∨((¬∃t,zoT nw level n t)∧v=.tuple #[.slice none 0 0,.int .i64 91]))∧PO h' p F d m W nw M st ba∧Fr F h h' F:=by
 have hnl:nn=level.length:=by have:=S.1; rw[za0] at this; omega
 have hF:=B.lt
 refine zg9 kk.bText _ _ _ _ _ h _ fun i0 e0'=>⟨?_,fun g1 e1=>?_⟩
 ·have e0:=zaJ e0' (by omega) (by omega)
  exact⟨by omega,by omega,by omega,by omega⟩
 have e0:=zaJ e0' (by omega) (by omega)
 have e0:i0=((128 * nn:Nat):Int):=by omega
 subst e0
 clear e0'
 have o1:=zaa e1
 have hg0:zaW h.next g1 5 1 h.next 0 (128 * nn) []:=zaW.make e1 (by rw[Int.toNat_natCast]; simp) (by simp only[zak]; omega)
 refine⟨fun pp n' c i k g=>∃(j:Nat) (acc:List Nat),i=j∧j≤nn∧nn - j=k∧pp=some ⟨h.next,0,none⟩∧c=128 * nn∧acc.length=128 * j∧zgs nw level []=zgs nw (level.drop j) acc∧PO g p F d m W nw M st ba∧Fr F h g F∧zaW h.next g 5 1 h.next n' (128 * nn) (zav .u8 acc),⟨_,0,[],rfl,Nat.zero_le _,rfl,rfl,Int.toNat_natCast _,rfl,rfl,B.old o1,o1.fr F,hg0⟩,?_⟩
 rintro k3 g4 p6 n7 c8 i9 ⟨j,acc,rfl,hj,rfl,rfl,rfl,hacc,hR,B4,f4,G4⟩
 have hn7:n7=128 * j:=by have:=G4.1; rw[zam] at this; omega
 subst hn7
 refine⟨fun z=>?_,fun z=>?_⟩
 ·have hjn:j < level.length:=by omega
  obtain⟨b9,o10,rfl,hld, -⟩:=(S.fr f4 hpn).getN (i:=j) (by omega)
  rw[zen level j hjn] at hld
  have hqo:=hok _ (List.getElem_mem hjn)
  have hdr:level.drop j=level[j] :: level.drop (j+1):=List.drop_eq_getElem_cons hjn
  generalize level[j]=q at hld hqo hdr
  rw[hdr,zeq] at hR
  refine zae ⟨by omega,z,_,_,_,by rw[Int.toNat_natCast]; exact hld,fun g15 e15=>?_⟩
  obtain⟨g16,k16,n16,o16,v16⟩:=zaF e15 (vs:=[.int .i64 (q.1:Nat),.int .u64 (q.2.1:Nat),.int .u32 (q.2.2:Nat)]) rfl
  have w16:=v16 F B4.lt
  refine⟨rfl,g16,k16,_,_,_,w16.ld rfl,(zDM kk (B4.old o16) hqo).mono ?_⟩
  rintro v g21 ⟨hv,B21,f21⟩
  have f21':=(f4.trans (o16.fr F)).trans f21
  have G21:=(G4.old o16).fr f21 hF
  rcases hv with ⟨s,hs,hsec,rfl⟩ | ⟨hs,rfl⟩
  rotate_left
  ·refine⟨_,_,rfl,fun g24 e24=>?_⟩
   obtain⟨g25,k25,n25,o25,v25⟩:=zaF e24 (vs:=za8 (List.replicate 128 0)) (by rw[zaw zck]; simp)
   refine⟨zaw zck,g25,k25,fun z=>absurd z (by decide),fun _=>⟨.inr ⟨?_,rfl⟩,B21.old o25,f21'.trans (o25.fr F)⟩⟩
   rintro⟨t,al,ha, -⟩
   rw[hR,hs] at ha
   cases ha
  rw[hs] at hR
  simp only at hR
  refine⟨_,_,rfl,fun g24 e24=>?_⟩
  obtain⟨g25,k25,n25,o25,v25⟩:=zaF e24 (vs:=za8 s) (by rw[zaw hsec]; simp)
  have w25:=v25 F B21.lt
  have Sx:zaq g25 (some ⟨g21.next,0,none⟩) 128 1 (zav .u8 s):=⟨by rw[zam,hsec.1],.inr ⟨_,0,_,_,_,rfl,w25.2.1,w25.1,by rw[zaw hsec]; decide,by rw[List.drop_zero,List.take_of_length_le (by rw[zaw hsec]; decide)]; rfl⟩⟩
  obtain⟨g32,k32,G32,nr32⟩:=(G21.old o25).pushS (cx:=128) zCB Sx (.inr ⟨_,_,rfl⟩) (by omega)
  refine⟨zaw hsec,g25,k25,fun _=>⟨_,_,_,zeo _ _,_,_,_,g32,k32,fun i33 e33=>?_⟩,fun z=>absurd rfl z⟩
  have e33:=zaJ e33 (by omega) (by omega)
  rw[←zaI] at G32
  exact⟨_,by omega,j+1,_,by rw[e33]; rfl,by omega,rfl,rfl,rfl,by rw[List.length_append,hacc,hsec.1]; omega,hR,(B21.old o25).nearN nr32 (fun z=>absurd (hF _ z) (Nat.lt_irrefl _)),(f21'.trans (o25.fr F)).near_new nr32 (Nat.le_refl _),G32⟩
 ·have hjn:j=nn:=by omega
  subst hjn
  rw[hnl,List.drop_length] at hR
  simp only[zgs] at hR
  have hroom:=G4.2.2.2.2.1
  obtain⟨off2,c2,k2,hoff,C2⟩:=zdD zCB (by simp) (h:=g4) (b:=h.next) (off:=0) (lo:=n) (.inl ⟨Nat.le_refl (128 * j),hroom⟩) hn2
  have hS:=G4.shows.cut (lo:=n) (off2:=off2) hn2 hoff
  refine⟨_,_,_,k2,fun i k g=>∃u:Nat,i=u∧u≤128 * j - n∧128 * j - n - u=k∧g4=g∧∀(y:Nat) x,y < u→acc[n+y]?= some x→x=0,⟨_,0,rfl,Nat.zero_le _,rfl,rfl,fun y x hy=>absurd hy (Nat.not_lt_zero _)⟩,?_⟩
  rintro k38 g39 i41 ⟨u,rfl,hu,rfl,rfl,hz⟩
  refine⟨fun y=>?_,fun y=>?_⟩
  ·have hul:u < 128 * j - n:=by omega
   obtain⟨b42,o43,hp,hld⟩:=hS.get hul
   simp only[Option.some.injEq,Addr.mk.injEq,and_true] at hp
   obtain⟨rfl,rfl⟩:=hp
   have hal:n+u < acc.length:=by omega
   have hce:(List.drop (n * 1) (zav .u8 acc))[u]?= some (.int .u8 (acc[n+u]:Nat)):=by
    rw[Nat.mul_one,List.getElem?_drop,zbN hal]
   rw[hce] at hld
   have hae:acc[n+u]?= some acc[n+u]:=List.getElem?_eq_getElem hal
   generalize acc[n+u]=x at hld hae
   refine zae ⟨by omega,y,_,by rw[Int.toNat_natCast,Nat.mul_one]; exact hld,fun e i45 e45=>?_,fun e=>⟨.inr ⟨?_,rfl⟩,B4,f4⟩⟩
   ·have e45:=zaJ e45 (by omega) (by omega)
    refine⟨_,by omega,u+1,by rw[e45]; rfl,by omega,rfl,rfl,fun y' x' hy hx'=>?_⟩
    rcases Nat.lt_or_ge y' u with q1 | q1
    ·exact hz y' x' q1 hx'
    ·obtain rfl:y'= u:=by omega
     rw[hae] at hx'
     cases hx'
     omega
   ·rintro⟨t,al,ha,hzero, -⟩
    rw[hR] at ha
    cases ha
    have:=hzero (n+u) x (by omega) hae
    omega
  ·have hu8:u=128 * j - n:=by omega
   subst hu8
   have hlt:n≤128 * j:=hn2
   refine⟨_,_,_,zAq zCB ⟨Nat.le_refl _,hroom⟩ (by omega) hn2,.inl ⟨acc.take n,h.next,⟨acc,hR,fun y x hy hx=>?_,rfl⟩,rfl,?_,Nat.le_refl _⟩,B4,f4⟩
   ·have:=(List.getElem?_eq_some_iff.1 hx).1
    exact hz (y - n) x (by omega) (by rw[show n+(y - n)=y by omega]; exact hx)
   ·obtain⟨s1,s2⟩:=G4.shows
    rcases s2 with z0 | ⟨b,off,al,e,ro,hp,hb,hg,hl,hcs⟩
    ·omega
    ·refine⟨by rw[zam,List.length_take]; omega,.inr ⟨b,off,al,e,ro,hp,hb,hg,by omega,?_⟩⟩
     have e1:zav .u8 (acc.take n)=(zav .u8 acc).take n:=by unfold zav; rw[List.map_take]
     rw[e1,←hcs,List.take_take]
     congr 1
     omega
noncomputable def downR (nw:List (List Nat)):List Nat→List Tr3→List Tr3→Option (List Tr3×List Tr3)
 | [],lv,all=>some (lv,all)
 | s :: ss,lv,all=>match zbK nw s lv [] with | some l=>downR nw ss l (all ++ l) | none=>none
theorem zer (nw:List (List Nat)) (s:Nat) (ss:List Nat) (lv all:List Tr3):downR nw (s :: ss) lv all=match zbK nw s lv [] with | some l=>downR nw ss l (all ++ l) | none=>none:=rfl
def zeB (nw:List (List Nat)) (root:Tr3) (n:Nat) (t:List Nat) (all:List Tr3):Prop:=∃lv,downR nw (levelsL n).dropLast.reverse [root] [root]=some (lv,all)∧zoT nw lv n t
theorem zng:∀(k r a b:Nat),(k :: ups k)[r]?= some a→(k :: ups k)[r+1]?= some b→b=(a+7) / 8
 | k,0,a,b,h1,h2=>by
   simp only[List.getElem?_cons_zero,Option.some.injEq,List.getElem?_cons_succ] at h1 h2
   subst h1
   by_cases hk:1 < k
   ·rw[zbX hk] at h2
    simp only[List.getElem?_cons_zero,Option.some.injEq] at h2
    exact h2.symm
   ·rw[zbR hk] at h2
    simp at h2
 | k,r+1,a,b,h1,h2=>by
   by_cases hk:1 < k
   ·rw[zbX hk] at h1 h2
    rw[List.getElem?_cons_succ] at h1 h2
    exact zng _ r a b h1 h2
   ·rw[zbR hk] at h1
    simp at h1
theorem zp6:∀(d k:Nat),k≤d→1≤k→(k :: ups k).getLast?= some 1
 | 0,k,h1,h2=>by omega
 | d+1,k,h1,h2=>by
   by_cases hk:1 < k
   ·rw[zbX hk,List.getLast?_cons_cons]
    exact zp6 d _ (by omega) (by omega)
   ·rw[zbR hk]
    simp
    omega
theorem zxd:∀(d k:Nat),k≤d→∀x∈k :: ups k,x≤k
 | 0,k,h1,x,hx=>by
   obtain rfl:k=0:=by omega
   rw[zbR (by omega)] at hx
   simp at hx
   omega
 | d+1,k,h1,x,hx=>by
   by_cases hk:1 < k
   ·rw[zbX hk] at hx
    rcases List.mem_cons.1 hx with e | hx
    ·omega
    ·have:=zxd d _ (by omega) x hx
     omega
   ·rw[zbR hk] at hx
    simp at hx
    omega
theorem zdk {n:Nat} (h1:1≤n) (h2:n≤65535):levelsL (n:Int)=((n+127) / 128) :: ups ((n+127) / 128):=by
 unfold levelsL
 rw[if_neg (by omega),Int.toNat_natCast]
theorem zv7 (kk:ztL K) (B:PO h p F d m W nw M st ba) {root:Tr3} (hq:QOk root) (hne:root≠hole) {n:Nat} (hn1:1≤n) (hn2:n≤65535):
 Wf Tryz.prog K 63 [.pointer (some ⟨p,0,none⟩),qV root,.int .i64 (n:Nat)] h fun v h'=>
  ((∃t all b pa na ca,zeB nw root n t all∧v=.tuple #[.slice (some ⟨b,0,none⟩) n n,.slice pa na ca,.int .i64 0]∧zaq h' (some ⟨b,0,none⟩) n 1 (zav .u8 t)∧h.next≤b∧zbe h.next h' 42 3 pa na ca (zbE all))∨((¬∃t all,zeB nw root n t all)∧v=.tuple #[.slice none 0 0,.slice none 0 0,.int .i64 91]))∧PO h' p F d m W nw M st ba∧Fr F h h' F:=by
 have hF:=B.lt
 refine zmS kk.bLoad _ _ _ _ _ h _ fun g0 e0=>?_
 have o0:=zaa e0
 have n0:=zab e0
 have w0:=zeZ e0 B.lt
 refine (zj4 kk.bLevels kk.bUp n g0).mono ?_
 rintro _ g2 ⟨p3,n4,c5,rfl,GL,o2⟩
 have hLL:=zdk hn1 hn2
 have hlen0:n4=(levelsL n).length:=by have:=GL.1; rw[zam] at this; omega
 have hch:∀(r a b:Nat),(levelsL n)[r]?= some a→(levelsL n)[r+1]?= some b→b=(a+7) / 8:=fun r a b=>by rw[hLL]; exact zng _ r a b
 have hla:(levelsL n).getLast?= some 1:=by rw[hLL]; exact zp6 _ _ (Nat.le_refl _) (by omega)
 have hle:∀x∈levelsL n,x≤512:=fun x hx=>by rw[hLL] at hx; have:=zxd _ _ (Nat.le_refl _) x hx; omega
 have hfi:(levelsL n)[0]?= some ((n+127) / 128):=by rw[hLL]; rfl
 have hsl:=zj6 n
 have hsum:=zj5 n
 unfold zeB
 generalize levelsL (n:Int)=LL at GL hlen0 hch hla hle hfi hsl hsum
 have hlen1:1≤LL.length:=(List.getElem?_eq_some_iff.1 hfi).1
 refine⟨_,_,_,rfl,fun z=>absurd z (by omega),fun _=>?_⟩
 have w2:=w0.old o2
 refine⟨_,_,_,w2.ld rfl,_,_,zyE hq,ztC,fun e=>?_,fun _=>?_⟩
 ·rw[ztM] at e
  exact absurd (of_decide_eq_true e) hne
 refine⟨_,_,_,w2.ld rfl,fun g14 e14=>⟨_,_,_,(w2.old (zaa e14)).ld rfl,fun g18 e18 i19 e19=>?_⟩⟩
 have o14:=zaa e14
 have n14:=zab e14
 have o18:=zaa e18
 have n18:=zab e18
 have l2:=o2.1
 have e19:=zaJ e19 (by omega) (by omega)
 have B18:=(((B.old o0).old o2).old o14).old o18
 have f18:Fr F h g18 F:=(((o0.trans o2).trans o14).trans o18).fr F
 have GL18:=((GL.old o14).old o18).weak (lim':=h.next) (by omega)
 have hF2:∀c∈F,c < g2.next:=fun c hc=>by have:=hF c hc; omega
 have Slv:zaq g18 (some ⟨g2.next,0,none⟩) 1 3 (zbE [root]):=(zbe.lit (lim:=g2.next) e14 (sz:=3) (n:=1) (cs:=zbE [root]) rfl (Nat.le_refl _)).shows.old o18
 have Gall:zbe h.next g18 42 3 (some ⟨g14.next,0,none⟩) 1 1 (zbE [root]):=zbe.lit e18 rfl (by omega)
 refine⟨fun p24 n25 c26 p27 n28 c29 i30 k g=>∃(r:Nat) (lv all:List Tr3),i30=(r:Int) - 1∧r=k∧r+1≤LL.length∧downR nw LL.dropLast.reverse [root] [root]=downR nw (LL.take r).reverse lv all∧LL[r]?= some lv.length∧(∀x∈lv,QOk x)∧zaq g p24 n25 3 (zbE lv)∧(∀a,p24=some a→a.block∉F∧h.next≤a.block)∧zbe h.next g 42 3 p27 n28 c29 (zbE all)∧
  (∀a b,p24=some a→p27=some b→a.block≠b.block)∧all.length+(LL.take r).sum≤LL.sum+1∧zbe h.next g 3 1 p3 n4 c5 (zav .i64 LL)∧(∀a b,p3=some a→p27=some b→a.block≠b.block)∧PO g p F d m W nw M st ba∧Fr F h g F,
  ⟨_,LL.length - 1,[root],[root],by rw[e19]; omega,rfl,by omega,by rw[List.dropLast_eq_take],?_,fun x hx=>by rw[List.mem_singleton.1 hx]; exact hq,Slv,fun a e=>?_,Gall,fun a b e1 e2=>?_,?_,GL18,fun a b e1 e2=>?_,B18,f18⟩,?_⟩
 ·rw[List.getLast?_eq_getElem?] at hla
  exact hla
 ·cases e
  exact⟨fun z=>absurd (hF2 _ z) (Nat.lt_irrefl _),by show h.next≤g2.next; omega⟩
 ·cases e1
  cases e2
  show g2.next≠g14.next
  omega
 ·have:=zcI LL (LL.length - 1)
  simp only[List.length_cons,List.length_nil]
  omega
 ·cases e2
  have:=(GL.block e1).2
  show a.block≠g14.next
  omega
 rintro k21 g22 p24 n25 c26 p27 n28 c29 i30 ⟨r,lv,all,rfl,rfl,hr,hD,hlr,hok,Slv,hp24,Gall,hdis,htot,GL22,hdis3,B22,f22⟩
 have hn25:n25=lv.length:=by have:=Slv.1; rw[za0] at this; omega
 have hlv512:=hle _ (List.mem_of_getElem? hlr)
 have hn28:n28=all.length:=by have:=Gall.1; rw[za0] at this; omega
 refine⟨fun z=>?_,fun z=>?_⟩
 ·obtain⟨r',rfl⟩:∃r',r=r'+ 1:=⟨r - 1,by omega⟩
  have hr' : r' < LL.length:=by omega
  obtain⟨b31,o32,hp3,hld⟩:=GL22.shows.get (i:=r') (by omega)
  rw[zbN hr'] at hld
  have hse:LL[r']?= some LL[r']:=List.getElem?_eq_getElem hr'
  have htk:LL.take (r'+ 1)=LL.take r' ++ [LL[r']]:=List.take_succ_eq_append_getElem hr'
  have hst:=zhu hr'
  have hs512:=hle _ (List.getElem_mem hr')
  have hcc:=hch r' _ _ hse hlr
  generalize LL[r']=s at hld hse htk hst hs512 hcc
  rw[htk,List.reverse_append,show [s].reverse ++ (LL.take r').reverse=s :: (LL.take r').reverse from rfl,zer] at hD
  subst hp3
  refine zae ⟨z,by omega,_,by rw[show ((r'+ 1:Nat):Int) - 1=(r' : Int) by omega,Int.toNat_natCast,Nat.mul_one]; exact hld,(ztN kk B22 Slv (fun a e=>(hp24 a e).1) hok (by omega) (want:=s) (by omega)).mono ?_⟩
  rintro v g35 ⟨hv,B35,f35⟩
  rcases hv with ⟨l,b,hl,rfl,GC⟩ | ⟨hl,rfl⟩
  rotate_left
  ·refine⟨_,_,_,_,rfl,fun z=>absurd z (by decide),fun _=>⟨.inr ⟨?_,rfl⟩,B35,f22.trans f35⟩⟩
   rintro⟨t,all',lv',hd, -⟩
   rw[hD,hl] at hd
   cases hd
  rw[hl] at hD
  simp only at hD
  have hll:l.length=s:=by
   have:=zj7 hl (Nat.zero_le _)
   rw[this]
   simp only[List.length_nil]
   omega
  have hlok:=znf hl (fun x hx=>by cases hx)
  have hGC:=GC
  obtain⟨-,hb1,hb2, -⟩:=GC
  have Gall35:=Gall.fr f35 hF
  have GL35:=GL22.fr f35 hF
  obtain⟨p40,c42,g43,k43,G43,ob43,ap43, -⟩:=Gall35.append zv5 (by have:=f22.1; have:=f35.1; omega) (x:=.slice (some ⟨b,0,none⟩) l.length s) (m:=l.length) rfl (hGC.shows.firstC (.inr ⟨b,0,rfl⟩)) hGC.shows.1 (by unfold zaE; omega) (by omega) ⟨_,zv5.1⟩
  have wh:p40=p27∨∃b',p40=some ⟨b',0,none⟩∧g35.next≤b':=by
   have hu:=zv5.1
   have e:=k43
   rw[zaT hu] at e
   unfold zaS at e
   simp only[hu] at e
   repeat' split at e
   all_goals first
    | (simp only[Option.some.injEq,Prod.mk.injEq,Value.slice.injEq] at e
       obtain⟨⟨rfl, -, -⟩, -⟩:=e
       first | exact .inl rfl | exact .inr ⟨_,rfl,Nat.le_refl _⟩)
    | cases e
  have hb27:∀a,p27=some a→a.block < g22.next:=fun a e=>(Gall.block e).2
  have ap:∀c,c < g35.next→(∀a,p27=some a→a.block≠c)→g43.get c=g35.get c:=fun c hc ha=>ap43 c hc (by
   cases hp:p27 with
   | none=>trivial
   | some a=>exact ha a hp)
  have hb27' : ∀a,p27=some a→h.next≤a.block:=fun a e=>(Gall.block e).1
  refine⟨_,_,_,_,rfl,fun _=>⟨p40,_,c42,g43,k43,fun i44 e44=>?_⟩,fun z=>absurd rfl z⟩
  have e44:=zaJ e44 (by omega) (by omega)
  rw[←zfA] at G43
  refine⟨r',by omega,r',l,all ++ l,by rw[e44]; omega,rfl,by omega,hD,by rw[hll]; exact hse,fun x hx=>(hlok x hx).1,?_,fun a e=>?_,G43,fun a b' e1 e2=>?_,by rw[List.length_append,hll]; omega,?_,fun a b' e1 e2=>?_,B35.imp fun Fd P=>P.keep ob43.1 fun c hc=>ob43.2 c (hF c hc),⟨Nat.le_trans (f22.trans f35).1 ob43.1,fun c hc hn=>by rw[ob43.2 c hc,(f22.trans f35).2.1 c hc hn],fun c hc=>.inl hc⟩⟩
  ·have S:=hGC.shows
   refine⟨S.1,S.2.imp id ?_⟩
   rintro⟨b',off,al,ty,ro,e,q1,q2,q3,q4⟩
   cases e
   exact⟨_,_,al,ty,ro,rfl,Nat.lt_of_lt_of_le q1 ob43.1,by rw[ap _ q1 (fun a e=>by have:=hb27 a e; omega)]; exact q2,q3,q4⟩
  ·cases e
   exact⟨fun z=>absurd (hF _ z) (by have:=f22.1; simp only; omega),by have:=f22.1; simp only; omega⟩
  ·cases e1
   rcases wh with q | ⟨b'',q,hb⟩
   ·rw[q] at e2
    have:=hb27 _ e2
    simp only
    omega
   ·rw[q] at e2
    cases e2
    simp only
    omega
  ·refine⟨GL35.1,GL35.2.imp id ?_⟩
   rintro⟨b',e,q1,q2,q3,q4⟩
   have hne' : ∀a,p27=some a→a.block≠b':=fun a ea=>fun z=>hdis3 _ a e ea (by simp only; omega)
   exact⟨b',e,q1,Nat.lt_of_lt_of_le q2 ob43.1,by rw[ap _ q2 hne']; exact q3,q4⟩
  ·rcases wh with q | ⟨b'',q,hb⟩
   ·rw[q] at e2
    exact hdis3 a b' e1 e2
   ·rw[q] at e2
    cases e2
    have:=(GL35.block e1).2
    simp only
    omega
 ·obtain rfl:r=0:=by omega
  rw[hfi] at hlr
  simp only[Option.some.injEq] at hlr
  rw[List.take_zero,List.reverse_nil] at hD
  simp only[downR] at hD
  refine (zv6 kk B22 Slv (fun a e=>(hp24 a e).1) hok (by omega) hn1 (by omega)).mono ?_
  rintro v g46 ⟨hv,B46,f46⟩
  rcases hv with ⟨t,b,ht,rfl,St,hb⟩ | ⟨ht,rfl⟩
  ·exact⟨_,_,_,_,rfl,fun _=>⟨.inl ⟨t,all,b,p27,n28,c29,⟨lv,hD,ht⟩,rfl,St,by have:=f22.1; omega,Gall.fr f46 hF⟩,B46,f22.trans f46⟩,fun z=>absurd rfl z⟩
  ·refine⟨_,_,_,_,rfl,fun z=>absurd z (by decide),fun _=>⟨.inr ⟨?_,rfl⟩,B46,f22.trans f46⟩⟩
   rintro⟨t,all',lv',hd,ht'⟩
   rw[hD] at hd
   cases hd
   exact ht ⟨t,ht'⟩
end
end Go.Am
