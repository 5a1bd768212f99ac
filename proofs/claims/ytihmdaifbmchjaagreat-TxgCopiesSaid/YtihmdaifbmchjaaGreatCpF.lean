/-
  WHAT WAS SAVED IS LOADED: plain, no program in sight.
-/
import Derived.Test.YtihmdaifbmchjaaGreatCpC
import Derived.Test.YtihmdaifbmchjaaGreatCpE
set_option linter.unusedVariables false
set_option linter.unusedSimpArgs false
set_option maxRecDepth 100000
namespace Go.Am
open Go.Proofs
theorem zyJ:∀(as' : List Nat) (nw:List (List Nat)) (ss:List (List Nat)) (a:Nat),a∉as'→(wr nw as' ss)[a]?= nw[a]?
 | [],nw,ss,a,h=>by simp[wr]
 | x :: xs,nw,[],a,h=>by simp[wr]
 | x :: xs,nw,s :: ss,a,h=>by
   show (wr (nw.set x s) xs ss)[a]?= _
   rw[zyJ xs _ ss a (fun q=>h (List.mem_cons_of_mem _ q)),List.getElem?_set,if_neg (fun e=>h (by rw[e]; exact List.mem_cons_self))]
theorem zt2:∀(as' : List Nat) (nw:List (List Nat)) (ss:List (List Nat)) (k a:Nat) (s:List Nat),as'.Nodup→(∀x∈as',x < nw.length)→as'[k]?= some a→ss[k]?= some s→(wr nw as' ss)[a]?= some s
 | [],nw,ss,k,a,s,hn,hl,ha,hs=>by simp at ha
 | x :: xs,nw,[],k,a,s,hn,hl,ha,hs=>by simp at hs
 | x :: xs,nw,t :: ss,0,a,s,hn,hl,ha,hs=>by
   simp only[List.getElem?_cons_zero,Option.some.injEq] at ha hs
   subst ha
   subst hs
   show (wr (nw.set x t) xs ss)[x]?= _
   rw[zyJ xs _ ss x (List.nodup_cons.1 hn).1,List.getElem?_set,if_pos rfl,if_pos (hl x List.mem_cons_self)]
 | x :: xs,nw,t :: ss,k+1,a,s,hn,hl,ha,hs=>by
   simp only[List.getElem?_cons_succ] at ha hs
   show (wr (nw.set x t) xs ss)[a]?= _
   exact zt2 xs (nw.set x t) ss k a s (List.nodup_cons.1 hn).2 (fun y hy=>by rw[List.length_set]; exact hl y (List.mem_cons_of_mem _ hy)) ha hs
theorem zgu {nw nw' : List (List Nat)} {q:Tr3} (h:nw'[q.1]?= nw[q.1]?):getS nw' q=getS nw q:=by
 unfold getS
 rw[h]
theorem zoX {nw:List (List Nat)} {a st:Nat} {s:List Nat} (h4:4≤a) (h:nw[a]?= some s):getS nw (a,st,zbk s)=some s:=by
 unfold getS
 rw[if_neg (fun e=>by simp only[hole,Prod.mk.injEq] at e; omega)]
 simp only[h,if_true]
theorem zd9 {nw nw' : List (List Nat)} {want:Nat}:∀{qs out:List Tr3},(∀q∈qs,getS nw' q=getS nw q)→zbK nw' want qs out=zbK nw want qs out
 | [],out,h=>rfl
 | q :: qs,out,h=>by
   rw[zdy,zdy,h q List.mem_cons_self]
   cases getS nw q with
   | none=>rfl
   | some s=>
     simp only
     rw[zd9 fun q hq=>h q (List.mem_cons_of_mem _ hq)]
theorem ziI {nw nw' : List (List Nat)}:∀{qs:List Tr3} {acc:List Nat},(∀q∈qs,getS nw' q=getS nw q)→zgs nw' qs acc=zgs nw qs acc
 | [],acc,h=>rfl
 | q :: qs,acc,h=>by
   rw[zeq,zeq,h q List.mem_cons_self]
   cases getS nw q with
   | none=>rfl
   | some s=>exact ziI fun q hq=>h q (List.mem_cons_of_mem _ hq)
theorem ziJ {nw nw' : List (List Nat)} {P0:List Tr3} {n:Nat} {t:List Nat} (h:∀q∈P0,getS nw' q=getS nw q) (k:zoT nw P0 n t):zoT nw' P0 n t:=by
 obtain⟨al,h1,h2⟩:=k
 exact⟨al,by rw[ziI h]; exact h1,h2⟩
inductive zt3 (nw:List (List Nat)):List Nat→List Tr3→List Tr3→List Tr3→Prop
 | nil (lv:List Tr3):zt3 nw [] lv [] lv
 | cons {s:Nat} {S:List Nat} {lv l D P0:List Tr3}:zbK nw s lv []=some l→zt3 nw S l D P0→zt3 nw (s :: S) lv (l ++ D) P0
theorem zt3.down {nw:List (List Nat)} {S:List Nat} {lv D P0:List Tr3} (h:zt3 nw S lv D P0):∀all,downR nw S lv all=some (P0,all ++ D):=by
 induction h with
 | nil lv=>intro all; simp[downR]
 | cons h1 h2 ih=>
   intro all
   rw[zer,h1]
   simp only
   rw[ih,List.append_assoc]
theorem zt3.sub {nw:List (List Nat)} {S:List Nat} {lv D P0:List Tr3} (h:zt3 nw S lv D P0):∀q∈P0,q∈lv ++ D:=by
 induction h with
 | nil lv=>intro q hq; simpa using hq
 | cons h1 h2 ih=>intro q hq; exact List.mem_append_right _ (ih q hq)
theorem zt3.agree {nw nw' : List (List Nat)} {S:List Nat} {lv D P0:List Tr3} (h:zt3 nw S lv D P0):(∀q∈lv ++ D,getS nw' q=getS nw q)→zt3 nw' S lv D P0:=by
 induction h with
 | nil lv=>exact fun _=>.nil lv
 | cons h1 h2 ih=>exact fun k=>.cons (by rw[zd9 fun q hq=>k q (List.mem_append_left _ hq)]; exact h1) (ih fun q hq=>k q (List.mem_append_right _ hq))
theorem zt4 {st:Nat}:∀{as' : List Nat} {ss:List (List Nat)} {k:Nat} {q:Tr3},(mkP st as' ss)[k]?= some q→∃a s,as'[k]?= some a∧ss[k]?= some s∧q=(a,st,zbk s):=by
 intro as' ss k q h
 unfold mkP at h
 rw[List.getElem?_zipWith] at h
 cases ha:as'[k]? with
 | none=>rw[ha] at h; simp at h
 | some a=>
   cases hs:ss[k]? with
   | none=>rw[ha,hs] at h; simp at h
   | some s=>
     rw[ha,hs] at h
     simp only[Option.some.injEq] at h
     exact⟨a,s,rfl,rfl,h.symm⟩
theorem zoY {st:Nat}:∀{as' : List Nat} {ss:List (List Nat)},as'.length=ss.length→(mkP st as' ss).map (·.1)=as'
 | [],ss,h=>by simp[mkP]
 | a :: as',[],h=>by simp at h
 | a :: as',s :: ss,h=>by
   show a :: (mkP st as' ss).map (·.1)=_
   rw[zoY (by simpa using h)]
theorem znk {nw:List (List Nat)} {st:Nat}:∀{as' : List Nat} {ss:List (List Nat)} {acc:List Nat},as'.length=ss.length→(∀(k a:Nat) s,as'[k]?= some a→ss[k]?= some s→4≤a∧nw[a]?= some s)→zgs nw (mkP st as' ss) acc=some (acc ++ ss.flatten)
 | [],[],acc,hl,h=>by simp[mkP,zgs]
 | [],s :: ss,acc,hl,h=>by simp at hl
 | a :: as',[],acc,hl,h=>by simp at hl
 | a :: as',s :: ss,acc,hl,h=>by
   show zgs nw ((a,st,zbk s) :: mkP st as' ss) acc=_
   have k:=h 0 a s rfl rfl
   rw[zeq,zoX k.1 k.2]
   simp only
   rw[znk (by simpa using hl) (fun k a s h1 h2=>h (k+1) a s (by simpa using h1) (by simpa using h2)),List.flatten_cons,List.append_assoc]
theorem zt5 (text:List Nat) (N:Nat):zgt text (N+1)=zaM (text.take 128) :: zgt (text.drop 128) N:=by
 unfold zgt
 rw[List.range_succ_eq_map,List.map_cons,List.map_map]
 congr 1
 apply List.map_congr_left
 intro k _
 simp only[Function.comp,List.drop_drop]
 congr 3
 omega
theorem ziK:∀(N:Nat) (text:List Nat),text.length≤N * 128→(zgt text N).flatten=text ++ List.replicate (N * 128 - text.length) 0
 | 0,text,h=>by
   have:text=[]:=List.eq_nil_of_length_eq_zero (by omega)
   subst this
   simp[zgt]
 | N+1,text,h=>by
   rw[zt5,List.flatten_cons,ziK N _ (by rw[List.length_drop]; omega)]
   unfold zaM
   rw[List.length_drop,List.length_take]
   by_cases q:128≤text.length
   ·rw[Nat.min_eq_left q,Nat.sub_self,List.replicate_zero,List.append_nil,←List.append_assoc,List.take_append_drop]
    congr 2
    omega
   ·rw[Nat.min_eq_right (by omega),List.take_of_length_le (by omega),List.drop_eq_nil_of_le (by omega),List.nil_append,List.append_assoc,List.replicate_append_replicate]
    congr 2
    omega
theorem zro {nw:List (List Nat)} {st:Nat} {as' : List Nat} {text:List Nat} {N:Nat} (hl:as'.length=N) (ht:text.length≤N * 128) (h:∀(k a:Nat) s,as'[k]?= some a→(zgt text N)[k]?= some s→4≤a∧nw[a]?= some s):zoT nw (mkP st as' (zgt text N)) text.length text:=by
 refine⟨_,znk (by rw[zdz]; exact hl) h,?_,?_⟩
 ·rw[List.nil_append,ziK N text ht]
  intro i x hi hx
  rw[List.getElem?_append_right hi,List.getElem?_replicate] at hx
  split at hx
  ·cases hx; rfl
  ·cases hx
 ·rw[List.nil_append,ziK N text ht,List.take_left']
  rfl
theorem zoZ {nw:List (List Nat)} {st:Nat} {as' : List Nat} {level:List Tr3} {N:Nat} (hl:as'.length=N) (hN:level.length≤N * 8) (hN2:N * 8 < level.length+8) (hok:∀q∈level,QOk q∧q≠hole)
 (h:∀(k a:Nat) s,as'[k]?= some a→(nds level N)[k]?= some s→4≤a∧nw[a]?= some s):zbK nw level.length (mkP st as' (nds level N)) []=some level:=by
 have hml:(mkP st as' (nds level N)).length=N:=by rw[ziH _ _ _ (by rw[ze6]; exact hl)]; exact hl
 have key:∀j i,i+j=N→zbK nw level.length ((mkP st as' (nds level N)).drop i) (level.take (i * 8))=some level:=by
  intro j
  induction j with
  | zero=>
    intro i hi
    rw[List.drop_eq_nil_of_le (by omega),List.take_of_length_le (by omega)]
    rfl
  | succ j ih=>
    intro i hi
    have hiN:i < (mkP st as' (nds level N)).length:=by omega
    obtain⟨a,s,ha,hs,e⟩:=zt4 (List.getElem?_eq_getElem hiN)
    obtain⟨h4,hw⟩:=h i a s ha hs
    rw[zt0 level (by omega)] at hs
    simp only[Option.some.injEq] at hs
    have hpl:((level.drop (i * 8)).take 8).length≤8:=by rw[List.length_take]; omega
    have hp0:((level.drop (i * 8)).take 8).length=min 8 (level.length - i * 8):=by rw[List.length_take,List.length_drop]
    have hpo:∀q∈(level.drop (i * 8)).take 8,QOk q∧q≠hole:=fun q hq=>hok q (List.mem_of_mem_drop (List.mem_of_mem_take hq))
    have hadd:level.take (i * 8) ++ (level.drop (i * 8)).take 8=level.take ((i+1) * 8):=by
     rw[show (i+1) * 8=i * 8+8 by omega,List.take_add]
    generalize (level.drop (i * 8)).take 8=part at hpl hp0 hpo hadd hs
    subst hs
    have hD:nodeD (zbQ (zj9 part))=zj9 part:=zyA (zlp hpl) (zoW fun q hq=>(hpo q hq).1)
    rw[List.drop_eq_getElem_cons hiN,e,zdy,zoX h4 hw]
    simp only
    have ho:(level.take (i * 8)).length=i * 8:=by rw[List.length_take]; omega
    rw[ho,hD,←hp0]
    have hk:okN (zj9 part) part.length:=by
     refine⟨zoW fun q hq=>(hpo q hq).1,fun y x hy=>?_⟩
     unfold zj9 at hy
     by_cases hlt:y < part.length
     ·rw[List.getElem?_append_left hlt] at hy
      exact⟨fun _=>hlt,fun _=>(hpo x (List.mem_of_getElem? hy)).2⟩
     ·rw[List.getElem?_append_right (by omega),List.getElem?_replicate] at hy
      split at hy
      ·cases hy
       exact⟨fun z=>absurd rfl z,fun z=>absurd z hlt⟩
      ·cases hy
    rw[if_pos hk,show (zj9 part).take part.length=part from by unfold zj9; rw[List.take_left'] ; rfl,hadd]
    exact ih (i+1) (by omega)
 have:=key N 0 (by omega)
 simpa using this
def Up (n:Nat) (text:List Nat) (as' : List Nat) (nw:List (List Nat)) (level:List Tr3) (at' : List Nat):Prop:=
 ∃(S:List Nat) (D P0:List Tr3) (U:List Nat),zt3 nw S level D P0∧zoT nw P0 n text∧as'= U ++ (level.map (·.1) ++ at')∧(D.map (·.1)).Perm U∧(∀q∈level ++ D,QOk q∧q≠hole)∧levelsL (n:Nat)=S.reverse ++ (level.length :: ups level.length)∧at'.length=(ups level.length).sum∧1≤level.length
theorem zxe {st:Nat} {as' : List Nat} {ss:List (List Nat)} (hst:zzc st) (ha:∀a∈as',4≤a∧a < 1024) (hs:∀s∈ss,Sec s):∀q∈mkP st as' ss,QOk q∧q≠hole:=by
 intro q hq
 obtain⟨k,hk⟩:=List.mem_iff_getElem?.1 hq
 obtain⟨a,s,h1,h2,rfl⟩:=zt4 hk
 have ha:=ha a (List.mem_of_getElem? h1)
 have hs:=hs s (List.mem_of_getElem? h2)
 have hne:((a,st,zbk s):Tr3)≠hole:=fun e=>by simp only[hole,Prod.mk.injEq] at e; omega
 exact⟨⟨zlg hs.2,.inr ⟨ha.1,ha.2,hst.1,hst.2⟩⟩,hne⟩
theorem zwc {text:List Nat} (hb:∀x∈text,x < 256) (N:Nat):∀s∈zgt text N,Sec s:=by
 intro s hs
 unfold zgt at hs
 obtain⟨k, -,rfl⟩:=List.mem_map.1 hs
 exact zoQ (by rw[List.length_take]; omega) fun x hx=>hb x (List.mem_of_mem_drop (List.mem_of_mem_take hx))
theorem zyK {level:List Tr3} (N:Nat):∀s∈nds level N,Sec s:=by
 intro s hs
 unfold nds at hs
 obtain⟨k, -,rfl⟩:=List.mem_map.1 hs
 exact ziF (zlp (by rw[List.length_take]; omega))
theorem Up.begin {n st:Nat} {text as' : List Nat} {nw:List (List Nat)} {N:Nat} (h1:1≤n) (h2:n≤65535) (hN:N=(n+127) / 128) (ht:text.length=n) (hb:∀x∈text,x < 256) (hst:zzc st) (hl:as'.length=ze5 n) (hnd:as'.Nodup) (ha:∀a∈as',4≤a∧a < 1024∧a < nw.length):
 Up n text as' (wr nw (as'.take N) (zgt text N)) (mkP st (as'.take N) (zgt text N)) (as'.drop N):=by
 have hL:=zdk h1 h2
 rw[←hN] at hL
 have hsum:as'.length=N+(ups N).sum:=by rw[hl]; unfold ze5; rw[hL,List.sum_cons]
 have htl:(as'.take N).length=N:=by rw[List.length_take]; omega
 have hml:(mkP st (as'.take N) (zgt text N)).length=N:=by rw[ziH _ _ _ (by rw[htl,zdz])]; exact htl
 have hok:∀q∈mkP st (as'.take N) (zgt text N),QOk q∧q≠hole:=zxe hst (fun a h=>⟨(ha a (List.mem_of_mem_take h)).1,(ha a (List.mem_of_mem_take h)).2.1⟩) (zwc hb N)
 have hnd' : (as'.take N).Nodup:=hnd.sublist (List.take_sublist _ _)
 refine⟨[],[],mkP st (as'.take N) (zgt text N),[],.nil _,?_,?_,.refl _,by rw[List.append_nil]; exact hok,by rw[hml]; exact hL,by rw[hml,List.length_drop]; omega,by rw[hml]; omega⟩
 ·rw[←ht]
  refine zro htl (by omega) fun k a s h1 h2=>⟨(ha a (List.mem_of_mem_take (List.mem_of_getElem? h1))).1,?_⟩
  exact zt2 _ _ _ k a s hnd' (fun x hx=>(ha x (List.mem_of_mem_take hx)).2.2) h1 h2
 ·rw[zoY (by rw[htl,zdz]),List.nil_append,List.take_append_drop]
theorem Up.step {n st:Nat} {text as' at' : List Nat} {nw:List (List Nat)} {level:List Tr3} {N:Nat} (u:Up n text as' nw level at') (h1:1 < level.length) (hN:N=(level.length+7) / 8) (hst:zzc st) (hnd:as'.Nodup) (ha:∀a∈as',4≤a∧a < 1024∧a < nw.length):
 Up n text as' (wr nw (at'.take N) (nds level N)) (mkP st (at'.take N) (nds level N)) (at'.drop N):=by
 obtain⟨S,D,P0,U,hh,ht,ha',hp,hok,hl,hal, -⟩:=u
 have hup:=zbX h1
 rw[←hN] at hup
 rw[hup,List.sum_cons] at hal
 have htl:(at'.take N).length=N:=by rw[List.length_take]; omega
 have hml:(mkP st (at'.take N) (nds level N)).length=N:=by rw[ziH _ _ _ (by rw[htl,ze6])]; exact htl
 have hin:∀a∈at',a∈as':=fun a h=>by rw[ha']; exact List.mem_append_right _ (List.mem_append_right _ h)
 have hok2:∀q∈mkP st (at'.take N) (nds level N),QOk q∧q≠hole:=zxe hst (fun a h=>⟨(ha a (hin a (List.mem_of_mem_take h))).1,(ha a (hin a (List.mem_of_mem_take h))).2.1⟩) (zyK N)
 rw[ha',List.nodup_append] at hnd
 obtain⟨n1,n2,n3⟩:=hnd
 rw[List.nodup_append] at n2
 obtain⟨n4,n5,n6⟩:=n2
 have hagree:∀q∈level ++ D,getS (wr nw (at'.take N) (nds level N)) q=getS nw q:=by
  intro q hq
  refine zgu (zyJ _ _ _ _ fun z=>?_)
  have z:=List.mem_of_mem_take z
  rcases List.mem_append.1 hq with hq | hq
  ·exact n6 q.1 (List.mem_map_of_mem hq) q.1 z rfl
  ·exact n3 q.1 (hp.subset (List.mem_map_of_mem hq)) q.1 (List.mem_append_right _ z) rfl
 refine⟨level.length :: S,level ++ D,P0,U ++ level.map (·.1),.cons ?_ (hh.agree hagree),ziJ (fun q hq=>hagree q (hh.sub q hq)) ht,?_,?_,?_,?_,?_,?_⟩
 ·refine zoZ htl (by omega) (by omega) (fun q hq=>hok q (List.mem_append_left _ hq)) fun k a s h1 h2=>⟨(ha a (hin a (List.mem_of_mem_take (List.mem_of_getElem? h1)))).1,?_⟩
  exact zt2 _ _ _ k a s (n5.sublist (List.take_sublist _ _)) (fun x hx=>(ha x (hin x (List.mem_of_mem_take hx))).2.2) h1 h2
 ·rw[zoY (by rw[htl,ze6]),List.append_assoc,List.take_append_drop]
  exact ha'
 ·rw[List.map_append]
  exact (List.perm_append_comm).trans (hp.append_right _)
 ·intro q hq
  rcases List.mem_append.1 hq with hq | hq
  ·exact hok2 q hq
  ·exact hok q hq
 ·rw[hml,List.reverse_cons,List.append_assoc,hl,hup]
  rfl
 ·rw[hml,List.length_drop]; omega
 ·rw[hml]; omega
theorem Up.fin {n:Nat} {text as' at' : List Nat} {nw:List (List Nat)} {level:List Tr3} (u:Up n text as' nw level at') (h1:¬1 < level.length):∃root D,level=[root]∧QOk root∧root≠hole∧zeB nw root n text (root :: D)∧((root :: D).map (·.1)).Perm as'∧as'.getLast?= some root.1∧∀q∈root :: D,QOk q∧q≠hole:=by
 obtain⟨S,D,P0,U,hh,ht,ha',hp,hok,hl,hal,hlen⟩:=u
 rw[zbR h1] at hl hal
 have hat:at'= []:=List.eq_nil_of_length_eq_zero hal
 subst hat
 obtain⟨root,rfl⟩:∃root,level=[root]:=List.length_eq_one_iff.1 (by omega)
 have hr:=hok root (List.mem_append_left _ List.mem_cons_self)
 refine⟨root,D,rfl,hr.1,hr.2,⟨P0,?_,ht⟩,?_,?_,hok⟩
 ·rw[hl,List.length_singleton,List.dropLast_concat,List.reverse_reverse]
  exact hh.down [root]
 ·rw[ha',List.map_cons,List.append_nil]
  exact (List.Perm.cons root.1 hp).trans (List.perm_append_comm (l₁:=[root.1]) (l₂:=U))
 ·rw[ha']
  simp
theorem ziL {a:Nat} (ha:a≤512):(ups a).sum≤a / 7+3:=by
 by_cases h1:1 < a
 ·rw[zbX h1,List.sum_cons]
  by_cases h2:1 < (a+7) / 8
  ·rw[zbX h2,List.sum_cons]
   by_cases h3:1 < ((a+7) / 8+7) / 8
   ·rw[zbX h3,List.sum_cons,zbR (show ¬1 < (((a+7) / 8+7) / 8+7) / 8 by omega)]
    simp only[List.sum_nil]
    omega
   ·rw[zbR h3]
    simp only[List.sum_nil]
    omega
  ·rw[zbR h2]
   simp only[List.sum_nil]
   omega
 ·rw[zbR h1]; simp
theorem zwd {n:Nat} (h1:1≤n) (h2:n≤65535):(n+127) / 128+(ups ((n+127) / 128)).sum=ze5 (n:Nat)∧ze5 (n:Nat)≤600∧(n+127) / 128≤512∧1≤(n+127) / 128:=by
 unfold ze5
 rw[zdk h1 h2,List.sum_cons]
 have:=ziL (a:=(n+127) / 128) (by omega)
 omega
theorem zbu.keep {P:Program} {h h' : AH} {elem:TypeId} {b n c:Nat} (k:zbu P h elem b n c) (hb:h'.get b=h.get b):zbu P h' elem b n c:=by
 rcases k with k | ⟨h1,cs,e,ro,h2,h3⟩
 ·exact .inl k
 ·exact .inr ⟨h1,cs,e,ro,by rw[hb]; exact h2,h3⟩
theorem zbe.cutOk {P:Program} {lim:Nat} {h:AH} {elem:TypeId} {sz:Nat} {b n c:Nat} {cs:List Value} (g:zbe lim h elem sz (some ⟨b,0,none⟩) n c cs) (hn:n < zak):zbu P h elem b n c:=by
 rcases g.2 with ⟨z, -⟩ | ⟨b',hp,hl,hb,hg,hc⟩
 ·cases z
 ·simp only[Option.some.injEq,Addr.mk.injEq,and_true] at hp
  subst hp
  rcases hc with rfl | rfl
  ·exact .inr ⟨rfl,cs,elem,false,hg,rfl⟩
  ·exact .inl ⟨Nat.le_refl _,hn⟩
theorem zbe.some {lim:Nat} {h:AH} {elem:TypeId} {sz:Nat} {p:Option Addr} {n c:Nat} {cs:List Value} (g:zbe lim h elem sz p n c cs) (hn:0 < n):∃b,p=some ⟨b,0,none⟩:=by
 rcases g.2 with ⟨-,z, -⟩ | ⟨b',hp, -⟩
 ·omega
 ·exact⟨b',hp⟩
section
variable {K:Xs} {h:AH} {p:Nat} {F:List Nat} {d m:Nat} {W:Nat} {nw:List (List Nat)} {M:List Nat} {st:Nat} {ba:Int}
theorem zt6:∀(as' : List Nat) (nw ss:List (List Nat)) (x:Nat),x∉as'→(wr nw as' ss)[x]?= nw[x]?
 | [],nw,ss,x,h=>rfl
 | a :: as',nw,[],x,h=>rfl
 | a :: as',nw,s :: ss,x,h=>by
   have e:wr nw (a :: as') (s :: ss)=wr (nw.set a s) as' ss:=rfl
   rw[e,zt6 as' (nw.set a s) ss x (fun z=>h (List.mem_cons_of_mem _ z)),List.getElem?_set,if_neg (fun z=>h (by rw[z]; exact List.mem_cons_self ..))]
theorem zqc (kk:ztX K) (B:PO h p F d m W nw M st ba) (hw:W+2000 < 100000) (hst:zzc st) {tb toff n c:Nat} {text:List Nat} (hn1:1≤n) (hn2:n≤65535) (T:zaq h (some ⟨tb,toff,none⟩) n 1 (zav .u8 text)) (C:zbu Tryz.prog h 5 tb n c) (tF:tb∉F) (tl:tb < h.next) (hb:∀x∈text,x < 256)
 {ab aoff na ca:Nat} {as' : List Nat} (S:zaq h (some ⟨ab,aoff,none⟩) na 1 (zav .i64 as')) (CA:zbu Tryz.prog h 3 ab na ca) (aF:ab∉F) (al:ab < h.next) (hl:as'.length=ze5 (n:Nat)) (hM:∀a∈as',M[a]?= some 2) (ha:∀a∈as',4≤a∧a < nw.length) (hnw:nw.length≤1024) (hnd:as'.Nodup):
 Wf Tryz.prog K 115 [.pointer (some ⟨p,0,none⟩),.slice (some ⟨tb,toff,none⟩) n c,.slice (some ⟨ab,aoff,none⟩) na ca] h fun v h'=>∃root D nw' W' F',v=.tuple #[qV root,.int .i64 0]∧QOk root∧root≠hole∧zeB nw' root n text (root :: D)∧((root :: D).map (·.1)).Perm as'∧as'.getLast?= some root.1∧(∀q∈root :: D,QOk q∧q≠hole)∧nw'.length=nw.length∧(∀x,x∉as'→nw'[x]?= nw[x]?)∧W'≤W+600∧PO h' p F' d m W' nw' M st ba∧Fr F h h' F':=by
 have hF:=B.lt
 have hna:na=as'.length:=by have:=S.1; rw[zam] at this; omega
 have hxl:text.length=n:=by have:=T.1; rw[zam] at this; omega
 obtain⟨q1,q2,q3,q4⟩:=zwd hn1 hn2
 refine zmT kk.bSave _ _ _ _ _ _ _ h _ fun g0 e0=>(zhw kk.bNeed kk.bLevels kk.bUp (n:Nat) g0).mono ?_
 rintro _ g2 ⟨rfl,o2⟩
 have o0:=zaa e0
 have n0:=zab e0
 have oh:=o0.trans o2
 have c2:g2.get h.next=_:=(o2.2 _ (by omega)).trans (zac e0)
 have hl2:h.next < g2.next:=by have:=o2.1; omega
 refine⟨_,rfl,fun z=>absurd z (by omega),fun _=>⟨fun _=>?_,fun z=>absurd (by omega) z⟩⟩
 have B2:=B.old oh
 have hnF:∀{F' : List Nat} {g:AH},Fr F h g F'→∀c,c < h.next+1→c∉F→c∉F'→True:=fun _ _ _ _ _=>trivial
 refine (zwb kk B2 (by omega) hn1 hn2 (T.old oh) (C.old oh tl) tF (by omega) hb (S.old oh) (fun a e=>by cases e; exact aF) (by omega) hM (by omega)).mono ?_
 have e128:(n+128 - 1) / 128=(n+127) / 128:=by omega
 rw[e128]
 generalize hLe:(n+127) / 128=L at q1 q3 q4
 rintro _ g9 ⟨p10,c12,F9,rfl,B9,f9,G9,hp9⟩
 have f9h:=(oh.fr F).trans f9
 have abF:∀{F' : List Nat} {g:AH},Fr F h g F'→ab∉F':=fun f z=>(f.2.2 _ z).elim aF (fun y=>by omega)
 have c9:g9.get h.next=_:=(f9.2.1 _ hl2 (fun z=>absurd (hF _ z) (Nat.lt_irrefl _))).trans c2
 have hn9:h.next∉F9:=fun z=>(f9.2.2 _ z).elim (fun y=>absurd (hF _ y) (Nat.lt_irrefl _)) (fun y=>by omega)
 have u9:=Up.begin (st:=st) hn1 hn2 hLe.symm hxl hb hst hl hnd (nw:=nw) (fun a h=>⟨(ha a h).1,by have:=(ha a h).2; omega,(ha a h).2⟩)
 have hml:(mkP st (as'.take L) (zgt text L)).length=L:=by
  have htl:(as'.take L).length=L:=by rw[List.length_take]; omega
  rw[ziH _ _ _ (by rw[htl,zdz])]
  exact htl
 have S9:=S.fr f9h (fun a e=>by cases e; exact aF)
 have CA9:zbu Tryz.prog g9 3 ab na ca:=CA.keep (f9h.2.1 ab al aF)
 obtain⟨o14,c16,k14,ho14,CA14⟩:=zdD ztU (by simp) (h:=g9) (b:=ab) (off:=aoff) (lo:=L) CA9 (by omega)
 refine⟨_,_,_,_,rfl,_,_,_,k14,?_⟩
 have S14:=S9.cut (off2:=o14) (lo:=L) (by omega) ho14
 have edrop:∀(l:List Nat) (k:Nat),(zav .i64 l).drop (k * 1)=zav .i64 (l.drop k):=fun l k=>by unfold zav; rw[Nat.mul_one,←List.map_drop]
 rw[edrop] at S14
 refine⟨fun p21 n22 c23 p24 n25 c26 i27 k g=>∃(level:List Tr3) (at' : List Nat) (nwc:List (List Nat)) (W' : Nat) (F' : List Nat) (o21 b24:Nat),i27=0∧level.length=k∧n25=level.length∧p24=some ⟨b24,0,none⟩∧p21=some ⟨ab,o21,none⟩∧Up n text as' nwc level at'∧PO g p F' d m W' nwc M st ba∧W'+ at'.length=W+as'.length∧nwc.length=nw.length∧(∀x,x∉as'→nwc[x]?= nw[x]?)∧Fr F h g F'∧
  g.get h.next=some (.cells [.int .i64 0,.int .u64 0,.int .u32 0] 42 false)∧h.next∉F'∧h.next < g.next∧zbe (h.next+1) g 42 3 p24 n25 c26 (zbE level)∧b24∉F'∧zaq g p21 n22 1 (zav .i64 at')∧zbu Tryz.prog g 3 ab n22 c23,?_,?_⟩
 ·obtain⟨b24,rfl⟩:=G9.some (by omega)
  exact⟨_,_,_,_,_,F9,_,b24,rfl,rfl,hml.symm,rfl,rfl,u9,B9,by rw[List.length_drop]; omega,ztV _ _ _,fun x hx=>zt6 _ _ _ x (fun z=>hx (List.mem_of_mem_take z)),f9h,c9,hn9,by have:=f9.1; omega,G9.weak (by omega),hp9 _ rfl,S14,CA14⟩
 ·rintro k18 g19 p21 n22 c23 p24 n25 c26 i27 ⟨level,at',nwc,W',F',o21,b24,rfl,rfl,rfl,rfl,rfl,u,B19,hW,hlen,hout,f19,c19,n19,l19,G19,hb24,S19,CA19⟩
  refine⟨fun _=>⟨fun hlt=>?_,fun hlt=>⟨fun _=>?_,fun z=>absurd rfl z⟩⟩,fun z=>absurd rfl z⟩
  ·have hlt:1 < level.length:=by omega
   have hat:((level.length+8 - 1) / 8)+(ups ((level.length+8 - 1) / 8)).sum=at'.length:=by
    obtain⟨S',D',P',U', -, -, -, -, -, -,z, -⟩:=u
    rw[z,zbX hlt,List.sum_cons,show (level.length+8 - 1) / 8=(level.length+7) / 8 by omega]
   have hati:at'.length≤as'.length:=by
    obtain⟨-, -, -,U, -, -,z, -⟩:=u
    rw[z,List.length_append,List.length_append]; omega
   have hlv:level.length≤as'.length:=by
    obtain⟨-, -, -,U, -, -,z, -⟩:=u
    rw[z,List.length_append,List.length_append,List.length_map]; omega
   have hin:∀a∈at',a∈as':=by
    obtain⟨-, -, -,U, -, -,z, -⟩:=u
    intro a h
    rw[z]
    exact List.mem_append_right _ (List.mem_append_right _ h)
   have hokl:∀q∈level,QOk q:=by
    obtain⟨S',D',P',U', -, -, -, -,z, -⟩:=u
    exact fun q hq=>(z q (List.mem_append_left _ hq)).1
   have hn22:n22=at'.length:=by have:=S19.1; rw[zam] at this; omega
   have hF19:=B19.lt
   refine (zt1 kk B19 (by omega) (by omega) (by omega) G19.shows (G19.cutOk (by unfold zak; omega)) hb24 (by have:=(G19.block rfl).2; exact this) hokl S19 (fun a e=>by cases e; exact abF f19) (by omega) (fun a h=>hM a (hin a h)) (by omega)).mono ?_
   rintro _ g29 ⟨p30,c32,F29,rfl,B29,f29,G29,hp29⟩
   have u29:=u.step (st:=st) hlt (by omega:(level.length+8 - 1) / 8=(level.length+7) / 8) hst hnd (fun a h=>⟨(ha a h).1,by have:=(ha a h).2; omega,by rw[hlen]; exact (ha a h).2⟩)
   generalize hNe:(level.length+8 - 1) / 8=N at hat B29 G29 u29
   have hNl:N < level.length:=by omega
   have hN1:1≤N:=by omega
   have f29h:=f19.trans f29
   have CA29:zbu Tryz.prog g29 3 ab n22 c23:=CA19.keep (f29.2.1 ab (by have:=f19.1; omega) (abF f19))
   obtain⟨o34,c36,k34,ho34,CA34⟩:=zdD ztU (by simp) (h:=g29) (b:=ab) (off:=o21) (lo:=N) CA29 (by omega)
   have S34:=(S19.fr f29 (fun a e=>by cases e; exact abF f19)).cut (off2:=o34) (lo:=N) (by omega) ho34
   rw[edrop] at S34
   obtain⟨b30,rfl⟩:=G29.some (by omega)
   have hml2:(mkP st (at'.take N) (nds level N)).length=N:=by
    have htl:(at'.take N).length=N:=by rw[List.length_take]; omega
    rw[ziH _ _ _ (by rw[htl,ze6])]
    exact htl
   refine⟨_,N,_,_,rfl,_,_,_,k34,N,hNl,_,_,_,_,F29,_,b30,rfl,hml2,hml2.symm,rfl,rfl,u29,B29,by rw[List.length_drop]; omega,by rw[ztV]; exact hlen,fun x hx=>(zt6 _ _ _ x (fun z=>hx (hin _ (List.mem_of_mem_take z)))).trans (hout x hx),f29h,?_,?_,by have:=f29.1; omega,G29.weak (by omega),hp29 _ rfl,S34,CA34⟩
   ·exact (f29.2.1 _ l19 n19).trans c19
   ·exact fun z=>(f29.2.2 _ z).elim n19 (fun y=>by omega)
  ·obtain⟨root,D,rfl,r1,r2,r3,r4,r5,r6⟩:=u.fin (by omega)
   obtain⟨b9,o10,e9,hld, -⟩:=G19.shows.getN (i:=0) (by simp)
   cases e9
   rw[zen [root] 0 (by simp)] at hld
   have nr:=zaj h.next g19 (.cells [.int .i64 (root.1:Nat),.int .u64 (root.2.1:Nat),.int .u32 (root.2.2:Nat)] 42 false)
   refine zae ⟨by omega,by simp,_,_,_,hld,rfl,_,zaB c19 rfl,_,_,_,zao (zag _ _ _) rfl,root,D,nwc,W',F',rfl,r1,r2,r3,r4,r5,r6,hlen,hout,by omega,B19.nearN nr n19,f19.near_new nr (Nat.le_refl _)⟩
end
theorem ziM {nw nw' : List (List Nat)}:∀{ss:List Nat} {lv all lv' out:List Tr3},downR nw ss lv all=some (lv',out)→(∀q∈lv,q∈all)→
 (∀q∈all,q∈out)∧(∀q∈lv',q∈out)∧((∀q∈out,getS nw' q=getS nw q)→downR nw' ss lv all=some (lv',out))
 | [],lv,all,lv',out,h,hs=>by
   simp only[downR,Option.some.injEq,Prod.mk.injEq] at h
   obtain⟨rfl,rfl⟩:=h
   exact⟨fun _ z=>z,hs,fun _=>rfl⟩
 | s :: ss,lv,all,lv',out,h,hs=>by
   rw[zer] at h
   cases e:zbK nw s lv [] with
   | none=>rw[e] at h; cases h
   | some l=>
     rw[e] at h
     simp only at h
     obtain⟨h1,h2,h3⟩:=ziM (nw':=nw') h (fun q hq=>List.mem_append_right _ hq)
     refine⟨fun q hq=>h1 q (List.mem_append_left _ hq),h2,fun k=>?_⟩
     rw[zer,zd9 fun q hq=>k q (h1 q (List.mem_append_left _ (hs q hq))),e]
     exact h3 k
theorem zo0 {nw nw' : List (List Nat)} {root:Tr3} {n:Nat} {t:List Nat} {all:List Tr3} (h:zeB nw root n t all) (k:∀q∈all,getS nw' q=getS nw q):zeB nw' root n t all:=by
 obtain⟨lv,h1,h2⟩:=h
 obtain⟨-,k2,k3⟩:=ziM (nw':=nw') h1 (fun _ z=>z)
 exact⟨lv,k3 k,ziJ (fun q hq=>k q (k2 q hq)) h2⟩
theorem zeu {nw nw' : List (List Nat)} {root:Tr3} {n:Nat} {t:List Nat} {all:List Tr3} (h:zeB nw root n t all) (k:∀q∈all,nw'[q.1]?= nw[q.1]?):zeB nw' root n t all:=
 zo0 h fun q hq=>zgu (k q hq)
theorem zt7 {nw:List (List Nat)} {root:Tr3} {n:Nat} {t t' : List Nat} {all all' : List Tr3} (h:zeB nw root n t all) (h' : zeB nw root n t' all'):t=t'∧all=all':=by
 obtain⟨lv,h1,al,h2, -,h4⟩:=h
 obtain⟨lv',h1',al',h2', -,h4'⟩:=h'
 rw[h1] at h1'
 simp only[Option.some.injEq,Prod.mk.injEq] at h1'
 obtain⟨rfl,rfl⟩:=h1'
 rw[h2] at h2'
 obtain rfl:=Option.some.inj h2'
 exact⟨h4.trans h4'.symm,rfl⟩
theorem zt8 {nw:List (List Nat)} {q:Tr3} {n:Nat} {t:List Nat} (h1:1≤n) (h2:n≤128) (hl:t.length=n) (h:getS nw q=some (zaM t)):zeB nw q n t [q]:=by
 have e:levelsL (n:Nat)=[1]:=by
  rw[zdk h1 (by omega),show (n+127) / 128=1 by omega,zbR (by decide)]
 refine⟨[q],by rw[e]; rfl,zaM t,by simp[zgs,h],fun i x hi hx=>?_,?_⟩
 ·unfold zaM at hx
  rw[List.getElem?_append_right (by omega)] at hx
  obtain⟨hi',rfl⟩:=List.getElem?_eq_some_iff.1 hx
  rw[List.getElem_replicate]
 ·unfold zaM
  exact (List.take_left' hl).symm
end Go.Am
