/-
  PILES AND MAPS are made, copied; a group's state comes to count.
-/
import Derived.Test.YtihmdaifbmchjaaGreatCpK
import Derived.Test.YtihmdaifbmchjaaGreatAmH
import Derived.Test.YtihmdaifbmchjaaGreatPFacts
import Derived.Test.YtihmdaifbmchjaaGreatVTxg
set_option linter.unusedVariables false
set_option linter.unusedSimpArgs false
set_option maxRecDepth 100000
namespace Go.Am
open Go.Proofs
section
variable {K:Xs} {h:AH} {p:Nat} {F:List Nat} {d m:Nat} {W:Nat} {nw:List (List Nat)} {M:List Nat} {st:Nat} {ba:Int}
theorem zcN.nd {Fd:List Nat} (D:zcN h d Fd W nw):Fd.Nodup:=by
 obtain⟨⟨_,_,_,_,_,_,_,_,_,_,_,_,_,_,_,_,_,_,g10,_⟩,_,_⟩:=D
 exact g10
theorem zqp (hk:K 30=none) {Fd:List Nat} (D:zcN h d Fd W nw) (Mm:ze3 h m M) (mn:m∉Fd) (hw:∀(i x:Nat),M[i]?= some x→x≠0→4≤i∧i < nw.length) {s:Int} (hs:s=(st:Nat)):
 Wf Tryz.prog K 30 [.pointer (some ⟨d,0,none⟩),.pointer (some ⟨m,0,none⟩),.int .u64 s,.int .u64 ba] h fun v h'=>v=.pointer (some ⟨h.next,0,none⟩)∧za2 h' h.next (h.next :: m :: Fd) d m Fd W nw M st ba∧Old h h':=by
 subst hs
 refine zoH hk _ _ _ _ h _ fun g7 e7=>⟨rfl,?_,zaa e7⟩
 have o7:=zaa e7
 have n7:=zab e7
 have hlt:=D.lt
 have hm:=Mm.2.1
 refine⟨zac e7,D.old o7,Mm.same o7.1 (o7.2 _ hm),rfl,?_,by omega,hw⟩
 simp only[List.nodup_cons,List.mem_cons,not_or]
 exact⟨⟨by omega,fun q=>absurd (hlt _ q) (by omega)⟩,mn,D.nd⟩
theorem zgA {n:Nat} (i x:Nat) (hi:(zdC n)[i]?= some x) (hx:x≠0):4≤i∧i < n:=by
 by_cases q:i < 1024
 ·simp[zdC,q] at hi
  by_cases q2:4≤i∧i < n
  ·exact q2
  ·rw[if_neg q2] at hi; exact absurd hi.symm hx
 ·rw[List.getElem?_eq_none (by rw[zcV]; omega)] at hi
  cases hi
theorem znr {n:Nat} (h1:4≤n) (h2:n≤1024):(zdC n).count 1=n - 4:=by
 have e:zdC n=List.replicate 4 0 ++ List.replicate (n - 4) 1 ++ List.replicate (1024 - n) 0:=by
  apply List.ext_getElem?
  intro i
  by_cases q:i < 1024
  ·simp only[zdC,List.getElem?_map,List.getElem?_range q,Option.map_some]
   by_cases q1:i < 4
   ·rw[List.getElem?_append_left (by simp; omega),List.getElem?_append_left (by simp; omega),List.getElem?_replicate,if_pos q1,if_neg (by omega)]
   ·by_cases q2:i < n
    ·rw[List.getElem?_append_left (by simp; omega),List.getElem?_append_right (by simp; omega),List.getElem?_replicate,List.length_replicate,if_pos (by omega),if_pos (by omega)]
    ·rw[List.getElem?_append_right (by simp; omega),List.getElem?_replicate,List.length_append,List.length_replicate,List.length_replicate,if_neg (by omega),if_pos (by omega)]
  ·rw[List.getElem?_eq_none (by rw[zcV]; omega),List.getElem?_eq_none (by simp; omega)]
 rw[e,List.count_append,List.count_append,List.count_replicate,List.count_replicate,List.count_replicate]
 simp
theorem zkg:∀{M:List Nat},(∀x∈M,x≠3)→M.map zkU=M
 | [],_=>rfl
 | x :: M,h=>by
   rw[List.map_cons,zkg fun y hy=>h y (List.mem_cons_of_mem _ hy)]
   have:x≠3:=h x (List.mem_cons_self ..)
   simp[zkU,this]
theorem zkh:∀(A M:List Nat),(∀x∈M,x≠3)→∀x∈zbj M A,x≠3
 | [],M,h=>h
 | a :: A,M,h=>zkh A (M.set a 2) fun x hx=>by
   rcases List.mem_or_eq_of_mem_set hx with q | q
   ·exact h x q
   ·rw[q]; decide
theorem zuC (n:Nat):∀x∈zdC n,x≠3:=by
 intro x hx
 simp only[zdC,List.mem_map] at hx
 obtain⟨i, -,rfl⟩:=hx
 split <;> decide
def znz (p:Nat) (nx:Int) (sets hd:Value) (u:List Value):List Value:=.pointer (some ⟨p,0,none⟩) :: .int .u64 nx :: sets :: hd :: u
def uZ:List Value:=[.int .u64 0,.int .u64 0,.int .i64 0,.int .u64 0,.int .u32 0,.int .i64 0,.int .i64 0]
theorem zco.set1 {g:AH} {b off:Nat} {cs:List Value} {v:Value} {ty:TypeId} (w:zco g F b cs ty) (hl:off < cs.length):∃g2,st1 g b off v=some g2∧za9 b g g2∧zco g2 F b (cs.set off v) ty:=
 ⟨_,zbm w.1 hl,zaj _ _ _,zag _ _ _,w.2.1,w.2.2⟩
theorem Fr.cons {F' : List Nat} {h' : AH} {g:Nat} (f:Fr F h h' F'):Fr (g :: F) h h' (g :: F'):=
 ⟨f.1,fun c hc hn=>f.2.1 c hc (fun z=>hn (List.mem_cons_of_mem _ z)),fun c hc=>by
   rcases List.mem_cons.1 hc with rfl | hc
   ·exact .inl (List.mem_cons_self ..)
   ·exact (f.2.2 c hc).imp (fun z=>List.mem_cons_of_mem _ z) id⟩
theorem zry (kk:zfM K) (B:PO h p F d m W nw M 1 0) (hW:W+6000 < 100000) (h1:64≤nw.length) (h2:nw.length≤1024) (hc:zhi nw.length≤M.count 1) (h3:∀x∈M,x≠3) {g:Nat} (hg:zco h F g (znz p 1 (.slice none 0 0) (.slice none 0 0) uZ) 77):
 Wf Tryz.prog K 32 [.pointer (some ⟨g,0,none⟩)] h fun v h'=>∃(A:List Nat) (q:Tr3) (sp:List (Nat×Nat)) (r1 r2:Tr3) (all1 all2:List Tr3) (nw' : List (List Nat)) (F' : List Nat) (bH:Nat) (cs:List Value) (nH:Nat),v=.int .i64 0∧zco h' F' g (znz p 1 (.slice none 0 0) (.slice (some ⟨bH,0,none⟩) nH zak) (uC 1 1 q 40 nw.length)) 77∧zaq h' (some ⟨bH,0,none⟩) nH 3 cs∧(1≤nH∧nH≤1000)∧bH∉F'∧bH≠g∧zi0 (nw'.set 1 (zdG 1 1 q 40 nw.length)) nw.length q sp r1 r2 all1 all2 A∧(∀x,x∈exN sp↔(zbj M A)[x]?= some 2)∧(∀a∈A,(zbj M A)[a]?= some 2∧4≤a)∧(∀x,x∉A→nw'[x]?= nw[x]?)∧nw'.length=nw.length∧PO h' p F' d m 0 (nw'.set 1 (zdG 1 1 q 40 nw.length)) (zbj M A) 2 1∧Fr (g :: F) h h' (g :: F'):=by
 have hg0:=hg.1
 refine ze1 kk.xCommit _ h _ (zae ⟨_,zah hg0 rfl,zae ⟨_,_,_,_,zcl hg0 (Nat.le_of_ble_eq_true rfl),zae ⟨_,_,_,zah hg0 rfl,(zwv kk B (by omega) ⟨by decide,by decide⟩ h1 h2 hc).mono ?_⟩⟩⟩)
 rintro _ g15 ⟨A,q,sp,r1,r2,all1,all2,nw',W',F',bH,cs,nH,rfl,SH,hnH,hbH,bHF,stand,hsp,hAM,hout,hlen,hW',B15,f15⟩
 have hg15:=hg.fr f15
 refine⟨_,_,_,_,_,_,_,rfl,fun g23 e23=>⟨rfl,?_⟩⟩
 obtain⟨g24,k24,m24,B24,o24⟩:=zBj B15 e23 rfl q
 have hg24:=hg15.old o24
 refine⟨g24,k24,fun _=>zae ⟨_,zah hg24.1 rfl,?_⟩,fun z=>absurd rfl z⟩
 obtain⟨Fd,P24⟩:=B24
 refine (ziD kk.pDev P24).mono ?_
 rintro _ _ ⟨rfl,rfl⟩
 refine⟨_,rfl,zae ⟨_,zah hg24.1 rfl,(zm9 kk.pStamp P24).mono ?_⟩⟩
 rintro _ _ ⟨rfl,rfl⟩
 refine⟨_,rfl,(zgU kk.ku.dLen P24.dev).mono ?_⟩
 rintro _ _ ⟨rfl,rfl⟩
 rw[hlen]
 refine⟨_,rfl,zae ⟨_,zah hg24.1 rfl,fun i43 e43=>⟨_,_,_,m24.ld rfl,fun g47 e47=>⟨rfl,?_⟩⟩⟩⟩
 have e43:=zoz e43 (by decide) (by decide)
 subst e43
 obtain⟨g48,k48,n48,o48,m48⟩:=zaF e47 (vs:=uC 1 1 q 40 nw.length) rfl
 have m48:=m48 F' P24.mem_lt
 have P48:=P24.old o48
 have hu:UOk 1 1 q 40 nw.length:=⟨by decide,by decide,stand.kq.1,stand.kq.2,by decide,h1,h2⟩
 refine⟨g48,k48,zah hg24.1 rfl,zah hg24.1 rfl,m24.ld rfl,m24.ld rfl,zah hg24.1 rfl,zah hg24.1 rfl,m24.ld rfl,m24.ld rfl,_,_,_,_,_,_,_,m48.ld rfl,(zrw kk.ku P48.dev (by omega) (by omega) hu).mono ?_⟩
 rintro _ g57 ⟨rfl,Fd',D57,f57⟩
 obtain⟨P57,f57'⟩:=P48.onDev D57 f57 (by rw[List.length_set])
 have hg48:=hg24.old o48
 have hg57:=hg48.fr f57'
 have m57:=m48.fr f57'
 have hgne:g≠g24.next:=by have:=hg24.2.1; omega
 obtain⟨g61,k61,nr61,m61⟩:=hg57.set1 (off:=3) (v:=.slice (some ⟨bH,0,none⟩) nH zak) (Nat.lt_of_succ_le (Nat.le_of_ble_eq_true rfl))
 have P61:=P57.nearN nr61 hg57.2.2
 have mu61:=m57.near nr61 (Ne.symm hgne)
 obtain⟨g71,k71,nr71,m71⟩:=m61.part (off:=4) (vs:=uC 1 1 q 40 nw.length) (Nat.le_of_ble_eq_true rfl)
 have P71:=P61.nearN nr71 hg57.2.2
 refine⟨_,rfl,fun _=>zae ⟨g61,k61,_,_,_,_,_,_,_,mu61.ld rfl,zae ⟨rfl,g71,k71,m57.ld rfl,mu61.ld rfl,zae ⟨_,zah m71.1 rfl,(zrj kk.pCommit kk.mCommit kk.mIs kk.mSet P71 (by decide)).mono ?_⟩⟩⟩,fun z=>absurd rfl z⟩
 rintro v g76 ⟨P76,f76⟩
 rw[zkg (zkh A M h3)] at P76
 have hgl:=hg.2.1
 have hbg:bH≠g:=by omega
 have hb15:bH < g15.next:=SH.blk hnH.1
 have bF2:bH∉p :: m :: Fd':=fun z=>(f57'.2.2 _ z).elim bHF (fun y=>by have:=o24.1; have:=o48.1; omega)
 refine⟨A,q,sp,r1,r2,all1,all2,nw',_,bH,cs,nH,rfl,m71.fr f76,?_,hnH,bF2,hbg,stand.stay ?_,hsp,hAM,hout,hlen,⟨Fd',P76⟩,?_⟩
 ·have s48:=(SH.old o24).old o48
  have s57:=s48.fr f57' (fun a e=>by cases e; exact bHF)
  have s71:=s57.keep (h':=g71) (by rw[nr71.1,nr61.1]; exact Nat.le_refl _) (fun a e _=>by cases e; exact (nr71.2 _ hbg).trans (nr61.2 _ hbg))
  exact s71.fr f76 (fun a e=>by cases e; exact bF2)
 ·intro a ha
  have:=(hAM a ha).2
  rw[List.getElem?_set,if_neg (by omega)]
 ·exact ((((f15.trans (o24.fr F')).trans (o48.fr F')).trans f57').cons).trans ((((nr61.fr (List.mem_cons_self ..)).trans (nr71.fr (List.mem_cons_self ..))).trans f76.cons))
end
abbrev PtI:=Int×Int×Int
structure zhz where
 id:Int
 name:ByteArray
 snap:Bool
 own:Int
 prev:Int
 stamp:Int
 blocks:Int
 root:PtI
 dp:Option Addr
 dn:Nat
 dc:Nat
 dead:List PtI
def zdI (r:zhz):List Value:=[.int .u64 r.id,.string r.name,.bool r.snap,.int .u64 r.own,.int .u64 r.prev,.int .u64 r.stamp,.int .i64 r.blocks,.int .i64 r.root.1,.int .u64 r.root.2.1,.int .u32 r.root.2.2,.slice r.dp r.dn r.dc]
def ptI (l:List PtI):List Value:=(l.map fun q=>[Value.int .i64 q.1,.int .u64 q.2.1,.int .u32 q.2.2]).flatten
theorem zuD (l:List PtI):(ptI l).length=l.length * 3:=by
 induction l with
 | nil=>rfl
 | cons q l ih=>
   have:(ptI (q :: l)).length=3+(ptI l).length:=by simp[ptI]; omega
   rw[this,ih,List.length_cons]; omega
theorem zi1:∀(l:List PtI) (i:Nat) (h:i < l.length),((ptI l).drop (i * 3)).take 3=[.int .i64 l[i].1,.int .u64 l[i].2.1,.int .u32 l[i].2.2]
 | q :: l,0,h=>rfl
 | q :: l,i+1,h=>by
   have:(ptI (q :: l)).drop ((i+1) * 3)=(ptI l).drop (i * 3):=by
    rw[show (i+1) * 3=3+i * 3 by omega,←List.drop_drop]
    rfl
   rw[this,zi1 l i (by simpa using h)]
   rfl
def zns (q:PtI):Prop:=(Lit.int .i64 q.1).wf=true∧(Lit.int .u64 q.2.1).wf=true∧(Lit.int .u32 q.2.2).wf=true
structure ze7 (h:AH) (r:zhz):Prop where
 id:(Lit.int .u64 r.id).wf=true
 own:(Lit.int .u64 r.own).wf=true
 prev:(Lit.int .u64 r.prev).wf=true
 stamp:(Lit.int .u64 r.stamp).wf=true
 root:zns r.root
 dead:∀q∈r.dead,zns q
 form:r.dp=none∨∃b off,r.dp=some ⟨b,off,none⟩
 room:r.dn * 24≤reachBytes
 len:r.dn=r.dead.length
 shows:zaq h r.dp r.dn 3 (ptI r.dead)
theorem ze7.old {h h' : AH} {r:zhz} (k:ze7 h r) (o:Old h h'):ze7 h' r:={ k with shows:=k.shows.old o }
def zqq (h:AH) (p:Option Addr) (n:Nat) (rs:List zhz):Prop:=n=rs.length∧n≤reachBytes∧∃cells,zaq h p n 11 cells∧∀(i:Nat) (hi:i < rs.length),(cells.drop (i * 11)).take 11=zdI rs[i]∧ze7 h rs[i]
theorem zqq.old {h h' : AH} {p:Option Addr} {n:Nat} {rs:List zhz} (t:zqq h p n rs) (o:Old h h'):zqq h' p n rs:=by
 obtain⟨h1,hr,cells,h2,h3⟩:=t
 exact⟨h1,hr,cells,h2.old o,fun i hi=>⟨(h3 i hi).1,(h3 i hi).2.old o⟩⟩
theorem zyV {g:AH} {b off n:Nat} {cs:List Value} (h:ldN g b off n=some cs) {j:Nat} {v:Value} (hj:cs[j]?= some v):ld1 g b (off+j)=some v:=by
 unfold ldN at h
 unfold ld1
 split at h
 ·rename_i cs' e ro hg
  rw[hg]
  split at h
  ·simp only[Option.some.injEq] at h
   subst h
   rw[List.getElem?_take] at hj
   split at hj
   ·rw[List.getElem?_drop] at hj
    exact hj
   ·cases hj
  ·cases h
 ·cases h
theorem zqq.at {g:AH} {p:Option Addr} {n:Nat} {rs:List zhz} (t:zqq g p n rs) {i:Nat} (hi:i < n):
 ∃b off,p=some ⟨b,off,none⟩∧∃(hi' : i < rs.length),ldN g b (off+i * 11) 11=some (zdI rs[i])∧(∀(j:Nat) v,(zdI rs[i])[j]?= some v→ld1 g b (off+i * 11+j)=some v)∧ze7 g rs[i]:=by
 obtain⟨t2, -,cells,t3,t4⟩:=t
 obtain⟨b,off,hp,hld, -⟩:=t3.getN hi
 obtain⟨q1,q2⟩:=t4 i (by omega)
 rw[q1] at hld
 exact⟨b,off,hp,by omega,hld,fun j v hj=>zyV hld hj,q2⟩
def zAG:zhz:=⟨0,ByteArray.mk #[],false,0,0,0,0,(0,0,0),none,0,0,[]⟩
theorem zAH:zaZ Tryz.prog 60 42 3 24:=zaG (by kernel_rfl)
section
variable {K:Xs} {h:AH}
theorem zww (hk:K 58=none) {r:zhz} (ok:ze7 h r):Wf Tryz.prog K 58 [.agg (zdI r).toArray] h fun v h'=>∃p' c',v=.agg (zdI { r with dp:=p',dc:=c' }).toArray∧ze7 h' { r with dp:=p',dc:=c' }∧zbe h.next h' 42 3 p' r.dn c' (ptI r.dead)∧Old h h':=by
 refine zld hk _ _ _ _ _ _ _ _ _ _ _ _ _ h _ fun g0 e0 g1 e1=>?_
 have o0:=zaa e0
 have n0:=zab e0
 have o1:=zaa e1
 have n1:=zab e1
 have c0:g1.get h.next=some (.cells (zdI r) _ false):=(o1.2 _ (by omega)).trans (zac e0)
 have c1:g1.get g0.next=some (.cells (zdI zAG) _ false):=zac e1
 have oo:=o0.trans o1
 have sh:=ok.shows.old oo
 have hroom:=ok.room
 obtain⟨p',c',g8,k8,G8,hob, -, -⟩:=(zbe.nil g1.next g1 42 3).append zAH (Nat.le_refl _) (x:=.slice r.dp r.dn r.dc) (m:=r.dn) rfl (sh.firstC ok.form) sh.1 (by simp only[reachBytes,zaE] at *; omega) (by simp only[reachBytes] at *; omega) ⟨_,zAH.1⟩
 rw[Nat.zero_add] at k8 G8
 rw[List.nil_append] at G8
 have o8:Old g1 g8:=hob
 have c8:=(o8.2 _ (by omega)).trans c0
 have d8:=(o8.2 _ (by omega)).trans c1
 have nr9:=zaj h.next g8 (.cells (zdI { r with dp:=p',dc:=c' }) 62 false)
 have c9:(g8.set h.next (.cells (zdI { r with dp:=p',dc:=c' }) 62 false)).get h.next=_:=zag _ _ _
 have l8:=o8.1
 have G9:=G8.near nr9 (by omega) (Nat.le_refl _)
 have d9:=(nr9.2 g0.next (by omega)).trans d8
 have o9:Old h (g8.set h.next (.cells (zdI { r with dp:=p',dc:=c' }) 62 false)):=⟨by rw[nr9.1]; have:=oo.1; omega,fun c hc=>by rw[nr9.2 c (by omega),o8.2 c (by have:=oo.1; omega),oo.2 c hc]⟩
 refine⟨_,_,_,zah c0 rfl,p',_,c',g8,k8,g8.set h.next (.cells (zdI { r with dp:=p',dc:=c' }) 62 false),zbm c8 (by simp[zdI]),?_⟩
 have nr23:=zaj g0.next (g8.set h.next (.cells (zdI { r with dp:=p',dc:=c' }) 62 false)) (.cells (zdI { r with dp:=p',dc:=c' }) 62 false)
 refine⟨_,_,_,_,_,_,_,_,_,_,_,_,_,zao c9 rfl,rfl,(g8.set h.next (.cells (zdI { r with dp:=p',dc:=c' }) 62 false)).set g0.next (.cells (zdI { r with dp:=p',dc:=c' }) 62 false),zaB d9 rfl,_,_,_,_,_,_,_,_,_,_,_,_,_,zao (zag _ _ _) rfl,p',c',rfl,?_,?_,?_⟩
 ·have G23:=(G9.near nr23 (by omega) (Nat.le_refl _))
  exact { id:=ok.id,own:=ok.own,prev:=ok.prev,stamp:=ok.stamp,root:=ok.root,dead:=ok.dead,form:=(by
   rcases G23.2 with z | ⟨b,hp, -⟩
   ·exact .inl z.1
   ·exact .inr ⟨b,0,hp⟩),room:=ok.room,len:=ok.len,shows:=G23.shows }
 ·exact (G9.near nr23 (by omega) (Nat.le_refl _)).weak (by omega)
 ·exact⟨by rw[nr23.1]; exact o9.1,fun c hc=>by rw[nr23.2 c (by omega),o9.2 c hc]⟩
end
theorem zlv {α:Type} (Q:Nat→α→Prop):∀(n:Nat),(∀i,i < n→∃a,Q i a)→∃l:List α,l.length=n∧∀(i:Nat) (hi:i < l.length),Q i l[i]
 | 0,_=>⟨[],rfl,fun i hi=>absurd hi (Nat.not_lt_zero _)⟩
 | n+1,h=>by
   obtain⟨l,hl,hq⟩:=zlv Q n fun i hi=>h i (by omega)
   obtain⟨a,ha⟩:=h n (by omega)
   refine⟨l ++ [a],by simp[hl],fun i hi=>?_⟩
   by_cases h2:i < l.length
   ·rw[List.getElem_append_left h2]
    exact hq i h2
   ·obtain rfl:i=n:=by simp at hi; omega
    rw[List.getElem_append_right (by omega)]
    simpa using ha
section
variable {h:AH}
theorem zuE {g:Nat} {cs:List Value} (r:Rd Tryz.prog h (g+2) 42 cs):∃q:PtI,cs=[.int .i64 q.1,.int .u64 q.2.1,.int .u32 q.2.2]∧zns q:=by
 unfold Rd at r
 rw[Tryz.underlying42] at r
 have hc1:Tryz.prog.cellsOf 3=1:=by simp
 have hc2:Tryz.prog.cellsOf 22=1:=by simp
 have hc3:Tryz.prog.cellsOf 40=1:=by simp
 simp only[List.map_cons,List.map_nil,RdL,hc1,hc2,hc3] at r
 obtain⟨k1,r1,k2,r2,k3,r3,r4⟩:=r
 unfold Rd at r1 r2 r3
 rw[Tryz.underlying3] at r1
 rw[Tryz.underlying22] at r2
 rw[Tryz.underlying40] at r3
 obtain⟨x,e1,w1⟩:=r1
 obtain⟨y,e2,w2⟩:=r2
 obtain⟨z,e3,w3⟩:=r3
 match cs,e1,e2,e3,r4,k3 with
 | [a,b,c],e1,e2,e3,r4,k3=>
   simp at e1 e2 e3
   subst e1 e2 e3
   exact⟨(x,y,z),rfl,w1,w2,w3⟩
 | a :: b :: c :: d :: l,e1,e2,e3,r4,k3=>simp at r4
theorem zCL {l:List PtI} {al:List Value} (hl:al.length=l.length * 3) (h:∀(i:Nat) (hi:i < l.length),(al.drop (i * 3)).take 3=[.int .i64 l[i].1,.int .u64 l[i].2.1,.int .u32 l[i].2.2]):al=ptI l:=by
 apply List.ext_getElem?
 intro j
 by_cases hj:j < al.length
 ·have hi:j / 3 < l.length:=by omega
  have e1:=congrArg (fun x:List Value=>x[j % 3]?) (h (j / 3) hi)
  have e2:=congrArg (fun x:List Value=>x[j % 3]?) (zi1 l (j / 3) hi)
  simp only[List.getElem?_take,List.getElem?_drop] at e1 e2
  have hm:j % 3 < 3:=Nat.mod_lt _ (by decide)
  have hd:j / 3 * 3+j % 3=j:=by omega
  rw[if_pos hm,hd] at e1 e2
  rw[e1,e2]
 ·rw[List.getElem?_eq_none (by omega),List.getElem?_eq_none (by rw[zuD]; omega)]
theorem zwx {g:Nat} {v:Value} (r:Rd Tryz.prog h (g+3) 60 [v]):∃p n c ds,v=.slice p n c∧(p=none∨∃b off,p=some ⟨b,off,none⟩)∧n * 24≤reachBytes∧n=ds.length∧zaq h p n 3 (ptI ds)∧∀q∈ds,zns q:=by
 unfold Rd at r
 rw[Tryz.underlying60] at r
 obtain⟨p,n,c,al,e,hp,hn,hb,hs,hr⟩:=r
 have hc2:Tryz.prog.cellsOf 42=3:=by simp
 have hb2:Tryz.prog.bytesOf 42=24:=by kernel_rfl
 rw[hb2] at hb
 obtain⟨hl,hi⟩:=hr.rep
 rw[hc2] at hs hi hl
 obtain⟨ds,hds,hq⟩:=zlv (fun i (q:PtI)=>(al.drop (i * 3)).take 3=[.int .i64 q.1,.int .u64 q.2.1,.int .u32 q.2.2]∧zns q) n fun i hin=>zuE (hi i hin)
 have hal:=zCL (l:=ds) (by rw[hl,hds]) fun i hi=>(hq i hi).1
 subst hal
 refine⟨p,n,c,ds,by simpa using e,hp,hb,hds.symm,hs,fun q hq'=>?_⟩
 obtain⟨i,hi',rfl⟩:=List.mem_iff_getElem.1 hq'
 exact (hq i hi').2
theorem zyW {g:Nat} {cs:List Value} (r:Rd Tryz.prog h (g+4) 62 cs):∃s:zhz,cs=zdI s∧ze7 h s:=by
 unfold Rd at r
 rw[Tryz.underlying62] at r
 have hc1:Tryz.prog.cellsOf 3=1:=by simp
 have hc2:Tryz.prog.cellsOf 22=1:=by simp
 have hc3:Tryz.prog.cellsOf 9=1:=by simp
 have hc4:Tryz.prog.cellsOf 4=1:=by simp
 have hc5:Tryz.prog.cellsOf 42=3:=by simp
 have hc6:Tryz.prog.cellsOf 60=1:=by simp
 simp only[List.map_cons,List.map_nil,RdL,hc1,hc2,hc3,hc4,hc5,hc6,List.drop_drop] at r
 obtain⟨k1,r1,k2,r2,k3,r3,k4,r4,k5,r5,k6,r6,k7,r7,k8,r8,k9,r9,r10⟩:=r
 unfold Rd at r1 r2 r3 r4 r5 r6 r7
 rw[Tryz.underlying22] at r1 r4 r5 r6
 rw[Tryz.underlying9] at r2
 rw[Tryz.underlying4] at r3
 rw[Tryz.underlying3] at r7
 obtain⟨x1,e1,w1⟩:=r1
 obtain⟨x2,e2,w2, -⟩:=r2
 obtain⟨x3,e3⟩:=r3
 obtain⟨x4,e4,w4⟩:=r4
 obtain⟨x5,e5,w5⟩:=r5
 obtain⟨x6,e6,w6⟩:=r6
 obtain⟨x7,e7,w7⟩:=r7
 obtain⟨q,e8,w8⟩:=zuE r8
 match cs,e1,e2,e3,e4,e5,e6,e7,e8,r9,r10,k9 with
 | [c0,c1,c2,c3,c4,c5,c6,c7,c8,c9,c10],e1,e2,e3,e4,e5,e6,e7,e8,r9,r10,k9=>
   have r9' : Rd Tryz.prog h (g+3) 60 [c10]:=r9
   obtain⟨p,n,c,ds,rfl,f1,f2,f3,f4,f5⟩:=zwx (g:=g) r9'
   simp at e1 e2 e3 e4 e5 e6 e7 e8
   obtain⟨e8,e9,e10⟩:=e8
   subst e1 e2 e3 e4 e5 e6 e7 e8 e9 e10
   exact⟨⟨x1,x2,x3,x4,x5,x6,x7,q,p,n,c,ds⟩,rfl,⟨w1,w4,w5,w6,w8,f5,f1,f2,f3,f4⟩⟩
 | c0 :: c1 :: c2 :: c3 :: c4 :: c5 :: c6 :: c7 :: c8 :: c9 :: c10 :: c11 :: l,e1,e2,e3,e4,e5,e6,e7,e8,r9,r10,k9=>simp at r10
structure zrL (h:AH) (p:Option Addr) (n:Nat) (rs:List zhz):Prop where
 sets:zqq h p n rs
 room:n * 112≤reachBytes
 form:p=none∨∃b off,p=some ⟨b,off,none⟩
theorem zrL.old {h h' : AH} {p:Option Addr} {n:Nat} {rs:List zhz} (k:zrL h p n rs) (o:Old h h'):zrL h' p n rs:=⟨k.sets.old o,k.room,k.form⟩
theorem zyX {g:Nat} {v:Value} (r:Rd Tryz.prog h (g+5) 23 [v]):∃p n c rs,v=.slice p n c∧zrL h p n rs:=by
 unfold Rd at r
 rw[Tryz.underlying23] at r
 obtain⟨p,n,c,al,e,hp,hn,hb,hs,hr⟩:=r
 have hc2:Tryz.prog.cellsOf 62=11:=by simp
 have hb2:Tryz.prog.bytesOf 62=112:=by kernel_rfl
 rw[hb2] at hb
 obtain⟨hl,hi⟩:=hr.rep
 rw[hc2] at hs hi hl
 obtain⟨rs,hrs,hq⟩:=zlv (fun i (s:zhz)=>(al.drop (i * 11)).take 11=zdI s∧ze7 h s) n fun i hin=>zyW (hi i hin)
 exact⟨p,n,c,rs,by simpa using e,⟨⟨hrs.symm,by omega,al,hs,fun i hi=>hq i hi⟩,hb,hp⟩⟩
theorem zyY {cs:List Value} {g:Nat} (r:Rd Tryz.prog h (g+6) 25 cs):∃nx p n c rs,cs=[.int .u64 nx,.slice p n c]∧(Lit.int .u64 nx).wf=true∧zrL h p n rs:=by
 unfold Rd at r
 rw[Tryz.underlying25] at r
 have hc2:Tryz.prog.cellsOf 22=1:=by simp
 have hc6:Tryz.prog.cellsOf 23=1:=by simp
 simp only[List.map_cons,List.map_nil,RdL,hc2,hc6,List.drop_drop] at r
 obtain⟨k1,r1,k2,r2,r3⟩:=r
 unfold Rd at r1
 rw[Tryz.underlying22] at r1
 obtain⟨x1,e1,w1⟩:=r1
 match cs,e1,r2,r3,k2 with
 | [c0,c1],e1,r2,r3,k2=>
   have r2' : Rd Tryz.prog h (g+5) 23 [c1]:=r2
   obtain⟨p,n,c,rs,rfl,T⟩:=zyX (g:=g) r2'
   simp at e1
   subst e1
   exact⟨x1,p,n,c,rs,rfl,w1,T⟩
 | c0 :: c1 :: c2 :: l,e1,r2,r3,k2=>simp at r3
end
section
variable {K:Xs} {h:AH} {p:Nat} {F:List Nat} {d m:Nat} {W:Nat} {nw:List (List Nat)} {M:List Nat} {st:Nat} {ba:Int}
theorem zCM:zan Tryz.prog 99=some (List.replicate 1024 (Value.int .u8 0) ++ List.replicate 16 (Value.int .i64 0)):=by kernel_rfl
theorem zwy (hk:K 35=none) (Mm:ze3 h m M):Wf Tryz.prog K 35 [.pointer (some ⟨m,0,none⟩)] h fun v h'=>v=.pointer (some ⟨h.next,0,none⟩)∧ze3 h' h.next M∧Old h h'∧h'.next=h.next+1:=by
 have hl:(zfP M (zny M)).length=1040:=by rw[zdw,Mm.1,zbx]
 refine zg6 hk _ h _ (zae ⟨_,zao Mm.2.2 hl,_,zCM,fun g4 e4=>⟨hl,?_⟩⟩)
 obtain⟨g2,k2,n2,o2,m2⟩:=zaF e4 (vs:=zfP M (zny M)) (by rw[hl]; simp)
 exact⟨g2,k2,rfl,⟨Mm.1,by omega,(m2 [] (fun c hc=>by cases hc)).1⟩,o2,n2⟩
theorem zwz (kk:zfM K) (Mm:ze3 h m M) {i:Nat} (hi:M[i]?= some 1):Wf Tryz.prog K 46 [.pointer (some ⟨m,0,none⟩),.int .i64 (i:Nat)] h fun v h'=>v=.int .i64 0∧ze3 h' m (M.set i 2)∧za9 m h h':=by
 have hl:=(List.getElem?_eq_some_iff.1 hi).1
 have hm:=Mm.1
 refine zg5 kk.mTake _ _ h _ ((ztx kk.mChange kk.mIs kk.mSet Mm (i:Nat) 1 2).mono ?_)
 rintro v g (⟨-, -, -,rfl,m2,n2⟩ | ⟨z, -⟩)
 ·exact⟨_,rfl,rfl,m2,n2⟩
 ·exact absurd ⟨by omega,by omega,by rw[Int.toNat_natCast]; exact hi⟩ z
theorem zcK:∀(A M:List Nat) (x:Nat),x∉A→(zbj M A)[x]?= M[x]?
 | [],M,x,h=>rfl
 | a :: A,M,x,h=>by
   have:=zcK A (M.set a 2) x (fun z=>h (List.mem_cons_of_mem _ z))
   show (zbj (M.set a 2) A)[x]?= _
   rw[this,List.getElem?_set,if_neg (fun z=>h (by rw[z]; exact List.mem_cons_self ..))]
theorem zqr:∀(A M:List Nat) (x:Nat),x∈A→x < M.length→(zbj M A)[x]?= some 2
 | a :: A,M,x,h,hx=>by
   show (zbj (M.set a 2) A)[x]?= _
   by_cases e:x∈A
   ·exact zqr A _ x e (by rw[List.length_set]; exact hx)
   ·rw[zcK A _ x e]
    obtain rfl:x=a:=by simpa[e] using h
    rw[List.getElem?_set,if_pos rfl,if_pos hx]
theorem zwA (kk:zfM K) (Mm:ze3 h m M) {q:Option Addr} {n c:Nat} {sp:List (Nat×Nat)} (S:zaq h q n 2 (spC sp)) (hg:Gap (-1) sp) (hn:n≤1000000) (hf:∀x∈exN sp,M[x]?= some 1):
 Wf Tryz.prog K 45 [.slice q n c,.func (.func 46) #[.pointer (some ⟨m,0,none⟩)] #[]] h fun v h'=>ze3 h' m (zbj M (exN sp))∧h.next≤h'.next∧∀c,c < h.next→c≠m→h'.get c=h.get c:=by
 have hm:=Mm.2.1
 have hxl:=zgy hg
 refine zrh kk.xEach _ _ _ _ h _ ((zqk kk.kn S hg hn).mono ?_)
 rintro _ g1 ⟨⟨b,c',rfl,S1⟩,o1⟩
 have hnd:(exN sp).Nodup:=(zln hg).imp (fun h=>by omega)
 refine⟨_,_,_,rfl,fun i k g=>∃u:Nat,i=u∧u≤(exN sp).length∧(exN sp).length - u=k∧ze3 g m (zbj M ((exN sp).take u))∧g1.next≤g.next∧∀c,c < g1.next→c≠m→g.get c=g1.get c,⟨_,0,rfl,Nat.zero_le _,rfl,Mm.same o1.1 (o1.2 _ hm),Nat.le_refl _,fun _ _ _=>rfl⟩,?_⟩
 rintro k g i ⟨u,rfl,hu,rfl,Mg,ng,fg⟩
 refine⟨fun z=>?_,fun z=>?_⟩
 ·have hul:u < (exN sp).length:=by omega
  by_cases e:b=m
  ·exfalso
   have hb1:=S1.blk (by omega)
   rcases S1.2 with z | ⟨b',off,al,e',ro,e1,e2,e3,e4,e5⟩
   ·omega
   ·cases e1
    rw[e,(Mm.same o1.1 (o1.2 _ hm)).2.2] at e3
    simp only[Option.some.injEq,zb7.cells.injEq] at e3
    obtain⟨rfl, -⟩:=e3
    have:=congrArg (fun l=>l[0]?) e5
    obtain⟨j,hj⟩:∃j,(exN sp).length * 1=j+1:=⟨(exN sp).length - 1,by omega⟩
    rw[hj,List.drop_zero] at this
    have hm0:(zfP M (zny M))[0]?= some (.int .u8 ((M[0]'(by rw[Mm.1]; decide):Nat):Int)):=by
     rw[zoA (by rw[Mm.1]; decide),List.getElem?_eq_getElem (by rw[Mm.1]; decide)]
     rfl
    rw[List.getElem?_take,if_pos (Nat.succ_pos _),hm0,zdU,List.getElem?_eq_getElem (by omega)] at this
    simp at this
  have Sg:=S1.keep (h':=g) ng fun a ea hb=>by cases ea; exact fg _ hb e
  obtain⟨b',off',e',hld⟩:=Sg.get (i:=u) (by omega)
  simp only[Option.some.injEq,Addr.mk.injEq,and_true] at e'
  obtain⟨rfl,rfl⟩:=e'
  rw[zbN (by omega)] at hld
  have hnot:(exN sp)[u]∉(exN sp).take u:=fun z=>by
   have:=List.take_append_drop u (exN sp)
   rw[←this,List.nodup_append] at hnd
   refine hnd.2.2 _ z (exN sp)[u] ?_ rfl
   rw[List.drop_eq_getElem_cons hul]
   exact List.mem_cons_self ..
  refine zae ⟨by omega,z,_,by rw[Int.toNat_natCast,Nat.mul_one]; exact hld,(zwz kk Mg (by rw[zcK _ _ _ hnot]; exact hf _ (List.getElem_mem hul))).mono ?_⟩
  rintro _ g14 ⟨rfl,M14,n14⟩
  refine⟨_,rfl,fun i16 e16=>?_⟩
  have e16:=zaJ e16 (by omega) (by omega)
  refine⟨(exN sp).length - (u+1),by omega,u+1,by omega,by omega,rfl,?_,by rw[n14.1]; exact ng,fun c hc hne=>by rw[n14.2 c hne]; exact fg c hc hne⟩
  rw[List.take_succ_eq_append_getElem hul,zet]
  exact M14
 ·obtain rfl:u=(exN sp).length:=by omega
  rw[List.take_length] at Mg
  exact⟨Mg,Nat.le_trans o1.1 ng,fun c hc hne=>by rw[fg c (by have:=o1.1; omega) hne,o1.2 c hc]⟩
theorem zgB (kk:zfM K) {nx:Int} {q:Option Addr} {n c:Nat} {rs:List zhz} (T:zrL h q n rs):
 Wf Tryz.prog K 37 [.agg #[.int .u64 nx,.slice q n c]] h fun v h'=>(∃b,v=.agg #[.int .u64 nx,.slice (some ⟨b,0,none⟩) n n]∧h.next≤b)∧Old h h':=by
 have hr:=T.room
 simp only[reachBytes] at hr
 refine zla kk.xCopied _ _ _ _ h _ fun g0 e0 g1 e1=>?_
 have o0:=zaa e0
 have o1:=zaa e1
 have n0:=zab e0
 have n1:=zab e1
 have w0:=(o1.2 _ (by omega)).trans (zac e0)
 have w1:=zac e1
 refine⟨_,_,_,zah w0 rfl,⟨⟨by omega,by omega,by omega,by omega⟩,fun g5 e5=>?_⟩⟩
 rw[Int.toNat_natCast] at e5
 have o5:=zaa e5
 have n5:=zab e5
 have w50:=(o5.2 _ (by omega)).trans w0
 refine⟨_,_,_,zah w50 rfl,fun i k g=>∃u:Nat,i=u∧u≤n∧n - u=k∧Old g1 g∧g1.next < g.next∧∃al,g.get g1.next=some (.cells al 62 false)∧al.length=n * 11,⟨_,0,rfl,Nat.zero_le _,rfl,o5,by omega,_,zac e5,?_⟩,?_⟩
 ·rw[List.length_flatten,List.map_replicate]
  simp
 rintro k g i ⟨u,rfl,hu,rfl,og,hg,al,hal,hl⟩
 have wg0:=(og.2 _ (by omega)).trans w0
 have wg1:=(og.2 g0.next (by omega)).trans w1
 refine⟨fun z=>?_,fun z=>?_⟩
 ·have hul:u < n:=by omega
  obtain⟨b,off,rfl,hi,hld, -,ok⟩:=(T.sets.old ((o0.trans o1).trans og)).at hul
  refine⟨_,_,_,zah wg0 rfl,zae ⟨by omega,by omega,_,_,_,_,_,_,_,_,_,_,_,_,_,hld,(zww kk.eCopy ok).mono ?_⟩⟩
  rintro _ g33 ⟨p',c',rfl, -, -,o33⟩
  have w33:=(o33.2 _ hg).trans hal
  refine⟨_,_,_,_,_,_,_,_,_,_,_,_,_,rfl,by omega,by omega,rfl,_,zjX w33 (by simp only[List.length_cons,List.length_nil,Int.toNat_natCast]; omega),fun i48 e48=>?_⟩
  have e48:=zaJ e48 (by omega) (by omega)
  refine⟨n - (u+1),by omega,u+1,by omega,by omega,rfl,?_,?_,_,zag _ _ _,?_⟩
  ·exact (og.trans o33).near (zaj _ _ _) (Nat.le_refl _)
  ·rw[(zaj _ _ _).1]; have:=o33.1; omega
  ·simp only[List.length_append,List.length_take,List.length_drop,List.length_cons,List.length_nil,Int.toNat_natCast]
   omega
 ·refine⟨_,zah wg0 rfl,rfl,_,zaB wg1 rfl,_,_,_,_,zao (zag _ _ _) rfl,⟨g1.next,by rw[Int.toNat_natCast],by omega⟩,?_⟩
  exact ((o0.trans o1).trans og).near (zaj _ _ _) (by omega)
end
end Go.Am
