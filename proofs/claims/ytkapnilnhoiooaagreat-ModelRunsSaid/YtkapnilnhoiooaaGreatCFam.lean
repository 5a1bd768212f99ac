/-
  A FAMILY'S RECORDS: how they lie; where one is; its floor; which can be.
-/
import Derived.Test.YtkapnilnhoiooaaGreatAmH
import Derived.Test.YtkapnilnhoiooaaGreatPFacts
import Derived.Test.YtkapnilnhoiooaaGreatVFam
set_option linter.unusedVariables false
set_option linter.unusedSimpArgs false
set_option maxRecDepth 100000
namespace Go.Am
open Go.Proofs
abbrev PtI:=Int×Int×Int
structure zaj where
 id:Int
 name:ByteArray
 snap:Bool
 own:Int
 prev:Int
 stamp:Int
 blocks:Int
 root:PtI
 dp:Option Addr
 dn:Nat
 dc:Nat
 dead:List PtI
def setC (r:zaj):List Value:=[.int .u64 r.id,.string r.name,.bool r.snap,.int .u64 r.own,.int .u64 r.prev,.int .u64 r.stamp,.int .i64 r.blocks,.int .i64 r.root.1,.int .u64 r.root.2.1,.int .u32 r.root.2.2,.slice r.dp r.dn r.dc]
def ptI (l:List PtI):List Value:=(l.map fun q=>[Value.int .i64 q.1,.int .u64 q.2.1,.int .u32 q.2.2]).flatten
theorem ziW (l:List PtI):(ptI l).length=l.length * 3:=by
 induction l with
 | nil=>rfl
 | cons q l ih=>
   have:(ptI (q :: l)).length=3+(ptI l).length:=by simp[ptI]; omega
   rw[this,ih,List.length_cons]; omega
theorem znU:∀(l:List PtI) (i:Nat) (h:i < l.length),((ptI l).drop (i * 3)).take 3=[.int .i64 l[i].1,.int .u64 l[i].2.1,.int .u32 l[i].2.2]
 | q :: l,0,h=>rfl
 | q :: l,i+1,h=>by
   have:(ptI (q :: l)).drop ((i+1) * 3)=(ptI l).drop (i * 3):=by
    rw[show (i+1) * 3=3+i * 3 by omega,←List.drop_drop]
    rfl
   rw[this,znU l i (by simpa using h)]
   rfl
def zc9 (q:PtI):Prop:=(Lit.int .i64 q.1).wf=true∧(Lit.int .u64 q.2.1).wf=true∧(Lit.int .u32 q.2.2).wf=true
structure zbC (h:AH) (r:zaj):Prop where
 id:(Lit.int .u64 r.id).wf=true
 own:(Lit.int .u64 r.own).wf=true
 prev:(Lit.int .u64 r.prev).wf=true
 stamp:(Lit.int .u64 r.stamp).wf=true
 root:zc9 r.root
 dead:∀q∈r.dead,zc9 q
 form:r.dp=none∨∃b off,r.dp=some ⟨b,off,none⟩
 room:r.dn * 24≤reachBytes
 len:r.dn=r.dead.length
 shows:zaR h r.dp r.dn 3 (ptI r.dead)
theorem zbC.old {h h' : AH} {r:zaj} (k:zbC h r) (o:Old h h'):zbC h' r:={ k with shows:=k.shows.old o }
def zbL (h:AH) (p:Option Addr) (n:Nat) (rs:List zaj):Prop:=n=rs.length∧n≤reachBytes∧∃cells,zaR h p n 11 cells∧∀(i:Nat) (hi:i < rs.length),(cells.drop (i * 11)).take 11=setC rs[i]∧zbC h rs[i]
theorem zbL.old {h h' : AH} {p:Option Addr} {n:Nat} {rs:List zaj} (t:zbL h p n rs) (o:Old h h'):zbL h' p n rs:=by
 obtain⟨h1,hr,cells,h2,h3⟩:=t
 exact⟨h1,hr,cells,h2.old o,fun i hi=>⟨(h3 i hi).1,(h3 i hi).2.old o⟩⟩
theorem zuX {g:AH} {b off n:Nat} {cs:List Value} (h:ldN g b off n=some cs) {j:Nat} {v:Value} (hj:cs[j]?= some v):ld1 g b (off+j)=some v:=by
 unfold ldN at h
 unfold ld1
 split at h
 ·rename_i cs' e ro hg
  rw[hg]
  split at h
  ·simp only[Option.some.injEq] at h
   subst h
   rw[List.getElem?_take] at hj
   split at hj
   ·rw[List.getElem?_drop] at hj
    exact hj
   ·cases hj
  ·cases h
 ·cases h
theorem zbL.at {g:AH} {p:Option Addr} {n:Nat} {rs:List zaj} (t:zbL g p n rs) {i:Nat} (hi:i < n):
 ∃b off,p=some ⟨b,off,none⟩∧∃(hi' : i < rs.length),ldN g b (off+i * 11) 11=some (setC rs[i])∧(∀(j:Nat) v,(setC rs[i])[j]?= some v→ld1 g b (off+i * 11+j)=some v)∧zbC g rs[i]:=by
 obtain⟨t2, -,cells,t3,t4⟩:=t
 obtain⟨b,off,hp,hld, -⟩:=t3.getN hi
 obtain⟨q1,q2⟩:=t4 i (by omega)
 rw[q1] at hld
 exact⟨b,off,hp,by omega,hld,fun j v hj=>zuX hld hj,q2⟩
def plcN (rs:List zaj) (id:Int):Option Nat:=rs.findIdx? fun r=>decide (r.id=id)
def plc (rs:List zaj) (id:Int):Int:=match plcN rs id with | some i=>(i:Int) | none=>-1
theorem zdO {rs:List zaj} {id:Int} {u:Nat} {r:zaj} (h:rs[u]?= some r) (he:r.id=id) (hb:∀(j:Nat) x,j < u→rs[j]?= some x→x.id≠id):plcN rs id=some u:=by
 unfold plcN
 obtain⟨hu,rfl⟩:=List.getElem?_eq_some_iff.1 h
 rw[List.findIdx?_eq_some_iff_getElem]
 refine⟨hu,by simpa using he,fun j hj=>?_⟩
 have:=hb j _ hj (List.getElem?_eq_getElem (by omega))
 simpa using this
theorem zeX {rs:List zaj} {id:Int} (hb:∀r∈rs,r.id≠id):plcN rs id=none:=by
 unfold plcN
 rw[List.findIdx?_eq_none_iff]
 intro x hx
 simpa using hb x hx
theorem zbv {rs:List zaj} {id:Int} {u:Nat} (h:plcN rs id=some u):∃hu:u < rs.length,rs[u].id=id:=by
 unfold plcN at h
 rw[List.findIdx?_eq_some_iff_getElem] at h
 obtain⟨hu,h1, -⟩:=h
 exact⟨hu,by simpa using h1⟩
theorem zqW {rs:List zaj} {id:Int} (h:plcN rs id=none):∀r∈rs,r.id≠id:=by
 unfold plcN at h
 rw[List.findIdx?_eq_none_iff] at h
 intro r hr
 simpa using h r hr
def flr (rs:List zaj) (id:Int):Int:=match plcN rs id with
 | none=>0
 | some i=>match rs[i]? with
   | none=>0
   | some r=>if r.prev=0 then 0 else match plcN rs r.prev with
     | none=>0
     | some j=>match rs[j]? with
       | none=>0
       | some x=>x.stamp
section
variable {K:Xs} {h:AH} {p:Option Addr} {n c:Nat} {rs:List zaj}
theorem zcb (hk:K 80=none) (T:zbL h p n rs) (id:Int):Wf Tryz.prog K 80 [.slice p n c,.int .u64 id] h fun v h'=>v=.int .i64 (plc rs id)∧h=h':=by
 have hn:=T.1
 refine ziO hk _ _ _ _ h _ ⟨fun i k g=>∃u:Nat,i=u∧u≤n∧n - u=k∧h=g∧∀(j:Nat) r,j < u→rs[j]?= some r→r.id≠id,⟨_,0,rfl,Nat.zero_le _,rfl,rfl,fun j r hj=>absurd hj (Nat.not_lt_zero _)⟩,?_⟩
 rintro k1 _ i4 ⟨u,rfl,hu,rfl,rfl,hb⟩
 refine⟨fun z=>?_,fun z=>?_⟩
 ·obtain⟨b,off,rfl,hi',hl,h1,ok⟩:=T.at (i:=u) (by omega)
  refine zag ⟨by omega,z,_,by rw[Int.toNat_natCast]; exact h1 0 _ rfl,fun e=>⟨?_,rfl⟩,fun e i8 e8=>?_⟩
  ·unfold plc
   rw[zdO (List.getElem?_eq_getElem hi') e hb]
  ·have e8:=zcj e8 (by omega) (by have:=T.2.1; simp only[reachBytes] at this; omega)
   refine⟨n - (u+1),by omega,u+1,by omega,by omega,rfl,rfl,fun j r hj hr=>?_⟩
   rcases Nat.lt_succ_iff_lt_or_eq.1 hj with hj | rfl
   ·exact hb j r hj hr
   ·rw[List.getElem?_eq_getElem hi'] at hr
    cases hr
    exact e
 ·refine⟨?_,rfl⟩
  unfold plc
  rw[zeX]
  intro r hr
  obtain⟨j,hj⟩:=List.mem_iff_getElem?.1 hr
  exact hb j r (by have:=(List.getElem?_eq_some_iff.1 hj).1; omega) hj
theorem zbL.at' {b off:Nat} (T:zbL h (some ⟨b,off,none⟩) n rs) {i:Nat} (hi:i < n):
 ∃(hi' : i < rs.length),ldN h b (off+i * 11) 11=some (setC rs[i])∧(∀(j:Nat) v,(setC rs[i])[j]?= some v→ld1 h b (off+i * 11+j)=some v)∧zbC h rs[i]:=by
 obtain⟨b',off',e,x⟩:=T.at hi
 cases e
 exact x
theorem zbL.some (T:zbL h p n rs) (hi:0 < n):∃b off,p=some ⟨b,off,none⟩:=by
 obtain⟨b,off,e, -⟩:=T.at hi
 exact⟨b,off,e⟩
theorem zaS {id:Int} {i:Nat} (h:plcN rs id=some i):plc rs id=(i:Int):=by unfold plc; rw[h]
theorem zcc {id:Int} (h:plcN rs id=none):plc rs id= -1:=by unfold plc; rw[h]
theorem zmw (hk:K 55=none) (hp:K 80=none) (T:zbL h p n rs) (id:Int):Wf Tryz.prog K 55 [.slice p n c,.int .u64 id] h fun v h'=>v=.int .u64 (flr rs id)∧h=h':=by
 have hn:=T.1
 refine ziP hk _ _ _ _ h _ ((zcb hp T id).mono ?_)
 rintro _ _ ⟨rfl,rfl⟩
 refine⟨_,rfl,fun z=>⟨?_,rfl⟩,fun z=>?_⟩
 ·unfold flr
  cases e:plcN rs id with
  | none=>rfl
  | some i=>rw[zaS e] at z; omega
 ·cases e:plcN rs id with
  | none=>rw[zcc e] at z; omega
  | some i=>
    obtain⟨hi,hid⟩:=zbv e
    rw[zaS e] at z ⊢
    obtain⟨b,off,rfl,hi',hl,h1,ok⟩:=T.at (i:=i) (by omega)
    have hri:=List.getElem?_eq_getElem hi'
    refine zag ⟨by omega,by omega,_,by rw[Int.toNat_natCast]; exact h1 4 _ rfl,fun e4=>⟨?_,rfl⟩,fun e4=>zag ⟨by omega,by omega,_,by rw[Int.toNat_natCast]; exact h1 4 _ rfl,(zcb hp T _).mono ?_⟩⟩
    ·unfold flr
     simp only[e,hri,e4,if_true]
    ·rintro _ _ ⟨rfl,rfl⟩
     refine⟨_,rfl,fun y=>⟨?_,rfl⟩,fun y=>?_⟩
     ·unfold flr
      simp only[e,hri,if_neg e4]
      cases e2:plcN rs rs[i].prev with
      | none=>rfl
      | some j=>rw[zaS e2] at y; omega
     ·cases e2:plcN rs rs[i].prev with
      | none=>rw[zcc e2] at y; omega
      | some j=>
        obtain⟨hj, -⟩:=zbv e2
        rw[zaS e2] at y ⊢
        obtain⟨hj', -,h2, -⟩:=T.at' (i:=j) (by omega)
        refine zag ⟨by omega,by omega,_,by rw[Int.toNat_natCast]; exact h2 5 _ rfl,?_,rfl⟩
        unfold flr
        simp only[e,hri,if_neg e4,e2,List.getElem?_eq_getElem hj']
def zbI (v:Value) (P:Prop):Prop:=(v=.bool true∧P)∨(v=.bool false∧¬P)
def zet (q:PtI):Prop:=(q.1=0∧q.2.1=0∧q.2.2=0)∨(4≤q.1∧q.1 < 1024∧1≤q.2.1∧q.2.1≤281474976710655)
theorem zwR (x y z:Int):(Value.agg #[.int .i64 x,.int .u64 y,.int .u32 z]).formed Tryz.prog 78=true:=by
 simp[Value.formed]
theorem zs9 {x y z:Int} (hx:(Lit.int .i64 x).wf=true) (hy:(Lit.int .u64 y).wf=true) (hz:(Lit.int .u32 z).wf=true):zdx Tryz.prog 78 (.agg #[.int .i64 x,.int .u64 y,.int .u32 z])=some [.int .i64 x,.int .u64 y,.int .u32 z]:=by
 rw[zkS (zwR x y z),zeH Tryz.underlying78 (d:=39) rfl]
 have k3:=zcv (P:=Tryz.prog) Tryz.underlying3 (m:=39) (d:=38) rfl x
 have k4:=zcv (P:=Tryz.prog) Tryz.underlying26 (m:=39) (d:=38) rfl y
 have k5:=zcv (P:=Tryz.prog) Tryz.underlying76 (m:=39) (d:=38) rfl z
 rw[if_pos hx] at k3
 rw[if_pos hy] at k4
 rw[if_pos hz] at k5
 generalize Tryz.prog.keyLits 39=KL at k3 k4 k5 ⊢
 simp[k3,k4,k5]
theorem zvN:zdx Tryz.prog 78 (.agg #[.int .i64 0,.int .u64 0,.int .u32 0])=some [.int .i64 0,.int .u64 0,.int .u32 0]:=zs9 (by decide) (by decide) (by decide)
def zjJ (q:PtI):Prop:=¬(q.1=0∧q.2.1=0∧q.2.2=0)∧zet q
def zbJ (a b:PtI):Prop:=if a.2.1=b.2.1 then (if a.1=b.1 then a.2.2 < b.2.2 else a.1 < b.1) else a.2.1 < b.2.1
theorem zoM (hk:K 98=none) (a b:PtI):
 Wf Tryz.prog K 98 [.agg #[.int .i64 a.1,.int .u64 a.2.1,.int .u32 a.2.2],.agg #[.int .i64 b.1,.int .u64 b.2.1,.int .u32 b.2.2]] h fun v h'=>zbI v (zbJ a b)∧Old h h':=by
 refine znS hk _ _ _ _ _ _ h _ fun g0 e0 g1 e1=>?_
 have o0:=zab e0
 have n0:=zaa e0
 have o1:=zab e1
 have c0:=(o1.2 h.next (by omega)).trans (zaf e0)
 have c1:=zaf e1
 have oo:=o0.trans o1
 refine⟨_,zae c0 rfl,_,zae c1 rfl,fun e=>⟨_,zae c0 rfl,_,zae c1 rfl,fun e2=>⟨_,zae c0 rfl,_,zae c1 rfl,fun e3=>⟨.inl ⟨rfl,?_⟩,oo⟩,fun e3=>⟨.inr ⟨rfl,?_⟩,oo⟩⟩,fun e2=>⟨_,zae c0 rfl,_,zae c1 rfl,fun e3=>⟨.inl ⟨rfl,?_⟩,oo⟩,fun e3=>⟨.inr ⟨rfl,?_⟩,oo⟩⟩⟩,fun e=>⟨_,zae c0 rfl,_,zae c1 rfl,fun e3=>⟨.inl ⟨rfl,?_⟩,oo⟩,fun e3=>⟨.inr ⟨rfl,?_⟩,oo⟩⟩⟩ <;> unfold zbJ <;> simp_all
def zeu (l:List PtI):Prop:=∀(i:Nat) q,l[i]?= some q→zjJ q∧∀(j:Nat) x,i=j+1→l[j]?= some x→zbJ x q
def okB (c:Nat):Prop:=(97≤c∧c≤122)∨(48≤c∧c≤57)∨c=45∨c=95
def zbf (s:ByteArray):Prop:=1≤s.size∧s.size≤24∧∀pos,pos < s.size→okB (s.get! pos).toNat
theorem zt8 {s:ByteArray} {pos:Nat} (h:(s.get! pos).toNat < 128):Utf8.decode s pos=((s.get! pos).toNat,1):=by
 unfold Utf8.decode
 simp only[Nat.add_zero]
 rw[if_pos h]
theorem zvO {s:ByteArray} {pos:Nat} (h:128≤(s.get! pos).toNat):128≤(Utf8.decode s pos).1:=by
 unfold Utf8.decode
 simp only[Nat.add_zero]
 rw[if_neg (by omega)]
 repeat' split
 all_goals simp_all[Utf8.runeError]
 all_goals omega
theorem zdP (hk:K 87=none) (s:ByteArray):Wf Tryz.prog K 87 [.string s] h fun v h'=>zbI v (zbf s)∧Old h h':=by
 refine zkW hk _ h _ ⟨fun z=>⟨.inr ⟨rfl,fun k=>by have:=k.1; omega⟩,Old.refl _⟩,fun z=>⟨fun y=>⟨.inr ⟨rfl,fun k=>by have:=k.2.1; omega⟩,Old.refl _⟩,fun y g0 e0=>?_⟩⟩
 have o0:=zab e0
 have n0:=zaa e0
 refine⟨fun k g=>∃pos,g.get h.next=some (.siter s pos)∧pos≤s.size∧s.size - pos=k∧(∀j,j < pos→okB (s.get! j).toNat)∧Old h g,⟨_,0,zaf e0,Nat.zero_le _,rfl,fun j hj=>absurd hj (Nat.not_lt_zero _),o0⟩,?_⟩
 rintro k2 g3 ⟨pos,c3,hpos,rfl,hb,o3⟩
 refine⟨rfl,s,pos,c3,fun hlt g7 e7=>?_,fun hge=>⟨.inl ⟨rfl,by omega,by omega,fun j hj=>hb j (by omega)⟩,o3⟩⟩
 have nr:=zak h.next g3 (.siter s (pos+(Utf8.decode s pos).2))
 have o7:Old h g7:=by rw[e7]; exact⟨by rw[nr.1]; exact o3.1,fun c hc=>by rw[nr.2 c (by omega),o3.2 c hc]⟩
 have acc:okB (Utf8.decode s pos).1→∃j4,j4 < s.size - pos∧∃pos,g7.get h.next=some (.siter s pos)∧pos≤s.size∧s.size - pos=j4∧(∀j,j < pos→okB (s.get! j).toNat)∧Old h g7:=by
  intro k
  have hlt2:(s.get! pos).toNat < 128:=Classical.byContradiction fun q=>by
   have:=zvO (s:=s) (pos:=pos) (by omega)
   unfold okB at k
   omega
  have hd:=zt8 hlt2
  refine⟨s.size - (pos+1),by omega,pos+1,?_,by omega,rfl,fun j hj=>?_,o7⟩
  ·rw[e7,hd]
   exact zad _ _ _
  ·rcases Nat.lt_succ_iff_lt_or_eq.1 hj with hj | rfl
   ·exact hb j hj
   ·rw[hd] at k; exact k
 have rej:¬okB (Utf8.decode s pos).1→zbI (.bool false) (zbf s)∧Old h g7:=by
  intro k
  refine⟨.inr ⟨rfl,fun N=>k ?_⟩,o7⟩
  have:=N.2.2 pos hlt
  have hlt2:(s.get! pos).toNat < 128:=by unfold okB at this; omega
  rw[zt8 hlt2]
  exact this
 generalize (Utf8.decode s pos).1=c at acc rej ⊢
 repeat' (first | exact acc (by unfold okB; omega) | exact rej (by unfold okB; omega) | (constructor <;> intro _))
end
end Go.Am
