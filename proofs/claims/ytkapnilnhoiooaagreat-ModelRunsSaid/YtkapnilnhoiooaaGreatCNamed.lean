/-
  NAMES OF TEXTS: a volume's, a snapshot's; how a text is cut; where the record of a name is.
-/
import Derived.Test.YtkapnilnhoiooaaGreatCFamA
set_option linter.unusedVariables false
set_option linter.unusedSimpArgs false
set_option maxRecDepth 100000
namespace Go.Am
open Go.Proofs
def btl (s:ByteArray):List UInt8:=s.data.toList
theorem ziX (s:ByteArray):(btl s).length=s.size:=by simp[btl]
theorem ziY {a b:ByteArray} (h:btl a=btl b):a=b:=by
 obtain⟨⟨a⟩⟩:=a; obtain⟨⟨b⟩⟩:=b; cases h; rfl
theorem zq3 (a b:ByteArray):btl (a ++ b)=btl a ++ btl b:=ByteArray.toList_data_append
theorem zq4 (a:ByteArray) (i j:Nat):btl (a.extract i j)=(btl a).extract i j:=by
 unfold btl; rw[ByteArray.data_extract,Array.toList_extract]
theorem get!_btl {s:ByteArray} {i:Nat} (h:i < s.size):(btl s)[i]?= some (s.get! i):=by
 obtain⟨⟨s⟩⟩:=s
 have h' : i < s.length:=h
 show s[i]?= some ((Array.mk s)[i]!)
 simp[h']
theorem zhY {s:ByteArray} {i:Nat} (h:i < s.size):s[i]! = s.get! i:=by
 have h1:=get!_btl h
 rw[getElem!_pos s i h]
 obtain⟨⟨s⟩⟩:=s
 have h' : i < s.length:=h
 change s[i]?= some _ at h1
 rw[List.getElem?_eq_getElem h'] at h1
 exact Option.some.inj h1
theorem zq5 {s:ByteArray}:zbf s↔1≤(btl s).length∧(btl s).length≤24∧∀b∈btl s,okB b.toNat:=by
 unfold zbf
 rw[ziX]
 refine⟨fun ⟨h1,h2,h3⟩=>⟨h1,h2,fun b hb=>?_⟩,fun ⟨h1,h2,h3⟩=>⟨h1,h2,fun i hi=>?_⟩⟩
 ·obtain⟨i,hi⟩:=List.mem_iff_getElem?.1 hb
  have hl:=(List.getElem?_eq_some_iff.1 hi).1
  rw[ziX] at hl
  have:=get!_btl hl
  rw[hi] at this
  cases this
  exact h3 i hl
 ·exact h3 _ (List.mem_of_getElem? (get!_btl hi))
theorem zbf.no64 {s:ByteArray} (k:zbf s):(64:UInt8)∉btl s:=fun h=>by
 have:=(zq5.1 k).2.2 _ h
 unfold okB at this
 simp at this
theorem zpJ {s:ByteArray} {n:Int} (h:zjB s 64=n) (h0:0≤n):n.toNat < s.size∧(n.toNat:Int)=n∧(btl s)[n.toNat]?= some 64∧(64:UInt8)∉(btl s).take n.toNat:=by
 unfold zjB at h
 split at h
 ·rename_i i hi
  subst h
  rw[List.find?_range_eq_some] at hi
  obtain⟨h1,h2,h3⟩:=hi
  rw[List.mem_range] at h2
  refine⟨h2,rfl,?_,fun hm=>?_⟩
  ·rw[zhY h2] at h1
   show (btl s)[i]?= _
   rw[get!_btl h2]
   simpa using h1
  ·obtain⟨j,hj⟩:=List.mem_iff_getElem?.1 hm
   rw[List.getElem?_take] at hj
   split at hj
   ·rename_i hji
    have hji:j < i:=hji
    have:=h3 j hji
    have hjs:j < s.size:=by omega
    rw[zhY hjs] at this
    rw[get!_btl hjs] at hj
    simp at this hj
    exact this hj
   ·cases hj
 ·omega
theorem zpK {s:ByteArray} (h:zjB s 64 < 0):(64:UInt8)∉btl s:=by
 unfold zjB at h
 split at h
 ·omega
 ·rename_i hi
  rw[List.find?_eq_none] at hi
  intro hm
  obtain⟨j,hj⟩:=List.mem_iff_getElem?.1 hm
  have hl:=(List.getElem?_eq_some_iff.1 hj).1
  rw[ziX] at hl
  have:=hi j (List.mem_range.2 hl)
  rw[zhY hl] at this
  rw[get!_btl hl] at hj
  simp at this hj
  exact this hj
def atB:ByteArray:=ByteArray.mk #[64]
def noB:ByteArray:=ByteArray.mk #[]
def zaX (f v s:ByteArray):Prop:=(zbf f∧v=f∧s=noB)∨(zbf v∧zbf s∧f=v ++ atB ++ s)
theorem znV:∀{a b c d:List UInt8},(64:UInt8)∉a→(64:UInt8)∉c→a ++ 64 :: b=c ++ 64 :: d→a=c∧b=d
 | [],b,[],d,_,_,h=>by simp at h; exact⟨rfl,h⟩
 | [],b,x :: c,d,_,h2,h=>by simp at h; exact absurd (by rw[h.1]; simp) h2
 | x :: a,b,[],d,h1,_,h=>by simp at h; exact absurd (by rw[h.1]; simp) h1
 | x :: a,b,y :: c,d,h1,h2,h=>by
   simp at h h1 h2
   obtain⟨rfl,h⟩:=h
   obtain⟨rfl,rfl⟩:=znV h1.2 h2.2 h
   exact⟨rfl,rfl⟩
theorem zcN (v s:ByteArray):btl (v ++ atB ++ s)=btl v ++ 64 :: btl s:=by
 rw[zq3,zq3,show btl atB=[64] from rfl,List.append_assoc]
 rfl
theorem zoN {f:ByteArray} {n:Nat} (h1:(btl f)[n]?= some 64):f=f.extract 0 n ++ atB ++ f.extract (n+1) f.size:=by
 apply ziY
 rw[zcN,zq4,zq4,List.extract_eq_take_drop,List.extract_eq_take_drop,List.drop_zero,Nat.sub_zero,←ziX,List.take_of_length_le (l:=(btl f).drop (n+1)) (by simp)]
 obtain⟨hn,he⟩:=List.getElem?_eq_some_iff.1 h1
 rw[←he,←List.drop_eq_getElem_cons hn,List.take_append_drop]
theorem zoO {f:ByteArray} {n:Nat} (h1:(btl f)[n]?= some 64) (h2:(64:UInt8)∉(btl f).take n) (v s:ByteArray):
 zaX f v s↔v=f.extract 0 n∧s=f.extract (n+1) f.size∧zbf v∧zbf s:=by
 have hf:=zoN h1
 constructor
 ·rintro (⟨k, -, -⟩ | ⟨k1,k2,k3⟩)
  ·exact absurd (List.mem_of_getElem? h1) k.no64
  ·have he:=congrArg btl (hf.symm.trans k3)
   rw[zcN,zcN] at he
   have hx:btl (f.extract 0 n)=(btl f).take n:=by rw[zq4,List.extract_eq_take_drop,List.drop_zero,Nat.sub_zero]
   obtain⟨e1,e2⟩:=znV (by rw[hx]; exact h2) k1.no64 he
   have e1:=ziY e1
   have e2:=ziY e2
   exact⟨e1.symm,e2.symm,k1,k2⟩
 ·rintro⟨rfl,rfl,k1,k2⟩
  exact .inr ⟨k1,k2,hf⟩
theorem zuY {f:ByteArray} (h:(64:UInt8)∉btl f) (v s:ByteArray):zaX f v s↔zbf f∧v=f∧s=noB:=by
 constructor
 ·rintro (k | ⟨k1,k2,rfl⟩)
  ·exact k
  ·rw[zcN] at h
   exact absurd (by simp) h
 ·exact .inl
theorem zbf.ne {s:ByteArray} (k:zbf s):s≠noB:=fun e=>by
 subst e
 exact absurd k.1 (by decide)
theorem zaX.uniq {f v s v' s' : ByteArray} (a:zaX f v s) (b:zaX f v' s'):v=v'∧s=s':=by
 rcases a with ⟨k,rfl,rfl⟩ | ⟨k1,k2,rfl⟩
 ·rcases b with ⟨-,rfl,rfl⟩ | ⟨q1,q2,e⟩
  ·exact⟨rfl,rfl⟩
  ·exact absurd (by rw[e,zcN]; simp) k.no64
 ·rcases b with ⟨k, -, -⟩ | ⟨q1,q2,e⟩
  ·exact absurd (by rw[zcN]; simp) k.no64
  ·have e:=congrArg btl e
   rw[zcN,zcN] at e
   obtain⟨e1,e2⟩:=znV k1.no64 q1.no64 e
   exact⟨ziY e1,ziY e2⟩
structure znW (K:Xs):Prop where
 split:K 64=none
 full:K 81=none
 right:K 87=none
 cut:K 86=none
 lcut:K 95=none
 index:K 101=none
 indexB:K 105=none
 ext:K 109=some (.ext zfi)
section
variable {K:Xs} {h:AH} {p:Option Addr} {n c:Nat} {rs:List zaj}
theorem zuZ (kk:znW K) (f:ByteArray):Wf Tryz.prog K 101 [.string f,.string (ByteArray.mk #[64])] h fun v h'=>h'= h∧∃i:Int,v=.int .i64 i∧((0≤i∧i.toNat < f.size∧(i.toNat:Int)=i∧(btl f)[i.toNat]?= some 64∧(64:UInt8)∉(btl f).take i.toNat)∨(i < 0∧(64:UInt8)∉btl f)):=by
 refine zfu kk.index _ _ h _ ⟨fun z=>absurd z (by decide),fun _=>⟨fun e=>⟨rfl,0,rfl,.inl ?_⟩,fun _=>⟨fun _=>⟨by omega,64,by rfl,zdJ kk.indexB _ _ h _ (zvC kk.ext (v:=.int .i64 (zjB f 64)) rfl (Nat.le_refl _) ⟨_,rfl,_,rfl,rfl,_,rfl,?_⟩)⟩,fun z=>absurd (by rfl) z⟩⟩⟩
 ·subst e
  exact⟨by decide,by decide,by decide,by rfl,by simp⟩
 ·by_cases q:0≤zjB f 64
  ·exact .inl ⟨q,zpJ rfl q⟩
  ·exact .inr ⟨by omega,zpK (by omega)⟩
theorem zfk {P:Program} {h:AH} {t:TypeId} (hu:P.underlying t=some .string) (s:ByteArray) (i:Nat) (hi:i≤s.size):zaB P h t (.string s) none (some (.int .i64 (i:Int))) none=some (.string (s.extract 0 i))∧zaB P h t (.string s) (some (.int .i64 (i:Int))) none none=some (.string (s.extract i s.size)):=by
 constructor
 ·unfold zaB
  rw[hu]
  unfold zbM
  simp only[zcM,if_pos hi]
 ·unfold zaB
  rw[hu]
  unfold zbM
  simp only[zcM,if_pos hi]
theorem zu0 (kk:znW K) (f:ByteArray) (hf:f.size≤9223372036854775806):Wf Tryz.prog K 86 [.string f,.string (ByteArray.mk #[64])] h fun v h'=>h'= h∧
 ((∃i:Nat,(btl f)[i]?= some 64∧(64:UInt8)∉(btl f).take i∧v=.tuple #[.string (f.extract 0 i),.string (f.extract (i+1) f.size),.bool true])∨((64:UInt8)∉btl f∧v=.tuple #[.string f,.string noB,.bool false])):=by
 refine zjG kk.cut _ _ h _ (zgG kk.lcut _ _ h _ ((zuZ kk f).mono ?_))
 rintro _ _ ⟨rfl,i,rfl,q⟩
 refine⟨i,rfl,fun z=>?_,fun z=>?_⟩
 ·rcases q with ⟨_,q1,q2,q3,q4⟩ | ⟨q1, -⟩
  ·rw[←q2]
   refine⟨_,(zfk Tryz.underlying9 f i.toNat (by omega)).1,fun i4 e4=>?_⟩
   have e5:i4=((i.toNat+1:Nat):Int):=by
    have h1:(ByteArray.mk #[64]).size=1:=rfl
    rw[h1] at e4
    exact (zcj e4 (by omega) (by omega)).trans (by omega)
   rw[e5]
   exact⟨_,(zfk Tryz.underlying9 f (i.toNat+1) (by omega)).2,_,_,.inl ⟨rfl,rfl,.inl ⟨_,q3,q4,rfl⟩⟩⟩
  ·omega
 ·rcases q with ⟨q0, -⟩ | ⟨-,q1⟩
  ·omega
  ·exact⟨_,_,.inr ⟨rfl,rfl,.inr ⟨q1,rfl⟩⟩⟩
theorem zeY (kk:znW K) (f:ByteArray) (hf:f.size≤9223372036854775806):Wf Tryz.prog K 64 [.string f] h fun v h'=>((∃a b,zaX f a b∧v=.tuple #[.string a,.string b,.int .i64 0])∨((∀a b,¬zaX f a b)∧v=.tuple #[.string noB,.string noB,.int .i64 141]))∧Old h h':=by
 refine zkV kk.split _ h _ ((zu0 kk f hf).mono ?_)
 rintro _ _ ⟨rfl,⟨i,q1,q2,rfl⟩ | ⟨q1,rfl⟩⟩
 ·have hs:=zoO q1 q2
  refine⟨_,_,.inl ⟨rfl,(zdP kk.right _).mono ?_⟩⟩
  rintro _ g4 ⟨⟨rfl,k1⟩ | ⟨rfl,k1⟩,o4⟩
  ·refine .inl ⟨rfl,(zdP kk.right _).mono ?_⟩
   rintro _ g6 ⟨⟨rfl,k2⟩ | ⟨rfl,k2⟩,o6⟩
   ·exact .inl ⟨rfl,.inl ⟨_,_,(hs _ _).2 ⟨rfl,rfl,k1,k2⟩,rfl⟩,o4.trans o6⟩
   ·exact .inr ⟨rfl,.inr ⟨fun a b q=>by obtain⟨rfl,rfl,z1,z2⟩:=(hs _ _).1 q; exact k2 z2,rfl⟩,o4.trans o6⟩
  ·exact .inr ⟨rfl,.inr ⟨fun a b q=>by obtain⟨rfl,rfl,z1,z2⟩:=(hs _ _).1 q; exact k1 z1,rfl⟩,o4⟩
 ·have hs:=zuY q1
  refine⟨_,_,.inr ⟨rfl,(zdP kk.right _).mono ?_⟩⟩
  rintro _ g4 ⟨⟨rfl,k1⟩ | ⟨rfl,k1⟩,o4⟩
  ·exact .inl ⟨rfl,.inl ⟨_,_,(hs _ _).2 ⟨k1,rfl,rfl⟩,rfl⟩,o4⟩
  ·exact .inr ⟨rfl,.inr ⟨fun a b q=>k1 ((hs _ _).1 q).1,rfl⟩,o4⟩
theorem zq6 (kk:znW K) {v s:ByteArray} (hv:zbf v) (hs:zbf s):Wf Tryz.prog K 81 [.string v,.string s] h fun x h'=>x=.string (v ++ atB ++ s)∧Old h h':=by
 refine zhx kk.full _ _ h _ ((zdP kk.right _).mono ?_)
 rintro _ g1 ⟨⟨rfl,k1⟩ | ⟨rfl,k1⟩,o1⟩
 rotate_left
 ·exact absurd hv k1
 refine .inl ⟨rfl,fun e=>absurd e hs.ne,fun _=>(zdP kk.right _).mono ?_⟩
 rintro _ g2 ⟨⟨rfl,k2⟩ | ⟨rfl,k2⟩,o2⟩
 rotate_left
 ·exact absurd hs k2
 have h1:=hv.2.1
 have h2:=hs.2.1
 have h3:(ByteArray.mk #[64]).size=1:=rfl
 refine .inl ⟨rfl,by omega,fun s4 e4=>⟨?_,fun s5 e5=>⟨by rw[e5,e4]; rfl,o1.trans o2⟩⟩⟩
 rw[e4,ByteArray.size_append]
 omega
theorem zq7 (kk:znW K) {v:ByteArray} (hv:zbf v):Wf Tryz.prog K 81 [.string v,.string (ByteArray.mk #[])] h fun x h'=>x=.string v∧Old h h':=by
 refine zhx kk.full _ _ h _ ((zdP kk.right _).mono ?_)
 rintro _ g1 ⟨⟨rfl,k1⟩ | ⟨rfl,k1⟩,o1⟩
 rotate_left
 ·exact absurd hv k1
 exact .inl ⟨rfl,fun _=>⟨rfl,o1⟩,fun e=>absurd rfl e⟩
def plcC (rs:List zaj) (c:Cal):Option Nat:=rs.findIdx? fun r=>decide (zdk r=c)
def zq8 (rs:List zaj) (c:Cal):Int:=match plcC rs c with | some i=>(i:Int) | none=>-1
theorem zmy {rs:List zaj} {c:Cal} {u:Nat} {r:zaj} (h:rs[u]?= some r) (he:zdk r=c) (hb:∀(j:Nat) x,j < u→rs[j]?= some x→zdk x≠c):plcC rs c=some u:=by
 unfold plcC
 obtain⟨hu,rfl⟩:=List.getElem?_eq_some_iff.1 h
 rw[List.findIdx?_eq_some_iff_getElem]
 refine⟨hu,by simpa using he,fun j hj=>?_⟩
 have:=hb j _ hj (List.getElem?_eq_getElem (by omega))
 simpa using this
theorem zq9 {rs:List zaj} {c:Cal} (hb:∀r∈rs,zdk r≠c):plcC rs c=none:=by
 unfold plcC
 rw[List.findIdx?_eq_none_iff]
 intro x hx
 simpa using hb x hx
theorem zee {rs:List zaj} {c:Cal} {u:Nat} (h:plcC rs c=some u):∃r,rs[u]?= some r∧zdk r=c:=by
 unfold plcC at h
 rw[List.findIdx?_eq_some_iff_getElem] at h
 obtain⟨hu,h1, -⟩:=h
 exact⟨_,List.getElem?_eq_getElem hu,by simpa using h1⟩
theorem zra {rs:List zaj} {c:Cal} (h:plcC rs c=none):∀r∈rs,zdk r≠c:=by
 unfold plcC at h
 rw[List.findIdx?_eq_none_iff] at h
 intro r hr
 simpa using h r hr
theorem zdQ {c:Cal} {i:Nat} (h:plcC rs c=some i):zq8 rs c=(i:Int):=by unfold zq8; rw[h]
theorem zfl {c:Cal} (h:plcC rs c=none):zq8 rs c= -1:=by unfold zq8; rw[h]
structure zxq (K:Xs):Prop where
 placeOf:K 83=none
 callOf:K 94=none
theorem ziZ (kk:zxq K) (T:zbL h p n rs) (hc:∀r∈rs,zk5 (zdk r)) {k:Cal} (ok:zk5 k):Wf Tryz.prog K 83 [.slice p n c,zvR k] h fun v h'=>v=.int .i64 (zq8 rs k)∧Old h h':=by
 have hn:=T.1
 have hn2:=T.2.1
 refine zhc kk.placeOf _ _ _ _ _ h _ fun g0 e0=>⟨fun i m g=>∃u:Nat,i=u∧u≤n∧n - u=m∧Old g0 g∧∀(j:Nat) r,j < u→rs[j]?= some r→zdk r≠k,⟨_,0,rfl,Nat.zero_le _,rfl,Old.refl _,fun j r hj=>absurd hj (Nat.not_lt_zero _)⟩,?_⟩
 have o0:=zab e0
 have n0:=zaa e0
 have c0:=zaf e0
 rintro m1 g3 i5 ⟨u,rfl,hu,rfl,o3,hb⟩
 refine⟨fun z=>?_,fun z=>⟨?_,o0.trans o3⟩⟩
 ·obtain⟨b,off,rfl,hi',hl,h1,ok1⟩:=(T.old (o0.trans o3)).at (i:=u) (by omega)
  refine zag ⟨by omega,z,?_⟩
  rw[Int.toNat_natCast]
  refine (zpI kk.callOf (T.old (o0.trans o3)) (i:=u) (by omega) hi').mono ?_
  rintro _ g9 ⟨rfl,o9⟩
  have c3:=(o3.2 h.next (by omega)).trans c0
  have c9:=(o9.2 h.next (by have:=o3.1; omega)).trans c3
  have hru:=List.getElem?_eq_getElem hi'
  refine⟨_,_,rfl,_,_,zah c9 rfl,_,_,zxo (hc _ (List.getElem_mem hi')),zxo ok,?_,?_⟩
  ·rw[zq2]
   intro e
   have e:=of_decide_eq_true e
   refine⟨zah c3 rfl,zah c9 rfl,?_,(o0.trans o3).trans o9⟩
   rw[zdQ (zmy hru e hb)]
  ·rw[zq2]
   intro e
   have e:=of_decide_eq_false e
   refine⟨zah c3 rfl,zah c9 rfl,fun i16 e16=>?_⟩
   have e16:=zcj e16 (by omega) (by simp only[reachBytes] at hn2; omega)
   refine⟨n - (u+1),by omega,u+1,by omega,by omega,rfl,o3.trans o9,fun j r hj hr=>?_⟩
   rcases Nat.lt_succ_iff_lt_or_eq.1 hj with hj | rfl
   ·exact hb j r hj hr
   ·rw[hru] at hr
    cases hr
    exact e
 ·rw[zfl]
  apply zq9
  intro r hr
  obtain⟨j,hj⟩:=List.mem_iff_getElem?.1 hr
  exact hb j r (by have:=(List.getElem?_eq_some_iff.1 hj).1; omega) hj
def lookN (rs:List zaj) (v s:ByteArray):Option Nat:=match plcC rs (0,v) with
 | none=>none
 | some i=>if s=noB then some i else match rs[i]? with
   | none=>none
   | some r=>plcC rs (r.id,s)
structure zoP (K:Xs):Prop where
 named:K 44=none
 plc:zxq K
 name:znW K
 copy:K 56=none
theorem zk5.of {rs:List zaj} (he:∀r∈rs,zsj r):∀r∈rs,zk5 (zdk r):=fun r hr=>by
 have e:=he r hr
 have h1:=e.2.1
 have h2:=e.2.2.2.2.1.2.1
 have hm:maxLen=9223372036854775807:=by decide
 refine⟨?_,by show r.name.size≤_; omega⟩
 unfold zdk
 split
 ·simp only[]
  simp[Lit.wf,IntKind.min,IntKind.max,IntKind.signed,IntKind.bits]
  omega
 ·show (Lit.int .u64 0).wf=true
  decide
theorem zk7 {v s:ByteArray} {i:Nat} (h:lookN rs v s=some i):∃r,rs[i]?= some r:=by
 unfold lookN at h
 split at h
 ·cases h
 ·rename_i j hj
  split at h
  ·cases h
   obtain⟨r,hr, -⟩:=zee hj
   exact⟨r,hr⟩
  ·split at h
   ·cases h
   ·obtain⟨r,hr, -⟩:=zee h
    exact⟨r,hr⟩
def zoQ (rs:List zaj) (f:ByteArray) (v:Value) (h' : AH):Prop:=
 (∃a b,zaX f a b∧((∃i r p' c',lookN rs a b=some i∧rs[i]?= some r∧v=.tuple #[.agg (setC { r with dp:=p',dc:=c' }).toArray,.int .i64 0]∧zbC h' { r with dp:=p',dc:=c' })∨(lookN rs a b=none∧v=.tuple #[.agg (setC zaq).toArray,.int .i64 161])))∨
 ((∀a b,¬zaX f a b)∧v=.tuple #[.agg (setC zaq).toArray,.int .i64 141])
theorem zgK (kk:zoP K) (T:zbL h p n rs) (hc:∀r∈rs,zk5 (zdk r)) (hi:∀r∈rs,(Lit.int .u64 r.id).wf=true) (f:ByteArray) (hf:f.size≤9223372036854775806):
 Wf Tryz.prog K 44 [.slice p n c,.string f] h fun v h'=>zoQ rs f v h'∧Old h h':=by
 have hn:=T.1
 refine ziR kk.named _ _ _ _ h _ fun g0 e0=>(zeY kk.name f hf).mono ?_
 have o0:=zab e0
 have n0:=zaa e0
 have c0:g0.get h.next=some (.cells (setC zaq) 81 false):=zaf e0
 have bad:∀(g:AH) (e:Int),Old g0 g→zoQ rs f (.tuple #[.agg (setC zaq).toArray,.int .i64 e]) (g.set h.next (.cells (setC zaq) 81 false))→
  (List.length (setC zaq)=11)∧∃g1,stN g h.next 0 (setC zaq)=some g1∧∃i10 s11 b12 i13 i14 i15 i16 i17 i18 i19,∃(p20:Option Addr) (n21 c22:Nat),ldN g1 h.next 0 11=some ([(.int .u64 i10),(.string s11),(.bool b12),(.int .u64 i13),(.int .u64 i14),(.int .u64 i15),(.int .i64 i16),(.int .i64 i17),(.int .u64 i18),(.int .u32 i19),(.slice p20 n21 c22)]:List Value)∧
  (zoQ rs f (.tuple #[(.agg #[(.int .u64 i10),(.string s11),(.bool b12),(.int .u64 i13),(.int .u64 i14),(.int .u64 i15),(.int .i64 i16),(.int .i64 i17),(.int .u64 i18),(.int .u32 i19),(.slice p20 n21 c22)]),(.int .i64 e)]) g1∧Old h g1):=by
  intro g e o q
  have nr:=zak h.next g (.cells (setC zaq) 81 false)
  exact⟨rfl,_,zat ((o.2 _ (by omega)).trans c0) rfl,_,_,_,_,_,_,_,_,_,_,_,_,_,zah (zad _ _ _) rfl,q,by rw[nr.1]; have:=o.1; omega,fun c hc=>by rw[nr.2 c (by omega),o.2 c (by omega),o0.2 c hc]⟩
 rintro _ g2 ⟨⟨a,b,hs,rfl⟩ | ⟨hs,rfl⟩,o2⟩
 rotate_left
 ·exact⟨_,_,_,rfl,fun e=>absurd e (by decide),fun _=>bad g2 141 o2 (.inr ⟨hs,rfl⟩)⟩
 have hsz:zk5 (0,a)∧b.size≤maxLen:=by
  have hm:maxLen=9223372036854775807:=by decide
  rcases hs with ⟨k,rfl,rfl⟩ | ⟨k1,k2, -⟩
  ·exact⟨⟨by show (Lit.int .u64 0).wf=true; decide,by have:=k.2.1; simp only; omega⟩,by rw[hm]; decide⟩
  ·exact⟨⟨by show (Lit.int .u64 0).wf=true; decide,by have:=k1.2.1; simp only; omega⟩,by have:=k2.2.1; omega⟩
 refine⟨_,_,_,rfl,fun _=>(ziZ kk.plc (T.old (o0.trans o2)) hc (k:=(0,a)) hsz.1).mono ?_,fun e=>absurd rfl e⟩
 rintro _ g7 ⟨rfl,o7⟩
 have o27:=o2.trans o7
 have good:∀(g:AH),Old g0 g→∀(b23 o24:Nat),p=some ⟨b23,o24,none⟩→∀(i:Nat),lookN rs a b=some i→
  ((0:Int)≤(i:Int))∧((i:Int) < ((n:Nat):Int))∧
  (∃i25:Int,∃s26:ByteArray,∃b27:Bool,∃i28 i29 i30 i31 i32 i33 i34:Int,∃(p35:Option Addr) (n36 c37:Nat),ldN g b23 (o24+Int.toNat (i:Int) * 11) 11=some ([(.int .u64 i25),(.string s26),(.bool b27),(.int .u64 i28),(.int .u64 i29),(.int .u64 i30),(.int .i64 i31),(.int .i64 i32),(.int .u64 i33),(.int .u32 i34),(.slice p35 n36 c37)]:List Value)∧
  (Wf Tryz.prog K 56 [(.agg #[(.int .u64 i25),(.string s26),(.bool b27),(.int .u64 i28),(.int .u64 i29),(.int .u64 i30),(.int .i64 i31),(.int .i64 i32),(.int .u64 i33),(.int .u32 i34),(.slice p35 n36 c37)])] g fun r38 h39=>
  (∃i40:Int,∃s41:ByteArray,∃b42:Bool,∃i43 i44 i45 i46 i47 i48 i49:Int,∃(p50:Option Addr) (n51 c52:Nat),r38=(.agg #[(.int .u64 i40),(.string s41),(.bool b42),(.int .u64 i43),(.int .u64 i44),(.int .u64 i45),(.int .i64 i46),(.int .i64 i47),(.int .u64 i48),(.int .u32 i49),(.slice p50 n51 c52)])∧
  ((List.length ([(.int .u64 i40),(.string s41),(.bool b42),(.int .u64 i43),(.int .u64 i44),(.int .u64 i45),(.int .i64 i46),(.int .i64 i47),(.int .u64 i48),(.int .u32 i49),(.slice p50 n51 c52)]:List Value)=11)∧∃h53:AH,stN h39 h.next 0 ([(.int .u64 i40),(.string s41),(.bool b42),(.int .u64 i43),(.int .u64 i44),(.int .u64 i45),(.int .i64 i46),(.int .i64 i47),(.int .u64 i48),(.int .u32 i49),(.slice p50 n51 c52)]:List Value)=some h53∧
  (∃i54:Int,∃s55:ByteArray,∃b56:Bool,∃i57 i58 i59 i60 i61 i62 i63:Int,∃(p64:Option Addr) (n65 c66:Nat),ldN h53 h.next 0 11=some ([(.int .u64 i54),(.string s55),(.bool b56),(.int .u64 i57),(.int .u64 i58),(.int .u64 i59),(.int .i64 i60),(.int .i64 i61),(.int .u64 i62),(.int .u32 i63),(.slice p64 n65 c66)]:List Value)∧
  (zoQ rs f (.tuple #[(.agg #[(.int .u64 i54),(.string s55),(.bool b56),(.int .u64 i57),(.int .u64 i58),(.int .u64 i59),(.int .i64 i60),(.int .i64 i61),(.int .u64 i62),(.int .u32 i63),(.slice p64 n65 c66)]),(.int .i64 0)]) h53∧Old h h53)))))):=by
  rintro g o b23 o24 rfl i hl
  obtain⟨r,hr⟩:=zk7 hl
  have hil:=(List.getElem?_eq_some_iff.1 hr).1
  obtain⟨hi',hld,h1,ok⟩:=(T.old (o0.trans o)).at' (i:=i) (by omega)
  have hrr:=List.getElem?_eq_getElem hi'
  rw[hr] at hrr
  have hrr:=Option.some.inj hrr
  rw[←hrr] at hld ok
  refine⟨by omega,by omega,_,_,_,_,_,_,_,_,_,_,_,_,_,by rw[Int.toNat_natCast]; exact hld,(zfj kk.copy ok).mono ?_⟩
  rintro _ g39 ⟨p',c',rfl,ok',G39,o39⟩
  have c39:=(o39.2 h.next (by have:=o.1; omega)).trans ((o.2 _ (by omega)).trans c0)
  have nr:=zak h.next g39 (.cells (setC { r with dp:=p',dc:=c' }) 81 false)
  refine⟨_,_,_,_,_,_,_,_,_,_,_,_,_,rfl,rfl,g39.set h.next (.cells (setC { r with dp:=p',dc:=c' }) 81 false),zat c39 rfl,_,_,_,_,_,_,_,_,_,_,_,_,_,zah (zad _ _ _) rfl,.inl ⟨a,b,hs,.inl ⟨i,r,p',c',hl,hr,rfl,{ ok' with shows:=(G39.near nr (by have:=o.1; omega) (Nat.le_refl _)).shows }⟩⟩,?_⟩
  exact⟨by rw[nr.1]; have:=o39.1; have:=o.1; omega,fun c hc=>by rw[nr.2 c (by omega),o39.2 c (by have:=o.1; omega),o.2 c (by omega),o0.2 c hc]⟩
 have none161:∀g,Old g0 g→lookN rs a b=none→_:=fun g o hl=>bad g 161 o (.inl ⟨a,b,hs,.inr ⟨hl,rfl⟩⟩)
 refine⟨_,rfl,fun z=>?_,fun z=>?_⟩
 ·cases e:plcC rs (0,a) with
  | none=>rw[zfl e] at z; omega
  | some i=>
    rw[zdQ e] at z ⊢
    obtain⟨r,hr, -⟩:=zee e
    have hil:=(List.getElem?_eq_some_iff.1 hr).1
    obtain⟨b1,off1,rfl⟩:=T.some (by omega)
    refine⟨fun q=>⟨fun y=>by omega,fun _=>zag (good g7 o27 _ _ rfl i ?_)⟩,fun q=>zag ?_⟩
    ·unfold lookN
     rw[e]
     simp only
     rw[if_pos (show b=noB from q)]
    ·obtain⟨hi',hld,h1,ok⟩:=(T.old (o0.trans o27)).at' (i:=i) (by omega)
     have hrr:=List.getElem?_eq_getElem hi'
     rw[hr] at hrr
     have hrr:=Option.some.inj hrr
     rw[←hrr] at h1
     refine⟨by omega,by omega,_,by rw[Int.toNat_natCast]; exact h1 0 _ rfl,(ziZ kk.plc (T.old (o0.trans o27)) hc (k:=(r.id,b)) ⟨hi r (List.mem_of_getElem? hr),hsz.2⟩).mono ?_⟩
     rintro _ g71 ⟨rfl,o71⟩
     have hl:lookN rs a b=plcC rs (r.id,b):=by
      unfold lookN
      rw[e]
      simp only
      rw[if_neg (show ¬b=noB from q)]
      simp only[hr]
     refine⟨_,rfl,fun y=>?_,fun y=>?_⟩
     ·refine none161 g71 (o27.trans o71) ?_
      rw[hl]
      cases e2:plcC rs (r.id,b) with
      | none=>rfl
      | some j=>rw[zdQ e2] at y; omega
     ·cases e2:plcC rs (r.id,b) with
      | none=>rw[zfl e2] at y; omega
      | some j=>
        rw[zdQ e2]
        exact zag (good g71 (o27.trans o71) _ _ rfl j (hl.trans e2))
 ·cases e:plcC rs (0,a) with
  | none=>
    rw[zfl e]
    refine⟨fun _=>none161 g7 o27 ?_,fun y=>by omega⟩
    unfold lookN
    rw[e]
  | some i=>rw[zdQ e] at z; omega
def zcd (rs:List zaj) (id:Int):ByteArray:=match plcN rs id with
 | none=>noB
 | some i=>match rs[i]? with
   | none=>noB
   | some r=>if r.snap=true then (match plcN rs r.own with
     | none=>noB
     | some j=>match rs[j]? with
       | none=>noB
       | some v=>v.name ++ atB ++ r.name) else r.name
theorem zoR (kk:znW K) (kf:K 40=none) (kp:K 80=none) (T:zbL h p n rs) (hN:∀r∈rs,zbf r.name) (id:Int):
 Wf Tryz.prog K 40 [.slice p n c,.int .u64 id] h fun v h'=>v=.string (zcd rs id)∧Old h h':=by
 have hn:=T.1
 refine zjF kf _ _ _ _ h _ ((zcb kp T id).mono ?_)
 rintro _ _ ⟨rfl,rfl⟩
 refine⟨_,rfl,fun z=>⟨?_,Old.refl _⟩,fun z=>?_⟩
 ·cases e:plcN rs id with
  | none=>unfold zcd; rw[e]; rfl
  | some i=>rw[zaS e] at z; omega
 cases e:plcN rs id with
 | none=>rw[zcc e] at z; omega
 | some i=>
   obtain⟨hi, -⟩:=zbv e
   rw[zaS e] at z ⊢
   obtain⟨b,off,rfl,hi',hl,h1,ok⟩:=T.at (i:=i) (by omega)
   have hri:=List.getElem?_eq_getElem hi'
   have hNr:=hN _ (List.getElem_mem hi')
   generalize rs[i]=r at h1 hri hNr
   have hf:zcd rs id=if r.snap=true then (match plcN rs r.own with
    | none=>noB
    | some j=>match rs[j]? with
      | none=>noB
      | some v=>v.name ++ atB ++ r.name) else r.name:=by
    unfold zcd
    simp only[e,hri]
   rw[hf]
   refine zag ⟨by omega,by omega,?_⟩
   rw[Int.toNat_natCast]
   cases hs:r.snap with
   | true=>
     refine .inl ⟨h1 2 _ (by simp[setC,hs]),zag ⟨by omega,by omega,_,h1 3 _ rfl,(zcb kp T _).mono ?_⟩⟩
     rintro _ _ ⟨rfl,rfl⟩
     refine⟨_,rfl,fun y=>⟨?_,Old.refl _⟩,fun y=>?_⟩
     ·cases e2:plcN rs r.own with
      | none=>rfl
      | some j=>rw[zaS e2] at y; omega
     cases e2:plcN rs r.own with
     | none=>rw[zcc e2] at y; omega
     | some j=>
       obtain⟨hj, -⟩:=zbv e2
       rw[zaS e2]
       obtain⟨hj',hl2,h2,ok2⟩:=T.at' (i:=j) (by omega)
       have hrj:=List.getElem?_eq_getElem hj'
       have hNv:=hN _ (List.getElem_mem hj')
       generalize rs[j]=v at h2 hrj hNv
       simp only[hrj]
       refine zag ⟨by omega,by omega,_,by rw[Int.toNat_natCast]; exact h2 1 _ rfl,zag ⟨by omega,by omega,_,h1 1 _ rfl,(zq6 kk hNv hNr).mono ?_⟩⟩
       rintro _ g ⟨rfl,o⟩
       exact⟨_,rfl,rfl,o⟩
   | false=>
     refine .inr ⟨h1 2 _ (by simp[setC,hs]),zag ⟨by omega,by omega,_,h1 1 _ rfl,(zq7 kk hNr).mono ?_⟩⟩
     rintro _ g ⟨rfl,o⟩
     exact⟨_,rfl,rfl,o⟩
end
end Go.Am
