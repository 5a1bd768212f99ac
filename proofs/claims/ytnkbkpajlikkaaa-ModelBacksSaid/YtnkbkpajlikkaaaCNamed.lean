/-
  NAMES OF TEXTS: a volume's, a snapshot's; how a text is cut; where the record of a name is.
-/
import Derived.Test.YtnkbkpajlikkaaaCFamA
set_option linter.unusedVariables false
set_option linter.unusedSimpArgs false
set_option maxRecDepth 100000
namespace Go.Am
open Go.Proofs
def btl (s:ByteArray):List UInt8:=s.data.toList
theorem btl_len (s:ByteArray):(btl s).length=s.size:=by simp[btl]
theorem btl_ext {a b:ByteArray} (h:btl a=btl b):a=b:=by
 obtain⟨⟨a⟩⟩:=a; obtain⟨⟨b⟩⟩:=b; cases h; rfl
theorem btl_app (a b:ByteArray):btl (a ++ b)=btl a ++ btl b:=ByteArray.toList_data_append
theorem btl_ex (a:ByteArray) (i j:Nat):btl (a.extract i j)=(btl a).extract i j:=by
 unfold btl; rw[ByteArray.data_extract,Array.toList_extract]
theorem get!_btl {s:ByteArray} {i:Nat} (h:i < s.size):(btl s)[i]?= some (s.get! i):=by
 obtain⟨⟨s⟩⟩:=s
 have h' : i < s.length:=h
 show s[i]?= some ((Array.mk s)[i]!)
 simp[h']
theorem getE_btl {s:ByteArray} {i:Nat} (h:i < s.size):s[i]! = s.get! i:=by
 have h1:=get!_btl h
 rw[getElem!_pos s i h]
 obtain⟨⟨s⟩⟩:=s
 have h' : i < s.length:=h
 change s[i]?= some _ at h1
 rw[List.getElem?_eq_getElem h'] at h1
 exact Option.some.inj h1
theorem NameR_btl {s:ByteArray}:NameR s↔1≤(btl s).length∧(btl s).length≤24∧∀b∈btl s,okB b.toNat:=by
 unfold NameR
 rw[btl_len]
 refine⟨fun ⟨h1,h2,h3⟩=>⟨h1,h2,fun b hb=>?_⟩,fun ⟨h1,h2,h3⟩=>⟨h1,h2,fun i hi=>?_⟩⟩
 ·obtain⟨i,hi⟩:=List.mem_iff_getElem?.1 hb
  have hl:=(List.getElem?_eq_some_iff.1 hi).1
  rw[btl_len] at hl
  have:=get!_btl hl
  rw[hi] at this
  cases this
  exact h3 i hl
 ·exact h3 _ (List.mem_of_getElem? (get!_btl hi))
theorem NameR.no64 {s:ByteArray} (k:NameR s):(64:UInt8)∉btl s:=fun h=>by
 have:=(NameR_btl.1 k).2.2 _ h
 unfold okB at this
 simp at this
theorem findB_some {s:ByteArray} {n:Int} (h:findB s 64=n) (h0:0≤n):n.toNat < s.size∧(n.toNat:Int)=n∧(btl s)[n.toNat]?= some 64∧(64:UInt8)∉(btl s).take n.toNat:=by
 unfold findB at h
 split at h
 ·rename_i i hi
  subst h
  rw[List.find?_range_eq_some] at hi
  obtain⟨h1,h2,h3⟩:=hi
  rw[List.mem_range] at h2
  refine⟨h2,rfl,?_,fun hm=>?_⟩
  ·rw[getE_btl h2] at h1
   show (btl s)[i]?= _
   rw[get!_btl h2]
   simpa using h1
  ·obtain⟨j,hj⟩:=List.mem_iff_getElem?.1 hm
   rw[List.getElem?_take] at hj
   split at hj
   ·rename_i hji
    have hji:j < i:=hji
    have:=h3 j hji
    have hjs:j < s.size:=by omega
    rw[getE_btl hjs] at this
    rw[get!_btl hjs] at hj
    simp at this hj
    exact this hj
   ·cases hj
 ·omega
theorem findB_none {s:ByteArray} (h:findB s 64 < 0):(64:UInt8)∉btl s:=by
 unfold findB at h
 split at h
 ·omega
 ·rename_i hi
  rw[List.find?_eq_none] at hi
  intro hm
  obtain⟨j,hj⟩:=List.mem_iff_getElem?.1 hm
  have hl:=(List.getElem?_eq_some_iff.1 hj).1
  rw[btl_len] at hl
  have:=hi j (List.mem_range.2 hl)
  rw[getE_btl hl] at this
  rw[get!_btl hl] at hj
  simp at this hj
  exact this hj
def atB:ByteArray:=ByteArray.mk #[64]
def noB:ByteArray:=ByteArray.mk #[]
def SplitOk (f v s:ByteArray):Prop:=(NameR f∧v=f∧s=noB)∨(NameR v∧NameR s∧f=v ++ atB ++ s)
theorem first64:∀{a b c d:List UInt8},(64:UInt8)∉a→(64:UInt8)∉c→a ++ 64 :: b=c ++ 64 :: d→a=c∧b=d
 | [],b,[],d,_,_,h=>by simp at h; exact⟨rfl,h⟩
 | [],b,x :: c,d,_,h2,h=>by simp at h; exact absurd (by rw[h.1]; simp) h2
 | x :: a,b,[],d,h1,_,h=>by simp at h; exact absurd (by rw[h.1]; simp) h1
 | x :: a,b,y :: c,d,h1,h2,h=>by
   simp at h h1 h2
   obtain⟨rfl,h⟩:=h
   obtain⟨rfl,rfl⟩:=first64 h1.2 h2.2 h
   exact⟨rfl,rfl⟩
theorem btl_join (v s:ByteArray):btl (v ++ atB ++ s)=btl v ++ 64 :: btl s:=by
 rw[btl_app,btl_app,show btl atB=[64] from rfl,List.append_assoc]
 rfl
theorem split_at {f:ByteArray} {n:Nat} (h1:(btl f)[n]?= some 64):f=f.extract 0 n ++ atB ++ f.extract (n+1) f.size:=by
 apply btl_ext
 rw[btl_join,btl_ex,btl_ex,List.extract_eq_take_drop,List.extract_eq_take_drop,List.drop_zero,Nat.sub_zero,←btl_len,List.take_of_length_le (l:=(btl f).drop (n+1)) (by simp)]
 obtain⟨hn,he⟩:=List.getElem?_eq_some_iff.1 h1
 rw[←he,←List.drop_eq_getElem_cons hn,List.take_append_drop]
theorem cutSplit {f:ByteArray} {n:Nat} (h1:(btl f)[n]?= some 64) (h2:(64:UInt8)∉(btl f).take n) (v s:ByteArray):
 SplitOk f v s↔v=f.extract 0 n∧s=f.extract (n+1) f.size∧NameR v∧NameR s:=by
 have hf:=split_at h1
 constructor
 ·rintro (⟨k, -, -⟩ | ⟨k1,k2,k3⟩)
  ·exact absurd (List.mem_of_getElem? h1) k.no64
  ·have he:=congrArg btl (hf.symm.trans k3)
   rw[btl_join,btl_join] at he
   have hx:btl (f.extract 0 n)=(btl f).take n:=by rw[btl_ex,List.extract_eq_take_drop,List.drop_zero,Nat.sub_zero]
   obtain⟨e1,e2⟩:=first64 (by rw[hx]; exact h2) k1.no64 he
   have e1:=btl_ext e1
   have e2:=btl_ext e2
   exact⟨e1.symm,e2.symm,k1,k2⟩
 ·rintro⟨rfl,rfl,k1,k2⟩
  exact .inr ⟨k1,k2,hf⟩
theorem cutNone {f:ByteArray} (h:(64:UInt8)∉btl f) (v s:ByteArray):SplitOk f v s↔NameR f∧v=f∧s=noB:=by
 constructor
 ·rintro (k | ⟨k1,k2,rfl⟩)
  ·exact k
  ·rw[btl_join] at h
   exact absurd (by simp) h
 ·exact .inl
theorem NameR.ne {s:ByteArray} (k:NameR s):s≠noB:=fun e=>by
 subst e
 exact absurd k.1 (by decide)
theorem SplitOk.uniq {f v s v' s' : ByteArray} (a:SplitOk f v s) (b:SplitOk f v' s'):v=v'∧s=s':=by
 rcases a with ⟨k,rfl,rfl⟩ | ⟨k1,k2,rfl⟩
 ·rcases b with ⟨-,rfl,rfl⟩ | ⟨q1,q2,e⟩
  ·exact⟨rfl,rfl⟩
  ·exact absurd (by rw[e,btl_join]; simp) k.no64
 ·rcases b with ⟨k, -, -⟩ | ⟨q1,q2,e⟩
  ·exact absurd (by rw[btl_join]; simp) k.no64
  ·have e:=congrArg btl e
   rw[btl_join,btl_join] at e
   obtain⟨e1,e2⟩:=first64 k1.no64 q1.no64 e
   exact⟨btl_ext e1,btl_ext e2⟩

theorem noB_btl {s:ByteArray}:s=noB↔btl s=[]:=⟨fun e=>by rw[e]; rfl,fun e=>btl_ext e⟩
structure KName (K:Xs):Prop where
 split:K 52=none
 full:K 32=none
 right:K 57=none
 cut:K 60=none
 lcut:K 67=none
 index:K 71=none
 indexB:K 73=none
 ext:K 77=some (.ext xIndexByte)
section
variable {K:Xs} {h:AH} {p:Option Addr} {n c:Nat} {rs:List SetR}
theorem idxSpec (kk:KName K) (f:ByteArray):Wf Try.prog K 71 [.string f,.string (ByteArray.mk #[64])] h fun v h'=>h'= h∧∃i:Int,v=.int .i64 i∧((0≤i∧i.toNat < f.size∧(i.toNat:Int)=i∧(btl f)[i.toNat]?= some 64∧(64:UInt8)∉(btl f).take i.toNat)∨(i < 0∧(64:UInt8)∉btl f)):=by
 refine vc_stringslite_Index kk.index _ _ h _ ⟨fun z=>absurd z (by decide),fun _=>⟨fun e=>⟨rfl,0,rfl,.inl ?_⟩,fun _=>⟨fun _=>⟨by omega,64,by rfl,vc_stringslite_IndexByte kk.indexB _ _ h _ (Wf_ext kk.ext (v:=.int .i64 (findB f 64)) rfl (Nat.le_refl _) ⟨_,rfl,_,rfl,rfl,_,rfl,?_⟩)⟩,fun z=>absurd (by rfl) z⟩⟩⟩
 ·subst e
  exact⟨by decide,by decide,by decide,by rfl,by simp⟩
 ·by_cases q:0≤findB f 64
  ·exact .inl ⟨q,findB_some rfl q⟩
  ·exact .inr ⟨by omega,findB_none (by omega)⟩
theorem aSlice_str {P:Program} {h:AH} {t:TypeId} (hu:P.underlying t=some .string) (s:ByteArray) (i:Nat) (hi:i≤s.size):aSlice P h t (.string s) none (some (.int .i64 (i:Int))) none=some (.string (s.extract 0 i))∧aSlice P h t (.string s) (some (.int .i64 (i:Int))) none none=some (.string (s.extract i s.size)):=by
 constructor
 ·unfold aSlice
  rw[hu]
  unfold aBounds
  simp only[boundNat,if_pos hi]
 ·unfold aSlice
  rw[hu]
  unfold aBounds
  simp only[boundNat,if_pos hi]
theorem cutSpec (kk:KName K) (f:ByteArray) (hf:f.size≤9223372036854775806):Wf Try.prog K 60 [.string f,.string (ByteArray.mk #[64])] h fun v h'=>h'= h∧
 ((∃i:Nat,(btl f)[i]?= some 64∧(64:UInt8)∉(btl f).take i∧v=.tuple #[.string (f.extract 0 i),.string (f.extract (i+1) f.size),.bool true])∨((64:UInt8)∉btl f∧v=.tuple #[.string f,.string noB,.bool false])):=by
 refine vc_strings_Cut kk.cut _ _ h _ (vc_stringslite_Cut kk.lcut _ _ h _ ((idxSpec kk f).mono ?_))
 rintro _ _ ⟨rfl,i,rfl,q⟩
 refine⟨i,rfl,fun z=>?_,fun z=>?_⟩
 ·rcases q with ⟨_,q1,q2,q3,q4⟩ | ⟨q1, -⟩
  ·rw[←q2]
   refine⟨_,(aSlice_str Try.underlying9 f i.toNat (by omega)).1,fun i4 e4=>?_⟩
   have e5:i4=((i.toNat+1:Nat):Int):=by
    have h1:(ByteArray.mk #[64]).size=1:=rfl
    rw[h1] at e4
    exact (i64w e4 (by omega) (by omega)).trans (by omega)
   rw[e5]
   exact⟨_,(aSlice_str Try.underlying9 f (i.toNat+1) (by omega)).2,_,_,.inl ⟨rfl,rfl,.inl ⟨_,q3,q4,rfl⟩⟩⟩
  ·omega
 ·rcases q with ⟨q0, -⟩ | ⟨-,q1⟩
  ·omega
  ·exact⟨_,_,.inr ⟨rfl,rfl,.inr ⟨q1,rfl⟩⟩⟩
theorem splitSpec (kk:KName K) (f:ByteArray) (hf:f.size≤9223372036854775806):Wf Try.prog K 52 [.string f] h fun v h'=>((∃a b,SplitOk f a b∧v=.tuple #[.string a,.string b,.int .i64 0])∨((∀a b,¬SplitOk f a b)∧v=.tuple #[.string noB,.string noB,.int .i64 141]))∧Old h h':=by
 refine vc_name_Split kk.split _ h _ ((cutSpec kk f hf).mono ?_)
 rintro _ _ ⟨rfl,⟨i,q1,q2,rfl⟩ | ⟨q1,rfl⟩⟩
 ·have hs:=cutSplit q1 q2
  refine⟨_,_,.inl ⟨rfl,(nameRight kk.right _).mono ?_⟩⟩
  rintro _ g4 ⟨⟨rfl,k1⟩ | ⟨rfl,k1⟩,o4⟩
  ·refine .inl ⟨rfl,(nameRight kk.right _).mono ?_⟩
   rintro _ g6 ⟨⟨rfl,k2⟩ | ⟨rfl,k2⟩,o6⟩
   ·exact .inl ⟨rfl,.inl ⟨_,_,(hs _ _).2 ⟨rfl,rfl,k1,k2⟩,rfl⟩,o4.trans o6⟩
   ·exact .inr ⟨rfl,.inr ⟨fun a b q=>by obtain⟨rfl,rfl,z1,z2⟩:=(hs _ _).1 q; exact k2 z2,rfl⟩,o4.trans o6⟩
  ·exact .inr ⟨rfl,.inr ⟨fun a b q=>by obtain⟨rfl,rfl,z1,z2⟩:=(hs _ _).1 q; exact k1 z1,rfl⟩,o4⟩
 ·have hs:=cutNone q1
  refine⟨_,_,.inr ⟨rfl,(nameRight kk.right _).mono ?_⟩⟩
  rintro _ g4 ⟨⟨rfl,k1⟩ | ⟨rfl,k1⟩,o4⟩
  ·exact .inl ⟨rfl,.inl ⟨_,_,(hs _ _).2 ⟨k1,rfl,rfl⟩,rfl⟩,o4⟩
  ·exact .inr ⟨rfl,.inr ⟨fun a b q=>k1 ((hs _ _).1 q).1,rfl⟩,o4⟩
theorem fullSpec2 (kk:KName K) {v s:ByteArray} (hv:NameR v) (hs:NameR s):Wf Try.prog K 32 [.string v,.string s] h fun x h'=>x=.string (v ++ atB ++ s)∧Old h h':=by
 refine vc_name_Full kk.full _ _ h _ ((nameRight kk.right _).mono ?_)
 rintro _ g1 ⟨⟨rfl,k1⟩ | ⟨rfl,k1⟩,o1⟩
 rotate_left
 ·exact absurd hv k1
 refine .inl ⟨rfl,fun e=>absurd e hs.ne,fun _=>(nameRight kk.right _).mono ?_⟩
 rintro _ g2 ⟨⟨rfl,k2⟩ | ⟨rfl,k2⟩,o2⟩
 rotate_left
 ·exact absurd hs k2
 have h1:=hv.2.1
 have h2:=hs.2.1
 have h3:(ByteArray.mk #[64]).size=1:=rfl
 refine .inl ⟨rfl,by omega,fun s4 e4=>⟨?_,fun s5 e5=>⟨by rw[e5,e4]; rfl,o1.trans o2⟩⟩⟩
 rw[e4,ByteArray.size_append]
 omega
theorem fullSpec1 (kk:KName K) {v:ByteArray} (hv:NameR v):Wf Try.prog K 32 [.string v,.string (ByteArray.mk #[])] h fun x h'=>x=.string v∧Old h h':=by
 refine vc_name_Full kk.full _ _ h _ ((nameRight kk.right _).mono ?_)
 rintro _ g1 ⟨⟨rfl,k1⟩ | ⟨rfl,k1⟩,o1⟩
 rotate_left
 ·exact absurd hv k1
 exact .inl ⟨rfl,fun _=>⟨rfl,o1⟩,fun e=>absurd rfl e⟩
/-! ## Where the record of a name is -/
def plcC (rs:List SetR) (c:Cal):Option Nat:=rs.findIdx? fun r=>decide (calK r=c)
def plcCI (rs:List SetR) (c:Cal):Int:=match plcC rs c with | some i=>(i:Int) | none=>-1
theorem plcC_some {rs:List SetR} {c:Cal} {u:Nat} {r:SetR} (h:rs[u]?= some r) (he:calK r=c) (hb:∀(j:Nat) x,j < u→rs[j]?= some x→calK x≠c):plcC rs c=some u:=by
 unfold plcC
 obtain⟨hu,rfl⟩:=List.getElem?_eq_some_iff.1 h
 rw[List.findIdx?_eq_some_iff_getElem]
 refine⟨hu,by simpa using he,fun j hj=>?_⟩
 have:=hb j _ hj (List.getElem?_eq_getElem (by omega))
 simpa using this
theorem plcC_none {rs:List SetR} {c:Cal} (hb:∀r∈rs,calK r≠c):plcC rs c=none:=by
 unfold plcC
 rw[List.findIdx?_eq_none_iff]
 intro x hx
 simpa using hb x hx
theorem plcC_at {rs:List SetR} {c:Cal} {u:Nat} (h:plcC rs c=some u):∃r,rs[u]?= some r∧calK r=c:=by
 unfold plcC at h
 rw[List.findIdx?_eq_some_iff_getElem] at h
 obtain⟨hu,h1, -⟩:=h
 exact⟨_,List.getElem?_eq_getElem hu,by simpa using h1⟩
theorem plcC_no {rs:List SetR} {c:Cal} (h:plcC rs c=none):∀r∈rs,calK r≠c:=by
 unfold plcC at h
 rw[List.findIdx?_eq_none_iff] at h
 intro r hr
 simpa using h r hr
theorem plcCI_some {c:Cal} {i:Nat} (h:plcC rs c=some i):plcCI rs c=(i:Int):=by unfold plcCI; rw[h]
theorem plcCI_none {c:Cal} (h:plcC rs c=none):plcCI rs c= -1:=by unfold plcCI; rw[h]
structure KPlc (K:Xs):Prop where
 placeOf:K 56=none
 callOf:K 66=none
theorem placeOfSpec (kk:KPlc K) (T:Sets h p n rs) (hc:∀r∈rs,CalOk (calK r)) {k:Cal} (ok:CalOk k):Wf Try.prog K 56 [.slice p n c,calV k] h fun v h'=>v=.int .i64 (plcCI rs k)∧Old h h':=by
 have hn:=T.1
 have hn2:=T.2.1
 refine vc_family_placeOf kk.placeOf _ _ _ _ _ h _ fun g0 e0=>⟨fun i m g=>∃u:Nat,i=u∧u≤n∧n - u=m∧Old g0 g∧∀(j:Nat) r,j < u→rs[j]?= some r→calK r≠k,⟨_,0,rfl,Nat.zero_le _,rfl,Old.refl _,fun j r hj=>absurd hj (Nat.not_lt_zero _)⟩,?_⟩
 have o0:=old_of_alloc e0
 have n0:=next_of_alloc e0
 have c0:=get_of_alloc e0
 rintro m1 g3 i5 ⟨u,rfl,hu,rfl,o3,hb⟩
 refine⟨fun z=>?_,fun z=>⟨?_,o0.trans o3⟩⟩
 ·obtain⟨b,off,rfl,hi',hl,h1,ok1⟩:=(T.old (o0.trans o3)).at (i:=u) (by omega)
  refine derefP_at ⟨by omega,z,?_⟩
  rw[Int.toNat_natCast]
  refine (callOfSpec kk.callOf (T.old (o0.trans o3)) (i:=u) (by omega) hi').mono ?_
  rintro _ g9 ⟨rfl,o9⟩
  have c3:=(o3.2 h.next (by omega)).trans c0
  have c9:=(o9.2 h.next (by have:=o3.1; omega)).trans c3
  have hru:=List.getElem?_eq_getElem hi'
  refine⟨_,_,rfl,_,_,ldN_all c9 rfl,_,_,kCal (hc _ (List.getElem_mem hi')),kCal ok,?_,?_⟩
  ·rw[calL_eq]
   intro e
   have e:=of_decide_eq_true e
   refine⟨ldN_all c3 rfl,ldN_all c9 rfl,?_,(o0.trans o3).trans o9⟩
   rw[plcCI_some (plcC_some hru e hb)]
  ·rw[calL_eq]
   intro e
   have e:=of_decide_eq_false e
   refine⟨ldN_all c3 rfl,ldN_all c9 rfl,fun i16 e16=>?_⟩
   have e16:=i64w e16 (by omega) (by simp only[reachBytes] at hn2; omega)
   refine⟨n - (u+1),by omega,u+1,by omega,by omega,rfl,o3.trans o9,fun j r hj hr=>?_⟩
   rcases Nat.lt_succ_iff_lt_or_eq.1 hj with hj | rfl
   ·exact hb j r hj hr
   ·rw[hru] at hr
    cases hr
    exact e
 ·rw[plcCI_none]
  apply plcC_none
  intro r hr
  obtain⟨j,hj⟩:=List.mem_iff_getElem?.1 hr
  exact hb j r (by have:=(List.getElem?_eq_some_iff.1 hj).1; omega) hj
def lookN (rs:List SetR) (v s:ByteArray):Option Nat:=match plcC rs (0,v) with
 | none=>none
 | some i=>if s=noB then some i else match rs[i]? with
   | none=>none
   | some r=>plcC rs (r.id,s)
structure KNamed (K:Xs):Prop where
 named:K 30=none
 plc:KPlc K
 name:KName K
 copy:K 44=none
theorem CalOk.of {rs:List SetR} (he:∀r∈rs,EntR r):∀r∈rs,CalOk (calK r):=fun r hr=>by
 have e:=he r hr
 have h1:=e.2.1
 have h2:=e.2.2.2.2.1.2.1
 have hm:maxLen=9223372036854775807:=by decide
 refine⟨?_,by show r.name.size≤_; omega⟩
 unfold calK
 split
 ·simp only[]
  simp[Lit.wf,IntKind.min,IntKind.max,IntKind.signed,IntKind.bits]
  omega
 ·show (Lit.int .u64 0).wf=true
  decide
theorem lookN_at {v s:ByteArray} {i:Nat} (h:lookN rs v s=some i):∃r,rs[i]?= some r:=by
 unfold lookN at h
 split at h
 ·cases h
 ·rename_i j hj
  split at h
  ·cases h
   obtain⟨r,hr, -⟩:=plcC_at hj
   exact⟨r,hr⟩
  ·split at h
   ·cases h
   ·obtain⟨r,hr, -⟩:=plcC_at h
    exact⟨r,hr⟩
def NamedQ (rs:List SetR) (f:ByteArray) (v:Value) (h' : AH):Prop:=
 (∃a b,SplitOk f a b∧((∃i r p' c',lookN rs a b=some i∧rs[i]?= some r∧v=.tuple #[.agg (setC { r with dp:=p',dc:=c' }).toArray,.int .i64 0]∧SetOk h' { r with dp:=p',dc:=c' })∨(lookN rs a b=none∧v=.tuple #[.agg (setC zeroR).toArray,.int .i64 161])))∨
 ((∀a b,¬SplitOk f a b)∧v=.tuple #[.agg (setC zeroR).toArray,.int .i64 141])
theorem namedSpec (kk:KNamed K) (T:Sets h p n rs) (hc:∀r∈rs,CalOk (calK r)) (hi:∀r∈rs,(Lit.int .u64 r.id).wf=true) (f:ByteArray) (hf:f.size≤9223372036854775806):
 Wf Try.prog K 30 [.slice p n c,.string f] h fun v h'=>NamedQ rs f v h'∧Old h h':=by
 have hn:=T.1
 refine vc_family_Named kk.named _ _ _ _ h _ fun g0 e0=>(splitSpec kk.name f hf).mono ?_
 have o0:=old_of_alloc e0
 have n0:=next_of_alloc e0
 have c0:g0.get h.next=some (.cells (setC zeroR) 59 false):=get_of_alloc e0
 have bad:∀(g:AH) (e:Int),Old g0 g→NamedQ rs f (.tuple #[.agg (setC zeroR).toArray,.int .i64 e]) (g.set h.next (.cells (setC zeroR) 59 false))→
  (List.length (setC zeroR)=11)∧∃g1,stN g h.next 0 (setC zeroR)=some g1∧∃i10 s11 b12 i13 i14 i15 i16 i17 i18 i19,∃(p20:Option Addr) (n21 c22:Nat),ldN g1 h.next 0 11=some ([(.int .u64 i10),(.string s11),(.bool b12),(.int .u64 i13),(.int .u64 i14),(.int .u64 i15),(.int .i64 i16),(.int .i64 i17),(.int .u64 i18),(.int .u32 i19),(.slice p20 n21 c22)]:List Value)∧
  (NamedQ rs f (.tuple #[(.agg #[(.int .u64 i10),(.string s11),(.bool b12),(.int .u64 i13),(.int .u64 i14),(.int .u64 i15),(.int .i64 i16),(.int .i64 i17),(.int .u64 i18),(.int .u32 i19),(.slice p20 n21 c22)]),(.int .i64 e)]) g1∧Old h g1):=by
  intro g e o q
  have nr:=near_set h.next g (.cells (setC zeroR) 59 false)
  exact⟨rfl,_,stN_all ((o.2 _ (by omega)).trans c0) rfl,_,_,_,_,_,_,_,_,_,_,_,_,_,ldN_all (get_set_self _ _ _) rfl,q,by rw[nr.1]; have:=o.1; omega,fun c hc=>by rw[nr.2 c (by omega),o.2 c (by omega),o0.2 c hc]⟩
 rintro _ g2 ⟨⟨a,b,hs,rfl⟩ | ⟨hs,rfl⟩,o2⟩
 rotate_left
 ·exact⟨_,_,_,rfl,fun e=>absurd e (by decide),fun _=>bad g2 141 o2 (.inr ⟨hs,rfl⟩)⟩
 have hsz:CalOk (0,a)∧b.size≤maxLen:=by
  have hm:maxLen=9223372036854775807:=by decide
  rcases hs with ⟨k,rfl,rfl⟩ | ⟨k1,k2, -⟩
  ·exact⟨⟨by show (Lit.int .u64 0).wf=true; decide,by have:=k.2.1; simp only; omega⟩,by rw[hm]; decide⟩
  ·exact⟨⟨by show (Lit.int .u64 0).wf=true; decide,by have:=k1.2.1; simp only; omega⟩,by have:=k2.2.1; omega⟩
 refine⟨_,_,_,rfl,fun _=>(placeOfSpec kk.plc (T.old (o0.trans o2)) hc (k:=(0,a)) hsz.1).mono ?_,fun e=>absurd rfl e⟩
 rintro _ g7 ⟨rfl,o7⟩
 have o27:=o2.trans o7
 have good:∀(g:AH),Old g0 g→∀(b23 o24:Nat),p=some ⟨b23,o24,none⟩→∀(i:Nat),lookN rs a b=some i→
  ((0:Int)≤(i:Int))∧((i:Int) < ((n:Nat):Int))∧
  (∃i25:Int,∃s26:ByteArray,∃b27:Bool,∃i28 i29 i30 i31 i32 i33 i34:Int,∃(p35:Option Addr) (n36 c37:Nat),ldN g b23 (o24+Int.toNat (i:Int) * 11) 11=some ([(.int .u64 i25),(.string s26),(.bool b27),(.int .u64 i28),(.int .u64 i29),(.int .u64 i30),(.int .i64 i31),(.int .i64 i32),(.int .u64 i33),(.int .u32 i34),(.slice p35 n36 c37)]:List Value)∧
  (Wf Try.prog K 44 [(.agg #[(.int .u64 i25),(.string s26),(.bool b27),(.int .u64 i28),(.int .u64 i29),(.int .u64 i30),(.int .i64 i31),(.int .i64 i32),(.int .u64 i33),(.int .u32 i34),(.slice p35 n36 c37)])] g fun r38 h39=>
  (∃i40:Int,∃s41:ByteArray,∃b42:Bool,∃i43 i44 i45 i46 i47 i48 i49:Int,∃(p50:Option Addr) (n51 c52:Nat),r38=(.agg #[(.int .u64 i40),(.string s41),(.bool b42),(.int .u64 i43),(.int .u64 i44),(.int .u64 i45),(.int .i64 i46),(.int .i64 i47),(.int .u64 i48),(.int .u32 i49),(.slice p50 n51 c52)])∧
  ((List.length ([(.int .u64 i40),(.string s41),(.bool b42),(.int .u64 i43),(.int .u64 i44),(.int .u64 i45),(.int .i64 i46),(.int .i64 i47),(.int .u64 i48),(.int .u32 i49),(.slice p50 n51 c52)]:List Value)=11)∧∃h53:AH,stN h39 h.next 0 ([(.int .u64 i40),(.string s41),(.bool b42),(.int .u64 i43),(.int .u64 i44),(.int .u64 i45),(.int .i64 i46),(.int .i64 i47),(.int .u64 i48),(.int .u32 i49),(.slice p50 n51 c52)]:List Value)=some h53∧
  (∃i54:Int,∃s55:ByteArray,∃b56:Bool,∃i57 i58 i59 i60 i61 i62 i63:Int,∃(p64:Option Addr) (n65 c66:Nat),ldN h53 h.next 0 11=some ([(.int .u64 i54),(.string s55),(.bool b56),(.int .u64 i57),(.int .u64 i58),(.int .u64 i59),(.int .i64 i60),(.int .i64 i61),(.int .u64 i62),(.int .u32 i63),(.slice p64 n65 c66)]:List Value)∧
  (NamedQ rs f (.tuple #[(.agg #[(.int .u64 i54),(.string s55),(.bool b56),(.int .u64 i57),(.int .u64 i58),(.int .u64 i59),(.int .i64 i60),(.int .i64 i61),(.int .u64 i62),(.int .u32 i63),(.slice p64 n65 c66)]),(.int .i64 0)]) h53∧Old h h53)))))):=by
  rintro g o b23 o24 rfl i hl
  obtain⟨r,hr⟩:=lookN_at hl
  have hil:=(List.getElem?_eq_some_iff.1 hr).1
  obtain⟨hi',hld,h1,ok⟩:=(T.old (o0.trans o)).at' (i:=i) (by omega)
  have hrr:=List.getElem?_eq_getElem hi'
  rw[hr] at hrr
  have hrr:=Option.some.inj hrr
  rw[←hrr] at hld ok
  refine⟨by omega,by omega,_,_,_,_,_,_,_,_,_,_,_,_,_,by rw[Int.toNat_natCast]; exact hld,(copySpec kk.copy ok).mono ?_⟩
  rintro _ g39 ⟨p',c',rfl,ok',G39,o39⟩
  have c39:=(o39.2 h.next (by have:=o.1; omega)).trans ((o.2 _ (by omega)).trans c0)
  have nr:=near_set h.next g39 (.cells (setC { r with dp:=p',dc:=c' }) 59 false)
  refine⟨_,_,_,_,_,_,_,_,_,_,_,_,_,rfl,rfl,g39.set h.next (.cells (setC { r with dp:=p',dc:=c' }) 59 false),stN_all c39 rfl,_,_,_,_,_,_,_,_,_,_,_,_,_,ldN_all (get_set_self _ _ _) rfl,.inl ⟨a,b,hs,.inl ⟨i,r,p',c',hl,hr,rfl,{ ok' with shows:=(G39.near nr (by have:=o.1; omega) (Nat.le_refl _)).shows }⟩⟩,?_⟩
  exact⟨by rw[nr.1]; have:=o39.1; have:=o.1; omega,fun c hc=>by rw[nr.2 c (by omega),o39.2 c (by have:=o.1; omega),o.2 c (by omega),o0.2 c hc]⟩
 have none161:∀g,Old g0 g→lookN rs a b=none→_:=fun g o hl=>bad g 161 o (.inl ⟨a,b,hs,.inr ⟨hl,rfl⟩⟩)
 refine⟨_,rfl,fun z=>?_,fun z=>?_⟩
 ·cases e:plcC rs (0,a) with
  | none=>rw[plcCI_none e] at z; omega
  | some i=>
    rw[plcCI_some e] at z ⊢
    obtain⟨r,hr, -⟩:=plcC_at e
    have hil:=(List.getElem?_eq_some_iff.1 hr).1
    obtain⟨b1,off1,rfl⟩:=T.some (by omega)
    refine⟨fun q=>⟨fun y=>by omega,fun _=>derefP_at (good g7 o27 _ _ rfl i ?_)⟩,fun q=>derefP_at ?_⟩
    ·unfold lookN
     rw[e]
     simp only
     rw[if_pos (show b=noB from q)]
    ·obtain⟨hi',hld,h1,ok⟩:=(T.old (o0.trans o27)).at' (i:=i) (by omega)
     have hrr:=List.getElem?_eq_getElem hi'
     rw[hr] at hrr
     have hrr:=Option.some.inj hrr
     rw[←hrr] at h1
     refine⟨by omega,by omega,_,by rw[Int.toNat_natCast]; exact h1 0 _ rfl,(placeOfSpec kk.plc (T.old (o0.trans o27)) hc (k:=(r.id,b)) ⟨hi r (List.mem_of_getElem? hr),hsz.2⟩).mono ?_⟩
     rintro _ g71 ⟨rfl,o71⟩
     have hl:lookN rs a b=plcC rs (r.id,b):=by
      unfold lookN
      rw[e]
      simp only
      rw[if_neg (show ¬b=noB from q)]
      simp only[hr]
     refine⟨_,rfl,fun y=>?_,fun y=>?_⟩
     ·refine none161 g71 (o27.trans o71) ?_
      rw[hl]
      cases e2:plcC rs (r.id,b) with
      | none=>rfl
      | some j=>rw[plcCI_some e2] at y; omega
     ·cases e2:plcC rs (r.id,b) with
      | none=>rw[plcCI_none e2] at y; omega
      | some j=>
        rw[plcCI_some e2]
        exact derefP_at (good g71 (o27.trans o71) _ _ rfl j (hl.trans e2))
 ·cases e:plcC rs (0,a) with
  | none=>
    rw[plcCI_none e]
    refine⟨fun _=>none161 g7 o27 ?_,fun y=>by omega⟩
    unfold lookN
    rw[e]
  | some i=>rw[plcCI_some e] at z; omega
/-! ## The name of a record -/
def fullR (rs:List SetR) (id:Int):ByteArray:=match plcN rs id with
 | none=>noB
 | some i=>match rs[i]? with
   | none=>noB
   | some r=>if r.snap=true then (match plcN rs r.own with
     | none=>noB
     | some j=>match rs[j]? with
       | none=>noB
       | some v=>v.name ++ atB ++ r.name) else r.name
theorem fullSpec (kk:KName K) (kf:K 16=none) (kp:K 31=none) (T:Sets h p n rs) (hN:∀r∈rs,NameR r.name) (id:Int):
 Wf Try.prog K 16 [.slice p n c,.int .u64 id] h fun v h'=>v=.string (fullR rs id)∧Old h h':=by
 have hn:=T.1
 refine vc_family_Full kf _ _ _ _ h _ ((placeSpec kp T id).mono ?_)
 rintro _ _ ⟨rfl,rfl⟩
 refine⟨_,rfl,fun z=>⟨?_,Old.refl _⟩,fun z=>?_⟩
 ·cases e:plcN rs id with
  | none=>unfold fullR; rw[e]; rfl
  | some i=>rw[plc_some e] at z; omega
 cases e:plcN rs id with
 | none=>rw[plc_none e] at z; omega
 | some i=>
   obtain⟨hi, -⟩:=plcN_at e
   rw[plc_some e] at z ⊢
   obtain⟨b,off,rfl,hi',hl,h1,ok⟩:=T.at (i:=i) (by omega)
   have hri:=List.getElem?_eq_getElem hi'
   have hNr:=hN _ (List.getElem_mem hi')
   generalize rs[i]=r at h1 hri hNr
   have hf:fullR rs id=if r.snap=true then (match plcN rs r.own with
    | none=>noB
    | some j=>match rs[j]? with
      | none=>noB
      | some v=>v.name ++ atB ++ r.name) else r.name:=by
    unfold fullR
    simp only[e,hri]
   rw[hf]
   refine derefP_at ⟨by omega,by omega,?_⟩
   rw[Int.toNat_natCast]
   cases hs:r.snap with
   | true=>
     refine .inl ⟨h1 2 _ (by simp[setC,hs]),derefP_at ⟨by omega,by omega,_,h1 3 _ rfl,(placeSpec kp T _).mono ?_⟩⟩
     rintro _ _ ⟨rfl,rfl⟩
     refine⟨_,rfl,fun y=>⟨?_,Old.refl _⟩,fun y=>?_⟩
     ·cases e2:plcN rs r.own with
      | none=>rfl
      | some j=>rw[plc_some e2] at y; omega
     cases e2:plcN rs r.own with
     | none=>rw[plc_none e2] at y; omega
     | some j=>
       obtain⟨hj, -⟩:=plcN_at e2
       rw[plc_some e2]
       obtain⟨hj',hl2,h2,ok2⟩:=T.at' (i:=j) (by omega)
       have hrj:=List.getElem?_eq_getElem hj'
       have hNv:=hN _ (List.getElem_mem hj')
       generalize rs[j]=v at h2 hrj hNv
       simp only[hrj]
       refine derefP_at ⟨by omega,by omega,_,by rw[Int.toNat_natCast]; exact h2 1 _ rfl,derefP_at ⟨by omega,by omega,_,h1 1 _ rfl,(fullSpec2 kk hNv hNr).mono ?_⟩⟩
       rintro _ g ⟨rfl,o⟩
       exact⟨_,rfl,rfl,o⟩
   | false=>
     refine .inr ⟨h1 2 _ (by simp[setC,hs]),derefP_at ⟨by omega,by omega,_,h1 1 _ rfl,(fullSpec1 kk hNr).mono ?_⟩⟩
     rintro _ g ⟨rfl,o⟩
     exact⟨_,rfl,rfl,o⟩
end
end Go.Am
