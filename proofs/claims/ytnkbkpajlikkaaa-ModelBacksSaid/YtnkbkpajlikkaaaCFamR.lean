/-
  WHICH LISTS ARE FAMILIES: records by themselves, their elders, their owners, their names.
-/
import Derived.Test.YtnkbkpajlikkaaaCFam
set_option linter.unusedVariables false
set_option linter.unusedSimpArgs false
set_option maxRecDepth 100000
namespace Go.Am
open Go.Proofs
def ImpB (v:Value) (P:Prop):Prop:=(v=.bool true∧P)∨v=.bool false
def EntR (r:SetR):Prop:=(1≤r.id∧r.id≤281474976710655)∧(1≤r.own∧r.own≤281474976710655)∧r.prev≤281474976710655∧(1≤r.blocks∧r.blocks≤64)∧NameR r.name∧PtrRI r.root∧r.dn≤4000∧DeadR r.dead∧((r.snap=true∧1≤r.stamp∧r.stamp≤281474976710655)∨(r.snap=false∧r.stamp=0∧r.own=r.id))
structure KEnt (K:Xs):Prop where
 nRight:K 57=none
 qLess:K 70=none
section
variable {K:Xs} {h:AH} {p:Option Addr} {n c:Nat} {rs:List SetR}
abbrev Cal:=Int×ByteArray
def calK (r:SetR):Cal:=(if r.snap=true then r.own else 0,r.name)
theorem callOfSpec (hk:K 66=none) {b off:Nat} (T:Sets h (some ⟨b,off,none⟩) n rs) {i:Nat} (hi:i < n) (hi' : i < rs.length):
 Wf Try.prog K 66 [.pointer (some ⟨b,off+i * 11,none⟩)] h fun v h'=>v=.agg #[.int .u64 (calK rs[i]).1,.string (calK rs[i]).2]∧Old h h':=by
 refine vc_family_callOf hk _ h _ fun g0 e0=>?_
 have o0:=old_of_alloc e0
 have n0:=next_of_alloc e0
 obtain⟨hi2,hl2,h1,ok2⟩:=(T.old o0).at' hi
 have c0:=get_of_alloc e0
 generalize rs[i]=r at h1 ⊢
 refine derefP_at ?_
 cases hs:r.snap with
 | true=>
   refine .inl ⟨h1 2 _ (by simp[setC,hs]),derefP_at ⟨_,h1 3 _ rfl,derefP_at ⟨_,h1 1 _ rfl,rfl,_,stN_all c0 rfl,_,_,ldN_all (get_set_self _ _ _) rfl,?_,?_⟩⟩⟩
   ·simp[calK,hs]
   ·have nr:=near_set h.next g0 (.cells [.int .u64 r.own,.string r.name] 111 false)
    exact⟨by rw[nr.1]; exact o0.1,fun c hc=>by rw[nr.2 c (by omega),o0.2 c hc]⟩
 | false=>
   refine .inr ⟨h1 2 _ (by simp[setC,hs]),derefP_at ⟨_,h1 1 _ rfl,rfl,_,stN_all c0 rfl,_,_,ldN_all (get_set_self _ _ _) rfl,?_,?_⟩⟩
   ·simp[calK,hs]
   ·have nr:=near_set h.next g0 (.cells [.int .u64 0,.string r.name] 111 false)
    exact⟨by rw[nr.1]; exact o0.1,fun c hc=>by rw[nr.2 c (by omega),o0.2 c hc]⟩
/-! ## Elders -/
def flrOf (rs:List SetR) (s:SetR):Int:=if s.prev=0 then 0 else match plcN rs s.prev with
 | none=>0
 | some j=>match rs[j]? with
   | none=>0
   | some x=>x.stamp
theorem flr_of {id:Int} {i:Nat} {r:SetR} (h1:plcN rs id=some i) (h2:rs[i]?= some r):flr rs id=flrOf rs r:=by
 unfold flr flrOf
 simp only[h1,h2]
 rfl
def ElderR (rs:List SetR) (s:SetR):Prop:=(s.prev≠0→∃j x,plcN rs s.prev=some j∧rs[j]?= some x∧x.snap=true∧(s.snap=true→x.stamp < s.stamp))∧∀q∈s.dead,q.2.1≤flrOf rs s
theorem deadLoop {Q:Value→AH→Prop} {pd:Option Addr} {nd:Nat} {ds:List PtI} (S:Shows h pd nd 3 (ptI ds)) (hnd:nd≤1000000000000000) (fl:Int) (hQ:∀g,Old h g→(∀q∈ds,q.2.1≤fl)→Q (.bool true) g) (hN:∀g,Old h g→Q (.bool false) g):
 ∃I8:Int→Nat→AH→Prop,(∃n,I8 0 n h)∧∀(k9:Nat) (h10:AH) (i12:Int),I8 i12 k9 h10→
  ((i12:Int) < ((nd:Nat):Int)→derefP pd fun b13 o14=>(((0:Int)≤i12)∧((i12:Int) < ((nd:Nat):Int))∧
    (∃i15:Int,∃i16:Int,∃i17:Int,ldN h10 b13 (o14+Int.toNat i12 * 3) 3=some ([(.int .i64 i15),(.int .u64 i16),(.int .u32 i17)]:List Value)∧
    (∀h18:AH,h18=h10.alloc (.cells ([(.int .i64 0),(.int .u64 0),(.int .u32 0)]:List Value) 56 false)→
    (List.length ([(.int .i64 i15),(.int .u64 i16),(.int .u32 i17)]:List Value)=3)∧∃h19:AH,stN h18 h10.next 0 ([(.int .i64 i15),(.int .u64 i16),(.int .u32 i17)]:List Value)=some h19∧
    (∃i20:Int,ld1 h19 h10.next 1=some (.int .u64 i20)∧
    (((fl:Int) < i20→Q (.bool false) h19)∧
    (¬(fl:Int) < i20→∀i21:Int,i21=IntKind.wrap .i64 (i12+1)→∃j11,j11 < k9∧I8 i21 j11 h19)))))))∧
  (¬(i12:Int) < ((nd:Nat):Int)→Q (.bool true) h10):=by
 have hn:nd=ds.length:=by have:=S.1; rw[ptI_len] at this; omega
 refine⟨fun i k g=>∃u:Nat,i=u∧u≤nd∧nd - u=k∧Old h g∧∀(j:Nat) q,j < u→ds[j]?= some q→q.2.1≤fl,⟨_,0,rfl,Nat.zero_le _,rfl,Old.refl _,fun j q hj=>absurd hj (Nat.not_lt_zero _)⟩,?_⟩
 rintro k1 g2 i4 ⟨u,rfl,hu,rfl,o2,hb⟩
 refine⟨fun z=>?_,fun z=>hQ g2 o2 fun q hq=>?_⟩
 ·have hud:u < ds.length:=by omega
  obtain⟨b,off,rfl,hld, -⟩:=(S.old o2).getN (i:=u) (by omega)
  rw[ptI_get ds u hud] at hld
  refine derefP_at ⟨by omega,z,_,_,_,by rw[Int.toNat_natCast]; exact hld,fun g10 e10=>?_⟩
  obtain⟨g11,k11,n11,o11,v11⟩:=put_new e10 (vs:=[.int .i64 ds[u].1,.int .u64 ds[u].2.1,.int .u32 ds[u].2.2]) rfl
  have w11:=v11 [] (fun c hc=>by cases hc)
  refine⟨rfl,g11,k11,_,ld1_at w11.1 rfl,fun y=>hN _ (o2.trans o11),fun y i21 e21=>?_⟩
  have e21:=i64w e21 (by omega) (by omega)
  refine⟨nd - (u+1),by omega,u+1,by omega,by omega,rfl,o2.trans o11,fun j q hj hq=>?_⟩
  rcases Nat.lt_succ_iff_lt_or_eq.1 hj with hj | rfl
  ·exact hb j q hj hq
  ·rw[List.getElem?_eq_getElem hud] at hq
   cases hq
   omega
 ·obtain⟨j,hj⟩:=List.mem_iff_getElem?.1 hq
  exact hb j q (by have:=(List.getElem?_eq_some_iff.1 hj).1; omega) hj
end
end Go.Am
