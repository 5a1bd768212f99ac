/-
  WHICH LISTS ARE FAMILIES: records by themselves, their elders, their owners, their names.
-/
import Derived.Test.YtkapnilnhoiooaaGreatCFam
set_option linter.unusedVariables false
set_option linter.unusedSimpArgs false
set_option maxRecDepth 100000
namespace Go.Am
open Go.Proofs
def zsj (r:zaj):Prop:=(1≤r.id∧r.id≤281474976710655)∧(1≤r.own∧r.own≤281474976710655)∧r.prev≤281474976710655∧(1≤r.blocks∧r.blocks≤64)∧zbf r.name∧zet r.root∧r.dn≤4000∧zeu r.dead∧((r.snap=true∧1≤r.stamp∧r.stamp≤281474976710655)∨(r.snap=false∧r.stamp=0∧r.own=r.id))
structure zxz (K:Xs):Prop where
 nRight:K 87=none
 qLess:K 98=none
section
variable {K:Xs} {h:AH} {p:Option Addr} {n c:Nat} {rs:List zaj}
abbrev Cal:=Int×ByteArray
def zdk (r:zaj):Cal:=(if r.snap=true then r.own else 0,r.name)
theorem zpI (hk:K 94=none) {b off:Nat} (T:zbL h (some ⟨b,off,none⟩) n rs) {i:Nat} (hi:i < n) (hi' : i < rs.length):
 Wf Tryz.prog K 94 [.pointer (some ⟨b,off+i * 11,none⟩)] h fun v h'=>v=.agg #[.int .u64 (zdk rs[i]).1,.string (zdk rs[i]).2]∧Old h h':=by
 refine zhH hk _ h _ fun g0 e0=>?_
 have o0:=zab e0
 have n0:=zaa e0
 obtain⟨hi2,hl2,h1,ok2⟩:=(T.old o0).at' hi
 have c0:=zaf e0
 generalize rs[i]=r at h1 ⊢
 refine zag ?_
 cases hs:r.snap with
 | true=>
   refine .inl ⟨h1 2 _ (by simp[setC,hs]),zag ⟨_,h1 3 _ rfl,zag ⟨_,h1 1 _ rfl,rfl,_,zat c0 rfl,_,_,zah (zad _ _ _) rfl,?_,?_⟩⟩⟩
   ·simp[zdk,hs]
   ·have nr:=zak h.next g0 (.cells [.int .u64 r.own,.string r.name] 150 false)
    exact⟨by rw[nr.1]; exact o0.1,fun c hc=>by rw[nr.2 c (by omega),o0.2 c hc]⟩
 | false=>
   refine .inr ⟨h1 2 _ (by simp[setC,hs]),zag ⟨_,h1 1 _ rfl,rfl,_,zat c0 rfl,_,_,zah (zad _ _ _) rfl,?_,?_⟩⟩
   ·simp[zdk,hs]
   ·have nr:=zak h.next g0 (.cells [.int .u64 0,.string r.name] 150 false)
    exact⟨by rw[nr.1]; exact o0.1,fun c hc=>by rw[nr.2 c (by omega),o0.2 c hc]⟩
def zmx (rs:List zaj) (s:zaj):Int:=if s.prev=0 then 0 else match plcN rs s.prev with
 | none=>0
 | some j=>match rs[j]? with
   | none=>0
   | some x=>x.stamp
theorem zqX {id:Int} {i:Nat} {r:zaj} (h1:plcN rs id=some i) (h2:rs[i]?= some r):flr rs id=zmx rs r:=by
 unfold flr zmx
 simp only[h1,h2]
 rfl
def zvP (rs:List zaj) (s:zaj):Prop:=(s.prev≠0→∃j x,plcN rs s.prev=some j∧rs[j]?= some x∧x.snap=true∧(s.snap=true→x.stamp < s.stamp))∧∀q∈s.dead,q.2.1≤zmx rs s
end
end Go.Am
