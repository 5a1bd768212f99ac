/-
  THE DOCUMENT'S ANSWERS of layer 16: names of records.
-/
import Derived.Test.YtnkbkpajlikkaaaCRef3
set_option linter.unusedVariables false
set_option linter.unusedSimpArgs false
set_option maxRecDepth 100000
namespace Go.Am
open Go.Proofs
section
variable {K:Xs} {h:AH} {p:Option Addr} {n c:Nat} {rs:List SetR} {nx:Int}
theorem RightP.fuel (R:RightP nx rs) {o:Int}:∀(k k' : Nat) (pr B:Int) (ch:List Int),(pr=0∨∃j x,plcN rs pr=some j∧rs[j]?= some x∧x.snap=true∧x.stamp < B)→(rs.filter fun x=>x.snap && decide (x.stamp < B)).length≤k→(rs.filter fun x=>x.snap && decide (x.stamp < B)).length≤k'→
 wayW rs o k pr ch=wayW rs o k' pr ch
 | k,k',pr,B,ch,.inl h0,hk,hk'=>by rw[h0,wayW_zero,wayW_zero]
 | 0,k',pr,B,ch,.inr ⟨j,x,h1,h2,h3,h4⟩,hk,hk'=>by
   have:x∈rs.filter fun x=>x.snap && decide (x.stamp < B):=List.mem_filter.2 ⟨List.mem_of_getElem? h2,by simp[h3,h4]⟩
   have:=List.length_pos_of_mem this
   omega
 | k,0,pr,B,ch,.inr ⟨j,x,h1,h2,h3,h4⟩,hk,hk'=>by
   have:x∈rs.filter fun x=>x.snap && decide (x.stamp < B):=List.mem_filter.2 ⟨List.mem_of_getElem? h2,by simp[h3,h4]⟩
   have:=List.length_pos_of_mem this
   omega
 | k+1,k'+ 1,pr,B,ch,.inr ⟨j,x,h1,h2,h3,h4⟩,hk,hk'=>by
   have hx:=List.mem_of_getElem? h2
   unfold wayW
   simp only[h1,h2]
   split
   ·rfl
   ·split
    ·have hlt:=filter_ltF (P:=fun a:SetR=>a.snap && decide (a.stamp < x.stamp)) (Q:=fun a:SetR=>a.snap && decide (a.stamp < B)) (l:=rs) (fun a _ h=>by simp at h ⊢; exact⟨h.1,by omega⟩) ⟨x,hx,by simp[h3,h4],by simp⟩
     refine R.fuel (o:=o) k k' x.prev x.stamp (ch ++ [pr]) ?_ (by omega) (by omega)
     by_cases hp:x.prev=0
     ·exact .inl hp
     ·obtain⟨j',x',k1,k2,k3,k4⟩:=(R.2.2.2.2 x hx).1.1 hp
      exact .inr ⟨j',x',k1,k2,k3,k4 h3⟩
    ·rfl
theorem RightP.back (R:RightP nx rs) (id:Int):backR rs id=wayR rs id:=by
 unfold backR wayR
 cases e:plcN rs id with
 | none=>rfl
 | some i=>
   simp only
   cases h:rs[i]? with
   | none=>rfl
   | some v=>
     simp only
     split
     ·rfl
     ·have hv:=List.mem_of_getElem? h
      have hst:∀x∈rs,x.snap=true→x.stamp < 281474976710656:=fun x hx hxs=>by
       rcases (R.ent hx).2.2.2.2.2.2.2.2 with q | q
       ·omega
       ·rw[hxs] at q; cases q.1
      refine R.fuel (o:=id) rs.length 32 v.prev 281474976710656 [] ?_ (List.length_filter_le _ _) (Nat.le_trans (List.length_filter_le _ _) R.2.1)
      by_cases hp:v.prev=0
      ·exact .inl hp
      ·obtain⟨j',x',k1,k2,k3,k4⟩:=(R.2.2.2.2 v hv).1.1 hp
       exact .inr ⟨j',x',k1,k2,k3,hst x' (List.mem_of_getElem? k2) k3⟩
def NamedQ2 (rs:List SetR) (f:ByteArray) (v:Value):Prop:=
 (∃a b,SplitOk f a b∧((∃i r,lookN rs a b=some i∧rs[i]?= some r∧v=.tuple #[.agg (setC r).toArray,.int .i64 0])∨(lookN rs a b=none∧v=.tuple #[.agg (setC zeroR).toArray,.int .i64 161])))∨
 ((∀a b,¬SplitOk f a b)∧v=.tuple #[.agg (setC zeroR).toArray,.int .i64 141])
theorem RightP.look0 (R:RightP nx rs) {i:Nat} {v:SetR} {a:ByteArray} (h:rs[i]?= some v) (hs:v.snap=false) (hn:v.name=a):Am.plcC rs (0,a)=some i:=by
 have:=R.plcC h
 rw[show calK v=(0,a) by simp[calK,hs,hn]] at this
 exact this
theorem RightP.look1 (R:RightP nx rs) {i:Nat} {s:SetR} {o:Int} {b:ByteArray} (h:rs[i]?= some s) (hs:s.snap=true) (ho:s.own=o) (hn:s.name=b):Am.plcC rs (o,b)=some i:=by
 have:=R.plcC h
 rw[show calK s=(o,b) by simp[calK,hs,hn,ho]] at this
 exact this
theorem RightP.calk (R:RightP nx rs) {r:SetR} (hr:r∈rs) {o:Int} {b:ByteArray} (h:calK r=(o,b)):r.name=b∧(o=0→r.snap=false)∧(o≠0→r.snap=true∧r.own=o):=by
 have e:=(R.ent hr).2.1
 unfold calK at h
 cases hs:r.snap with
 | true=>
   rw[hs] at h
   simp at h
   exact⟨h.2,fun z=>by omega,fun _=>⟨rfl,h.1⟩⟩
 | false=>
   rw[hs] at h
   simp at h
   exact⟨h.2,fun _=>rfl,fun z=>absurd h.1.symm z⟩
end
end Go.Am
