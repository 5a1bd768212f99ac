/-
  WHAT HANGS ON A RECORD: gone through one after the other; owners; clones.
-/
import Derived.Test.YtkapnilnhoiooaaGreatCFamR
set_option linter.unusedVariables false
set_option linter.unusedSimpArgs false
set_option maxRecDepth 100000
namespace Go.Am
open Go.Proofs
def hang (id:Int):Nat→List zaj→List (Nat×zaj)
 | _,[]=>[]
 | i,r :: rs=>if r.prev=id then (i,r) :: hang id (i+1) rs else hang id (i+1) rs
theorem zda (id:Int) (i:Nat) (r:zaj) (rs:List zaj):hang id i (r :: rs)=if r.prev=id then (i,r) :: hang id (i+1) rs else hang id (i+1) rs:=rfl
theorem zk4 (id:Int):∀(a b:List zaj) (i:Nat),hang id i (a ++ b)=hang id i a ++ hang id (i+a.length) b
 | [],b,i=>by simp[hang]
 | r :: a,b,i=>by
   have ih:=zk4 id a b (i+1)
   have e:i+1+a.length=i+(r :: a).length:=by simp; omega
   rw[e] at ih
   rw[List.cons_append,zda,zda]
   split
   ·rw[ih]; rfl
   ·rw[ih]
theorem zhW (id:Int):∀(rs:List zaj) (i:Nat),(hang id i rs).map (·.2)=rs.filter fun r=>decide (r.prev=id)
 | [],i=>rfl
 | r :: rs,i=>by
   have ih:=zhW id rs (i+1)
   rw[zda]
   by_cases e:r.prev=id
   ·rw[if_pos e,List.map_cons,ih,List.filter_cons,if_pos (by simpa using e)]
   ·rw[if_neg e,ih,List.filter_cons,if_neg (by simpa using e)]
theorem zhX {id:Int}:∀{rs:List zaj} {i:Nat} {q:Nat×zaj},q∈hang id i rs→i≤q.1∧rs[q.1 - i]?= some q.2∧q.2.prev=id
 | r :: rs,i,q,h=>by
   rw[zda] at h
   have step:q∈hang id (i+1) rs→i≤q.1∧(r :: rs)[q.1 - i]?= some q.2∧q.2.prev=id:=fun h=>by
    obtain⟨h1,h2,h3⟩:=zhX h
    refine⟨by omega,?_,h3⟩
    rw[show q.1 - i=(q.1 - (i+1))+1 by omega,List.getElem?_cons_succ]
    exact h2
   split at h
   ·rename_i e
    rcases List.mem_cons.1 h with rfl | h
    ·exact⟨Nat.le_refl _,by simp,e⟩
    ·exact step h
   ·exact step h
theorem zqY {id:Int} {rs:List zaj} {u:Nat} (hu:u < rs.length):hang id 0 (rs.take (u+1))=hang id 0 (rs.take u) ++ (if rs[u].prev=id then [(u,rs[u])] else []):=by
 rw[List.take_succ_eq_append_getElem hu,zk4,List.length_take,Nat.zero_add,Nat.min_eq_left (by omega)]
 rfl
theorem zqZ {id:Int} {rs:List zaj} {u:Nat} (hu:u < rs.length) (e:rs[u].prev=id):(hang id 0 rs)[(hang id 0 (rs.take u)).length]?= some (u,rs[u]):=by
 have h1:hang id 0 rs=hang id 0 (rs.take u) ++ hang id u (rs.drop u):=by
  conv=>lhs; rw[←List.take_append_drop u rs]
  rw[zk4,List.length_take,Nat.zero_add,Nat.min_eq_left (by omega)]
 rw[h1,List.getElem?_append_right (Nat.le_refl _),Nat.sub_self,List.drop_eq_getElem_cons hu]
 rw[zda,if_pos e]
 rfl
def zta (id:Int) (rs:List zaj) (k:Nat):List Value:=match (hang id 0 rs)[k]? with | some q=>[.int .i64 (q.1:Nat)] | none=>[.int .i64 0]
theorem zcQ {id:Int} {rs:List zaj} {k:Nat} {q:Nat×zaj} (h:(hang id 0 rs)[k]?= some q):zta id rs k=[.int .i64 (q.1:Nat)]:=by unfold zta; rw[h]
section
variable {K:Xs} {h:AH} {p:Option Addr} {n c:Nat} {rs:List zaj}
theorem Wy.monoF {P:Program} {l:Nat} {args:List Value} {Q Q' : Value→AH→Prop} (w:Wy P K l args h Q) (f:∀v h',Q v h'→Q' v h'):Wy P K l args h Q':=by
 obtain⟨n,v,h',e,q⟩:=w
 exact⟨n,v,h',e,f v h' q⟩
theorem zq0 (hk:K 102=none) {ya pb0 pb1:Nat} {id:Int} {JJ:Nat→AH→Prop} {DD:AH→Prop} {BB:AH→AH→Prop}
 (hs:∀i h1,JJ i h1→(∃t ro,h1.get pb0=some (.cells [.slice p n c] t ro))∧(∃t ro,h1.get pb1=some (.cells [.int .u64 id] t ro))∧zbL h1 p n rs)
 (hr:∀(k:Nat) (h1:AH) q,(hang id 0 rs)[k]?= some q→JJ k h1→Wy Tryz.prog K ya [.int .i64 (q.1:Nat)] h1 fun v h2=>((v=.bool true∧JJ (k+1) h2)∨(v=.bool false∧DD h2))∧BB h1 h2)
 (h0:JJ 0 h):Wf Tryz.prog K 102 [Value.func (Fn.yield ya) #[] #[],.pointer (some ⟨pb0,0,none⟩),.pointer (some ⟨pb1,0,none⟩)] h fun _ h'=>JJ (hang id 0 rs).length h'∨DD h':=by
 obtain⟨⟨t0,r0,c0⟩, -,T0⟩:=hs 0 h h0
 have hn:=T0.1
 have hn2:=T0.2.1
 refine zf0 hk _ _ _ h _ (zag ⟨_,_,_,zae c0 rfl,fun i k g=>∃u:Nat,i=u∧u≤n∧n - u=k∧JJ (hang id 0 (rs.take u)).length g,⟨_,0,rfl,Nat.zero_le _,rfl,by rw[List.take_zero]; exact h0⟩,?_⟩)
 rintro k6 g7 i9 ⟨u,rfl,hu,rfl,J7⟩
 refine⟨fun z=>?_,fun z=>?_⟩
 ·obtain⟨⟨t1,r1,c1⟩,⟨t2,r2,c2⟩,T7⟩:=hs _ _ J7
  obtain⟨b,off,rfl,hi',hl,h1,ok⟩:=T7.at (i:=u) (by omega)
  have ht:=zqY (id:=id) hi'
  have hnx:∀i24:Int,i24=IntKind.wrap .i64 ((u:Int)+1)→i24=((u+1:Nat):Int):=fun i24 e=>by
   simp only[reachBytes] at hn2
   have:=zcj e (by omega) (by omega)
   omega
  refine zag ⟨_,_,_,zae c1 rfl,zag ⟨by omega,z,_,by rw[Int.toNat_natCast]; exact h1 4 _ rfl,zag ⟨_,zae c2 rfl,fun e=>(hr _ g7 _ (zqZ hi' e) J7).monoF ?_,fun e i25 e25=>?_⟩⟩⟩
  ·rintro v g22 ⟨⟨rfl,J22⟩ | ⟨rfl,D22⟩, -⟩
   ·refine⟨true,rfl,?_⟩
    simp only[Bool.not_true,cond_false]
    intro i24 e24
    rw[if_pos e] at ht
    exact⟨n - (u+1),by omega,u+1,hnx i24 e24,by omega,rfl,by rw[ht,List.length_append]; exact J22⟩
   ·exact⟨false,rfl,.inr D22⟩
  ·rw[if_neg e,List.append_nil] at ht
   exact⟨n - (u+1),by omega,u+1,hnx i25 e25,by omega,rfl,by rw[ht]; exact J7⟩
 ·refine .inl ?_
  rw[List.take_of_length_le (by omega)] at J7
  exact J7
def zvQ (rs:List zaj) (s:zaj):Prop:=s.snap=true→(∃j x,plcN rs s.own=some j∧rs[j]?= some x∧x.snap=false)∧(rs.filter fun x=>decide (x.own=s.own) && decide (x.prev=s.id)).length=1
structure zq1 (K:Xs):Prop where
 place:K 80=none
 hanging:K 96=none
 hanging1:K 102=none
end
end Go.Am
