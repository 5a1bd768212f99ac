/-
  WHICH LISTS ARE FAMILIES: all of it.
-/
import Derived.Test.YtnkbkpajlikkaaaCFamH
set_option linter.unusedVariables false
set_option linter.unusedSimpArgs false
set_option maxRecDepth 100000
namespace Go.Am
open Go.Proofs
def calV (c:Cal):Value:=.agg #[.int .u64 c.1,.string c.2]
def CalOk (c:Cal):Prop:=(Lit.int .u64 c.1).wf=true∧c.2.size≤maxLen
def calL (c:Cal):List Lit:=[.int .u64 c.1,.string c.2.data.toList]
theorem fCal (c:Cal):(calV c).formed Try.prog 111=true:=by
 simp[calV,Value.formed]
theorem kCal {c:Cal} (k:CalOk c):keyA Try.prog 111 (calV c)=some (calL c):=by
 have hf:=fCal c
 unfold calV at hf ⊢
 rw[aKey_eq hf,aKey_structN Try.underlying111 (d:=39) rfl]
 have k3:=aKey_intN (P:=Try.prog) Try.underlying46 (m:=39) (d:=38) rfl c.1
 have k4:=aKey_stringN (P:=Try.prog) Try.underlying9 (m:=39) (d:=38) rfl c.2
 rw[if_pos k.1] at k3
 rw[if_pos k.2] at k4
 generalize Try.prog.keyLits 39=KL at k3 k4 ⊢
 simp[k3,k4,calL]
theorem calL_eq (a b:Cal):litsEq (calL a) (calL b)=decide (a=b):=by
 obtain⟨a1,⟨⟨a2⟩⟩⟩:=a
 obtain⟨b1,⟨⟨b2⟩⟩⟩:=b
 by_cases h1:a1=b1 <;> by_cases h2:a2=b2 <;> simp[litsEq,litEq,calL,h1,h2]
def Ents:List MapEntry→List Cal→Prop
 | [],[]=>True
 | e :: es,c :: cs=>(e.key=calV c∧∃v,e.val=.int .i64 v)∧Ents es cs
 | _,_=>False
theorem Ents.snoc:∀{es:List MapEntry} {cs:List Cal} {e:MapEntry} {c:Cal},Ents es cs→(e.key=calV c∧∃v,e.val=.int .i64 v)→Ents (es ++ [e]) (cs ++ [c])
 | [],[],e,c,h,k=>⟨k,trivial⟩
 | x :: es,y :: cs,e,c,h,k=>⟨h.1,Ents.snoc h.2 k⟩
 | [],_ :: _,e,c,h,k=>h.elim
 | _ :: _,[],e,c,h,k=>h.elim
theorem findCal {k:Cal}:∀{es:List MapEntry} {cs:List Cal} {i:Nat},Ents es cs→(∀c∈cs,CalOk c)→
 (k∉cs∧findA Try.prog 111 (calL k) es i=some none)∨(k∈cs∧∃j v,findA Try.prog 111 (calL k) es i=some (some (j,.int .i64 v)))
 | [],[],i,h,ho=>.inl ⟨by simp,rfl⟩
 | e :: es,c :: cs,i,h,ho=>by
   have hk:=kCal (ho c List.mem_cons_self)
   unfold findA
   rw[h.1.1,hk]
   simp only
   rw[calL_eq]
   by_cases q:k=c
   ·rw[decide_eq_true q,cond_true]
    obtain⟨v,hv⟩:=h.1.2
    exact .inr ⟨by rw[q]; exact List.mem_cons_self,i,v,by rw[hv]⟩
   ·rw[decide_eq_false q,cond_false]
    rcases findCal (k:=k) (i:=i+1) h.2 (fun c hc=>ho c (List.mem_cons_of_mem _ hc)) with ⟨h1,h2⟩ | ⟨h1,h2⟩
    ·exact .inl ⟨fun z=>(List.mem_cons.1 z).elim q h1,h2⟩
    ·exact .inr ⟨List.mem_cons_of_mem _ h1,h2⟩
 | [],_ :: _,i,h,ho=>h.elim
 | _ :: _,[],i,h,ho=>h.elim
def MapK (h:AH) (m:Nat) (cs:List Cal):Prop:=(∃es clock,h.get m=some (.map es clock)∧Ents es cs)∧∀c∈cs,CalOk c
theorem keyTCal:keyT Try.prog 111=true:=by kernel_rfl
theorem zeroCal:zeroVal Try.prog 3=some (.int .i64 0):=by kernel_rfl
def RightP (nx:Int) (rs:List SetR):Prop:=nx≤281474976710655∧rs.length≤32∧(∀(i:Nat) r,rs[i]?= some r→EntR r∧r.id < nx∧∀(j:Nat) x,i=j+1→rs[j]?= some x→x.id < r.id)∧(rs.map calK).Nodup∧∀r∈rs,ElderR rs r∧OwnerR rs r
structure KRight (K:Xs):Prop where
 ent:KEnt K
 hang:KHang K
 callOf:K 66=none
section
variable {K:Xs} {h:AH} {p:Option Addr} {n c:Nat} {rs:List SetR}
end
end Go.Am
