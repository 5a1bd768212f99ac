/-
  A FAMILY'S RECORDS as arguments.
-/
import Derived.Test.YtnkbkpajlikkaaaCFam
set_option linter.unusedVariables false
set_option linter.unusedSimpArgs false
set_option maxRecDepth 100000
namespace Go.Am
open Go.Proofs
theorem list_ofX {α:Type} (Q:Nat→α→Prop):∀(n:Nat),(∀i,i < n→∃a,Q i a)→∃l:List α,l.length=n∧∀(i:Nat) (hi:i < l.length),Q i l[i]
 | 0,_=>⟨[],rfl,fun i hi=>absurd hi (Nat.not_lt_zero _)⟩
 | n+1,h=>by
   obtain⟨l,hl,hq⟩:=list_ofX Q n fun i hi=>h i (by omega)
   obtain⟨a,ha⟩:=h n (by omega)
   refine⟨l ++ [a],by simp[hl],fun i hi=>?_⟩
   by_cases h2:i < l.length
   ·rw[List.getElem_append_left h2]
    exact hq i h2
   ·obtain rfl:i=n:=by simp at hi; omega
    rw[List.getElem_append_right (by omega)]
    simpa using ha
section
variable {h:AH}
theorem rd_ptrX {g:Nat} {cs:List Value} (r:Rd Try.prog h (g+2) 56 cs):∃q:PtI,cs=[.int .i64 q.1,.int .u64 q.2.1,.int .u32 q.2.2]∧PtrWfI q:=by
 unfold Rd at r
 rw[Try.underlying56] at r
 have hc1:Try.prog.cellsOf 3=1:=by simp
 have hc2:Try.prog.cellsOf 46=1:=by simp
 have hc3:Try.prog.cellsOf 54=1:=by simp
 simp only[List.map_cons,List.map_nil,RdL,hc1,hc2,hc3] at r
 obtain⟨k1,r1,k2,r2,k3,r3,r4⟩:=r
 unfold Rd at r1 r2 r3
 rw[Try.underlying3] at r1
 rw[Try.underlying46] at r2
 rw[Try.underlying54] at r3
 obtain⟨x,e1,w1⟩:=r1
 obtain⟨y,e2,w2⟩:=r2
 obtain⟨z,e3,w3⟩:=r3
 match cs,e1,e2,e3,r4,k3 with
 | [a,b,c],e1,e2,e3,r4,k3=>
   simp at e1 e2 e3
   subst e1 e2 e3
   exact⟨(x,y,z),rfl,w1,w2,w3⟩
 | a :: b :: c :: d :: l,e1,e2,e3,r4,k3=>simp at r4
theorem flat3 {l:List PtI} {al:List Value} (hl:al.length=l.length * 3) (h:∀(i:Nat) (hi:i < l.length),(al.drop (i * 3)).take 3=[.int .i64 l[i].1,.int .u64 l[i].2.1,.int .u32 l[i].2.2]):al=ptI l:=by
 apply List.ext_getElem?
 intro j
 by_cases hj:j < al.length
 ·have hi:j / 3 < l.length:=by omega
  have e1:=congrArg (fun x:List Value=>x[j % 3]?) (h (j / 3) hi)
  have e2:=congrArg (fun x:List Value=>x[j % 3]?) (ptI_get l (j / 3) hi)
  simp only[List.getElem?_take,List.getElem?_drop] at e1 e2
  have hm:j % 3 < 3:=Nat.mod_lt _ (by decide)
  have hd:j / 3 * 3+j % 3=j:=by omega
  rw[if_pos hm,hd] at e1 e2
  rw[e1,e2]
 ·rw[List.getElem?_eq_none (by omega),List.getElem?_eq_none (by rw[ptI_len]; omega)]
theorem rd_ptrsX {g:Nat} {v:Value} (r:Rd Try.prog h (g+3) 57 [v]):∃p n c ds,v=.slice p n c∧(p=none∨∃b off,p=some ⟨b,off,none⟩)∧n * 24≤reachBytes∧n=ds.length∧Shows h p n 3 (ptI ds)∧∀q∈ds,PtrWfI q:=by
 unfold Rd at r
 rw[Try.underlying57] at r
 obtain⟨p,n,c,al,e,hp,hn,hb,hs,hr⟩:=r
 have hc2:Try.prog.cellsOf 56=3:=by simp
 have hb2:Try.prog.bytesOf 56=24:=by kernel_rfl
 rw[hb2] at hb
 obtain⟨hl,hi⟩:=hr.rep
 rw[hc2] at hs hi hl
 obtain⟨ds,hds,hq⟩:=list_ofX (fun i (q:PtI)=>(al.drop (i * 3)).take 3=[.int .i64 q.1,.int .u64 q.2.1,.int .u32 q.2.2]∧PtrWfI q) n fun i hin=>rd_ptrX (hi i hin)
 have hal:=flat3 (l:=ds) (by rw[hl,hds]) fun i hi=>(hq i hi).1
 subst hal
 refine⟨p,n,c,ds,by simpa using e,hp,hb,hds.symm,hs,fun q hq'=>?_⟩
 obtain⟨i,hi',rfl⟩:=List.mem_iff_getElem.1 hq'
 exact (hq i hi').2
theorem rd_setX {g:Nat} {cs:List Value} (r:Rd Try.prog h (g+4) 59 cs):∃s:SetR,cs=setC s∧SetOk h s:=by
 unfold Rd at r
 rw[Try.underlying59] at r
 have hc1:Try.prog.cellsOf 3=1:=by simp
 have hc2:Try.prog.cellsOf 46=1:=by simp
 have hc3:Try.prog.cellsOf 9=1:=by simp
 have hc4:Try.prog.cellsOf 4=1:=by simp
 have hc5:Try.prog.cellsOf 56=3:=by simp
 have hc6:Try.prog.cellsOf 57=1:=by simp
 simp only[List.map_cons,List.map_nil,RdL,hc1,hc2,hc3,hc4,hc5,hc6,List.drop_drop] at r
 obtain⟨k1,r1,k2,r2,k3,r3,k4,r4,k5,r5,k6,r6,k7,r7,k8,r8,k9,r9,r10⟩:=r
 unfold Rd at r1 r2 r3 r4 r5 r6 r7
 rw[Try.underlying46] at r1 r4 r5 r6
 rw[Try.underlying9] at r2
 rw[Try.underlying4] at r3
 rw[Try.underlying3] at r7
 obtain⟨x1,e1,w1⟩:=r1
 obtain⟨x2,e2,w2, -⟩:=r2
 obtain⟨x3,e3⟩:=r3
 obtain⟨x4,e4,w4⟩:=r4
 obtain⟨x5,e5,w5⟩:=r5
 obtain⟨x6,e6,w6⟩:=r6
 obtain⟨x7,e7,w7⟩:=r7
 obtain⟨q,e8,w8⟩:=rd_ptrX r8
 match cs,e1,e2,e3,e4,e5,e6,e7,e8,r9,r10,k9 with
 | [c0,c1,c2,c3,c4,c5,c6,c7,c8,c9,c10],e1,e2,e3,e4,e5,e6,e7,e8,r9,r10,k9=>
   have r9' : Rd Try.prog h (g+3) 57 [c10]:=r9
   obtain⟨p,n,c,ds,rfl,f1,f2,f3,f4,f5⟩:=rd_ptrsX (g:=g) r9'
   simp at e1 e2 e3 e4 e5 e6 e7 e8
   obtain⟨e8,e9,e10⟩:=e8
   subst e1 e2 e3 e4 e5 e6 e7 e8 e9 e10
   exact⟨⟨x1,x2,x3,x4,x5,x6,x7,q,p,n,c,ds⟩,rfl,⟨w1,w4,w5,w6,w8,f5,f1,f2,f3,f4⟩⟩
 | c0 :: c1 :: c2 :: c3 :: c4 :: c5 :: c6 :: c7 :: c8 :: c9 :: c10 :: c11 :: l,e1,e2,e3,e4,e5,e6,e7,e8,r9,r10,k9=>simp at r10
theorem rd_setsX {g:Nat} {v:Value} (r:Rd Try.prog h (g+5) 47 [v]):∃p n c rs,v=.slice p n c∧Sets h p n rs:=by
 unfold Rd at r
 rw[Try.underlying47] at r
 obtain⟨p,n,c,al,e,hp,hn,hb,hs,hr⟩:=r
 have hc2:Try.prog.cellsOf 59=11:=by simp
 have hb2:Try.prog.bytesOf 59=112:=by kernel_rfl
 rw[hb2] at hb
 obtain⟨hl,hi⟩:=hr.rep
 rw[hc2] at hs hi hl
 obtain⟨rs,hrs,hq⟩:=list_ofX (fun i (s:SetR)=>(al.drop (i * 11)).take 11=setC s∧SetOk h s) n fun i hin=>rd_setX (hi i hin)
 exact⟨p,n,c,rs,by simpa using e,hrs.symm,by omega,al,hs,fun i hi=>hq i hi⟩
theorem rdv_setsX {g:Nat} {a:Value} (r:RdV Try.prog h g 47 a):Rd Try.prog h g 47 [a]:=by
 unfold RdV at r
 rw[Try.underlying47] at r
 exact r
theorem sets_args {vs:List Value} (r:RdA Try.prog h 8 [47] vs):∃p n c rs,vs=[.slice p n c]∧Sets h p n rs:=by
 obtain⟨a,rfl,r1⟩:=rda1 r
 obtain⟨p,n,c,rs,rfl,T⟩:=rd_setsX (g:=3) (rdv_setsX r1)
 exact⟨p,n,c,rs,rfl,T⟩
end
end Go.Am
