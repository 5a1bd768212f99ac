/-
  WHAT IS TOLD OF FUNCTIONS, without the machine over trees.
-/
import Derived.Test.YtnkbkpajlikkaaaAmD
set_option linter.unusedVariables false
set_option linter.unusedSimpArgs false
namespace Go.Am
def xNone:Xs:=fun _=>none
theorem xNone_good {P:Program}:GoodX P xNone where
 ext:=fun _ _ hk=>by simp[xNone] at hk
 body:=fun _ _ hk=>by simp[xNone] at hk
 sum:=fun _ _ hk=>by simp[xNone] at hk
def xAdd (K:Xs) (fa:FuncId) (x:XF):Xs:=fun f=>cond (Nat.beq f fa) (some x) (K f)
theorem xAdd_at {K:Xs} {fa:FuncId} {x:XF}:xAdd K fa x fa=some x:=by
 unfold xAdd
 rw[Nat.beq_refl]
 rfl
theorem xAdd_ne {K:Xs} {f fa:FuncId} {x:XF} (hn:f≠fa):xAdd K fa x f=K f:=by
 unfold xAdd
 rw[beq_f hn]
 rfl
variable {P:Program} {K:Xs}
def xTrue:List Value→AH→Option (Value×AH)
 | [],h=>some (.bool true,h)
 | _,_=>none
theorem closed_sum (G:Good P) (X:GoodX P K) {n:Nat} {f:FuncId} (hs:isTrue (callF P K (ex P K n) f [] ⟨.nil,0⟩)=true) (cs:List Frame) {φ:Fi} {h:AH} {w:World} (hr:R P φ h w):
 ∃w' fr,Tn P φ h w φ h w'∧Steps P (lone (Frame.enter P f #[] .normal) cs w) (lone fr cs w')∧fr.fn=f∧fr.leaving P w' (.returned (.bool true)):=by
 obtain⟨h1,hc⟩:=isTrue_of hs
 obtain⟨φ1,v1,w1,fr,t,hv,st,hfn,hl⟩:=call_sound G X (ex_sound G X n) f [] ⟨.nil,0⟩ (.bool true) h1 hc h1.next (fun _=>none) [] w cs (Nat.le_refl _) (fun _ _ _=>rfl) trivial (R.empty 0)
 cases hv
 have hkeep:∀c,c < w.heap.size→w1.heap[c]?= w.heap[c]?:=fun c hc'=>t.keep c hc' (by
  rintro⟨b,o,rc,k1,_⟩
  simp[AH.get,Tr.get_nil] at k1)
 refine⟨w1,fr,⟨Le.refl _,fun _ e=>.inl e,Nat.le_refl _,⟨fun b o rc k1 k2=>?_,hr.inj,hr.lt⟩,t.size,t.os,t.tape,t.output,fun c hc' _=>hkeep c hc',fun b o rc k1 k2 _=>⟨b,o,rc,k1,k2,rfl,id⟩⟩,st,hfn,hl⟩
 obtain⟨o',h3,h4⟩:=hr.obj b o rc k1 k2
 exact⟨o',by rw[hkeep _ (Array.getElem?_eq_some_iff.1 h3).1]; exact h3,h4⟩
theorem add_good (X:GoodX P K) {fa:FuncId} {g:List Value→AH→Option (Value×AH)} (hb:∃fn c,P.funcs[fa]?= some fn∧fn.body=some c)
 (hs:∀args h v h',g args h=some (v,h')→h.next≤h'.next→∀(N:Nat) φ args' w cs,h'.next≤N→Free φ h.next N→AR φ args args'→R P φ h w→
   ∃φ' v' w' fr,Tn P φ h w φ' h' w'∧VR φ' v v'∧Steps P (lone (Frame.enter P fa args'.toArray .normal) cs w) (lone fr cs w')∧fr.fn=fa∧fr.leaving P w' (.returned v')):GoodX P (xAdd K fa (.sum g)) where
 ext:=fun f x hk=>by
  by_cases hf:f=fa
  ·subst hf
   rw[xAdd_at] at hk
   simp at hk
  ·rw[xAdd_ne hf] at hk
   exact X.ext f x hk
 body:=fun f x hk=>by
  by_cases hf:f=fa
  ·subst hf
   exact hb
  ·rw[xAdd_ne hf] at hk
   exact X.body f x hk
 sum:=fun f x hk=>by
  by_cases hf:f=fa
  ·subst hf
   rw[xAdd_at] at hk
   simp only[Option.some.injEq,XF.sum.injEq] at hk
   subst hk
   exact hs
  ·rw[xAdd_ne hf] at hk
   exact X.sum f x hk
theorem closed_good (G:Good P) (X:GoodX P K) {n:Nat} {fa:FuncId} (hs:isTrue (callF P K (ex P K n) fa [] ⟨.nil,0⟩)=true):GoodX P (xAdd K fa (.sum xTrue)):=by
 refine add_good X ?_ ?_
 ·obtain⟨h1,hc⟩:=isTrue_of hs
  exact call_body X hc
 ·intro args h v h' hg hn N φ args' w cs hN hF ha hr
  unfold xTrue at hg
  split at hg
  ·simp only[Option.some.injEq,Prod.mk.injEq] at hg
   obtain⟨rfl,rfl⟩:=hg
   cases args' with
   | nil=>
     obtain⟨w',fr,t,st,hfn,hl⟩:=closed_sum G X hs cs hr
     exact⟨φ,.bool true,w',fr,t,.bool _,st,hfn,hl⟩
   | cons _ _=>exact ha.elim
  ·simp at hg
def Tells (P:Program) (K:Xs) (fa:FuncId) (g:List Value→AH→Option (Value×AH)):Prop:=
 ∀args h v h',(∀b o,h.get b=some o→b < h.next)→g args h=some (v,h')→∃n h1,bodyF P (ex P K n) fa args h=some (v,h1)∧(∀b o,h'.get b=some o→h1.get b=some o)∧h1.next≤h'.next
theorem tells_good (G:Good P) (X:GoodX P K) {fa:FuncId} {g:List Value→AH→Option (Value×AH)} (hb:∃fn c,P.funcs[fa]?= some fn∧fn.body=some c) (T:Tells P K fa g):GoodX P (xAdd K fa (.sum g)):=by
 refine add_good X hb ?_
 intro args h v h' hg hn N φ args' w cs hN hF ha hr
 obtain⟨n,h1,hb,hk,hle⟩:=T args h v h' hr.lt hg
 obtain⟨φ',v',w',fr,t,hv,st,hfn,hl⟩:=body_sound G (ex_sound G X n) fa args h v h1 hb N φ args' w cs (by omega) hF ha hr
 exact⟨φ',v',w',fr,⟨t.le,fun b q=>(t.new b q).imp id (fun q=>⟨q.1,by omega⟩),hn,⟨fun b o rc k1 k2=>t.rel.obj b o rc (hk b o k1) k2,fun b1 b2 o1 o2 r1 r2 k1 k2=>t.rel.inj b1 b2 o1 o2 r1 r2 (hk _ _ k1) (hk _ _ k2),fun b o k1=>Nat.lt_of_lt_of_le (t.rel.lt b o (hk _ _ k1)) hle⟩,
  t.size,t.os,t.tape,t.output,t.keep,fun b o rc k1=>t.old b o rc (hk _ _ k1)⟩,hv,st,hfn,hl⟩
theorem Wf_sum {P:Program} {K:Xs} {h:AH} {f:FuncId} {args:List Value} {Q:Value→AH→Prop} {g:List Value→AH→Option (Value×AH)} (hk:K f=some (.sum g)) {v:Value} {h' : AH} (hg:g args h=some (v,h')) (hn:h.next≤h'.next) (hq:Q v h'):
 Wf P K f args h Q:=by
 refine⟨0,v,h',?_,hq⟩
 unfold callX
 rw[hk]
 simp only
 unfold callF grown
 rw[hk]
 simp only[hg]
 have:Nat.ble h.next h'.next=true:=Nat.ble_eq_true_of_le hn
 simp only[this]
end Go.Am
