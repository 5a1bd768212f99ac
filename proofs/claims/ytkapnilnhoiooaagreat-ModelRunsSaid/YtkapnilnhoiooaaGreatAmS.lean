/-
  WHAT IS TOLD OF FUNCTIONS, without the machine over trees.
-/
import Derived.Test.YtkapnilnhoiooaaGreatAmD
set_option linter.unusedVariables false
set_option linter.unusedSimpArgs false
namespace Go.Am
section
def zgF:Xs:=fun _=>none
theorem zbs {P:Program}:zb5 P zgF where
 ext:=fun _ _ hk=>by simp[zgF] at hk
 body:=fun _ _ hk=>by simp[zgF] at hk
 sum:=fun _ _ hk=>by simp[zgF] at hk
def zsS (K:Xs) (fa:FuncId) (x:XF):Xs:=fun f=>cond (Nat.beq f fa) (some x) (K f)
theorem zqC {K:Xs} {fa:FuncId} {x:XF}:zsS K fa x fa=some x:=by
 unfold zsS
 rw[Nat.beq_refl]
 rfl
theorem znC {K:Xs} {f fa:FuncId} {x:XF} (hn:f≠fa):zsS K fa x f=K f:=by
 unfold zsS
 rw[zlC hn]
 rfl
variable {P:Program} {K:Xs}
def zsT:List Value→AH→Option (Value×AH)
 | [],h=>some (.bool true,h)
 | _,_=>none
theorem zpE (G:zd7 P) (X:zb5 P K) {n:Nat} {f:FuncId} (hs:zl3 (zdn P K (ex P K n) f [] ⟨.nil,0⟩)=true) (cs:List Frame) {φ:Fi} {h:AH} {w:World} (hr:R P φ h w):
 ∃w' fr,Tn P φ h w φ h w'∧Steps P (lone (Frame.enter P f #[] .normal) cs w) (lone fr cs w')∧fr.fn=f∧fr.leaving P w' (.returned (.bool true)):=by
 obtain⟨h1,hc⟩:=zl4 hs
 obtain⟨φ1,v1,w1,fr,t,hv,st,hfn,hl⟩:=zfe G X (zfh G X n) f [] ⟨.nil,0⟩ (.bool true) h1 hc h1.next (fun _=>none) [] w cs (Nat.le_refl _) (fun _ _ _=>rfl) trivial (R.empty 0)
 cases hv
 have hkeep:∀c,c < w.heap.size→w1.heap[c]?= w.heap[c]?:=fun c hc'=>t.keep c hc' (by
  rintro⟨b,o,rc,k1,_⟩
  simp[AH.get,Tr.get_nil] at k1)
 refine⟨w1,fr,⟨Le.refl _,fun _ e=>.inl e,Nat.le_refl _,⟨fun b o rc k1 k2=>?_,hr.inj,hr.lt⟩,t.size,t.os,t.tape,t.output,fun c hc' _=>hkeep c hc',fun b o rc k1 k2 _=>⟨b,o,rc,k1,k2,rfl,id⟩⟩,st,hfn,hl⟩
 obtain⟨o',h3,h4⟩:=hr.obj b o rc k1 k2
 exact⟨o',by rw[hkeep _ (Array.getElem?_eq_some_iff.1 h3).1]; exact h3,h4⟩
theorem zoy (X:zb5 P K) {fa:FuncId} {g:List Value→AH→Option (Value×AH)} (hb:∃fn c,P.funcs[fa]?= some fn∧fn.body=some c)
 (hs:∀args h v h',g args h=some (v,h')→h.next≤h'.next→∀(N:Nat) φ args' w cs,h'.next≤N→zep φ h.next N→AR φ args args'→R P φ h w→
   ∃φ' v' w' fr,Tn P φ h w φ' h' w'∧VR φ' v v'∧Steps P (lone (Frame.enter P fa args'.toArray .normal) cs w) (lone fr cs w')∧fr.fn=fa∧fr.leaving P w' (.returned v')):zb5 P (zsS K fa (.sum g)) where
 ext:=fun f x hk=>by
  by_cases hf:f=fa
  ·subst hf
   rw[zqC] at hk
   simp at hk
  ·rw[znC hf] at hk
   exact X.ext f x hk
 body:=fun f x hk=>by
  by_cases hf:f=fa
  ·subst hf
   exact hb
  ·rw[znC hf] at hk
   exact X.body f x hk
 sum:=fun f x hk=>by
  by_cases hf:f=fa
  ·subst hf
   rw[zqC] at hk
   simp only[Option.some.injEq,XF.sum.injEq] at hk
   subst hk
   exact hs
  ·rw[znC hf] at hk
   exact X.sum f x hk
theorem znD (G:zd7 P) (X:zb5 P K) {n:Nat} {fa:FuncId} (hs:zl3 (zdn P K (ex P K n) fa [] ⟨.nil,0⟩)=true):zb5 P (zsS K fa (.sum zsT)):=by
 refine zoy X ?_ ?_
 ·obtain⟨h1,hc⟩:=zl4 hs
  exact ziw X hc
 ·intro args h v h' hg hn N φ args' w cs hN hF ha hr
  unfold zsT at hg
  split at hg
  ·simp only[Option.some.injEq,Prod.mk.injEq] at hg
   obtain⟨rfl,rfl⟩:=hg
   cases args' with
   | nil=>
     obtain⟨w',fr,t,st,hfn,hl⟩:=zpE G X hs cs hr
     exact⟨φ,.bool true,w',fr,t,.bool _,st,hfn,hl⟩
   | cons _ _=>exact ha.elim
  ·simp at hg
theorem zt1 {P:Program} {K:Xs} {h:AH} {f:FuncId} {args:List Value} {Q:Value→AH→Prop} {g:List Value→AH→Option (Value×AH)} (hk:K f=some (.sum g)) {v:Value} {h' : AH} (hg:g args h=some (v,h')) (hn:h.next≤h'.next) (hq:Q v h'):
 Wf P K f args h Q:=by
 refine⟨0,v,h',?_,hq⟩
 unfold zg2
 rw[hk]
 simp only
 unfold zdn grown
 rw[hk]
 simp only[hg]
 have:Nat.ble h.next h'.next=true:=Nat.ble_eq_true_of_le hn
 simp only[this]
end
end Go.Am
