/-
  WHATEVER IS TOLD OF ANY FAMILY: the law, as the abstract machine runs it.
-/
import Derived.Test.YtnkbkpajlikkaaaCRight16
import Derived.Test.YtnkbkpajlikkaaaCFamX
set_option linter.unusedVariables false
set_option linter.unusedSimpArgs false
set_option maxRecDepth 100000
namespace Go.Am
open Go.Proofs
theorem EntR.cor {a b:SetR} (e:EntR a) (h:cor a=cor b):EntR b:=by
 obtain⟨h1,h2,h3,h4,h5,h6,h7,h8,h9,h10⟩:=cor_eq h
 unfold EntR at e ⊢
 rw[←h1,←h2,←h3,←h4,←h5,←h6,←h7,←h8,←h9,←h10]
 exact e
theorem ownL_cor {xs ys:List SetR} (h:xs.map cor=ys.map cor) (id:Int):ownL xs id=ownL ys id:=by
 unfold ownL
 rw[plcN_cor h]
 cases plcN ys id with
 | none=>rfl
 | some i=>
   simp only
   cases hx:xs[i]? with
   | none=>
     have:ys[i]?= none:=by rw[List.getElem?_eq_none_iff] at hx ⊢; rw[←cor_len h]; exact hx
     rw[this]
   | some r=>
     obtain⟨r',hr',hc⟩:=cor_at h hx
     obtain⟨-, -,h3,h4, -⟩:=cor_eq hc
     rw[hr']
     simp only[h3,h4]
     split
     ·exact filter_cor h _ (fun a=>rfl) _ (fun a=>rfl)
     ·rfl
theorem RightP.cor {nx:Int} {xs ys:List SetR} (R:RightP nx xs) (h:xs.map cor=ys.map cor):RightP nx ys:=by
 have hz:plcN ys 0=none:=by rw[←plcN_cor h]; exact R.zero
 refine good_right R.1 (by rw[←cor_len h]; exact R.2.1) fun u b hb=>?_
 obtain⟨a,ha,hc⟩:=cor_at h.symm hb
 have hc:=hc.symm
 have G:=R.good ha
 obtain⟨h1,h2,h3,h4,h5,h6,h7,h8,h9,h10⟩:=cor_eq hc
 refine⟨G.ent.cor hc,by rw[←h1]; exact G.lt,fun j y hj hy=>?_,?_,?_,fun hs=>?_,fun q hq=>?_,fun k t hk hne=>?_⟩
 ·obtain⟨x,hx,hxc⟩:=cor_at h.symm hy
  rw[←h1,(cor_eq hxc).1]
  exact G.ord j x hj hx
 ·obtain⟨j,v,q1,q2,q3⟩:=G.vol
  obtain⟨w,hw,hwc⟩:=cor_at h q2
  exact⟨j,w,by rw[←plcN_cor h,←h4]; exact q1,hw,by rw[←(cor_eq hwc).2.2.1]; exact q3⟩
 ·rcases G.prev with ⟨j,x,q1,q2,q3,q4⟩ | ⟨q1,q2⟩
  ·obtain⟨w,hw,hwc⟩:=cor_at h q2
   have e:=cor_eq hwc
   refine .inl ⟨j,w,by rw[←plcN_cor h,←h5]; exact q1,hw,?_,?_⟩
   ·rw[←h5,←e.2.2.1]; exact q3
   ·rw[←h3,←h6,←e.2.2.2.2.2.1]; exact q4
  ·exact .inr ⟨by rw[←plcN_cor h,←h5]; exact q1,by rw[←h5]; exact q2⟩
 ·rw[←ownL_cor h,←h1]
  exact G.own (by rw[h3]; exact hs)
 ·rw[flrD_eq hz,←flr_cor h,←flrD_eq R.zero,←h1]
  exact G.dead q (by rw[h10]; exact hq)
 ·obtain⟨x,hx,hxc⟩:=cor_at h.symm hk
  have e:=cor_eq hxc
  have:=G.name k x hx hne
  rw[e.2.2.1,e.2.1,e.2.2.2.1,←h3,←h2,←h4]
  exact this
theorem zeroSet (h:AH):SetOk h zeroR:={ id:=by decide,own:=by decide,prev:=by decide,stamp:=by decide,root:=⟨by decide,by decide,by decide⟩,dead:=fun q hq=>(List.not_mem_nil hq).elim,form:=.inl rfl,room:=Nat.zero_le _,len:=rfl,shows:=⟨rfl,.inl rfl⟩ }
theorem clL_len (rs:List SetR) (id:Int):(clL rs id).length≤rs.length:=by
 unfold clL
 split
 ·exact Nat.zero_le _
 ·split
  ·exact Nat.zero_le _
  ·split
   ·rw[List.length_map]
    exact List.length_filter_le _ _
   ·exact Nat.zero_le _
theorem wayW_len (rs:List SetR) (id:Int):∀(k:Nat) (pr:Int) (ch:List Int),(wayW rs id k pr ch).1.length≤ch.length+k
 | 0,pr,ch=>Nat.le_refl _
 | k+1,pr,ch=>by
   unfold wayW
   split
   ·exact Nat.le_add_right _ _
   ·split
    ·exact Nat.le_add_right _ _
    ·split
     ·exact Nat.le_add_right _ _
     ·split
      ·refine Nat.le_trans (wayW_len rs id k _ _) ?_
       rw[List.length_append,List.length_singleton]
       omega
      ·exact Nat.le_add_right _ _
theorem wayR_len (rs:List SetR) (id:Int):(wayR rs id).1.length≤32:=by
 unfold wayR
 split
 ·exact Nat.zero_le _
 ·split
  ·exact Nat.zero_le _
  ·split
   ·exact Nat.zero_le _
   ·refine Nat.le_trans (wayW_len rs id _ _ _) ?_
    exact Nat.le_refl _
structure KTells (K:Xs):Prop where
 r16:KRef16 K
 find:K 38=none
 copy:K 44=none
 origin:K 17=none
 way:K 33=none
 chain:K 46=none
 next:K 63=none
 full:K 16=none
 clones:K 62=none
 floor:K 43=none
 named:KNamed K
 hang:KHang K
end Go.Am
