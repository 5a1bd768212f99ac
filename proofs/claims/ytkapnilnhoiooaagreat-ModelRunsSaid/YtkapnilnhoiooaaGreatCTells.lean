/-
  WHATEVER IS TOLD OF ANY FAMILY: the law, as the abstract machine runs it.
-/
import Derived.Test.YtkapnilnhoiooaaGreatCRight16
import Derived.Test.YtkapnilnhoiooaaGreatCFamX
set_option linter.unusedVariables false
set_option linter.unusedSimpArgs false
set_option maxRecDepth 100000
namespace Go.Am
open Go.Proofs
theorem zsj.cor {a b:zaj} (e:zsj a) (h:cor a=cor b):zsj b:=by
 obtain⟨h1,h2,h3,h4,h5,h6,h7,h8,h9,h10⟩:=zaL h
 unfold zsj at e ⊢
 rw[←h1,←h2,←h3,←h4,←h5,←h6,←h7,←h8,←h9,←h10]
 exact e
theorem ztd {xs ys:List zaj} (h:xs.map cor=ys.map cor) (id:Int):zlz xs id=zlz ys id:=by
 unfold zlz
 rw[zbb h]
 cases plcN ys id with
 | none=>rfl
 | some i=>
   simp only
   cases hx:xs[i]? with
   | none=>
     have:ys[i]?= none:=by rw[List.getElem?_eq_none_iff] at hx ⊢; rw[←za5 h]; exact hx
     rw[this]
   | some r=>
     obtain⟨r',hr',hc⟩:=zcA h hx
     obtain⟨-, -,h3,h4, -⟩:=zaL hc
     rw[hr']
     simp only[h3,h4]
     split
     ·exact zcR h _ (fun a=>rfl) _ (fun a=>rfl)
     ·rfl
theorem zam.cor {nx:Int} {xs ys:List zaj} (R:zam nx xs) (h:xs.map cor=ys.map cor):zam nx ys:=by
 have hz:plcN ys 0=none:=by rw[←zbb h]; exact R.zero
 refine zpM R.1 (by rw[←za5 h]; exact R.2.1) fun u b hb=>?_
 obtain⟨a,ha,hc⟩:=zcA h.symm hb
 have hc:=hc.symm
 have G:=R.good ha
 obtain⟨h1,h2,h3,h4,h5,h6,h7,h8,h9,h10⟩:=zaL hc
 refine⟨G.ent.cor hc,by rw[←h1]; exact G.lt,fun j y hj hy=>?_,?_,?_,fun hs=>?_,fun q hq=>?_,fun k t hk hne=>?_⟩
 ·obtain⟨x,hx,hxc⟩:=zcA h.symm hy
  rw[←h1,(zaL hxc).1]
  exact G.ord j x hj hx
 ·obtain⟨j,v,q1,q2,q3⟩:=G.vol
  obtain⟨w,hw,hwc⟩:=zcA h q2
  exact⟨j,w,by rw[←zbb h,←h4]; exact q1,hw,by rw[←(zaL hwc).2.2.1]; exact q3⟩
 ·rcases G.prev with ⟨j,x,q1,q2,q3,q4⟩ | ⟨q1,q2⟩
  ·obtain⟨w,hw,hwc⟩:=zcA h q2
   have e:=zaL hwc
   refine .inl ⟨j,w,by rw[←zbb h,←h5]; exact q1,hw,?_,?_⟩
   ·rw[←h5,←e.2.2.1]; exact q3
   ·rw[←h3,←h6,←e.2.2.2.2.2.1]; exact q4
  ·exact .inr ⟨by rw[←zbb h,←h5]; exact q1,by rw[←h5]; exact q2⟩
 ·rw[←ztd h,←h1]
  exact G.own (by rw[h3]; exact hs)
 ·rw[zlc hz,←znX h,←zlc R.zero,←h1]
  exact G.dead q (by rw[h10]; exact hq)
 ·obtain⟨x,hx,hxc⟩:=zcA h.symm hk
  have e:=zaL hxc
  have:=G.name k x hx hne
  rw[e.2.2.1,e.2.1,e.2.2.2.1,←h3,←h2,←h4]
  exact this
theorem zef (h:AH):zbC h zaq:={ id:=by decide,own:=by decide,prev:=by decide,stamp:=by decide,root:=⟨by decide,by decide,by decide⟩,dead:=fun q hq=>(List.not_mem_nil hq).elim,form:=.inl rfl,room:=Nat.zero_le _,len:=rfl,shows:=⟨rfl,.inl rfl⟩ }
structure zxr (K:Xs):Prop where
 r16:zhz K
 find:K 50=none
 copy:K 56=none
 origin:K 41=none
 way:K 82=none
 chain:K 58=none
 next:K 90=none
 full:K 40=none
 clones:K 89=none
 floor:K 55=none
 named:zoP K
 hang:zq1 K
end Go.Am
