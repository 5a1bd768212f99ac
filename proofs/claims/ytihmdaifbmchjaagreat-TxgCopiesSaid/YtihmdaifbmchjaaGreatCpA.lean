/-
  THE MAP OF SECTORS in this program: what its functions do to the states.
-/
import Derived.Test.YtihmdaifbmchjaaGreatAmH
import Derived.Test.YtihmdaifbmchjaaGreatVPile
import Derived.Test.YtihmdaifbmchjaaGreatPFacts
import Derived.Test.YtihmdaifbmchjaaGreatAmF
set_option linter.unusedVariables false
set_option linter.unusedSimpArgs false
namespace Go.Am
open Go.Proofs
section
variable {K:Xs} {h:AH} {b:Nat} {M:List Nat}
abbrev ze3 (h:AH) (b:Nat) (M:List Nat):Prop:=zoC 99 h b M
theorem zyw (hk:K 56=none) (m:ze3 h b M) (i:Int) (s:Nat):
 Wf Tryz.prog K 56 [.pointer (some ⟨b,0,none⟩),.int .i64 i,.int .u8 s] h fun v h'=>v=.bool (decide (0≤i∧i < 1024∧M[i.toNat]?= some s))∧h=h':=by
 refine zjk hk _ _ _ h _ ⟨fun q1=>⟨fun q2=>zae ⟨q1,q2,?_⟩,fun q2=>⟨by rw[decide_eq_false]; omega,rfl⟩⟩,fun q1=>⟨by rw[decide_eq_false]; omega,rfl⟩⟩
 have hi:i.toNat < M.length:=by rw[m.1]; omega
 refine⟨(M[i.toNat]:Nat),?_,fun q3=>⟨?_,rfl⟩,fun q3=>⟨?_,rfl⟩⟩
 ·rw[Nat.mul_one,Nat.zero_add]
  exact zah m.2.2 (by rw[zoA hi,List.getElem?_eq_getElem hi]; rfl)
 ·rw[decide_eq_true]
  exact⟨q1,q2,by rw[List.getElem?_eq_getElem hi]; congr 1; omega⟩
 ·rw[decide_eq_false]
  rintro⟨_,_,q4⟩
  rw[List.getElem?_eq_getElem hi] at q4
  simp only[Option.some.injEq] at q4
  exact q3 (by rw[q4])
theorem zpV (hk:K 52=none) (m:ze3 h b M) (i:Nat) (hi:i < 1024) (v:Nat):
 Wf Tryz.prog K 52 [.pointer (some ⟨b,0,none⟩),.int .i64 i,.int .u8 v] h fun r h'=>ze3 h' b (M.set i v)∧za9 b h h':=by
 obtain⟨hl,hb,hg⟩:=m
 have hiM:i < M.length:=by omega
 have hM:M[i]?= some M[i]:=List.getElem?_eq_getElem hiM
 have hk16:i / 64 < 16:=by omega
 have hdiv:Int.tdiv (i:Int) 64=((i / 64:Nat):Int):=zvT i 64
 have fin:∀(g:AH) (rm:List Nat),za9 b h g→g.get b=some (.cells (zfP (M.set i v) rm) 99 false)→rm=zny (M.set i v)→ze3 g b (M.set i v)∧za9 b h g:=by
  intro g rm n hg2 hrm
  exact⟨⟨by rw[List.length_set]; exact hl,by rw[n.1]; exact hb,by rw[hg2,hrm]⟩,n⟩
 have behind:∀(g:AH) (rm:List Nat) (c:Nat) (Q:Value→AH→Prop),rm.length=16→rm[i / 64]?= some c→c≤100→za9 b h g→g.get b=some (.cells (zfP M rm) 99 false)→
  (∀g',za9 b h g'→g'.get b=some (.cells (zfP (M.set i v) (if v=1 then rm.set (i / 64) (c+1) else rm)) 99 false)→Q (.tuple #[]) g')→
  ∃h13:AH,st1 g b (0+Int.toNat (i:Int) * 1) (.int .u8 (v:Int))=some h13∧
   (((v:Int)=1→(64≠(0:Int))∧(∀i14:Int,i14=IntKind.wrap .i64 (Int.tdiv (i:Int) 64)→zai (some ⟨b,0,none⟩) fun b15 o16=>(((0:Int)≤i14)∧((i14:Int) < 16)∧
     (∃i17:Int,ld1 h13 b15 ((o16+1024)+Int.toNat i14 * 1)=some (.int .i64 i17)∧
     (∀i18:Int,i18=IntKind.wrap .i64 (i17+1)→zai (some ⟨b,0,none⟩) fun b19 o20=>(((0:Int)≤i14)∧((i14:Int) < 16)∧
     (∃h21:AH,st1 h13 b19 ((o20+1024)+Int.toNat i14 * 1) (.int .i64 i18)=some h21∧
     (Q (.tuple #[]) h21))))))))∧
   (¬(v:Int)=1→Q (.tuple #[]) h13)):=by
  intro g rm c Q hrl hrc hc n hgb hq
  have hlen:i < (zfP M rm).length:=by rw[zdw]; omega
  refine⟨g.set b (.cells (zfP (M.set i v) rm) 99 false),?_,?_⟩
  ·rw[Int.toNat_natCast,Nat.mul_one,Nat.zero_add,zbm hgb hlen,zrf hiM]
  ·have hg2:(g.set b (.cells (zfP (M.set i v) rm) 99 false)).get b=some (.cells (zfP (M.set i v) rm) 99 false):=by rw[AH.get_set,if_pos rfl]
   refine⟨fun q1=>⟨by omega,fun i14 e14=>?_⟩,fun q1=>?_⟩
   ·rw[hdiv] at e14
    have e14:=zaJ e14 (by omega) (by omega)
    subst e14
    refine zae ⟨by omega,by omega,(c:Nat),?_,fun i18 e18=>zae ⟨by omega,by omega,?_⟩⟩
    ·rw[Int.toNat_natCast,Nat.mul_one,Nat.zero_add]
     exact zah hg2 (by rw[zoB (by rw[List.length_set]; exact hl),hrc]; rfl)
    ·have e18:=zaJ e18 (by omega) (by omega)
     subst e18
     refine⟨_,by rw[Int.toNat_natCast,Nat.mul_one,Nat.zero_add,zbm hg2 (by rw[zdw,List.length_set]; omega),show ((c:Int)+1)=((c+1:Nat):Int) from rfl,zjZ (by rw[List.length_set]; exact hl)],?_⟩
     refine hq _ ((n.trans (zaj _ _ _)).trans (zaj _ _ _)) ?_
     rw[AH.get_set,if_pos rfl,if_pos (by omega)]
   ·refine hq _ (n.trans (zaj _ _ _)) ?_
    rw[hg2,if_neg (by omega)]
 refine ziu hk _ _ _ h _ (zae ⟨by omega,by omega,(M[i]:Nat),?_,fun q1=>⟨by omega,fun i3 e3=>?_⟩,fun q1=>zae ⟨by omega,by omega,?_⟩⟩)
 ·rw[Int.toNat_natCast,Nat.mul_one,Nat.zero_add]
  exact zah hg (by rw[zoA hiM,hM]; rfl)
 ·rw[hdiv] at e3
  have e3:=zaJ e3 (by omega) (by omega)
  subst e3
  have hM1:M[i]?= some 1:=by rw[hM]; congr 1; omega
  have hpos:=zth (k:=i / 64) hM1 (by omega)
  have hle:=ztg M (i / 64)
  refine zae ⟨by omega,by omega,(cnt M (i / 64):Nat),?_,fun i7 e7=>?_⟩
  ·rw[Int.toNat_natCast,Nat.mul_one,Nat.zero_add]
   exact zah hg (by rw[zoB hl,zcw hk16]; rfl)
  ·have e7:=zaJ e7 (by omega) (by omega)
   rw[show ((cnt M (i / 64):Nat):Int) - 1=((cnt M (i / 64) - 1:Nat):Int) by omega] at e7
   subst e7
   refine zae ⟨by omega,by omega,_,by rw[Int.toNat_natCast,Nat.mul_one,Nat.zero_add,zbm hg (by rw[zdw,zbx]; omega),zjZ hl],zae ⟨by omega,by omega,?_⟩⟩
   refine behind _ ((zny M).set (i / 64) (cnt M (i / 64) - 1)) (cnt M (i / 64) - 1) (fun _ h'=>ze3 h' b (M.set i v)∧za9 b h h') (by rw[List.length_set,zbx]) (by rw[List.getElem?_set,if_pos rfl,if_pos (by rw[zbx]; omega)]) (by omega) (zaj _ _ _) (by rw[AH.get_set,if_pos rfl]) ?_
   intro g n hg2
   refine fin g _ n hg2 ?_
   rw[zpK hl hi,if_pos hM1]
   by_cases hv:v=1
   ·rw[if_pos hv,if_pos hv,List.set_set]
   ·rw[if_neg hv,if_neg hv,Nat.add_zero]
 ·have hM1:M[i]?≠some 1:=by rw[hM]; intro q; exact q1 (by simp only[Option.some.injEq] at q; omega)
  have hle:=ztg M (i / 64)
  refine behind h (zny M) (cnt M (i / 64)) (fun _ h'=>ze3 h' b (M.set i v)∧za9 b h h') (zbx M) (zcw hk16) (by omega) (za9.refl _ _) hg ?_
  intro g n hg2
  refine fin g _ n hg2 ?_
  rw[zpK hl hi,if_neg hM1]
  by_cases hv:v=1
  ·rw[if_pos hv,if_pos hv,Nat.sub_zero]
  ·rw[if_neg hv,if_neg hv,Nat.sub_zero,Nat.add_zero]
   apply List.ext_getElem?
   intro j
   rw[List.getElem?_set]
   split
   ·rename_i q; rw[if_pos (by rw[zbx]; omega),←q,zcw hk16]
   ·rfl
theorem ztx (hk:K 61=none) (h1:K 56=none) (h2:K 52=none) (m:ze3 h b M) (i:Int) (f t:Nat):
 Wf Tryz.prog K 61 [.pointer (some ⟨b,0,none⟩),.int .i64 i,.int .u8 f,.int .u8 t] h fun r h'=>
  (0≤i∧i < 1024∧M[i.toNat]?= some f∧r=.int .i64 0∧ze3 h' b (M.set i.toNat t)∧za9 b h h')∨(¬(0≤i∧i < 1024∧M[i.toNat]?= some f)∧r=.int .i64 72∧h=h'):=by
 refine zfD hk _ _ _ _ h _ ((zyw h1 m i f).mono ?_)
 rintro _ g ⟨rfl,rfl⟩
 by_cases q:0≤i∧i < 1024∧M[i.toNat]?= some f
 ·refine .inl ⟨by rw[decide_eq_true q],?_⟩
  obtain⟨N,rfl⟩:∃N:Nat,i=N:=⟨i.toNat,by omega⟩
  refine (zpV h2 m N (by omega) t).mono ?_
  rintro _ g ⟨hm,hn⟩
  exact .inl ⟨q.1,q.2.1,q.2.2,rfl,by rw[Int.toNat_natCast]; exact hm,hn⟩
 ·exact .inr ⟨by rw[decide_eq_false q],.inr ⟨q,rfl,rfl⟩⟩
theorem zty (hk:K 81=none) (h1:K 56=none) (h2:K 52=none) (m:ze3 h b M):
 Wf Tryz.prog K 81 [.pointer (some ⟨b,0,none⟩)] h fun _ h'=>ze3 h' b (M.map zkU)∧za9 b h h':=by
 refine zfE hk _ h _ ⟨fun i k g=>∃j:Nat,i=j∧j≤1024∧1024 - j=k∧ze3 g b (zpM M j)∧za9 b h g,⟨1024,0,rfl,by omega,rfl,by simpa[zpM] using m,za9.refl _ _⟩,?_⟩
 rintro k g i ⟨j,rfl,hj,rfl,hm,hn⟩
 have hl:=m.1
 refine⟨fun q=>?_,fun q=>?_⟩
 ·refine (zyw h1 hm j 3).mono ?_
  rintro _ g' ⟨rfl,rfl⟩
  have hjM:j < M.length:=by omega
  have hg:(zpM M j)[(j:Int).toNat]?= some M[j]:=by rw[Int.toNat_natCast,zpO hjM,List.getElem?_eq_getElem hjM]
  by_cases q3:M[j]=3
  ·refine .inl ⟨by rw[decide_eq_true]; exact⟨by omega,by omega,by rw[hg,q3]⟩,(zpV h2 hm j (by omega) 1).mono ?_⟩
   rintro _ g2 ⟨hm2,hn2⟩ i2 e2
   have e2:=zaJ e2 (by omega) (by omega)
   exact⟨1024 - (j+1),by omega,j+1,by omega,by omega,rfl,by rw[zmI hjM,q3]; exact hm2,hn.trans hn2⟩
  ·refine .inr ⟨by rw[decide_eq_false]; rintro⟨_,_,q4⟩; rw[hg] at q4; exact q3 (by simpa using q4),?_⟩
   intro i2 e2
   have e2:=zaJ e2 (by omega) (by omega)
   refine⟨1024 - (j+1),by omega,j+1,by omega,by omega,rfl,?_,hn⟩
   have:zpM M (j+1)=zpM M j:=by
    rw[zmI hjM]
    apply List.ext_getElem?
    intro x
    rw[List.getElem?_set]
    split
    ·rename_i q5
     subst q5
     rw[if_pos (by rw[zpN]; omega),zpO hjM,List.getElem?_eq_getElem hjM]
     simp[zkU,q3]
    ·rfl
   rw[this]
   exact hm
 ·have:j=1024:=by omega
  subst this
  rw[zvW (by omega)] at hm
  exact⟨hm,hn⟩
theorem zpW (hk:K 22=none) (m:ze3 h b M):
 Wf Tryz.prog K 22 [.pointer (some ⟨b,0,none⟩)] h fun v h'=>v=.int .i64 (M.count 1:Nat)∧h=h':=by
 obtain⟨hl,hb,hg⟩:=m
 refine zgg hk _ h _ (zae ⟨zav .i64 (zny M),?_,fun s i k g=>∃j:Nat,i=j∧j≤16∧16 - j=k∧s=((M.take (64 * j)).count 1:Nat)∧h=g,⟨16,0,rfl,by omega,rfl,by simp,rfl⟩,?_⟩)
 ·rw[zcl hg (by rw[zdw,zbx]; omega)]
  unfold zfP
  rw[List.drop_append_of_le_length (by rw[zam]; omega),List.drop_eq_nil_of_le (by rw[zam]; omega),List.nil_append,List.take_of_length_le (by rw[zam,zbx]; omega)]
 ·rintro k g s i ⟨j,rfl,hj,rfl,rfl,rfl⟩
  refine⟨fun q=>⟨by omega,by omega,(cnt M j:Nat),?_,fun i2 e2 i3 e3=>?_⟩,fun q=>⟨?_,rfl⟩⟩
  ·rw[Int.toNat_natCast,Nat.mul_one,zdU,zcw (by omega)]; rfl
  ·have e3:=zaJ e3 (by omega) (by omega)
   have c1:=ztg M j
   have c2:(M.take (64 * j)).count 1≤1024:=Nat.le_trans List.count_le_length (by simp; omega)
   have e2:=zaJ e2 (by omega) (by omega)
   exact⟨16 - (j+1),by omega,j+1,by omega,by omega,rfl,by rw[zvU]; omega,rfl⟩
  ·have:j=16:=by omega
   subst this
   rw[List.take_of_length_le (by omega)]
theorem zpX (hk:K 39=none) (h1:K 56=none) (h2:K 52=none) (m:ze3 h b M):
 Wf Tryz.prog K 39 [.pointer (some ⟨b,0,none⟩)] h fun v h'=>
  (∃i:Nat,i < 1024∧M[i]?= some 1∧v=.tuple #[.int .i64 i,.int .i64 0]∧ze3 h' b (M.set i 2)∧za9 b h h')∨(1∉M∧v=.tuple #[.int .i64 0,.int .i64 71]∧h=h'):=by
 have m0:=m
 obtain⟨hl,hb,hg⟩:=m
 refine zgf hk _ h _ (zae ⟨zav .i64 (zny M),?_,fun s i k g=>∃j best:Nat,i=j∧j≤16∧16 - j=k∧s=best∧best < 16∧(∀x,x < j→cnt M x≤cnt M best)∧h=g,⟨16,0,0,rfl,by omega,rfl,rfl,by omega,fun x hx=>by omega,rfl⟩,?_⟩)
 ·rw[zcl hg (by rw[zdw,zbx]; omega)]
  unfold zfP
  rw[List.drop_append_of_le_length (by rw[zam]; omega),List.drop_eq_nil_of_le (by rw[zam]; omega),List.nil_append,List.take_of_length_le (by rw[zam,zbx]; omega)]
 ·rintro k g s i ⟨j,best,rfl,hj,rfl,rfl,hbest,hmax,rfl⟩
  refine⟨fun q=>⟨by omega,by omega,(cnt M j:Nat),?_,zae ⟨by omega,by omega,(cnt M best:Nat),?_,fun q2 i2 e2=>?_,fun q2 i2 e2=>?_⟩⟩,fun q i2 e2=>?_⟩
  ·rw[Int.toNat_natCast,Nat.mul_one,zdU,zcw (by omega)]; rfl
  ·rw[Int.toNat_natCast,Nat.mul_one,Nat.zero_add]
   exact zah hg (by rw[zoB hl,zcw hbest]; rfl)
  ·have e2:=zaJ e2 (by omega) (by omega)
   refine⟨16 - (j+1),by omega,j+1,j,by omega,by omega,rfl,rfl,by omega,fun x hx=>?_,rfl⟩
   by_cases hxj:x=j
   ·rw[hxj]; exact Nat.le_refl _
   ·have:=hmax x (by omega); omega
  ·have e2:=zaJ e2 (by omega) (by omega)
   refine⟨16 - (j+1),by omega,j+1,best,by omega,by omega,rfl,rfl,hbest,fun x hx=>?_,rfl⟩
   by_cases hxj:x=j
   ·rw[hxj]; omega
   ·exact hmax x (by omega)
  ·have hj16:j=16:=by omega
   subst hj16
   have e2:=zaJ e2 (by omega) (by omega)
   subst e2
   refine⟨fun i k g=>∃x:Nat,i=x∧64 * best≤x∧x≤64 * best+64∧64 * best+64 - x=k∧(∀y,64 * best≤y→y < x→M[y]?≠some 1)∧h=g,⟨64,64 * best,by omega,Nat.le_refl _,by omega,by omega,fun y a c=>by omega,rfl⟩,?_⟩
   rintro k g i ⟨x,rfl,hx1,hx2,rfl,hno,rfl⟩ i3 e3 i4 e4
   have e3:=zaJ e3 (by omega) (by omega)
   subst e3
   have e4:=zaJ e4 (by omega) (by omega)
   subst e4
   refine⟨fun q3=>(zyw h1 m0 x 1).mono ?_,fun q3=>.inr ⟨?_,rfl,rfl⟩⟩
   ·rintro _ g' ⟨rfl,rfl⟩
    by_cases q4:M[x]?= some 1
    ·refine .inl ⟨by rw[decide_eq_true]; exact⟨by omega,by omega,by rw[Int.toNat_natCast]; exact q4⟩,(zpV h2 m0 x (by omega) 2).mono ?_⟩
     rintro _ g2 ⟨hm2,hn2⟩
     exact .inl ⟨x,by omega,q4,rfl,hm2,hn2⟩
    ·refine .inr ⟨by rw[decide_eq_false]; rintro⟨_,_,q5⟩; rw[Int.toNat_natCast] at q5; exact q4 q5,fun i5 e5=>?_⟩
     have e5:=zaJ e5 (by omega) (by omega)
     refine⟨64 * best+64 - (x+1),by omega,x+1,by omega,by omega,by omega,rfl,fun y a c=>?_,rfl⟩
     by_cases hy:y=x
     ·rw[hy]; exact q4
     ·exact hno y a (by omega)
   ·have hz:cnt M best=0:=zpL fun y a c=>hno y a (by omega)
    exact zti hl fun k hk=>by have:=hmax k hk; omega
theorem zEj:za1 Tryz.prog 99 #[]=some (.agg (List.replicate 1024 (Value.int .u8 0) ++ List.replicate 16 (Value.int .i64 0)).toArray):=by kernel_rfl
theorem zxa (hk:K 31=none) (h2:K 52=none) (t:Nat) (ht:t≤1024) (h:AH):
 Wf Tryz.prog K 31 [.int .i64 t] h fun v h'=>v=.pointer (some ⟨h.next,0,none⟩)∧ze3 h' h.next (zdC t)∧h'.next=h.next+1∧(∀c,c < h.next→h'.get c=h.get c):=by
 refine zoJ hk _ h _ ⟨_,zEj,fun h1 e1=>⟨fun i k g=>∃j:Nat,i=j∧4≤j∧(j≤t∨j=4)∧1024 - j=k∧ze3 g h.next (zdC j)∧za9 h.next h1 g,⟨1020,4,rfl,by omega,.inr rfl,rfl,?_,za9.refl _ _⟩,?_⟩⟩
 ·subst e1
  refine⟨zcV _,Nat.lt_succ_self _,?_⟩
  rw[zau,ztj,ztl,ztk]
 ·rintro k g i ⟨j,rfl,h4,hj,rfl,hm,hn⟩ i2 e2
  have hi2:i2=t:=by rw[e2]; split <;> omega
  subst hi2
  refine⟨fun q=>(zpV h2 hm j (by omega) 1).mono ?_,fun q=>⟨rfl,?_,by rw[hn.1,e1]; rfl,fun c hc=>by rw[hn.2 c (by omega),e1,zb4 (by omega)]⟩⟩
  ·rintro _ g2 ⟨hm2,hn2⟩ i3 e3
   have e3:=zaJ e3 (by omega) (by omega)
   exact⟨1024 - (j+1),by omega,j+1,by omega,by omega,.inl (by omega),rfl,by rw[←zvV h4 (by omega)]; exact hm2,hn.trans hn2⟩
  ·rcases hj with hj | hj
   ·have:j=t:=by omega
    rw[←this]; exact hm
   ·have:zdC t=zdC j:=by
     unfold zdC
     apply List.map_congr_left
     intro x _
     rw[if_neg (by omega),if_neg (by omega)]
    rw[this]; exact hm
end
abbrev zCx:TypeId:=73
abbrev zrI:TypeId:=112
abbrev tWr:TypeId:=142
def Sec (s:List Nat):Prop:=s.length=128∧∀x∈s,x < 256
def za8 (s:List Nat):List Value:=zav .u8 s
theorem zaw {s:List Nat} (hs:Sec s):(za8 s).length=128:=by rw[za8,zam]; exact hs.1
def zd6 (nw:List (List Nat)):List Value:=(nw.map za8).flatten
theorem ziC {nw:List (List Nat)} (h:∀s∈nw,Sec s):(zd6 nw).length=nw.length * 128:=by
 induction nw with
 | nil=>rfl
 | cons s nw ih=>
   simp only[zd6,List.map_cons,List.flatten_cons,List.length_append,List.length_cons]
   have:=ih fun s hs=>h s (List.mem_cons_of_mem _ hs)
   rw[zd6] at this
   rw[this,zaw (h s (List.mem_cons_self ..))]
   omega
theorem zm7:∀{nw:List (List Nat)} (h:∀s∈nw,Sec s) {i:Nat} (hi:i < nw.length),((zd6 nw).drop (i * 128)).take 128=za8 nw[i]
 | [],h,i,hi=>absurd hi (Nat.not_lt_zero _)
 | s :: nw,h,i,hi=>by
   have hs:=zaw (h s (List.mem_cons_self ..))
   have e:zd6 (s :: nw)=za8 s ++ zd6 nw:=rfl
   rw[e]
   cases i with
   | zero=>rw[Nat.zero_mul,List.drop_zero,←hs,List.take_left]; rfl
   | succ i=>
     rw[List.drop_append,List.drop_eq_nil_of_le (by omega),List.nil_append,hs,show (i+1) * 128 - 128=i * 128 by omega]
     exact zm7 (fun s hs=>h s (List.mem_cons_of_mem _ hs)) (by simpa using hi)
theorem zm8:∀{nw:List (List Nat)} (h:∀s∈nw,Sec s) {i:Nat} (hi:i < nw.length) {s:List Nat} (hs:Sec s),(zd6 nw).take (i * 128) ++ za8 s ++ (zd6 nw).drop (i * 128+128)=zd6 (nw.set i s)
 | [],h,i,hi,_,_=>absurd hi (Nat.not_lt_zero _)
 | t :: nw,h,i,hi,s,hs=>by
   have ht:=zaw (h t (List.mem_cons_self ..))
   have e:zd6 (t :: nw)=za8 t ++ zd6 nw:=rfl
   rw[e]
   cases i with
   | zero=>
     rw[Nat.zero_mul,List.take_zero,List.nil_append,Nat.zero_add,List.drop_append,List.drop_eq_nil_of_le (by omega),List.nil_append,ht]
     rfl
   | succ i=>
     have ih:=zm8 (fun s hs=>h s (List.mem_cons_of_mem _ hs)) (i:=i) (by simpa using hi) hs
     rw[List.take_append,List.take_of_length_le (by omega),ht,show (i+1) * 128 - 128=i * 128 by omega,List.drop_append,List.drop_eq_nil_of_le (by omega),List.nil_append,ht,show (i+1) * 128+128 - 128=i * 128+128 by omega]
     have e2:zd6 ((t :: nw).set (i+1) s)=za8 t ++ zd6 (nw.set i s):=rfl
     rw[e2,←ih]
     simp
def zpY (lim:Nat) (pcs:List Value) (n:Nat):Prop:=pcs.length=n * 129∧∀i,i < n→∃x:Nat,x < lim∧pcs[i * 129]?= some (.int .i64 (x:Int))
structure zcN (h:AH) (d:Nat) (F:List Nat) (W:Nat) (nw:List (List Nat)):Prop where
 intro ::
 ex:∃(bs bn:Nat) (pp:Option Addr) (pn pc:Nat) (ops:Int) (pcs st:List Value),
  h.get d=some (.cells [.slice (some ⟨bs,0,none⟩) nw.length nw.length,.slice (some ⟨bn,0,none⟩) nw.length nw.length,.slice pp pn pc,.int .i64 ops,.int .i64 (-1),.bool false] zCx false)∧
  h.get bs=some (.cells st zrI false)∧st.length=nw.length * 128∧h.get bn=some (.cells (zd6 nw) zrI false)∧zbe 0 h tWr 129 pp pn pc pcs∧zpY nw.length pcs pn∧pn≤W∧
  0≤ops∧ops≤4611686018427387903∧F=[d,bs,bn] ++ bl pp∧F.Nodup∧∀c∈F,c < h.next
 secs:∀s∈nw,Sec s
 len:nw.length≤1024
theorem zcN.keep {h h' : AH} {d:Nat} {F:List Nat} {W:Nat} {nw:List (List Nat)} (D:zcN h d F W nw) (hn:h.next≤h'.next) (hg:∀c∈F,h'.get c=h.get c):zcN h' d F W nw:=by
 obtain⟨⟨bs,bn,pp,pn,pc,ops,pcs,st,g1,g2,g3,g4,g5,g6,g6b,g7,g8,g9,g10,g11⟩,s1,s2⟩:=D
 refine⟨⟨bs,bn,pp,pn,pc,ops,pcs,st,?_,?_,g3,?_,?_,g6,g6b,g7,g8,g9,g10,fun c hc=>Nat.lt_of_lt_of_le (g11 c hc) hn⟩,s1,s2⟩
 ·rw[hg d (by rw[g9]; simp),g1]
 ·rw[hg bs (by rw[g9]; simp),g2]
 ·rw[hg bn (by rw[g9]; simp),g4]
 ·refine⟨g5.1,?_⟩
  rcases g5.2 with q | ⟨b,hp,hl,hb,hgb,hc⟩
  ·exact .inl q
  ·refine .inr ⟨b,hp,hl,Nat.lt_of_lt_of_le hb hn,?_,hc⟩
   rw[hg b (by rw[g9,hp]; simp[bl]),hgb]
section
variable {K:Xs} {h:AH} {d:Nat} {F:List Nat} {W:Nat} {nw:List (List Nat)}
theorem zxb (hk:K 84=none) (D:zcN h d F W nw) (i:Int):
 Wf Tryz.prog K 84 [.pointer (some ⟨d,0,none⟩),.int .i64 i] h fun v h'=>v=.bool (decide (0≤i∧i < nw.length))∧h=h':=by
 obtain⟨⟨bs,bn,pp,pn,pc,ops,pcs,st,g1,g2⟩, -, -⟩:=D
 refine ziv hk _ _ h _ ⟨fun q=>zae ⟨_,_,_,zah g1 rfl,fun q2=>⟨by rw[decide_eq_true ⟨q,q2⟩],rfl⟩,fun q2=>⟨by rw[decide_eq_false (fun z=>q2 z.2)],rfl⟩⟩,fun q=>⟨by rw[decide_eq_false (fun z=>q z.1)],rfl⟩⟩
theorem zle (hk:K 83=none) (D:zcN h d F W nw):
 Wf Tryz.prog K 83 [.pointer (some ⟨d,0,none⟩)] h fun v h'=>zcN h' d F W nw∧za9 d h h':=by
 have D0:=D
 obtain⟨⟨bs,bn,pp,pn,pc,ops,pcs,st,g1,g2,g3,g4,g5,g6,g6b,g7,g8,g9,g10,g11⟩,s1,s2⟩:=D
 refine zgi hk _ h _ (zae ⟨ops,zah g1 rfl,fun q=>zae ⟨ops,zah g1 rfl,fun i e=>zae ⟨_,zbm g1 (by simp),?_⟩⟩,fun q=>⟨D0,za9.refl _ _⟩⟩)
 have e:=zaJ e (by omega) (by omega)
 subst e
 have hn:=zaj d h (.cells [.slice (some ⟨bs,0,none⟩) nw.length nw.length,.slice (some ⟨bn,0,none⟩) nw.length nw.length,.slice pp pn pc,.int .i64 (ops+1),.int .i64 (-1),.bool false] zCx false)
 have nd:=g10
 rw[g9] at nd
 refine⟨⟨⟨bs,bn,pp,pn,pc,ops+1,pcs,st,zag _ _ _,?_,g3,?_,?_,g6,g6b,by omega,by omega,g9,g10,g11⟩,s1,s2⟩,hn⟩
 ·rw[zaN (by simp at nd; omega),g2]
 ·rw[zaN (by simp at nd; omega),g4]
 ·refine⟨g5.1,?_⟩
  rcases g5.2 with q | ⟨b,hp,hl,hb,hgb,hc⟩
  ·exact .inl q
  ·subst hp
   exact .inr ⟨b,rfl,hl,hb,by rw[zaN (by simp[bl] at nd; omega)]; exact hgb,hc⟩
theorem zpZ (hk:K 85=none) (D:zcN h d F W nw):
 Wf Tryz.prog K 85 [.pointer (some ⟨d,0,none⟩)] h fun v h'=>v=.bool true∧h=h':=by
 obtain⟨⟨bs,bn,pp,pn,pc,ops,pcs,st,g1,g2⟩, -, -⟩:=D
 exact zgj hk _ h _ (zae ⟨-1,zah g1 rfl,fun q=>absurd q (by decide),fun q=>zae (.inr ⟨zah g1 rfl,zae ⟨-1,zah g1 rfl,fun q=>absurd q (by decide),fun q=>⟨rfl,rfl⟩⟩⟩)⟩)
theorem zWr:zan Tryz.prog 142=some ((.int .i64 0) :: List.replicate 128 (.int .u8 0)):=by kernel_rfl
theorem bWr (x:Int) {l:List Value} (hl:l.length=128):za1 Tryz.prog 142 #[(0,.int .i64 x),(1,.agg l.toArray)]=some (.agg (.int .i64 x :: l).toArray):=by
 refine zmJ zWr (pl:=[(0,1),(1,128)]) (by kernel_rfl) (by simp[zeM]) ?_
 simp[zoD,Value.cells,hl]
theorem zpY.push {lim:Nat} {pcs:List Value} {n:Nat} (p:zpY lim pcs n) {x:Nat} (hx:x < lim) {l:List Value} (hl:l.length=128):zpY lim (pcs ++ (.int .i64 (x:Int) :: l)) (n+1):=by
 refine⟨by rw[List.length_append,p.1,List.length_cons,hl]; omega,fun i hi=>?_⟩
 by_cases q:i < n
 ·rw[List.getElem?_append_left (by rw[p.1]; omega)]
  exact p.2 i q
 ·have:i=n:=by omega
  subst this
  refine⟨x,hx,?_⟩
  rw[List.getElem?_append_right (by rw[p.1]; exact Nat.le_refl _),p.1,Nat.sub_self]
  rfl
theorem zp0 (hk:K 59=none) (h1:K 83=none) (h2:K 84=none) (h3:K 85=none) (D:zcN h d F W nw) (hW:W < 100000) (i:Int) {s:List Nat} (hs:Sec s):
 Wf Tryz.prog K 59 [.pointer (some ⟨d,0,none⟩),.int .i64 i,.agg (za8 s).toArray] h fun v h'=>
  (0≤i∧i < nw.length∧v=.int .i64 0∧∃F',zcN h' d F' (W+1) (nw.set i.toNat s)∧Fr F h h' F')∨(¬(0≤i∧i < nw.length)∧v=.int .i64 41∧zcN h' d F W nw∧Fr F h h' F):=by
 refine zgh hk _ _ _ h _ fun h0 e0=>?_
 have o0:Old h h0:=by rw[e0]; exact zaV _ _
 have hg0:h0.get h.next=some (.cells (za8 s) zrI false):=by rw[e0]; exact zau _ _
 have hdF:∀{g:AH},zcN g d F W nw→d∈F:=fun D=>by obtain⟨⟨_,_,_,_,_,_,_,_,_,_,_,_,_,_,_,_,_,g9,_,_⟩,_,_⟩:=D; rw[g9]; simp
 have hF:∀c∈F,c < h.next:=by obtain⟨⟨_,_,_,_,_,_,_,_,_,_,_,_,_,_,_,_,_,_,_,g11⟩,_,_⟩:=D; exact g11
 have D0:zcN h0 d F W nw:=D.keep o0.1 fun c hc=>o0.2 c (hF c hc)
 refine (zle h1 D0).mono ?_
 rintro _ g2 ⟨D2,n2⟩
 have f2:Fr F h g2 F:=(o0.fr F).trans (n2.fr (hdF D0))
 have hne:h.next≠d:=fun q=>absurd (hF d (hdF D)) (by omega)
 have hg2:g2.get h.next=some (.cells (za8 s) zrI false):=by rw[n2.2 _ hne,hg0]
 refine (zxb h2 D2 i).mono ?_
 rintro _ g ⟨rfl,rfl⟩
 by_cases q:0≤i∧i < nw.length
 rotate_left
 ·exact .inr ⟨by rw[decide_eq_false q],.inr ⟨q,rfl,D2,f2⟩⟩
 refine .inl ⟨by rw[decide_eq_true q],(zpZ h3 D2).mono ?_⟩
 rintro _ g ⟨rfl,rfl⟩
 refine .inl ⟨rfl,?_⟩
 obtain⟨⟨bs,bn,pp,pn,pc,ops,pcs,st,g1,g2',g3,g4,g5,g6,g6b,g7,g8,g9,g10,g11⟩,s1,s2⟩:=D2
 have nd:=g10
 rw[g9] at nd
 have hn2:h.next < g2.next:=by rw[n2.1,e0]; exact Nat.lt_succ_self _
 have hsl:=zaw hs
 have hbs:bs < h.next:=hF bs (by rw[g9]; simp)
 have hbn:bn < h.next:=hF bn (by rw[g9]; simp)
 have hd:d < h.next:=hF d (by rw[g9]; simp)
 refine zae ⟨pp,pn,pc,zah g1 rfl,za8 s,zao hg2 hsl,_,bWr _ hsl,_,_,_,_,zji (elem:=tWr) (by':=136) (sz:=129) (zaG (by kernel_rfl)) zWr rfl (by decide) (by rw[List.length_cons,hsl]),?_⟩
 obtain⟨p',c',h5,ha,hgr,hob,hap,hfr⟩:=g5.push (zaG (P:=Tryz.prog) (st:=71) (by':=136) (by kernel_rfl)) (Nat.zero_le _) (ns:=.int .i64 i :: za8 s) (m:=1) (h4:=g2.alloc (.cells (.int .i64 i :: za8 s) tWr false)) rfl (by rw[List.length_cons,hsl]) (by unfold zaE; omega) (by omega)
 obtain⟨b',rfl,hb'⟩:=hfr (by decide)
 have hap' : ∀b,b < g2.next→b∉bl pp→h5.get b=g2.get b:=fun b hb hn=>hap b hb (by
  cases pp with
  | none=>trivial
  | some a=>exact fun q=>hn (by simp[bl,q]))
 have k1:h5.get d=_:=(hap' d (by omega) (by simp at nd; cases pp <;> simp[bl] at nd ⊢; omega)).trans g1
 have k2:h5.get bs=_:=(hap' bs (by omega) (by simp at nd; cases pp <;> simp[bl] at nd ⊢; omega)).trans g2'
 have k3:h5.get bn=_:=(hap' bn (by omega) (by simp at nd; cases pp <;> simp[bl] at nd ⊢; omega)).trans g4
 have k4:h5.get h.next=_:=(hap' h.next hn2 (by
  cases pp with
  | none=>simp[bl]
  | some a=>
    have:=hF a.block (by rw[g9]; simp[bl])
    simp[bl]; omega)).trans hg2
 refine⟨_,pn+1,c',h5,ha,zae ⟨_,zbm k1 (by simp),zae ⟨some ⟨bn,0,none⟩,nw.length,nw.length,zah (zag _ _ _) rfl,za8 s,zao (by rw[zaN hne]; exact k4) hsl,zae ⟨q.1,q.2,hsl,?_⟩⟩⟩⟩
 obtain⟨N,rfl⟩:∃N:Nat,i=N:=⟨i.toNat,by omega⟩
 have hN:N < nw.length:=by omega
 have hbd:bn≠d:=by simp at nd; omega
 have hbl:bl (some ⟨b',0,none⟩)=[b']:=rfl
 obtain⟨bq,hpq, -,hbq,hgq,hcq⟩:=hgr.2.resolve_left (fun z=>by omega)
 simp only[Option.some.injEq,Addr.mk.injEq] at hpq
 obtain⟨rfl, -, -⟩:=hpq
 refine⟨_,zjX (by rw[zaN hbd]; exact k3) (by rw[hsl,ziC s1]; simp; omega),.inl ⟨q.1,q.2,rfl,[d,bs,bn] ++ [b'],?_,?_⟩⟩
 ·simp only[hsl,Int.toNat_natCast,Nat.zero_add]
  rw[zm8 s1 hN hs]
  refine⟨⟨bs,bn,some ⟨b',0,none⟩,pn+1,c',ops,pcs ++ (.int .i64 N :: za8 s),st,?_,?_,by rw[List.length_set]; exact g3,zag _ _ _,⟨hgr.1,.inr ⟨b',rfl,Nat.zero_le _,hbq,?_,hcq⟩⟩,(by rw[List.length_set]; exact g6.push hN hsl),by omega,g7,g8,rfl,?_,?_⟩,?_,by rw[List.length_set]; exact s2⟩
  ·rw[List.length_set,zaN (by omega),zag]; rfl
  ·rw[zaN (by simp at nd; omega),zaN (by simp at nd; omega)]; exact k2
  ·rw[zaN (by omega),zaN (by omega)]; exact hgq
  ·simp at nd
   simp
   omega
  ·intro c hc
   simp only[AH.next_set]
   have:=hob.1
   simp at hc
   omega
  ·intro s' hs'
   rcases List.mem_or_eq_of_mem_set hs' with z | z
   ·exact s1 s' z
   ·rw[z]; exact hs
 ·have fpush:Fr F g2 h5 ([d,bs,bn] ++ [b']):=by
   refine⟨hob.1,fun c hc hn=>hap' c hc (fun z=>hn (by rw[g9,List.mem_append]; exact .inr z)),fun c hc=>?_⟩
   rw[List.mem_append] at hc
   rcases hc with hc | hc
   ·exact .inl (by rw[g9,List.mem_append]; exact .inl hc)
   ·simp at hc
    exact .inr (by omega)
  refine f2.trans (fpush.trans ⟨by simp,fun c hc hn=>?_,fun c hc=>.inl hc⟩)
  have e1:c≠bn:=fun z=>hn (by rw[z]; simp)
  have e2:c≠d:=fun z=>hn (by rw[z]; simp)
  rw[zaN e1,zaN e2]
theorem zAm:za1 Tryz.prog 112 #[]=some (.agg (List.replicate 128 (Value.int .u8 0)).toArray):=by kernel_rfl
theorem zdj:List.replicate 128 (Value.int .u8 0)=za8 (List.replicate 128 0):=by
 unfold za8 zav
 rw[List.map_replicate]
 rfl
theorem zck:Sec (List.replicate 128 0):=⟨by simp,fun x hx=>by rw[List.mem_replicate] at hx; omega⟩
theorem zcN.mem {g:AH} (D:zcN g d F W nw):d∈F:=by obtain⟨⟨_,_,_,_,_,_,_,_,_,_,_,_,_,_,_,_,_,g9,_,_⟩,_,_⟩:=D; rw[g9]; simp
theorem zcN.lt {g:AH} (D:zcN g d F W nw):∀c∈F,c < g.next:=by obtain⟨⟨_,_,_,_,_,_,_,_,_,_,_,_,_,_,_,_,_,_,_,g11⟩,_,_⟩:=D; exact g11
theorem zcN.old {g g' : AH} (D:zcN g d F W nw) (o:Old g g'):zcN g' d F W nw:=D.keep o.1 fun c hc=>o.2 c (D.lt c hc)
theorem zcN.nearN {g g' : AH} {b:Nat} (D:zcN g d F W nw) (n:za9 b g g') (hb:b∉F):zcN g' d F W nw:=D.keep (by rw[n.1]; exact Nat.le_refl _) fun c hc=>n.2 c (fun q=>hb (q▸hc))
theorem ztz (hk:K 87=none) (h1:K 83=none) (h2:K 84=none) (D:zcN h d F W nw) (i:Int):
 Wf Tryz.prog K 87 [.pointer (some ⟨d,0,none⟩),.int .i64 i] h fun v h'=>zcN h' d F W nw∧Fr F h h' F∧
  ((∃s,0≤i∧nw[i.toNat]?= some s∧v=.tuple #[.agg (za8 s).toArray,.int .i64 0])∨(¬(0≤i∧i < nw.length)∧v=.tuple #[.agg (za8 (List.replicate 128 0)).toArray,.int .i64 41])):=by
 refine zg7 hk _ _ h _ fun h0 e0=>?_
 have o0:Old h h0:=by rw[e0]; exact zaV _ _
 have D0:=D.old o0
 have hnF:h.next∉F:=fun q=>absurd (D.lt _ q) (Nat.lt_irrefl _)
 have hg0:h0.get h.next=some (.cells (List.replicate 128 (.int .u8 0)) zrI false):=by rw[e0]; exact zau _ _
 refine (zle h1 D0).mono ?_
 rintro _ g2 ⟨D2,n2⟩
 have f2:Fr F h g2 F:=(o0.fr F).trans (n2.fr D0.mem)
 have hne:h.next≠d:=fun q=>hnF (q▸D0.mem)
 have hg2:g2.get h.next=some (.cells (List.replicate 128 (.int .u8 0)) zrI false):=by rw[n2.2 _ hne,hg0]
 have fin:∀{vs:List Value},vs.length=128→∃g3,stN g2 h.next 0 vs=some g3∧ldN g3 h.next 0 128=some vs∧zcN g3 d F W nw∧Fr F h g3 F:=by
  intro vs hvs
  refine⟨_,zaB hg2 (by rw[hvs]; simp),zao (zag _ _ _) hvs,D2.nearN (zaj _ _ _) hnF,?_⟩
  exact⟨f2.1,fun c hc hn=>by rw[zaN (by omega)]; exact f2.2.1 c hc hn,fun c hc=>.inl hc⟩
 refine (zxb h2 D2 i).mono ?_
 rintro _ g ⟨rfl,rfl⟩
 by_cases q:0≤i∧i < nw.length
 ·refine .inl ⟨by rw[decide_eq_true q],?_⟩
  have D2':=D2
  obtain⟨⟨bs,bn,pp,pn,pc,ops,pcs,st,g1,g2',g3,g4,g5,g6,g6b,g7,g8,g9,g10,g11⟩,s1,s2⟩:=D2
  obtain⟨N,rfl⟩:∃N:Nat,i=N:=⟨i.toNat,by omega⟩
  have hN:N < nw.length:=by omega
  refine zae (.inr ⟨zah g1 rfl,zae ⟨some ⟨bn,0,none⟩,_,_,zah g1 rfl,zae ⟨q.1,q.2,za8 nw[N],?_,?_⟩⟩⟩)
  ·rw[Int.toNat_natCast,Nat.zero_add,zcl g4 (by rw[ziC s1]; omega),zm7 s1 hN]
  ·have hl:=zaw (s1 _ (List.getElem_mem hN))
   obtain⟨g3,e1,e2,D3,f3⟩:=fin hl
   exact⟨hl,g3,e1,za8 nw[N],e2,D3,f3,.inl ⟨nw[N],q.1,by rw[Int.toNat_natCast,List.getElem?_eq_getElem hN],rfl⟩⟩
 ·refine .inr ⟨by rw[decide_eq_false q],_,zAm,by simp,?_⟩
  obtain⟨g3,e1,e2,D3,f3⟩:=fin (vs:=List.replicate 128 (.int .u8 0)) (by simp)
  exact⟨g3,e1,_,e2,D3,f3,.inr ⟨q,by rw[zdj]⟩⟩
theorem zAn (hk:K 6=none) (n:Nat) (hn:n≤1024) (h:AH):
 Wf Tryz.prog K 6 [.int .i64 n] h fun v h'=>∃d F,v=.pointer (some ⟨d,0,none⟩)∧zcN h' d F 0 (List.replicate n (List.replicate 128 0))∧Old h h'∧∀c∈F,h.next≤c:=by
 refine zoI hk _ h _ fun i0 e0 i1 e1=>?_
 have h0:i0=n:=by rw[e0]; split <;> omega
 have h1:i1=n:=by rw[e1]; split <;> omega
 subst h1
 refine⟨⟨by omega,by omega,by omega,by omega⟩,fun h2 e2=>⟨⟨by omega,by omega,by omega,by omega⟩,fun h3 e3 h4 e4=>?_⟩⟩
 have hz:(List.replicate n (List.replicate 128 (Value.int .u8 0))).flatten=zd6 (List.replicate n (List.replicate 128 0)):=by
  rw[zdj]
  unfold zd6
  rw[List.map_replicate]
 rw[Int.toNat_natCast] at e2 e3 e4
 rw[hz] at e2 e3
 have hsec:∀s∈List.replicate n (List.replicate 128 0),Sec s:=fun s hs=>by rw[List.mem_replicate] at hs; rw[hs.2]; exact zck
 have o2:Old h h2:=by rw[e2]; exact zaV _ _
 have o3:Old h2 h3:=by rw[e3]; exact zaV _ _
 have o4:Old h3 h4:=by rw[e4]; exact zaV _ _
 have n2:h2.next=h.next+1:=by rw[e2]; rfl
 have n3:h3.next=h2.next+1:=by rw[e3]; rfl
 have n4:h4.next=h3.next+1:=by rw[e4]; rfl
 refine⟨h3.next,[h3.next,h.next,h2.next] ++ bl none,rfl,⟨⟨h.next,h2.next,none,0,0,0,[],zd6 (List.replicate n (List.replicate 128 0)),?_,?_,?_,?_,zbe.nil _ _ _ _,⟨rfl,fun i hi=>absurd hi (Nat.not_lt_zero _)⟩,Nat.le_refl _,by decide,by decide,rfl,?_,?_⟩,hsec,by simpa using hn⟩,(o2.trans o3).trans o4,?_⟩
 ·rw[e4,zau,List.length_replicate]
 ·rw[o4.2 _ (by omega),o3.2 _ (by omega),e2,zau]
 ·rw[ziC hsec]
 ·rw[o4.2 _ (by omega),e3,zau]
 ·simp[bl]; omega
 ·intro c hc; simp[bl] at hc; omega
 ·intro c hc; simp[bl] at hc; omega
end
theorem zEk (x y z:Int):(Value.agg #[.int .i64 x,.int .u64 y,.int .u32 z]).formed Tryz.prog 42=true:=by
 simp[Value.formed]
theorem zBf {x y z:Int} (hx:(Lit.int .i64 x).wf=true) (hy:(Lit.int .u64 y).wf=true) (hz:(Lit.int .u32 z).wf=true):zcp Tryz.prog 42 (.agg #[.int .i64 x,.int .u64 y,.int .u32 z])=some [.int .i64 x,.int .u64 y,.int .u32 z]:=by
 rw[zkV (zEk x y z),zcW Tryz.underlying42 (d:=39) rfl]
 have k3:=zbD (P:=Tryz.prog) Tryz.underlying3 (m:=39) (d:=38) rfl x
 have k4:=zbD (P:=Tryz.prog) Tryz.underlying22 (m:=39) (d:=38) rfl y
 have k5:=zbD (P:=Tryz.prog) Tryz.underlying40 (m:=39) (d:=38) rfl z
 rw[if_pos hx] at k3
 rw[if_pos hy] at k4
 rw[if_pos hz] at k5
 generalize Tryz.prog.keyLits 39=KL at k3 k4 k5 ⊢
 simp[k3,k4,k5]
def zzb:List Nat→Nat→Nat
 | [],x=>x
 | c :: s,x=>zzb s (znu 8 (Nat.xor x c))
def zbk (s:List Nat):Nat:=Nat.xor (zzb s 4294967295) 4294967295
theorem zlf:∀(k:Nat) {x:Nat},x < 4294967296→znu k x < 4294967296
 | 0,x,h=>h
 | k+1,x,h=>zlf k (zjR h)
theorem ztA:∀(s:List Nat) {x:Nat},(∀c∈s,c < 256)→x < 4294967296→zzb s x < 4294967296
 | [],x,hs,h=>h
 | c :: s,x,hs,h=>ztA s (fun c hc=>hs c (List.mem_cons_of_mem _ hc)) (zlf 8 (Nat.xor_lt_two_pow (n:=32) h (by have:=hs c (List.mem_cons_self ..); omega)))
theorem zgr:∀(s:List Nat) {x:Nat},(∀c∈s,c < 256)→x < 4294967296→zdf (zav .u8 s) x=some (zzb s x)
 | [],x,hs,h=>rfl
 | c :: s,x,hs,h=>by
   have hc:=hs c (List.mem_cons_self ..)
   have hx:Nat.xor x c < 4294967296:=Nat.xor_lt_two_pow (n:=32) h (by omega)
   have h1:(Nat.blt c 256 && Nat.blt (znu 8 (Nat.xor x c)) 4294967296)=true:=by
    rw[Bool.and_eq_true,Nat.blt_eq,Nat.blt_eq]
    exact⟨hc,zlf 8 hx⟩
   show cond (Nat.blt c 256 && Nat.blt (znu 8 (Nat.xor x c)) 4294967296) (zdf (zav .u8 s) (znu 8 (Nat.xor x c))) none=_
   rw[h1]
   exact zgr s (fun c hc=>hs c (List.mem_cons_of_mem _ hc)) (zlf 8 hx)
theorem zlg {s:List Nat} (hs:∀c∈s,c < 256):zbk s < 4294967296:=Nat.xor_lt_two_pow (n:=32) (ztA s hs (by decide)) (by decide)
section
variable {K:Xs} {h:AH}
theorem zAo (hk:K 60=none) (hm:K 86=some (.sum zdF)) {b:Nat} {s:List Nat} (hs:Sec s) {ty:TypeId} {ro:Bool} (hb:h.get b=some (.cells (za8 s) ty ro)) (c:Nat):
 Wf Tryz.prog K 60 [.slice (some ⟨b,0,none⟩) 128 c] h fun v h'=>v=.int .u32 (zbk s:Nat)∧h=h':=by
 refine zmL hk _ _ _ h _ (zdS hm (v:=.int .u32 (zbk s:Nat)) (h':=h) ?_ (Nat.le_refl _) ⟨_,rfl,rfl,rfl⟩)
 have hl:=zaw hs
 have e1:(Nat.blt 0 4294967296 && Nat.ble (0+128) (za8 s).length && Nat.blt 128 9223372036854775807)=true:=by rw[hl]; rfl
 have e2:zdf (((za8 s).drop 0).take 128) (Nat.xor 0 4294967295)=some (zzb s 4294967295):=by
  rw[List.drop_zero,List.take_of_length_le (by omega)]
  exact zgr s hs.2 (by decide)
 show zdF [.int .u32 (Int.ofNat 0),.slice (some ⟨b,0,none⟩) 128 c] h=_
 simp only[zdF,hb,e1,e2,cond_true]
 rfl
end
abbrev zAp:TypeId:=79
structure za2 (h:AH) (p:Nat) (F:List Nat) (d m:Nat) (Fd:List Nat) (W:Nat) (nw:List (List Nat)) (M:List Nat) (st ba:Int):Prop where
 cell:h.get p=some (.cells [.pointer (some ⟨d,0,none⟩),.pointer (some ⟨m,0,none⟩),.int .u64 st,.int .u64 ba] zAp false)
 dev:zcN h d Fd W nw
 map:ze3 h m M
 F_eq:F=p :: m :: Fd
 nodup:F.Nodup
 lt:p < h.next
 within:∀(i x:Nat),M[i]?= some x→x≠0→4≤i∧i < nw.length
section
variable {K:Xs} {h:AH} {p:Nat} {F:List Nat} {d m:Nat} {Fd:List Nat} {W:Nat} {nw:List (List Nat)} {M:List Nat} {st ba:Int}
theorem za2.mem_lt (B:za2 h p F d m Fd W nw M st ba):∀c∈F,c < h.next:=by
 intro c hc
 rw[B.F_eq] at hc
 simp only[List.mem_cons] at hc
 rcases hc with rfl | rfl | hc
 ·exact B.lt
 ·exact B.map.2.1
 ·exact B.dev.lt c hc
theorem za2.keep {h' : AH} (B:za2 h p F d m Fd W nw M st ba) (hn:h.next≤h'.next) (hg:∀c∈F,h'.get c=h.get c):za2 h' p F d m Fd W nw M st ba where
 cell:=by rw[hg p (by rw[B.F_eq]; simp)]; exact B.cell
 dev:=B.dev.keep hn fun c hc=>hg c (by rw[B.F_eq]; simp[hc])
 map:=B.map.same hn (hg m (by rw[B.F_eq]; simp))
 F_eq:=B.F_eq
 nodup:=B.nodup
 lt:=Nat.lt_of_lt_of_le B.lt hn
 within:=B.within
theorem za2.old {h' : AH} (B:za2 h p F d m Fd W nw M st ba) (o:Old h h'):za2 h' p F d m Fd W nw M st ba:=B.keep o.1 fun c hc=>o.2 c (B.mem_lt c hc)
theorem za2.nearN {h' : AH} {b:Nat} (B:za2 h p F d m Fd W nw M st ba) (n:za9 b h h') (hb:b∉F):za2 h' p F d m Fd W nw M st ba:=B.keep (by rw[n.1]; exact Nat.le_refl _) fun c hc=>n.2 c (fun q=>hb (q▸hc))
theorem za2.ndm (B:za2 h p F d m Fd W nw M st ba):p≠m∧p∉Fd∧m∉Fd:=by
 have:=B.nodup
 rw[B.F_eq] at this
 simp only[List.nodup_cons,List.mem_cons,not_or] at this
 exact⟨this.1.1,this.1.2,this.2.1⟩
theorem za2.onDev {h' : AH} {Fd' : List Nat} {W' : Nat} {nw' : List (List Nat)} (B:za2 h p F d m Fd W nw M st ba) (D:zcN h' d Fd' W' nw') (f:Fr Fd h h' Fd') (hl:nw'.length=nw.length):
 za2 h' p (p :: m :: Fd') d m Fd' W' nw' M st ba∧Fr F h h' (p :: m :: Fd'):=by
 obtain⟨n1,n2,n3⟩:=B.ndm
 have k1:p∉Fd':=fun q=>(f.2.2 p q).elim n2 (fun z=>absurd B.lt (by omega))
 have k2:m∉Fd':=fun q=>(f.2.2 m q).elim n3 (fun z=>absurd B.map.2.1 (by omega))
 have hd:∀(g:AH) (G:List Nat) (V:Nat) (w:List (List Nat)),zcN g d G V w→G.Nodup:=fun g G V w D=>by obtain⟨⟨_,_,_,_,_,_,_,_,_,_,_,_,_,_,_,_,_,_,g10,_⟩,_,_⟩:=D; exact g10
 refine⟨⟨by rw[f.2.1 p B.lt n2]; exact B.cell,D,B.map.same f.1 (f.2.1 m B.map.2.1 n3),rfl,?_,Nat.lt_of_lt_of_le B.lt f.1,by rw[hl]; exact B.within⟩,f.1,fun c hc hn=>f.2.1 c hc (fun q=>hn (by rw[B.F_eq]; simp[q])),fun c hc=>?_⟩
 ·simp only[List.nodup_cons,List.mem_cons,not_or]
  exact⟨⟨n1,k1⟩,k2,hd _ _ _ _ D⟩
 ·simp only[List.mem_cons] at hc
  rcases hc with rfl | rfl | hc
  ·exact .inl (by rw[B.F_eq]; simp)
  ·exact .inl (by rw[B.F_eq]; simp)
  ·exact (f.2.2 c hc).imp (fun q=>by rw[B.F_eq]; simp[q]) id
theorem za2.onMap {h' : AH} {M' : List Nat} (B:za2 h p F d m Fd W nw M st ba) (hm:ze3 h' m M') (n:za9 m h h') (hw:∀(i x:Nat),M'[i]?= some x→x≠0→4≤i∧i < nw.length):
 za2 h' p F d m Fd W nw M' st ba∧Fr F h h' F:=by
 obtain⟨n1,n2,n3⟩:=B.ndm
 exact⟨⟨by rw[n.2 p n1]; exact B.cell,B.dev.nearN n n3,hm,B.F_eq,B.nodup,by rw[n.1]; exact B.lt,hw⟩,n.fr (by rw[B.F_eq]; simp)⟩
theorem za2.onCell {h' : AH} {st' ba' : Int} (B:za2 h p F d m Fd W nw M st ba) (hc:h'.get p=some (.cells [.pointer (some ⟨d,0,none⟩),.pointer (some ⟨m,0,none⟩),.int .u64 st',.int .u64 ba'] zAp false)) (n:za9 p h h'):
 za2 h' p F d m Fd W nw M st' ba'∧Fr F h h' F:=by
 obtain⟨n1,n2,n3⟩:=B.ndm
 exact⟨⟨hc,B.dev.nearN n n2,B.map.near n (Ne.symm n1),B.F_eq,B.nodup,by rw[n.1]; exact B.lt,B.within⟩,n.fr (by rw[B.F_eq]; simp)⟩
theorem zj3 {i v:Nat} (hw:∀(j x:Nat),M[j]?= some x→x≠0→4≤j∧j < nw.length) {u:Nat} (hi:M[i]?= some u) (hu:u≠0):∀(j x:Nat),(M.set i v)[j]?= some x→x≠0→4≤j∧j < nw.length:=by
 intro j x hj hx
 rw[List.getElem?_set] at hj
 split at hj
 ·rename_i q
  subst q
  exact hw i u hi hu
 ·exact hw j x hj hx
theorem ze4 (hk:K 9=none) (B:za2 h p F d m Fd W nw M st ba):Wf Tryz.prog K 9 [.pointer (some ⟨p,0,none⟩)] h fun v h'=>v=.pointer (some ⟨m,0,none⟩)∧h=h':=
 zdE hk _ h _ (zae ⟨_,zah B.cell rfl,rfl,rfl⟩)
theorem ziD (hk:K 34=none) (B:za2 h p F d m Fd W nw M st ba):Wf Tryz.prog K 34 [.pointer (some ⟨p,0,none⟩)] h fun v h'=>v=.pointer (some ⟨d,0,none⟩)∧h=h':=
 zg3 hk _ h _ (zae ⟨_,zah B.cell rfl,rfl,rfl⟩)
theorem zv1 (hk:K 36=none) (B:za2 h p F d m Fd W nw M st ba):Wf Tryz.prog K 36 [.pointer (some ⟨p,0,none⟩)] h fun v h'=>v=.int .u64 ba∧h=h':=
 zgd hk _ h _ (zae ⟨_,zah B.cell rfl,rfl,rfl⟩)
theorem zm9 (hk:K 18=none) (B:za2 h p F d m Fd W nw M st ba):Wf Tryz.prog K 18 [.pointer (some ⟨p,0,none⟩)] h fun v h'=>v=.int .u64 st∧h=h':=
 zcX hk _ h _ (zae ⟨_,zah B.cell rfl,rfl,rfl⟩)
theorem zrj (hk:K 55=none) (h0:K 81=none) (h1:K 56=none) (h2:K 52=none) (B:za2 h p F d m Fd W nw M st ba) (hst:0≤st∧st < 1000000):
 Wf Tryz.prog K 55 [.pointer (some ⟨p,0,none⟩)] h fun _ h'=>za2 h' p F d m Fd W nw (M.map zkU) (st+1) st∧Fr F h h' F:=by
 refine ze0 hk _ h _ (zae ⟨_,zah B.cell rfl,(zty h0 h1 h2 B.map).mono ?_⟩)
 rintro _ g ⟨hm,hn⟩
 have hw:∀(i x:Nat),(M.map zkU)[i]?= some x→x≠0→4≤i∧i < nw.length:=by
  intro i x hi hx
  rw[List.getElem?_map] at hi
  cases hq:M[i]? with
  | none=>rw[hq] at hi; cases hi
  | some y=>
    rw[hq] at hi
    simp only[Option.map_some,Option.some.injEq] at hi
    refine B.within i y hq ?_
    rintro rfl
    exact hx (by rw[←hi]; rfl)
 obtain⟨B1,f1⟩:=B.onMap hm hn hw
 refine zae ⟨_,zah B1.cell rfl,zae ⟨_,zbm B1.cell (by simp),zae ⟨st,zah (zag _ _ _) rfl,fun x e=>zae ⟨_,zbm (zag _ _ _) (by simp),?_⟩⟩⟩⟩
 have e:=zoz e (by omega) (by omega)
 subst e
 obtain⟨B2,f2⟩:=B1.onCell (st':=st+1) (ba':=st) (zag _ _ _) ((zaj p g _).trans (zaj p _ _))
 exact⟨B2,f1.trans f2⟩
def zaM (data:List Nat):List Nat:=data ++ List.replicate (128 - data.length) 0
theorem zoQ {data:List Nat} (hl:data.length≤128) (hb:∀x∈data,x < 256):Sec (zaM data):=by
 refine⟨by simp[zaM]; omega,fun x hx=>?_⟩
 unfold zaM at hx
 rw[List.mem_append,List.mem_replicate] at hx
 rcases hx with hx | hx
 ·exact hb x hx
 ·omega
theorem zeo (g:AH) (b:Nat):zar Tryz.prog g 112 (.pointer (some ⟨b,0,none⟩)) none none none=some (.slice (some ⟨b,0,none⟩) 128 128):=by kernel_rfl
theorem eBytes:zaZ Tryz.prog 53 5 1 1:=zaG (by kernel_rfl)
theorem ztB {data:List Nat} (hl:data.length≤128):(List.replicate 128 (Value.int .u8 0)).take 0 ++ (zav .u8 data).take 128 ++ (List.replicate 128 (Value.int .u8 0)).drop (0+((zav .u8 data).take 128).length)=za8 (zaM data):=by
 have e:(zav .u8 data).take 128=zav .u8 data:=List.take_of_length_le (by rw[zam]; exact hl)
 rw[e,List.take_zero,List.nil_append,zam,Nat.zero_add,List.drop_replicate]
 unfold za8 zaM
 rw[zaI]
 congr 1
 unfold zav
 rw[List.map_replicate]
 rfl
theorem zna (hk:K 40=none) (hW:K 59=none) (h1:K 83=none) (h2:K 84=none) (h3:K 85=none) (hS:K 60=none) (hM:K 86=some (.sum zdF))
 (B:za2 h p F d m Fd W nw M st ba) (hw:W < 100000) {i:Nat} (hi:i < nw.length) {pp:Option Addr} {n c:Nat} {data:List Nat} (hd:zaq h pp n 1 (zav .u8 data)) (hpp:pp=none∨∃b off,pp=some ⟨b,off,none⟩) (hl:data.length≤128) (hb:∀x∈data,x < 256):
 Wf Tryz.prog K 40 [.pointer (some ⟨p,0,none⟩),.int .i64 i,.slice pp n c] h fun v h'=>v=.tuple #[.agg #[.int .i64 i,.int .u64 st,.int .u32 (zbk (zaM data):Nat)],.int .i64 0]∧
  ∃Fd',za2 h' p (p :: m :: Fd') d m Fd' (W+1) (nw.set i (zaM data)) M st ba∧Fr F h h' (p :: m :: Fd'):=by
 refine zfC hk _ _ _ _ _ h _ fun g0 e0 g1 e1=>⟨_,_,_,zeo _ _,?_⟩
 have o0:Old h g0:=by rw[e0]; exact zaV _ _
 have o1:Old g0 g1:=by rw[e1]; exact zaV _ _
 have n0:g0.next=h.next+1:=by rw[e0]; rfl
 have n1:g1.next=g0.next+1:=by rw[e1]; rfl
 have B1:=B.old (o0.trans o1)
 have hF:=B.mem_lt
 have nF0:g0.next∉F:=fun q=>absurd (hF _ q) (by omega)
 have nFh:h.next∉F:=fun q=>absurd (hF _ q) (by omega)
 have c1:g1.get g0.next=some (.cells (List.replicate 128 (.int .u8 0)) 112 false):=by rw[e1]; exact zau _ _
 have ch:g1.get h.next=some (.cells [.int .i64 0,.int .u64 0,.int .u32 0] 42 false):=by rw[o1.2 _ (by omega),e0]; exact zau _ _
 obtain⟨g6,k1,k2,k3⟩:=zfy eBytes (off:=0) c1 (by simp) (by decide) (n:=128) (c:=128) (c':=c) (hd.old (o0.trans o1)) hpp 53
 rw[ztB hl] at k3
 have hsec:=zoQ hl hb
 have B6:=B1.nearN k2 nF0
 have ch6:=(k2.2 h.next (by omega)).trans ch
 refine⟨_,g6,k1,zae ⟨_,zah B6.cell rfl,_,zao k3 (zaw hsec),(zp0 hW h1 h2 h3 B6.dev hw i hsec).mono ?_⟩⟩
 rintro v g12 (⟨-, -,rfl,Fd',D12,f12⟩ | ⟨q, -⟩)
 rotate_left
 ·exact absurd ⟨by omega,by omega⟩ q
 rw[Int.toNat_natCast] at D12
 obtain⟨B12,F12⟩:=B6.onDev D12 f12 (by rw[List.length_set])
 have n6:g6.next=g1.next:=k2.1
 have nFd0:g0.next∉Fd:=fun q=>nF0 (by rw[B.F_eq]; simp[q])
 have nFdh:h.next∉Fd:=fun q=>nFh (by rw[B.F_eq]; simp[q])
 have c12:g12.get g0.next=_:=(f12.2.1 _ (by omega) nFd0).trans k3
 have ch12:g12.get h.next=_:=(f12.2.1 _ (by omega) nFdh).trans ch6
 refine⟨0,rfl,fun _=>⟨_,_,_,zeo _ _,(zAo hS hM hsec c12 128).mono ?_⟩,fun q=>absurd rfl q⟩
 rintro _ g ⟨rfl,rfl⟩
 refine⟨_,rfl,zae ⟨st,zah B12.cell rfl,rfl,_,zaB ch12 rfl,zah B12.cell rfl,zah B12.cell rfl,_,_,_,zao (zag _ _ _) rfl,rfl,Fd',?_,?_⟩⟩
 ·refine B12.nearN (zaj _ _ _) (fun q=>?_)
  rcases F12.2.2 _ q with z | z
  ·exact nFh z
  ·omega
 ·exact (((((o0.trans o1).fr F).near_new k2 (by omega)).trans F12).near_new (zaj _ _ _) (Nat.le_refl _))
theorem zyx (hk:K 15=none) (hA:K 39=none) (hI:K 56=none) (hSt:K 52=none) (hw0:K 40=none) (hW:K 59=none) (h1:K 83=none) (h2:K 84=none) (h3:K 85=none) (hS:K 60=none) (hM:K 86=some (.sum zdF))
 (B:za2 h p F d m Fd W nw M st ba) (hw:W < 100000) {pp:Option Addr} {n c:Nat} {data:List Nat} (hd:zaq h pp n 1 (zav .u8 data)) (hpp:pp=none∨∃b off,pp=some ⟨b,off,none⟩) (hda:∀a,pp=some a→a.block∉F) (hb:∀x∈data,x < 256):
 Wf Tryz.prog K 15 [.pointer (some ⟨p,0,none⟩),.slice pp n c] h fun v h'=>
  (128 < data.length∧v=.tuple #[.agg #[.int .i64 0,.int .u64 0,.int .u32 0],.int .i64 92]∧za2 h' p F d m Fd W nw M st ba∧Fr F h h' F)∨
  (data.length≤128∧∃i:Nat,i < nw.length∧M[i]?= some 1∧v=.tuple #[.agg #[.int .i64 i,.int .u64 st,.int .u32 (zbk (zaM data):Nat)],.int .i64 0]∧
    ∃Fd',za2 h' p (p :: m :: Fd') d m Fd' (W+1) (nw.set i (zaM data)) (M.set i 2) st ba∧Fr F h h' (p :: m :: Fd'))∨
  (data.length≤128∧1∉M∧v=.tuple #[.agg #[.int .i64 0,.int .u64 0,.int .u32 0],.int .i64 71]∧za2 h' p F d m Fd W nw M st ba∧Fr F h h' F):=by
 have hnd:n=data.length:=by have:=hd.1; rw[zam] at this; omega
 refine zg1 hk _ _ _ _ h _ fun g0 e0=>?_
 have o0:Old h g0:=by rw[e0]; exact zaV _ _
 have n0:g0.next=h.next+1:=by rw[e0]; rfl
 have B0:=B.old o0
 have hF:=B.mem_lt
 have nFh:h.next∉F:=fun q=>absurd (hF _ q) (by omega)
 have ch:g0.get h.next=some (.cells [.int .i64 0,.int .u64 0,.int .u32 0] 42 false):=by rw[e0]; exact zau _ _
 have f0:Fr F h g0 F:=o0.fr F
 refine⟨fun q=>⟨rfl,_,zaB ch rfl,_,_,_,zao (zag _ _ _) rfl,.inl ⟨by omega,rfl,B0.nearN (zaj _ _ _) nFh,f0.near_new (zaj _ _ _) (Nat.le_refl _)⟩⟩,fun q=>?_⟩
 have hl:data.length≤128:=by omega
 refine zae ⟨_,zah B0.cell rfl,(zpX hA hI hSt B0.map).mono ?_⟩
 rintro v g9 (⟨i,hi,hMi,rfl,hm9,hn9⟩ | ⟨hno,rfl,rfl⟩)
 ·obtain⟨B9,f9⟩:=B0.onMap hm9 hn9 (zj3 B.within hMi (by decide))
  have hiN:=(B.within i 1 hMi (by decide)).2
  have n9:g9.next=g0.next:=hn9.1
  have nm:h.next≠m:=fun z=>nFh (by rw[B.F_eq,z]; simp)
  have c9:g9.get h.next=_:=(hn9.2 _ nm).trans ch
  refine⟨(i:Nat),0,rfl,fun _=>(zna hw0 hW h1 h2 h3 hS hM B9 hw hiN ((hd.old o0).fr f9 hda) hpp hl hb).mono ?_,fun q2=>absurd rfl q2⟩
  rintro v g13 ⟨rfl,Fd',B13,f13⟩
  have c13:g13.get h.next=_:=(f13.2.1 _ (by omega) nFh).trans c9
  have l13:h.next < g13.next:=by have:=f13.1; omega
  have nF13:h.next∉(p :: m :: Fd'):=fun q2=>(f13.2.2 _ q2).elim nFh (fun z=>by omega)
  refine⟨_,_,_,_,rfl,fun g18 e18=>?_⟩
  have o18:=zaa e18
  have n18:=zab e18
  have k1:=zaj g13.next g18 (.cells [.int .i64 i,.int .u64 st,.int .u32 (zbk (zaM data):Nat)] 42 false)
  have c18:(g18.set g13.next (.cells [.int .i64 i,.int .u64 st,.int .u32 (zbk (zaM data):Nat)] 42 false)).get h.next=_:=(k1.2 _ (by omega)).trans ((o18.2 _ l13).trans c13)
  refine⟨rfl,_,zaB (zac e18) rfl,fun _=>⟨_,_,_,zao (zag _ _ _) rfl,rfl,_,zaB c18 rfl,_,_,_,zao (zag _ _ _) rfl,?_⟩,fun q2=>absurd rfl q2⟩
  have B14:=(B13.old o18).nearN k1 (fun z=>absurd (B13.mem_lt _ z) (by omega))
  refine .inr (.inl ⟨hl,i,hiN,hMi,rfl,Fd',B14.nearN (zaj _ _ _) nF13,?_⟩)
  exact ((((f0.trans f9).trans f13).trans (o18.fr _)).near_new k1 (by omega)).near_new (zaj _ _ _) (Nat.le_refl _)
 ·refine⟨0,71,rfl,fun q2=>absurd q2 (by decide),fun _=>⟨rfl,_,zaB ch rfl,_,_,_,zao (zag _ _ _) rfl,.inr (.inr ⟨hl,hno,rfl,B0.nearN (zaj _ _ _) nFh,f0.near_new (zaj _ _ _) (Nat.le_refl _)⟩)⟩⟩
theorem zd7 {x y z:Int}:zaC [.int .i64 x,.int .u64 y,.int .u32 z] [.int .i64 0,.int .u64 0,.int .u32 0]=decide (x=0∧y=0∧z=0):=zBY
def zoR (x y z:Int):Prop:=(Lit.int .i64 x).wf=true∧(Lit.int .u64 y).wf=true∧(Lit.int .u32 z).wf=true
theorem ztC:zcp Tryz.prog 42 (.agg #[.int .i64 0,.int .u64 0,.int .u32 0])=some [.int .i64 0,.int .u64 0,.int .u32 0]:=zBf (by decide) (by decide) (by decide)
theorem zyy (hk:K 125=none) (hR:K 87=none) (h1:K 83=none) (h2:K 84=none) (hS:K 60=none) (hM:K 86=some (.sum zdF))
 (B:za2 h p F d m Fd W nw M st ba) {x y z:Int} (hwf:zoR x y z):
 Wf Tryz.prog K 125 [.pointer (some ⟨p,0,none⟩),.agg #[.int .i64 x,.int .u64 y,.int .u32 z]] h fun v h'=>za2 h' p F d m Fd W nw M st ba∧Fr F h h' F∧
  ((x=0∧y=0∧z=0∧v=.tuple #[.agg (za8 (List.replicate 128 0)).toArray,.int .i64 0])∨
   (¬(x=0∧y=0∧z=0)∧∃s,0≤x∧nw[x.toNat]?= some s∧(zbk s:Int)=z∧v=.tuple #[.agg (za8 s).toArray,.int .i64 0])∨
   (¬(x=0∧y=0∧z=0)∧(∀s,0≤x→nw[x.toNat]?= some s→(zbk s:Int)≠z)∧v=.tuple #[.agg (za8 (List.replicate 128 0)).toArray,.int .i64 91])):=by
 refine zg2 hk _ _ _ _ h _ fun g0 e0 g1 e1=>?_
 have o0:=zaa e0
 have o1:=zaa e1
 have n0:=zab e0
 have n1:=zab e1
 have B1:=B.old (o0.trans o1)
 have hF:=B.mem_lt
 have nFh:h.next∉F:=fun q=>absurd (hF _ q) (by omega)
 have nF0:g0.next∉F:=fun q=>absurd (hF _ q) (by omega)
 have c1:=zac e1
 have ch:g1.get h.next=_:=(o1.2 _ (by omega)).trans (zac e0)
 have f1:Fr F h g1 F:=(o0.trans o1).fr F
 have fin:∀(g:AH),za2 g p F d m Fd W nw M st ba→Fr F h g F→∀{cs:List Value},g.get g0.next=some (.cells cs 112 false)→cs.length=128→∀{vs:List Value},vs.length=128→
  ∃g3,stN g g0.next 0 vs=some g3∧ldN g3 g0.next 0 128=some vs∧za2 g3 p F d m Fd W nw M st ba∧Fr F h g3 F:=by
  intro g Bg fg cs hg hcs vs hvs
  exact⟨_,zaB hg (by rw[hvs,hcs]),zao (zag _ _ _) hvs,Bg.nearN (zaj _ _ _) nF0,fg.near_new (zaj _ _ _) (by omega)⟩
 have zl:(List.replicate 128 (Value.int .u8 0)).length=128:=by simp
 refine⟨x,y,z,zao ch rfl,_,_,zBf hwf.1 hwf.2.1 hwf.2.2,ztC,fun q=>?_,fun q=>?_⟩
 ·rw[zd7] at q
  obtain⟨q1,q2,q3⟩:=of_decide_eq_true q
  obtain⟨g3,k1,k2,B3,f3⟩:=fin g1 B1 f1 c1 zl zl
  exact⟨_,zAm,zl,g3,k1,_,k2,B3,f3,.inl ⟨q1,q2,q3,by rw[zdj]⟩⟩
 rw[zd7] at q
 have hnz:=of_decide_eq_false q
 refine zae ⟨_,zah B1.cell rfl,x,zah ch rfl,(ztz hR h1 h2 B1.dev x).mono ?_⟩
 rintro v g15 ⟨D15,f15,hv⟩
 obtain⟨B15,F15⟩:=B1.onDev D15 f15 rfl
 have hFeq:p :: m :: Fd=F:=B.F_eq.symm
 rw[hFeq] at B15 F15
 have n15:=F15.1
 have nFd:∀b,b∉F→b∉Fd:=fun b hb hq=>hb (by rw[B.F_eq]; simp[hq])
 have c15:g15.get g0.next=_:=(F15.2.1 _ (by omega) nF0).trans c1
 have ch15:g15.get h.next=_:=(F15.2.1 _ (by omega) nFh).trans ch
 rcases hv with ⟨s,hx,hs,rfl⟩ | ⟨hx,rfl⟩
 ·have hsec:Sec s:=D15.secs s (List.mem_of_getElem? hs)
  have hl:=zaw hsec
  refine⟨_,0,rfl,fun g18 e18=>⟨hl,_,zaB (zac e18) (by rw[hl]; simp),fun q2=>absurd q2 (by decide),fun _=>⟨fun _=>⟨_,_,_,zeo _ _,(zAo hS hM hsec (zag _ _ _) 128).mono ?_⟩,fun q2=>absurd rfl q2⟩⟩⟩
  have o18:=zaa e18
  have n18:=zab e18
  have k1:=zaj g15.next g18 (.cells (za8 s) 112 false)
  have B19:=(B15.old o18).nearN k1 (fun q2=>absurd (B15.mem_lt _ q2) (by omega))
  have F19:Fr F h (g18.set g15.next (.cells (za8 s) 112 false)) F:=((f1.trans F15).trans (o18.fr F)).near_new k1 (by omega)
  have c19:(g18.set g15.next (.cells (za8 s) 112 false)).get g0.next=_:=(k1.2 _ (by omega)).trans ((o18.2 _ (by omega)).trans c15)
  have ch19:(g18.set g15.next (.cells (za8 s) 112 false)).get h.next=_:=(k1.2 _ (by omega)).trans ((o18.2 _ (by omega)).trans ch15)
  rintro _ g ⟨rfl,rfl⟩
  refine⟨_,rfl,z,zah ch19 rfl,fun q2=>⟨zah ch19 rfl,zah ch19 rfl,_,zao (zag _ _ _) hl,hl,?_⟩,fun q2=>⟨zah ch19 rfl,zah ch19 rfl,_,zAm,zl,?_⟩⟩
  ·obtain⟨g3,k1,k2,B3,f3⟩:=fin _ B19 F19 c19 zl hl
   exact⟨g3,k1,_,k2,B3,f3,.inr (.inl ⟨hnz,s,hx,hs,q2,rfl⟩)⟩
  ·obtain⟨g3,k1,k2,B3,f3⟩:=fin _ B19 F19 c19 zl zl
   refine⟨g3,k1,_,k2,B3,f3,.inr (.inr ⟨hnz,fun s' _ hs'=>?_,by rw[zdj]⟩)⟩
   rw[hs] at hs'
   simp only[Option.some.injEq] at hs'
   rw[←hs']
   exact q2
 ·have hl:=zaw zck
  refine⟨_,41,rfl,fun g18 e18=>⟨hl,_,zaB (zac e18) (by rw[hl]; simp),fun _=>⟨_,zAm,zl,?_⟩,fun q2=>absurd rfl q2⟩⟩
  have o18:=zaa e18
  have n18:=zab e18
  have k1:=zaj g15.next g18 (.cells (za8 (List.replicate 128 0)) 112 false)
  have B19:=(B15.old o18).nearN k1 (fun q2=>absurd (B15.mem_lt _ q2) (by omega))
  have F19:Fr F h (g18.set g15.next (.cells (za8 (List.replicate 128 0)) 112 false)) F:=((f1.trans F15).trans (o18.fr F)).near_new k1 (by omega)
  have c19:(g18.set g15.next (.cells (za8 (List.replicate 128 0)) 112 false)).get g0.next=_:=(k1.2 _ (by omega)).trans ((o18.2 _ (by omega)).trans c15)
  obtain⟨g3,k1,k2,B3,f3⟩:=fin _ B19 F19 c19 zl zl
  refine⟨g3,k1,_,k2,B3,f3,.inr (.inr ⟨hnz,fun s' h0 hs'=>?_,by rw[zdj]⟩)⟩
  exact absurd ⟨h0,by have:=(List.getElem?_eq_some_iff.1 hs').1; omega⟩ hx
end
end Go.Am
