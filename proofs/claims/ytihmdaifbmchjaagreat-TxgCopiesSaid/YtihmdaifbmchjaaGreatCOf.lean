/-
  THE SET OF SOME NUMBERS in this program: what is told of it is what the program does, where the spans of bits are told.
-/
import Derived.Test.YtihmdaifbmchjaaGreatAmF
import Derived.Test.YtihmdaifbmchjaaGreatPFacts
set_option linter.unusedVariables false
set_option linter.unusedSimpArgs false
set_option maxRecDepth 100000
namespace Go.Am
open Go.Proofs
theorem zBits:zan Tryz.prog 139=some (List.replicate 4096 (.bool false)):=by kernel_rfl
theorem ztv:zcO []=List.replicate 4096 (.bool false):=by
 apply List.ext_getElem?
 intro j
 rw[zik,List.getElem?_replicate]
 rfl
theorem ztw:zan Tryz.prog 139=some (zcO []):=by rw[ztv]; exact zBits
set_option maxHeartbeats 4000000 in
theorem cOf {K:Xs} (hk:K 57=none) (hs:K 82=some (.sum (zeG 90))):zod Tryz.prog K 57 (xOf 90):=by
 refine zfv hk ?_
 intro args h v h' hwf hg
 rw[zcR hk Tryz.func57 (c:=_) rfl]
 have tail:∀(acc:List (Nat×Nat)) (M:List Nat) (h1:AH) (Q:Value→AH→Prop),zbU (zcO M) 0 []=some acc→h1.next=h.next+1→h1.get h.next=some (.cells (zcO M) 139 false)→
  Q (zaD 90 acc h1.tr h1.next).1 (zaD 90 acc h1.tr h1.next).2→Wf Tryz.prog K 82 [.pointer (some ⟨h.next,0,none⟩)] h1 Q:=by
  intro acc M h1 Q hacc hn1 hb1 hq
  have ht:(zcO M).take 4096=zcO M:=List.take_of_length_le (by rw[zfw]; exact Nat.le_refl _)
  have hcc:(Nat.beq 0 0 && Nat.ble 4096 (zcO M).length && Nat.blt h.next h1.next)=true:=by
   rw[zfw,hn1]
   have:Nat.blt h.next (h.next+1)=true:=by rw[Nat.blt_eq]; omega
   rw[this]
   rfl
  refine zdS hs (v:=(zaD 90 acc h1.tr h1.next).1) (h':=(zaD 90 acc h1.tr h1.next).2) ?_ ?_ hq
  ·simp only[zeG,hb1,List.drop_zero,ht,hacc,hcc,cond_true]
   cases acc <;> rfl
  ·cases acc with
   | nil=>exact Nat.le_refl _
   | cons x r=>simp only[zaD]; omega
 have keep:∀(acc:List (Nat×Nat)) (h1:AH),h1.next=h.next+1→(∀x,x < h.next→h1.get x=h.get x)→∀b o,(zaD 90 acc h.tr (h.next+1)).2.get b=some o→(zaD 90 acc h1.tr h1.next).2.get b=some o:=by
  intro acc h1 hn1 hold b o hbo
  rw[hn1]
  cases acc with
  | nil=>
    have:h.get b=some o:=hbo
    have hq:h1.get b=some o:=by rw[hold b (hwf b o this)]; exact this
    exact hq
  | cons x r=>
    simp only[zaD,AH.get,Tr.get_set] at hbo ⊢
    split at hbo
    ·rename_i he
     rw[if_pos he]
     exact hbo
    ·rename_i he
     rw[if_neg he]
     have hb2:h.get b=some o:=hbo
     have:=hold b (hwf b o hb2)
     have h3:h1.get b=some o:=by rw[this]; exact hb2
     exact h3
 have nx:∀(acc:List (Nat×Nat)) (t1 t2:Tr zb7) (n:Nat),(zaD 90 acc t1 n).2.next=(zaD 90 acc t2 n).2.next∧(zaD 90 acc t1 n).1=(zaD 90 acc t2 n).1:=by
  intro acc t1 t2 n
  cases acc <;> exact⟨rfl,rfl⟩
 unfold xOf at hg
 split at hg
 ·simp only[Option.some.injEq,Prod.mk.injEq] at hg
  obtain⟨rfl,rfl⟩:=hg
  simp[Tryz.f57,aOp,zap,ztw,zo6,ptr]
  refine Eq.mpr (propext znR) ?_
  simp[aOp,zap,ztw,zo6,ptr]
  refine tail [] [] _ _ (zkH (by simp) .nil) (by simp) (by simp) ?_
  simp[aOp,zap,zbn,zbt,zaD]
  intro b o hbo
  have hq:h.get b=some o:=hbo
  have hlt:=hwf b o hq
  have key:∀A,(h.alloc A).get b=some o:=fun A=>by
   rw[AH.get_alloc,if_neg (by omega)]
   exact hq
  exact key _
 ·rename_i b off n c
  split at hg
  rotate_left
  ·simp at hg
  rename_i cs el ro hb
  split at hg
  rotate_left
  ·simp at hg
  rename_i N hN
  obtain⟨hc,hg2⟩:=za5 hg
  clear hg
  simp only[Bool.and_eq_true,Nat.blt_eq] at hc
  have hle:=Nat.le_of_ble_eq_true hc.1.1
  have hn:=hc.1.2
  have hbn:=hc.2
  split at hg2
  rotate_left
  ·simp at hg2
  rename_i acc hacc
  simp only[Option.some.injEq] at hg2
  simp[Tryz.f57,aOp,zap,ztw,zo6,ptr]
  refine zch (fun k e1 h1=>∃(i:Nat) (M rest:List Nat),i≤n∧k=n - i∧N=M ++ rest∧zeH ((cs.drop (off+i)).take (n - i))=some rest∧
   e1.get 3=some (.pointer (some ⟨h.next,0,none⟩))∧e1.get 6=some (.slice (some ⟨b,off,none⟩) n c)∧e1.get 7=some (.int .i64 n)∧e1.get 8=some (.int .i64 i)∧
   h1.next=h.next+1∧(∀x,x < h.next→h1.get x=h.get x)∧h1.get h.next=some (.cells (zcO M) 139 false)) ?_ n _ _
   ⟨0,[],N,Nat.zero_le _,rfl,rfl,by simpa using hN,by simp,by simp,by simp,by simp,by simp,fun x hx=>by rw[AH.get_alloc,if_neg (by omega)],by simp⟩
  rintro k e1 h1 ⟨i,M,rest,hi,rfl,hNM,hrest,k3,k6,k7,k8,hn1,hold,hbits⟩
  by_cases hin:i < n
  ·have hi2:(i:Int) < n:=by omega
   obtain⟨m,rest',hm,hm2,rfl,hr2⟩:∃(m:Nat) (rest' : List Nat),cs[off+i]?= some (.int .i64 m)∧m < 4096∧rest=m :: rest'∧zeH ((cs.drop (off+(i+1))).take (n - (i+1)))=some rest':=by
    obtain⟨q,hq⟩:∃q,n - i=q+1:=⟨n - i - 1,by omega⟩
    have hlt:off+i < cs.length:=by omega
    rw[hq,List.drop_eq_getElem_cons hlt,List.take_succ_cons] at hrest
    unfold zeH at hrest
    split at hrest
    ·rename_i he; simp at he
    ·rename_i m rr he
     simp only[List.cons.injEq] at he
     obtain⟨he1,rfl⟩:=he
     obtain⟨p1,p2⟩:=za5 hrest
     rw[Nat.blt_eq] at p1
     split at p2
     ·rename_i l hl
      simp only[Option.some.injEq] at p2
      refine⟨m,l,by rw[List.getElem?_eq_getElem hlt,he1]; rfl,p1,p2.symm,?_⟩
      rw[show n - (i+1)=q by omega,show off+(i+1)=off+i+1 by omega]
      exact hl
     ·simp at p2
    ·simp at hrest
   have hb1:h1.get b=some (.cells cs el ro):=by rw[hold b hbn,hb]
   have hcm:zdb cs (off+i)=some (.int .i64 m):=hm
   have hm3:(m:Int) < 4096:=by omega
   have hw:IntKind.i64.wrap ((i:Int)+1)=(i:Int)+1:=zbW (by omega) (by omega)
   have hbl:m < (zcO M).length:=by rw[zfw]; exact hm2
   simp[aOp,zap,k3,k6,k7,k8,hi2,hb1,hcm,hm3,hbits,hbl,hw,zsV M m hm2]
   exact⟨n - (i+1),by omega,i+1,by omega,rfl,M ++ [m],rest',by rw[hNM]; simp,hr2,rfl,hn1,fun x hx=>by rw[if_neg (by omega)]; exact hold x hx,rfl⟩
  ·have hi2:¬((i:Int) < n):=by omega
   have hen:i=n:=by omega
   subst hen
   simp only[Nat.sub_self,List.take_zero,zeH,Option.some.injEq] at hrest
   subst hrest
   rw[List.append_nil] at hNM
   subst hNM
   simp[aOp,zap,k3,k7,k8]
   refine tail acc N h1 _ hacc hn1 hbits ?_
   simp[aOp,zap,zbn,zbt]
   have e1:(zaD 90 acc h.tr (h.next+1)).1=v:=by rw[hg2]
   have e2:(zaD 90 acc h.tr (h.next+1)).2=h':=by rw[hg2]
   refine⟨?_,?_,?_⟩
   ·rw[hn1,←e1]
    exact (nx acc h1.tr h.tr (h.next+1)).2
   ·intro b' o' hb'
    rw[←e2] at hb'
    exact keep acc h1 hn1 hold b' o' hb'
   ·rw[hn1,←e2]
    exact Nat.le_of_eq (nx acc h1.tr h.tr (h.next+1)).1
 ·simp at hg
end Go.Am
