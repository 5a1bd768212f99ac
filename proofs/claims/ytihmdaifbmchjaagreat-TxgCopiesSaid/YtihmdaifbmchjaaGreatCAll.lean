/-
  THE SECTORS IN A STATE in this program: what is told of their set is what the program does, where the test and the set of numbers are told.
-/
import Derived.Test.YtihmdaifbmchjaaGreatAmF
import Derived.Test.YtihmdaifbmchjaaGreatPFacts
set_option linter.unusedVariables false
set_option linter.unusedSimpArgs false
set_option maxRecDepth 100000
namespace Go.Am
open Go.Proofs
theorem zEd:zan Tryz.prog 3=some [.int .i64 0]:=by kernel_rfl
theorem zCi:∃i z,Tryz.prog.info? 3=some i∧i.size=1∧i.zero=some z∧z.cells.size=1∧i.bytes=8:=⟨_,_,zB0,rfl,rfl,rfl,rfl⟩
theorem zDr (h:AH) (x:Int):zay Tryz.prog h 48 1 #[(0,.int .i64 x)]=some (.slice (some ⟨h.next,0,none⟩) 1 1,h.alloc (.cells [.int .i64 x] 3 false)):=by
 obtain⟨i,z,h1,h2,h3,h4,h5⟩:=zCi
 simp[zay,zeM,zEd,h1,h2,Instr.fill,Value.cells,zak]
theorem zEe (h:AH) (x:Value) (b:Nat) (hb:h.get b=some (.cells [x] 3 false)):
 zaS Tryz.prog h 48 false (.slice none 0 0) (.slice (some ⟨b,0,none⟩) 1 1)=some (.slice (some ⟨h.next,0,none⟩) 1 zak,h.alloc (.cells [x] 3 false)):=by
 obtain⟨i,z,h1,h2,h3,h4,h5⟩:=zCi
 exact zij (by simp) h1 h3 (by omega) (by omega) (by simp[h2]) hb (by rw[h5]; decide)
theorem zEf (h:AH) (x:Value) (b b0 m:Nat) (old:List Value) (hb:h.get b=some (.cells [x] 3 false)) (h0:h.get b0=some (.cells old 3 false)) (hl:old.length=m) (hm:m≤10000) (hp:0 < m):
 zaS Tryz.prog h 48 false (.slice (some ⟨b0,0,none⟩) m zak) (.slice (some ⟨b,0,none⟩) 1 1)=some (.slice (some ⟨h.next,0,none⟩) (m+1) zak,(h.del b0).alloc (.cells (old ++ [x]) 3 false)):=by
 obtain⟨i,z,h1,h2,h3,h4,h5⟩:=zCi
 exact zgP (by simp) h1 h3 (by omega) (by omega) (by simp[h2]) hb (by rw[h5]; simp[zaE]; omega) h0 (by rw[hl,h2]; omega) (by omega) hp
def zri (N:List Nat):List Value:=N.map fun n=>.int .i64 (.ofNat n)
theorem ziB:∀(N:List Nat),(∀n∈N,n < 4096)→zeH (zri N)=some N
 | [],_=>rfl
 | n :: N,h=>by
   have h1:=h n (by simp)
   have h2:=ziB N (fun m hm=>h m (by simp[hm]))
   simp only[zri,List.map_cons,zeH]
   have hb:Nat.blt n 4096=true:=by rw[Nat.blt_eq]; exact h1
   rw[hb,cond_true]
   simp only[zri] at h2
   rw[h2]
set_option maxHeartbeats 4000000 in
theorem zEg {K:Xs} (hk:K 33=none) (hi:K 56=some (.sum xIs)) (hs:K 57=some (.sum (xOf 90))):zod Tryz.prog K 33 (znv 90):=by
 refine zfv hk ?_
 intro args h v h' hwf hg
 have keep:∀(acc:List (Nat×Nat)) (h1:AH) (n:Nat),(∀x,x < h.next→h1.get x=h.get x)→∀b o,(zaD 90 acc h.tr n).2.get b=some o→(zaD 90 acc h1.tr n).2.get b=some o:=by
  intro acc h1 n hold b o hbo
  cases acc with
  | nil=>
    have:h.get b=some o:=hbo
    have hq:h1.get b=some o:=by rw[hold b (hwf b o this)]; exact this
    exact hq
  | cons x r=>
    simp only[zaD,AH.get,Tr.get_set] at hbo ⊢
    split at hbo
    ·rename_i he
     rw[if_pos he]
     exact hbo
    ·rename_i he
     rw[if_neg he]
     have hb2:h.get b=some o:=hbo
     have:=hold b (hwf b o hb2)
     have h3:h1.get b=some o:=by rw[this]; exact hb2
     exact h3
 have nx:∀(acc:List (Nat×Nat)) (t1 t2:Tr zb7) (n:Nat),(zaD 90 acc t1 n).2.next=(zaD 90 acc t2 n).2.next∧(zaD 90 acc t1 n).1=(zaD 90 acc t2 n).1:=by
  intro acc t1 t2 n
  cases acc <;> exact⟨rfl,rfl⟩
 have nle:∀(acc:List (Nat×Nat)) (t1:Tr zb7) (n:Nat),n≤(zaD 90 acc t1 n).2.next:=by
  intro acc t1 n
  cases acc with
  | nil=>exact Nat.le_refl _
  | cons x r=>simp only[zaD]; omega
 rw[zcR hk Tryz.func33 (c:=_) rfl]
 unfold znv at hg
 split at hg
 rotate_left
 ·simp at hg
 rename_i b off s
 split at hg
 rotate_left
 ·simp at hg
 rename_i cs el ro hb
 split at hg
 rotate_left
 ·simp at hg
 rename_i N hN
 obtain⟨hc,hg2⟩:=za5 hg
 clear hg
 simp only[Bool.and_eq_true,Nat.blt_eq] at hc
 have hle:=Nat.le_of_ble_eq_true hc.1
 have hbn:=hc.2
 split at hg2
 rotate_left
 ·simp at hg2
 rename_i acc hacc
 simp only[Option.some.injEq] at hg2
 have tail:∀(h1:AH) (Q:Value→AH→Prop),(∀n∈N,n < 1024)→N.length≤1024→h1.next=h.next+2 * N.length→(∀n,N.length=n+1→h1.get (h.next+2 * N.length - 1)=some (.cells (zri N) 3 false))→
  Q (zaD 90 acc h1.tr (h1.next+1)).1 (zaD 90 acc h1.tr (h1.next+1)).2→Wf Tryz.prog K 57 [zcs N.length (h.next+2 * N.length - 1)] h1 Q:=by
  intro h1 Q hall hl hn1 hblk hq
  refine zdS hs (v:=(zaD 90 acc h1.tr (h1.next+1)).1) (h':=(zaD 90 acc h1.tr (h1.next+1)).2) ?_ (by have:=nle acc h1.tr (h1.next+1); omega) hq
  cases hlen:N.length with
  | zero=>
    have:N=[]:=List.eq_nil_of_length_eq_zero hlen
    subst this
    rw[zkH (by simp) .nil] at hacc
    simp only[List.foldl_nil,Option.some.injEq] at hacc
    subst hacc
    rfl
  | succ n=>
    have hblk':=hblk n hlen
    rw[hlen] at hblk' hn1
    simp only[zcs,xOf,hblk']
    have hnl:(zri N).length=n+1:=by simp[zri,hlen]
    have htk:((zri N).drop 0).take (n+1)=zri N:=by rw[List.drop_zero,List.take_of_length_le (by omega)]
    rw[htk,ziB N (fun m hm=>by have:=hall m hm; omega)]
    have hcc:(Nat.ble (0+(n+1)) (zri N).length && Nat.blt (n+1) 9223372036854775807 && Nat.blt (h.next+2 * (n+1) - 1) h1.next)=true:=by
     rw[hnl]
     simp only[Bool.and_eq_true,Nat.blt_eq]
     exact⟨⟨Nat.ble_eq_true_of_le (by omega),by omega⟩,by omega⟩
    simp only[hcc,cond_true,hacc]
 simp[Tryz.f33,aOp,zap]
 refine zch (fun k e1 h1=>∃(i:Nat) (M:List Nat),i≤1024∧k=1024 - i∧zsU (((cs.drop off).take 1024).drop i) s i M=some N∧
  e1.get 0=some (.pointer (some ⟨b,off,none⟩))∧e1.get 1=some (.int .u8 s)∧e1.get 5=some (zcs M.length (h.next+2 * M.length - 1))∧e1.get 7=some (.int .i64 i)∧
  h1.next=h.next+2 * M.length∧(∀x,x < h.next→h1.get x=h.get x)∧(∀n,M.length=n+1→h1.get (h.next+2 * M.length - 1)=some (.cells (zri M) 3 false))∧(∀n∈M,n < i)∧M.length≤i) ?_ 1024 _ _
  ⟨0,[],Nat.zero_le _,rfl,hN,by simp,by simp,by simp[zcs],by simp,rfl,fun _ _=>rfl,fun n hn=>by simp at hn,by simp,Nat.le_refl _⟩
 rintro k e1 h1 ⟨i,M,hi1,rfl,hal,k0,k1,k5,k7,hn1,hold,hblk,hall,hml⟩
 by_cases hin:i < 1024
 ·have hi2:(i:Int) < 1024:=by omega
  obtain⟨x,hx,hr2⟩:∃x:Nat,cs[off+i]?= some (.int .u8 (.ofNat x))∧zsU (((cs.drop off).take 1024).drop (i+1)) s (i+1) (cond (Nat.beq x s) (M ++ [i]) M)=some N:=by
   have hlt:i < ((cs.drop off).take 1024).length:=by simp; omega
   rw[List.drop_eq_getElem_cons hlt] at hal
   unfold zsU at hal
   split at hal
   ·rename_i he; simp at he
   ·rename_i ss ii MM x rr he
    simp only[List.cons.injEq] at he
    obtain⟨he1,rfl⟩:=he
    refine⟨x,?_,hal⟩
    rw[←he1,List.getElem_take,List.getElem_drop,List.getElem?_eq_getElem]
   ·simp at hal
  have hb1:h1.get b=some (.cells cs el ro):=by rw[hold b hbn,hb]
  have hw:IntKind.i64.wrap ((i:Int)+1)=(i:Int)+1:=zbW (by omega) (by omega)
  have his:∀Q:Value→AH→Prop,Q (.bool (Nat.beq x s)) h1→Wf Tryz.prog K 56 [.pointer (some ⟨b,off,none⟩),.int .i64 (i:Int),.int .u8 (s:Int)] h1 Q:=fun Q hq=>by
   refine zdS hi (v:=.bool (Nat.beq x s)) (h':=h1) ?_ (Nat.le_refl _) hq
   have hbl:Nat.blt i 1024=true:=by rw[Nat.blt_eq]; exact hin
   show xIs [.pointer (some ⟨b,off,none⟩),.int .i64 (.ofNat i),.int .u8 (.ofNat s)] h1=_
   simp only[xIs,hb1,hx,hbl,cond_true]
  simp[aOp,zap,k0,k1,k7,hi2]
  refine his _ ?_
  cases hq:Nat.beq x s with
  | false=>
    rw[hq,cond_false] at hr2
    simp[aOp,zap,k7,hw]
    exact⟨1024 - (i+1),by omega,i+1,by omega,rfl,M,hr2,k0,k1,k5,rfl,hn1,hold,hblk,fun n hn=>by have:=hall n hn; omega,by omega⟩
  | true=>
    rw[hq,cond_true] at hr2
    cases hml2:M.length with
    | zero=>
      have:M=[]:=List.eq_nil_of_length_eq_zero hml2
      subst this
      simp only[List.length_nil,Nat.mul_zero,Nat.add_zero,zcs] at k5 hn1
      have hb3:=zDr h1 i
      have hb4:=zEe (h1.alloc (.cells [.int .i64 i] 3 false)) (.int .i64 i) h1.next (by simp)
      simp[aOp,zap,k5,k7,hw,hb3,hb4]
      exact⟨1024 - (i+1),by omega,i+1,by omega,rfl,[i],hr2,k0,k1,by simp[zcs,hn1],rfl,by simp[hn1],fun x hx=>by rw[if_neg (by omega),if_neg (by omega)]; exact hold x hx,fun n hn=>by rw[if_pos (by simp[hn1])]; rfl,by simp,by simp⟩
    | succ m=>
      simp only[hml2,zcs] at k5
      obtain⟨B,hB⟩:∃B,B=h.next+2 * (m+1) - 1:=⟨_,rfl⟩
      rw[←hB] at k5
      have hbk:=hblk m hml2
      rw[hml2,←hB] at hbk
      have hb3:=zDr h1 i
      have hb4:=zEf (h1.alloc (.cells [.int .i64 i] 3 false)) (.int .i64 i) h1.next B (m+1) (zri M) (by simp) (by rw[AH.get_alloc,if_neg (by omega)]; exact hbk) (by simp[zri,hml2]) (by omega) (by omega)
      simp[aOp,zap,k5,k7,hw,hb3,hb4]
      have hlen:(M ++ [i]).length=m+2:=by simp[hml2]
      refine⟨1024 - (i+1),by omega,i+1,by omega,rfl,M ++ [i],hr2,k0,k1,?_,rfl,?_,?_,?_,?_,?_⟩
      ·rw[hlen]
       simp only[zcs]
       rw[show h.next+2 * (m+2) - 1=h1.next+1 by omega]
      ·rw[hlen]
       omega
      ·intro x hx
       rw[if_neg (by omega),if_neg (by omega),if_neg (by omega)]
       exact hold x hx
      ·intro n hn
       rw[hlen,if_pos (by omega)]
       simp[zri]
      ·intro n hn
       rcases List.mem_append.1 hn with q | q
       ·have:=hall n q
        omega
       ·simp only[List.mem_singleton] at q
        omega
      ·rw[hlen]
       omega
 ·have hi2:¬((i:Int) < 1024):=by omega
  have hen:i=1024:=by omega
  subst hen
  have hd:((cs.drop off).take 1024).drop 1024=[]:=List.drop_of_length_le (by simp; omega)
  rw[hd] at hal
  simp only[zsU,Option.some.injEq] at hal
  subst hal
  simp[aOp,zap,k5,k7]
  refine tail h1 _ (fun n hn=>hall n hn) hml hn1 hblk ?_
  simp[aOp,zap,zbn,zbt]
  have e1:(zaD 90 acc h.tr (h.next+2 * M.length+1)).1=v:=by rw[hg2]
  have e2:(zaD 90 acc h.tr (h.next+2 * M.length+1)).2=h':=by rw[hg2]
  refine⟨?_,?_,?_⟩
  ·rw[hn1,←e1]
   exact (nx acc h1.tr h.tr _).2
  ·intro b' o' hb'
   rw[←e2] at hb'
   rw[hn1]
   exact keep acc h1 _ hold b' o' hb'
  ·rw[hn1,←e2]
   exact Nat.le_of_eq (nx acc h1.tr h.tr _).1
end Go.Am
