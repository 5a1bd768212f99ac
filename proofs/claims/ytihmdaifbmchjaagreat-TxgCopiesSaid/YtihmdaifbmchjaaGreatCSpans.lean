/-
  THE SPANS OF A SET OF BITS in this program: what is told of them is what the program does.
-/
import Derived.Test.YtihmdaifbmchjaaGreatAmF
import Derived.Test.YtihmdaifbmchjaaGreatPFacts
set_option linter.unusedVariables false
set_option linter.unusedSimpArgs false
set_option maxRecDepth 100000
namespace Go.Am
open Go.Proofs
theorem zz7:zan Tryz.prog 90=some [.int .i64 0,.int .i64 0]:=by kernel_rfl
theorem zz8 (x y:Int):za1 Tryz.prog 90 #[(0,.int .i64 x),(1,.int .i64 y)]=some (.agg #[.int .i64 x,.int .i64 y]):=by
 simp[za1,zeM,zz7,Instr.fill,Value.cells]
theorem zyv:∃i z,Tryz.prog.info? 90=some i∧i.size=2∧i.zero=some z∧z.cells.size=2∧i.bytes=16:=⟨_,_,zz6,rfl,rfl,rfl,rfl⟩
theorem zz9 (h:AH) (x y:Value) (hx:zby x=false):zay Tryz.prog h 34 1 #[(0,.agg #[x,y])]=some (.slice (some ⟨h.next,0,none⟩) 1 1,h.alloc (.cells [x,y] 90 false)):=by
 obtain⟨i,z,h1,h2,h3,h4,h5⟩:=zyv
 simp[zay,zeM,zz7,h1,h2,Instr.fill,Value.cells,zak]
theorem zCg (h:AH) (x y:Value) (hx:zby x=false) (b:Nat) (hb:h.get b=some (.cells [x,y] 90 false)):
 zaS Tryz.prog h 34 false (.slice none 0 0) (.slice (some ⟨b,0,none⟩) 1 1)=some (.slice (some ⟨h.next,0,none⟩) 1 zak,h.alloc (.cells [x,y] 90 false)):=by
 obtain⟨i,z,h1,h2,h3,h4,h5⟩:=zyv
 exact zij (by simp) h1 h3 (by omega) (by omega) (by simp[h2]) hb (by rw[h5]; decide)
theorem zCh (h:AH) (x y:Value) (b b0 m:Nat) (old:List Value) (hb:h.get b=some (.cells [x,y] 90 false)) (h0:h.get b0=some (.cells old 90 false)) (hl:old.length=2 * m) (hm:m≤10000) (hp:0 < m):
 zaS Tryz.prog h 34 false (.slice (some ⟨b0,0,none⟩) m zak) (.slice (some ⟨b,0,none⟩) 1 1)=some (.slice (some ⟨h.next,0,none⟩) (m+1) zak,(h.del b0).alloc (.cells (old ++ [x,y]) 90 false)):=by
 obtain⟨i,z,h1,h2,h3,h4,h5⟩:=zyv
 exact zgP (by simp) h1 h3 (by omega) (by omega) (by simp[h2]) hb (by rw[h5]; simp[zaE]; omega) h0 (by rw[hl,h2]; omega) (by omega) hp
set_option maxHeartbeats 4000000 in
theorem zAa {K:Xs} (hk:K 82=none):zod Tryz.prog K 82 (zeG 90):=by
 refine zfv hk ?_
 intro args h v h' hwf hg
 unfold zeG at hg
 split at hg
 rotate_left
 ·simp at hg
 rename_i b off
 split at hg
 rotate_left
 ·simp at hg
 rename_i cs el ro hb
 split at hg
 rotate_left
 ·simp at hg
 rename_i acc hacc
 obtain⟨hc,hg2⟩:=za5 hg
 clear hg
 simp only[Bool.and_eq_true] at hc
 have hoff:=Nat.eq_of_beq_eq_true hc.1.1
 have hle:=Nat.le_of_ble_eq_true hc.1.2
 have hbn:=hc.2
 rw[Nat.blt_eq] at hbn
 subst hoff
 simp only[List.drop_zero] at hacc
 rw[zcR hk Tryz.func82 (c:=_) rfl]
 simp[Tryz.f82,aOp,zap]
 refine zch (fun k e1 h1=>∃(i:Nat) (acc1:List (Nat×Nat)),i≤4096∧k=4096 - i∧zbU ((cs.take 4096).drop i) i acc1=some acc∧e1.get 7=some (.pointer (some ⟨b,0,none⟩))∧e1.get 8=some (.int .i64 i)∧
  e1.get 3=some (zcs acc1.length (h.next+2 * acc1.length - 1))∧h1.next=h.next+2 * acc1.length∧(∀x,x < h.next→h1.get x=h.get x)∧
  (∀s l r,acc1=(s,l) :: r→h1.get (h.next+2 * r.length+1)=some (.cells (zeV acc1) 90 false)∧s+l≤i)∧acc1.length≤i) ?_ 4096 _ _
  ⟨0,[],Nat.zero_le _,rfl,hacc,by simp,by simp,by simp[zcs],rfl,fun _ _=>rfl,fun s l r he=>by simp at he,Nat.le_refl _⟩
 rintro k e1 h1 ⟨i,acc1,hi,rfl,hsp,k7,k8,k3,hnx,hold,hblk,hlen⟩
 by_cases hin:i < 4096
 ·have hi2:(i:Int) < 4096:=by omega
  obtain⟨bb,hbb,hrest⟩:∃bb:Bool,cs[i]?= some (.bool bb)∧zbU ((cs.take 4096).drop (i+1)) (i+1) (cond bb (zaY acc1 i) acc1)=some acc:=by
   have hlt:i < (cs.take 4096).length:=by simp; omega
   rw[List.drop_eq_getElem_cons hlt] at hsp
   unfold zbU at hsp
   split at hsp
   ·rename_i he; simp at he
   ·rename_i nn aa bb rr he
    simp only[List.cons.injEq] at he
    obtain⟨he1,rfl⟩:=he
    refine⟨bb,?_,hsp⟩
    rw[←he1,List.getElem_take]
    rw[List.getElem?_eq_getElem]
   ·simp at hsp
  have hw:IntKind.i64.wrap ((i:Int)+1)=((i+1:Nat):Int):=by
   rw[zbW (by omega) (by omega)]
   rfl
  have hb1:h1.get b=some (.cells cs el ro):=by rw[hold b hbn,hb]
  have hcb:zdb cs i=some (.bool bb):=hbb
  simp[aOp,zap,k7,k8,hi2]
  refine Eq.mpr (znW (ord:=[0,1,2,3,4,5]) (by kernel_rfl)) ?_
  cases bb with
  | false=>
    simp[aOp,zap,k7,k8,hi2,hb1,hcb,aUn,hw]
    exact⟨4096 - (i+1),by omega,i+1,by omega,rfl,acc1,hrest,rfl,k3,hnx,hold,fun s l r he=>⟨(hblk s l r he).1,by have:=(hblk s l r he).2; omega⟩,by omega⟩
  | true=>
    have hm1:IntKind.i64.wrap (-1)= -1:=by decide
    cases acc1 with
    | nil=>
      simp only[List.length_nil,Nat.mul_zero,Nat.add_zero,zcs] at k3 hnx
      simp[aOp,zap,k7,k8,k3,hi2,hb1,hcb,aUn,zlz,hm1]
      refine Eq.mpr (znW (ord:=[0,1,2,3,4,5,6,7,8,9,10,11,12,13,14,15,16]) (by kernel_rfl)) ?_
      refine zwP (fun e2=>e2.get 3=some (.slice none 0 0)∧e2.get 4=some (.int .i64 i)∧e2.get 6=some (.int .i64 (-1))∧e2.get 7=some (.pointer (some ⟨b,0,none⟩))∧e2.get 8=some (.int .i64 i)) (by simp[k3,k7,k8]) ?_
      rintro e2 ⟨m3,m4,m6,m7,m8⟩
      have hb2:za1 Tryz.prog 90 #[(0,.int .i64 (i:Int)),(1,.int .i64 1)]=some (.agg #[.int .i64 i,.int .i64 1]):=zz8 i 1
      have hb3:=zz9 h1 (.int .i64 i) (.int .i64 1) rfl
      have hb4:=zCg (h1.alloc (.cells [.int .i64 i,.int .i64 1] 90 false)) (.int .i64 i) (.int .i64 1) rfl h1.next (by simp)
      simp (maxSteps:=3000000) [aOp,zap,m3,m4,m6,m7,m8,hb2,hb3,hb4,hw]
      refine⟨4096 - (i+1),by omega,i+1,by omega,rfl,[(i,1)],hrest,rfl,by simp[zcs,hnx],by simp[hnx],fun x hx=>by rw[if_neg (by omega),if_neg (by omega)]; exact hold x hx,?_,by simp⟩
      intro s l r he
      simp only[List.cons.injEq,Prod.mk.injEq] at he
      obtain⟨⟨rfl,rfl⟩,rfl⟩:=he
      rw[if_pos (by simp[hnx])]
      exact⟨rfl,by omega⟩
    | cons p r=>
      obtain⟨s,l⟩:=p
      obtain⟨hbk,hsl⟩:=hblk s l r rfl
      simp only[List.length_cons,zcs] at k3 hnx hlen
      obtain⟨B,hB⟩:∃B,B=h.next+2 * r.length+1:=⟨_,rfl⟩
      rw[show h.next+2 * (r.length+1) - 1=B by omega] at k3
      rw[←hB] at hbk
      have hw2:IntKind.i64.wrap (r.length:Int)=r.length:=zbW (by omega) (by omega)
      have hw3:IntKind.i64.wrap ((s:Int)+(l:Int))=(s:Int)+l:=zbW (by omega) (by omega)
      have hw4:IntKind.i64.wrap ((l:Int)+1)=(l:Int)+1:=zbW (by omega) (by omega)
      have hfl:=zcT ((s,l) :: r)
      simp only[List.length_cons] at hfl
      simp[aOp,zap,k7,k8,k3,hi2,hb1,hcb,aUn,hw2]
      refine Eq.mpr (znW (ord:=[0,1,2,3,4,5,6,7,8,9,10,11,12,13,14,15,16]) (by kernel_rfl)) ?_
      refine zwP (fun e2=>e2.get 3=some (.slice (some ⟨B,0,none⟩) (r.length+1) zak)∧e2.get 4=some (.int .i64 i)∧e2.get 6=some (.int .i64 r.length)∧e2.get 7=some (.pointer (some ⟨b,0,none⟩))∧e2.get 8=some (.int .i64 i)) (by simp[k3,k7,k8]) ?_
      rintro e2 ⟨m3,m4,m6,m7,m8⟩
      have hlt:(r.length:Int) < (r.length:Int)+1:=by omega
      by_cases hse:s+l=i
      ·have hse2:(s:Int)+l=i:=by omega
       have hwi:IntKind.i64.wrap (i:Int)=i:=zbW (by omega) (by omega)
       have hfs:(zeV ((s,l) :: r)).set (r.length * 2+1) (.int .i64 ((l:Int)+1))=zeV ((s,l+1) :: r):=zvI s l (l+1) r
       have hl2:r.length * 2+1 < (zeV ((s,l) :: r)).length:=by omega
       have hs1:zaY ((s,l) :: r) i=(s,l+1) :: r:=by
        simp only[zaY]
        rw[zgV hse]
        rfl
       have hr2:zbU ((cs.take 4096).drop (i+1)) (i+1) ((s,l+1) :: r)=some acc:=by rw[←hs1]; exact hrest
       simp (maxSteps:=3000000) [aOp,zap,m3,m4,m6,m7,m8,hbk,zw1,zw2,hwi,hse2,hlt,hw4,hl2,hfs,hw]
       refine⟨4096 - (i+1),by omega,i+1,by omega,rfl,(s,l+1) :: r,hr2,rfl,?_,?_,?_,?_,?_⟩
       ·simp only[List.length_cons,zcs]
        rw[show h.next+2 * (r.length+1) - 1=B by omega]
       ·simp only[List.length_cons]
        omega
       ·intro x hx
        rw[if_neg (by omega)]
        exact hold x hx
       ·intro s' l' r' he
        simp only[List.cons.injEq,Prod.mk.injEq] at he
        obtain⟨⟨rfl,rfl⟩,rfl⟩:=he
        rw[if_pos (by omega)]
        exact⟨rfl,by omega⟩
       ·simp only[List.length_cons]
        omega
      ·have hse2:¬((s:Int)+l=i):=by omega
       have hb2:za1 Tryz.prog 90 #[(0,.int .i64 (i:Int)),(1,.int .i64 1)]=some (.agg #[.int .i64 i,.int .i64 1]):=zz8 i 1
       have hb3:=zz9 h1 (.int .i64 i) (.int .i64 1) rfl
       have hb4:=zCh (h1.alloc (.cells [.int .i64 i,.int .i64 1] 90 false)) (.int .i64 i) (.int .i64 1) h1.next B (r.length+1) (zeV ((s,l) :: r)) (by simp) (by rw[AH.get_alloc,if_neg (by omega)]; exact hbk) hfl (by omega) (by omega)
       have hs1:zaY ((s,l) :: r) i=(i,1) :: (s,l) :: r:=by
        simp only[zaY]
        rw[zb6 hse]
        rfl
       have hr2:zbU ((cs.take 4096).drop (i+1)) (i+1) ((i,1) :: (s,l) :: r)=some acc:=by rw[←hs1]; exact hrest
       simp (maxSteps:=3000000) [aOp,zap,m3,m4,m6,m7,m8,hbk,zw1,zw2,hw3,hse2,hlt,hb2,hb3,hb4,hw]
       refine⟨4096 - (i+1),by omega,i+1,by omega,rfl,(i,1) :: (s,l) :: r,hr2,rfl,?_,?_,?_,?_,?_⟩
       ·simp only[List.length_cons,zcs]
        rw[show h.next+2 * (r.length+1+1) - 1=h1.next+1 by omega]
       ·simp only[List.length_cons]
        omega
       ·intro x hx
        repeat rw[if_neg (by omega)]
        exact hold x hx
       ·intro s' l' r' he
        simp only[List.cons.injEq,Prod.mk.injEq] at he
        obtain⟨⟨rfl,rfl⟩,rfl⟩:=he
        simp only[List.length_cons]
        rw[if_pos (by omega)]
        exact⟨rfl,by omega⟩
       ·simp only[List.length_cons]
        omega
 ·have hi2:¬((i:Int) < 4096):=by omega
  have hen:i=4096:=by omega
  subst hen
  have hd:(cs.take 4096).drop 4096=[]:=List.drop_of_length_le (by simp; omega)
  rw[hd] at hsp
  simp only[zbU,Option.some.injEq] at hsp
  subst hsp
  simp[aOp,zap,k8,k3,zbn,zbt]
  cases acc1 with
  | nil=>
    simp only[Option.some.injEq,Prod.mk.injEq] at hg2
    obtain⟨rfl,rfl⟩:=hg2
    exact⟨rfl,fun b o hbo=>by rw[hold b (hwf b o hbo)]; exact hbo,by simp only[List.length_nil] at hnx; omega⟩
  | cons p r=>
    obtain⟨s,l⟩:=p
    simp only[Option.some.injEq,Prod.mk.injEq] at hg2
    obtain⟨rfl,rfl⟩:=hg2
    simp only[List.length_cons] at hnx
    refine⟨?_,fun b o hbo=>?_,by simp only; omega⟩
    ·simp only[List.length_cons,zcs]
     rw[show h.next+2 * (r.length+1) - 1=h.next+2 * r.length+1 by omega]
    ·simp only[AH.get,Tr.get_set] at hbo
     split at hbo
     ·rename_i hbe
      rw[hbe,←hbo]
      exact (hblk s l r rfl).1
     ·rw[hold b (hwf b o hbo)]
      exact hbo
end Go.Am
