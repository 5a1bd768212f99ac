/-
  Texts of this proof, part 34. No condition.
-/
import Derived.Test.YtmnbboleclchcaaGreatFTcF
import Derived.Test.YtmnbboleclchcaaGreatRows
set_option linter.unusedVariables false
set_option linter.unusedSimpArgs false
set_option maxRecDepth 100000
namespace Go.Am
open Go.Proofs
section
variable {S:TY} {g:Int} {hp:AH}
theorem zht {h' : AH} {T b n c:Nat} {cs:List Value} (G:za1 hp.next h' T (sz cx0 T) b n c cs) (hv:zaw cx0 S (zaK cx0 T n) cs) (hn:n<=zcf) (kc:Bool) (hk:kc=true->c=n):
 ∃al,hp.next<=b/\b < h'.next/\h'.get b=some (.cells al T false)/\zaw cx0 S (zaK cx0 T n) al/\gam cx0 (zeH S b (false,T,zaK cx0 T n)) h' L0 hp.next (.sl true true kc T n) (.slice (some ⟨b,0,none⟩) n c):=by
 obtain⟨h1,h2,h3,h4,h5,rest,h6,h7⟩:=G
 refine⟨_,h2,h3,h6,λi t hi=>?_,?_⟩
 ·obtain⟨v,e,o⟩:=hv i t hi
  exact⟨v,by rw[QS (Qo.1 e).1]; exact e,o⟩
 ·simp only[gam]
  refine⟨hn,_,c,rfl,.inr ⟨b,0,false,T,zaK cx0 T n,rfl,if_pos rfl,λj hj=>by rw[Qq]; exact zbo hj,λ_=>rfl,λ_=>h2,.inl ⟨h5,h4,λq j hj=>by rw[Qq]; exact zbo (by rw[<-hk q]; exact hj)⟩⟩⟩
theorem zaW {T n:Nat} {cs:List Value} (h:∀j,j < n->∀i t,(cx0.fl T)[i]?= some t->∃x,cs[j * sz cx0 T+i]?= some x/\okC cx0 S t x):zaw cx0 S (zaK cx0 T n) cs:=λi t hi=>by
 unfold zaK at hi
 split at hi
 ·rename_i hlt
  have hp:0 < sz cx0 T:=by
   rcases QK (sz cx0 T) with z | z
   ·rw[z] at hlt; omega
   ·exact z
  have:=h (i / sz cx0 T) (Nat.div_lt_of_lt_mul (by rw[Nat.mul_comm]; exact hlt)) _ t hi
  rw[Nat.mul_comm,Nat.div_add_mod] at this
  exact this
 ·cases hi
theorem zoY (w:WT cx0 S g hp) {base n T:Nat} {wr fr kc:Bool} {v:Value} (s:SlV cx0 S base wr fr kc T n v) (h0:0 < sz cx0 T) {h' : AH} (o:Old hp h'):zi5 v=some n/\∃new,firstC h' (sz cx0 T) n v=some new/\new.length=n * sz cx0 T/\zaw cx0 S (zaK cx0 T n) new:=by
 obtain⟨p,c,cs,rfl,hp',hs,hc⟩:=zkK w s h0
 exact⟨rfl,cs,(hs.old o).firstC (hp'.elim .inl λ⟨b,off,_,_,_,h,_⟩=>.inr ⟨b,off,h⟩),hs.1,zaW hc⟩
end
theorem eU8:za5 Tryz.prog 34 5 1 1:=zaU (by kernel_rfl)
theorem sz5:sz cx0 5=1:=by unfold sz; rw[fl5]; rfl
theorem flS:cx0.fl 4000034=[4000034]:=by kernel_rfl
theorem ckS:ck cx0 4000034=.ss 5:=by kernel_rfl
theorem zer {S:TY} {l:List Value} {n:Nat} (hl:l.length=n) (hu:U8s l):zaw cx0 S (zaK cx0 5 n) l:=zaW λj hj i t hi=>by
 rw[fl5] at hi
 rw[sz5]
 match i,hi with
 | 0,hi=>
   cases hi
   exact⟨l[j],by rw[Qp,Nat.add_zero]; exact Qe (by omega),ok5.2 (hu _ (Qj _))⟩
theorem zxY (n:Nat):zaT .shr .i64 (n:Int) 8=some (.int .i64 ((n / 256:Nat):Int)):=by
 unfold zaT
 rw[if_neg (by omega)]
 have h1:min ((8:Int)).toNat (IntKind.bits .i64)=8:=by decide
 simp only[h1]
 congr 2
 rw[Int.fdiv_eq_ediv_of_nonneg _ (by decide)]
 omega
def zmu (f:Nat->Nat):Nat->Nat
 | 0=>0
 | j+1=>zmu f j+(2+f j)
theorem zsw {f:Nat->Nat}:∀{j:Nat},(∀i,i < j->f i<=65535)->zmu f j<=j * 65537
 | 0,_=>Qc _
 | j+1,h=>by
   have:=zsw (j:=j) λi hi=>h i (by omega)
   have:=h j (by omega)
   simp only[zmu]
   omega
theorem zvd (a b:Int) (ha:U8 (.int .u8 a)) (hb:U8 (.int .u8 b)):U8s [.int .u8 a,.int .u8 b]:=λv hv=>by
 simp only[Qz,List.not_mem_nil,or_false] at hv
 rcases hv with rfl | rfl <;> assumption
theorem ziG {i x:Int} (e:i=IntKind.wrap .u8 x):U8 (.int .u8 i):=by
 subst e
 exact⟨_,rfl,(zaQ .u8 x).1,(zaQ .u8 x).2⟩
theorem zmv {f:Nat->Nat} {i:Nat}:∀{j:Nat},i<=j->zmu f i<=zmu f j
 | 0,h=>by rw[Nat.le_zero.1 h]; exact Qc _
 | j+1,h=>by
   rcases QL j i with q | q
   ·rw[show i=j+1 by omega]; exact Qc _
   ·have:=zmv (f:=f) q
    simp only[zmu]
    omega
theorem v20:Vl 20 s20:=za0 λρ g Q H S hp vs hw hg=>by
 obtain⟨(n:Nat),_⟩:=ρ
 obtain⟨x,rfl,gx⟩:=zhe (a:=.sl false false false 4000034 n) hg
 simp only[gam] at gx
 obtain⟨hbig,H⟩:=H
 have bad:∀h',Old hp h'->Fin S g hp true Q (.tuple #[.slice none 0 0,.int .i64 21]) h':=λh' o=>za7 hw o (by simp only[gam,gams]; exact⟨_,rfl,rfl,⟨by decide,none,0,rfl,.inl ⟨rfl,rfl,rfl⟩⟩,⟨rfl,by decide,by decide⟩,trivial⟩) rfl (H 0 (Qf _) _ ⟨by decide,by decide⟩)
 obtain⟨p,c,cs,rfl,hp',hs,hc⟩:=zkK hw gx (by unfold sz; rw[flS]; decide)
 have hz:sz cx0 4000034=1:=by unfold sz; rw[flS]; rfl
 rw[hz] at hs hc
 have hf:∀j,∃m:Nat,j < n->m<=zbd/\∃x,cs[j]?= some x/\SlV cx0 S 0 false false false 5 m x:=λj=>by
  rcases QL j n with hj | hj
  ·obtain⟨x,e1,e2⟩:=hc j hj 0 _ (by rw[flS]; rfl)
   unfold okC at e2
   rw[ckS] at e2
   obtain⟨m,m1,m2⟩:=e2
   exact⟨m,λ_=>⟨m1,x,by simpa using e1,m2⟩⟩
  ·exact⟨0,λh=>absurd h (by omega)⟩
 obtain⟨f,hf⟩:=Q2 hf
 have at1:∀{j:Nat} {h' : AH},j < n->Old hp h'->∃b off,p=some ⟨b,off,none⟩/\∃p' c',ld1 h' b (off+j)=some (.slice p' (f j) c')/\SlV cx0 S 0 false false false 5 (f j) (.slice p' (f j) c'):=λ{j h'} hj o=>by
  obtain⟨b,off,e1,e2⟩:=(hs.old o).get hj
  obtain⟨-,x,e3,e4⟩:=hf j hj
  have e4':=e4
  obtain⟨-,p',c',rfl, -⟩:=e4
  exact⟨b,off,e1,p',c',e2.trans e3,e4'⟩
 refine zfK (xb rfl) _ _ _ _ _ ⟨λ_=>bad _ (Old.refl _),λhn=>⟨λi4 i5 k h=>∃j:Nat,i5=j/\j<=n/\i4=((2+zmu f j:Nat):Int)/\(∀i,i < j->f i<=65535)/\n - j=k/\h=hp,⟨_,0,rfl,Qf _,rfl,λi hi=>absurd hi (Nat.not_lt_zero _),rfl,rfl⟩,?_⟩⟩
 rintro k h i4 i5 ⟨j,rfl,hj,rfl,hle,rfl,rfl⟩
 have ht:=zsw hle
 refine⟨λz=>?_,λz=>?_⟩
 ·obtain⟨b,off,rfl,p',c',l1,l2⟩:=at1 (j:=j) (by omega) (Old.refl _)
  refine zaa ⟨by omega,z,_,_,_,by rw[Qi,Qp]; exact l1,λy=>bad _ (Old.refl _),λy i11 e11 i12 e12 i13 e13=>?_⟩
  have e11:=zaR e11 (by omega) (by omega)
  have e12:=zaR e12 (by omega) (by omega)
  have e13:=zaR e13 (by omega) (by omega)
  refine⟨_,by omega,j+1,by rw[e13]; rfl,by omega,by rw[e12,e11]; simp only[zmu]; omega,λi hi=>?_,rfl,rfl⟩
  rcases Nat.lt_succ_iff_lt_or_eq.1 hi with q | rfl
  ·exact hle i q
  ·omega
 obtain rfl:j=n:=by omega
 refine⟨⟨by omega,by omega,by omega,by omega⟩,λh14 e14 i15 e15=>⟨_,zxY _,λi17 e17 h18 e18=>?_⟩⟩
 have o14:=zab e14
 have n14:=zad e14
 have G0:za1 h.next h14 5 1 h.next 0 (2+zmu f j) []:=za1.make e14 (by rw[Qi]; simp) (by simp only[zai]; omega)
 obtain⟨h22,k22,G22,n22,f22⟩:=G0.push eU8 e18 (m:=2) rfl (by decide) (by omega)
 refine⟨_,_,_,h22,by rw[Qi]; exact k22,λp27 n28 c29 i30 k h1=>∃i:Nat,i30=i/\i<=j/\j - i=k/\p27=some ⟨h.next,0,none⟩/\c29=2+zmu f j/\Old h h1/\n28=2+zmu f i/\∃al,za1 h.next h1 5 1 h.next n28 (2+zmu f j) al/\zaw cx0 S (zaK cx0 5 n28) al,
  ⟨_,0,rfl,Qf _,rfl,rfl,rfl,⟨by omega,λb hb=>by rw[f22 b (by omega) (by omega),o14.2 b hb]⟩,rfl,_,G22,zer rfl (zvd _ _ (ziG e15) (ziG e17))⟩,?_⟩
 rintro k h1 p27 n28 c29 i30 ⟨i,rfl,hi,rfl,rfl,rfl,o1,rfl,al,G1,T1⟩
 refine⟨λz=>?_,λz=>?_⟩
 ·have hij:i < j:=by omega
  have hm:zmu f (i+1)<=zmu f j:=zmv hij
  simp only[zmu] at hm
  obtain⟨b,off,rfl,p',c',l1,l2⟩:=at1 hij o1
  refine zaa ⟨by omega,z,_,_,_,by rw[Qi,Qp]; exact l1,λi36 e36=>⟨_,zxY _,λi38 e38 h39 e39=>?_⟩⟩
  obtain⟨h43,k43,G43,n43,f43⟩:=G1.push eU8 e39 (m:=2) rfl (by decide) (by omega)
  have o43:Old h h43:=⟨by have:=o1.1; omega,λb hb=>by rw[f43 b (by have:=o1.1; omega) (by omega),o1.2 b hb]⟩
  obtain⟨q1,new,q2,q3,q4⟩:=zoY hw l2 (by rw[sz5]; decide) o43
  rw[sz5] at q2 q3
  obtain⟨h47,k47,G47,n47⟩:=G43.app eU8 q1 q2 q3 (by omega)
  refine⟨_,_,_,h43,k43,_,_,_,h47,k47,λi48 e48=>?_⟩
  have e48:=zaR e48 (by omega) (by omega)
  refine⟨j - (i+1),by omega,i+1,by rw[e48]; rfl,hij,rfl,rfl,rfl,o43.near n47 (Qc _),by simp only[zmu]; omega,_,G47,?_⟩
  have T2:=zer (S:=S) (n:=2) rfl (zvd _ _ (ziG e36) (ziG e38))
  have T3:=zaL (X:=cx0) (T:=5) (by rw[sz5]; exact G1.1) T1 T2
  exact zaL (X:=cx0) (T:=5) (by rw[sz5]; exact G43.1) T3 q4
 ·obtain rfl:i=j:=by omega
  obtain⟨al',g1,g2,g3,g4,g5⟩:=zht (by rw[sz5]; exact G1) T1 (by unfold zcf; omega) false (λq=>by cases q)
  refine zdE hw o1 g1 g2 g3 g4 (r:=.tup [.sl true true false 5 (2+zmu f i),.int .i64 0]) ?_ rfl (H _ (by omega) 0 ⟨by decide,by decide⟩)
  simp only[gam,gams] at g5 ⊢
  exact⟨_,rfl,rfl,g5,⟨rfl,by decide,by decide⟩,trivial⟩
theorem zkN:∀{k:Nat} {l:List Int},zy0 k l->l.length<=k
 | _,[],_=>Qf _
 | 0,_ :: _,h=>h.elim
 | k+1,_ :: _,h=>Nat.succ_le_succ (zkN h.2)
theorem zoZ:∀{k:Nat} {l:List Int},zy0 k l->∀x∈l,1<=x/\x<=8
 | _,[],_,_,h=>by cases h
 | 0,_ :: _,h,_,_=>h.elim
 | k+1,_ :: _,h,x,hx=>by
   rcases Qz.1 hx with rfl | hx
   ·exact h.1
   ·exact zoZ h.2 x hx
theorem zfL:∀{l:List Int} {j:Nat} (hj:j < l.length),zbP (l.take (j+1))=zbP (l.take j)+l[j]
 | x :: l,0,_=>by simp[zbP]
 | x :: l,j+1,hj=>by
   have:=zfL (l:=l) (j:=j) (by simpa using hj)
   simp only[List.take_succ_cons,zbP,List.getElem_cons_succ] at this ⊢
   omega
theorem zdF:∀{l:List Int} (j:Nat),(∀x∈l,1<=x/\x<=8)->0<=zbP (l.take j)/\zbP (l.take j)<=zbP l/\zbP l<=8 * l.length/\(l.length:Int)<=zbP l
 | [],j,_=>by simp[zbP]
 | x :: l,0,h=>by
   have:=zdF (l:=l) 0 λy hy=>h y (by simp[hy])
   have:=h x (by simp)
   simp only[List.take_zero,zbP,QF] at *
   omega
 | x :: l,j+1,h=>by
   have:=zdF (l:=l) j λy hy=>h y (by simp[hy])
   have:=h x (by simp)
   simp only[List.take_succ_cons,zbP,QF] at *
   omega
theorem zxZ {S:TY} {g:Int} {hp:AH} (w:WT cx0 S g hp) {base:Nat} {l:List Int} {v:Value} (h:gam cx0 S hp L0 base (.xs l) v):∃p c,v=.slice p l.length c/\zaF hp p l.length 1 (zh6 .i64 l):=by
 simp only[gam] at h
 obtain⟨h1,b,off,c,ro,e,cs,rfl,h2,h3,h4,h5⟩:=h
 refine⟨_,c,rfl,by simp[zh6],?_⟩
 rcases QK l.length with z | z
 ·exact .inl z
 obtain⟨m1,m2,al,r,m3,m4,m5⟩:=w.1 b _ _ _ h4
 have at1:∀i (hi:i < l.length),al[off+i]?= some (.int .i64 l[i]):=λi hi=>by
  obtain⟨e1,e2,e3⟩:=h5 i l[i] (Qe hi)
  obtain⟨v,v1,v2⟩:=m5 _ _ e1
  unfold okC at v2
  have hk:ck cx0 (2000000+l[i].toNat)=.int .i64 ((2000000+l[i].toNat - 2000000:Nat):Int) ((2000000+l[i].toNat - 2000000:Nat):Int):=by
   unfold ck
   have q1:Nat.beq (2000000+l[i].toNat) r4=false:=by
    cases hb:Nat.beq (2000000+l[i].toNat) r4 with
    | false=>rfl
    | true=>have:=Qb hb; unfold r4 at this; omega
   have q2:exK (2000000+l[i].toNat)=true:=by
    unfold exK
    simp only[Qd,Nat.ble_eq,Q3]
    omega
   rw[q1,q2]
   rfl
  rw[hk] at v2
  obtain⟨x,rfl,x1,x2⟩:=v2
  rw[v1]
  congr 2
  omega
 have hl:=(Qo.1 (at1 (l.length - 1) (by omega))).1
 refine .inr ⟨b,off,al,e,r,rfl,m1,m3,by omega,Jl λi=>?_⟩
 rw[Qp,Jh]
 split
 ·rename_i hi
  rw[QZ,at1 i hi]
  simp[zh6,hi]
 ·rename_i hi
  rw[List.getElem?_eq_none (by simp[zh6]; omega)]
theorem zgy {k:IntKind} {l:List Int} {i:Nat} (hi:i < l.length):(zh6 k l)[i]?= some (.int k l[i]):=by simp[zh6,hi]
theorem zx0 {hp:AH} {p:Option Addr} {c:Nat} {l:List Int} (hs:zaF hp p l.length 1 (zh6 .i64 l)) (hw:wok l):
 Wf Tryz.prog KB 39 [.slice p l.length c] hp λv h'=>v=.tuple #[.int .i64 (zbP l),.bool true]/\h'= hp:=by
 have hl:=zkN hw
 have ha:=zoZ hw
 refine zfJ (xb rfl) _ _ _ _ _ ⟨λi4 i5 k g=>∃j:Nat,i5=j/\i4=zbP (l.take j)/\j<=l.length/\l.length - j=k/\g=hp,⟨_,0,rfl,by simp[zbP],Qf _,rfl,rfl⟩,?_⟩
 rintro k _ i4 i5 ⟨j,rfl,rfl,hj,rfl,rfl⟩
 refine⟨λq=>?_,λq=>⟨by rw[Qw (by omega)],rfl⟩⟩
 have hj' : j < l.length:=by omega
 obtain⟨b,off,rfl,hld⟩:=hs.get hj'
 rw[zgy hj'] at hld
 have w1:=ha _ (Qj hj')
 have s1:=zfL hj'
 have s2:=zdF (j+1) ha
 have s3:=zdF j ha
 refine zaa ⟨by omega,q,_,by rw[Qi,Qp]; exact hld,λz=>absurd z (by omega),λ_=>⟨λz=>absurd z (by omega),λ_ i9 e9 i10 e10=>?_⟩⟩
 have e10:=zaR e10 (by omega) (by omega)
 have e9:=zaR e9 (by omega) (by omega)
 exact⟨_,by omega,j+1,by rw[e10]; rfl,by rw[e9,s1],hj',rfl,rfl⟩
theorem zBa {k:IntKind} {x s:Int} (h:0<=s):∃y,zaT .shr k x s=some (.int k y):=by
 unfold zaT
 rw[if_neg (by omega)]
 exact⟨_,rfl⟩
theorem v18:Vl 18 s18:=za0 λρ g Q H S hp vs hw hg=>by
 obtain⟨(l:List Int),(m:Nat),_⟩:=ρ
 obtain⟨x,y,rfl,gx,gy⟩:=zd5 (a:=.xs l) (b:=.sl false false false 62 m) hg
 obtain⟨p,c,rfl,sx⟩:=zxZ hw gx
 simp only[gam] at gy
 obtain⟨q,d,r,rfl,py,sy,hr,hb⟩:=zd8 hw gy zw8 zsn
 obtain⟨hwok,H⟩:=H
 have hl:=zkN hwok
 have ha:=zoZ hwok
 have bad:∀h',Old hp h'->Fin S g hp true Q (.tuple #[.slice none 0 0,.int .i64 21]) h':=λh' o=>za7 hw o (by simp only[gam,gams]; exact⟨_,rfl,rfl,⟨by decide,none,0,rfl,.inl ⟨rfl,rfl,rfl⟩⟩,⟨rfl,by decide,by decide⟩,trivial⟩) rfl (H 0 (Qf _) _ ⟨by decide,by decide⟩ λz=>absurd z (by decide))
 refine zg0 (xb rfl) _ _ _ _ _ _ _ _ ((zx0 sx hwok).mono ?_)
 rintro _ _ ⟨rfl,rfl⟩
 rename_i hp
 have full:=zdF l.length ha
 refine⟨_,.inl ⟨rfl,λhm=>⟨λi k h=>∃j:Nat,i=j/\j<=m/\m - j=k/\h=hp,⟨_,0,rfl,Qf _,rfl,rfl⟩,?_⟩,λ_=>bad _ (Old.refl _)⟩⟩
 obtain rfl:m=l.length:=by omega
 have atw:∀{j:Nat} {h' : AH},j < l.length->Old hp h'->∃b off,p=some ⟨b,off,none⟩/\∃w,1<=w/\w<=8/\ld1 h' b (off+j)=some (.int .i64 w)/\zbP (l.take (j+1))=zbP (l.take j)+w:=λ{j h'} hj o=>by
  obtain⟨b,off,e1,e2⟩:=(sx.old o).get hj
  rw[zgy hj] at e2
  have:=ha _ (Qj hj)
  exact⟨b,off,e1,_,this.1,this.2,e2,zfL hj⟩
 have atn:∀{j:Nat} {h' : AH},j < l.length->Old hp h'->∃b off,q=some ⟨b,off,none⟩/\∃w,ld1 h' b (off+j)=some (.int .u64 w):=λ{j h'} hj o=>by
  obtain⟨b,off,e1,e2⟩:=(sy.old o).get hj
  rw[zbn (by omega)] at e2
  exact⟨b,off,e1,_,e2⟩
 rintro k h i ⟨j,rfl,hj,rfl,rfl⟩
 refine⟨λz=>?_,λz=>?_⟩
 ·obtain⟨b,off,rfl,w,w1,w2,lw, -⟩:=atw (j:=j) (by omega) (Old.refl _)
  obtain⟨b2,off2,rfl,u,lu⟩:=atn (j:=j) (by omega) (Old.refl _)
  refine zaa ⟨by omega,z,_,by rw[Qi,Qp]; exact lu,zaa ⟨by omega,by omega,_,by rw[Qi,Qp]; exact lw,λi14 e14=>?_⟩⟩
  have e14:=zaR e14 (by omega) (by omega)
  obtain⟨y,ey⟩:=zBa (k:=.u64) (x:=u) (s:=i14) (by omega)
  refine⟨y,ey,λ_ i16 e16=>?_,λ_=>bad _ (Old.refl _)⟩
  have e16:=zaR e16 (by omega) (by omega)
  exact⟨_,by omega,j+1,by rw[e16]; rfl,by omega,rfl,rfl⟩
 obtain rfl:j=l.length:=by omega
 refine⟨⟨by omega,by omega,by omega,by omega⟩,λh17 e17=>?_⟩
 have o17:=zab e17
 have G0:za1 h.next h17 5 1 h.next 0 (zbP l).toNat []:=za1.make e17 (by simp) (by simp only[zai]; omega)
 refine⟨λp22 n23 c24 i25 k h1=>∃j:Nat,i25=j/\j<=l.length/\l.length - j=k/\p22=some ⟨h.next,0,none⟩/\c24=(zbP l).toNat/\Old h h1/\n23=(zbP (l.take j)).toNat/\∃al,za1 h.next h1 5 1 h.next n23 c24 al/\zaw cx0 S (zaK cx0 5 n23) al,
  ⟨_,0,rfl,Qf _,rfl,rfl,rfl,o17,by simp[zbP],_,G0,zer rfl λv hv=>by cases hv⟩,?_⟩
 rintro k h1 p22 n23 c24 i25 ⟨j,rfl,hj,rfl,rfl,rfl,o1,rfl,al,G1,T1⟩
 refine⟨λz=>?_,λz=>?_⟩
 ·have hj' : j < l.length:=by omega
  obtain⟨b,off,rfl,w,w1,w2,lw,sw⟩:=atw hj' o1
  obtain⟨b2,off2,rfl,u,lu⟩:=atn hj' o1
  have a1:=zdF j ha
  have a2:=zdF (j+1) ha
  refine zaa ⟨by omega,z,_,by rw[Qi,Qp]; exact lu,zaa ⟨by omega,z,_,by rw[Qi,Qp]; exact lw,?_⟩⟩
  refine⟨λp36 n37 c38 i39 k h2=>∃t:Nat,i39=t/\(t:Int)<=w/\w.toNat - t=k/\p36=some ⟨h.next,0,none⟩/\c38=(zbP l).toNat/\Old h h2/\n37=(zbP (l.take j)).toNat+t/\∃al,za1 h.next h2 5 1 h.next n37 c38 al/\zaw cx0 S (zaK cx0 5 n37) al,
   ⟨_,0,rfl,by omega,rfl,rfl,rfl,o1,rfl,_,G1,T1⟩,?_⟩
  rintro k h2 p36 n37 c38 i39 ⟨t,rfl,ht,rfl,rfl,rfl,o2,rfl,al2,G2,T2⟩
  refine⟨λz2 i40 e40=>?_,λz2 i49 e49=>?_⟩
  ·have e40:=zaR e40 (by omega) (by omega)
   obtain⟨y,ey⟩:=zBa (k:=.u64) (x:=u) (s:=i40) (by omega)
   refine⟨y,ey,λi42 e42 h43 e43=>?_⟩
   obtain⟨h47,k47,G47,n47,f47⟩:=G2.push eU8 e43 (m:=1) rfl (by decide) (by omega)
   refine⟨_,_,_,h47,k47,λi48 e48=>?_⟩
   have e48:=zaR e48 (by omega) (by omega)
   exact⟨w.toNat - (t+1),by omega,t+1,by rw[e48]; rfl,by omega,rfl,rfl,rfl,⟨by have:=o2.1; omega,λb hb=>by rw[f47 b (by have:=o2.1; omega) (by omega),o2.2 b hb]⟩,by omega,_,G47,
    zaL (X:=cx0) (T:=5) (by rw[sz5]; exact G2.1) T2 (zer rfl λv hv=>by rw[QC.1 hv]; exact ziG e42)⟩
  ·have e49:=zaR e49 (by omega) (by omega)
   have e3:(zbP (l.take j)).toNat+t=(zbP (l.take (j+1))).toNat:=by omega
   exact⟨l.length - (j+1),by omega,j+1,by rw[e49]; rfl,hj',rfl,rfl,rfl,o2,e3,_,G2,T2⟩
 ·obtain rfl:j=l.length:=by omega
  rw[List.take_length] at G1 T1 full ⊢
  obtain⟨al',g1,g2,g3,g4,g5⟩:=zht (by rw[sz5]; exact G1) T1 (by unfold zcf; omega) true (λ_=>rfl)
  refine zdE hw o1 g1 g2 g3 g4 (r:=.tup [.sl true true true 5 (zbP l).toNat,.int .i64 0]) ?_ rfl (H _ (by omega) 0 ⟨by decide,by decide⟩ λ_=>by omega)
  simp only[gam,gams] at g5 ⊢
  exact⟨_,rfl,rfl,g5,⟨rfl,by decide,by decide⟩,trivial⟩
theorem zy1:za5 Tryz.prog 70 62 1 8:=zaU (by kernel_rfl)
theorem zBb:sz cx0 62=1:=by unfold sz; rw[zw8]; rfl
theorem zut {S:TY} {i:Int} (h:InR .u64 i):okC cx0 S 62 (.int .u64 i):=by unfold okC; rw[zsn]; exact⟨i,rfl,h.1,h.2⟩
theorem ziH {S:TY} {T:Nat} {v:Value} (hf:cx0.fl T=[T]) (h:okC cx0 S T v):zaw cx0 S (zaK cx0 T 1) [v]:=zaW λj hj i t hi=>by
 rw[hf] at hi
 match j,i,hi with
 | 0,0,hi=>cases hi; exact⟨v,by simp,h⟩
theorem v24:Vl 24 s24:=za0 λρ g Q H S hp vs hw hg=>by
 obtain⟨(l:List Int),(m:Nat),_⟩:=ρ
 obtain⟨x,y,rfl,gx,gy⟩:=zd5 (a:=.xs l) (b:=.sl false false false 5 m) hg
 obtain⟨p,c,rfl,sx⟩:=zxZ hw gx
 simp only[gam] at gy
 have gy':=gy
 obtain⟨-,q,d,rfl, -⟩:=gy'
 obtain⟨hwok,H⟩:=H
 have hl:=zkN hwok
 have ha:=zoZ hwok
 have bad:∀h',Old hp h'->Fin S g hp true Q (.tuple #[.slice none 0 0,.int .i64 21]) h':=λh' o=>za7 hw o (by simp only[gam,gams]; exact⟨_,rfl,rfl,⟨by decide,none,0,rfl,.inl ⟨rfl,rfl,rfl⟩⟩,⟨rfl,by decide,by decide⟩,trivial⟩) rfl (H 0 (Qf _) _ ⟨by decide,by decide⟩ λz=>absurd z (by decide))
 refine zd7 (xb rfl) _ _ _ _ _ _ _ _ ((zx0 sx hwok).mono ?_)
 rintro _ h ⟨rfl,rfl⟩
 refine⟨_,.inl ⟨rfl,λhm=>⟨⟨by omega,by omega,by omega,by omega⟩,λh3 e3=>?_⟩,λ_=>bad _ (Old.refl _)⟩⟩
 have full:=zdF l.length ha
 rw[List.take_length] at full
 have o3:=zab e3
 have G0:za1 h.next h3 62 1 h.next 0 l.length []:=za1.make e3 (by simp) (by simp only[zai]; omega)
 refine⟨λp8 n9 c10 p11 n12 c13 i14 k h1=>∃j:Nat,i14=j/\j<=l.length/\l.length - j=k/\SlV cx0 S h.next false false false 5 n9 (.slice p8 n9 c10)/\(n9:Int)=zbP l - zbP (l.take j)/\p11=some ⟨h.next,0,none⟩/\n12=j/\c13=l.length/\Old h h1/\∃al,za1 h.next h1 62 1 h.next j l.length al/\zaw cx0 S (zaK cx0 62 j) al,
  ⟨_,0,rfl,Qf _,rfl,gy,by simp[zbP]; omega,rfl,rfl,by simp,o3,_,G0,zaW λj hj=>absurd hj (Nat.not_lt_zero _)⟩,?_⟩
 rintro k h1 p8 n9 c10 p11 _ c13 i14 ⟨j,rfl,hj,rfl,gs,hn,rfl,rfl,rfl,o1,al,G1,T1⟩
 rename_i j
 refine⟨λz=>?_,λz=>?_⟩
 ·have hj' : j < l.length:=by omega
  obtain⟨b,off,rfl,lw⟩:=(sx.old o1).get hj'
  rw[zgy hj'] at lw
  have hw':=ha _ (Qj hj')
  have sw:=zfL hj'
  have a2:=zdF (j+1) ha
  generalize l[j]=w at lw hw' sw
  refine zaa ⟨by omega,z,w,by rw[Qi,Qp]; exact lw,?_⟩
  refine⟨λi22 i23 k h2=>∃t:Nat,i23=t/\(t:Int)<=w/\w.toNat - t=k/\InR .u64 i22/\h2=h1,⟨_,0,rfl,by omega,rfl,⟨by decide,by decide⟩,rfl⟩,?_⟩
  rintro k h2 i22 i23 ⟨t,rfl,ht,rfl,hi,rfl⟩
  refine⟨λz2=>?_,λz2 h32 e32=>?_⟩
  ·have gs':=gs
   obtain⟨_,_,r,e, -,sr,hr,hb⟩:=zd8 hw gs' fl5 zxX
   cases e
   obtain⟨b2,off2,rfl,lr⟩:=(sr.old o1).get (i:=t) (by omega)
   rw[zbn (by omega)] at lr
   refine zaa ⟨by omega,by omega,_,by rw[Qi,Qp]; exact lr,λi27 e27 i28 e28=>?_⟩
   have e28:=zaR e28 (by omega) (by omega)
   refine⟨_,by unfold zaT; rw[if_neg (by omega)],_,rfl,λi31 e31=>?_⟩
   have e31:=zaR e31 (by omega) (by omega)
   exact⟨w.toNat - (t+1),by omega,t+1,by rw[e31]; rfl,by omega,rfl,zaQ _ _,rfl⟩
  ·obtain⟨h36,k36,G36,n36,f36⟩:=G1.push zy1 e32 (m:=1) rfl (by decide) (by omega)
   have o36:Old h h36:=⟨by have:=o1.1; omega,λb hb=>by rw[f36 b (by have:=o1.1; omega) (by omega),o1.2 b hb]⟩
   obtain⟨p',c',e',k'⟩:=zc5 (hw.old o36) gs zqc zw9 (lo:=some (.int .i64 w)) (hi':=none) (l:=w) (u:=(n9:Int)) (.inr ⟨_,rfl⟩) (.inl ⟨rfl,rfl⟩) (by omega) (by omega) (by omega)
   refine⟨_,_,_,h36,k36,_,_,_,e',λi40 e40=>?_⟩
   have e40:=zaR e40 (by omega) (by omega)
   exact⟨l.length - (j+1),by omega,j+1,by rw[e40]; rfl,hj',rfl,k',by omega,rfl,rfl,rfl,o36,_,G36,zaL (X:=cx0) (T:=62) (by rw[zBb]; exact G1.1) T1 (ziH zw8 (zut hi))⟩
 ·obtain rfl:j=l.length:=by omega
  obtain⟨al',g1,g2,g3,g4,g5⟩:=zht (by rw[zBb]; exact G1) T1 (by unfold zcf; omega) false (λq=>by cases q)
  refine zdE hw o1 g1 g2 g3 g4 (r:=.tup [.sl true true false 62 l.length,.int .i64 0]) ?_ rfl (H _ (by omega) 0 ⟨by decide,by decide⟩ λ_=>rfl)
  simp only[gam,gams] at g5 ⊢
  exact⟨_,rfl,rfl,g5,⟨rfl,by decide,by decide⟩,trivial⟩
def bks (b:Nat) (xs:List OX):List Nat:=b :: xs.flatMap λx=>[x.d,x.k]
theorem ziI {b q:Nat} {xs:List OX}:q∈bks b xs↔q=b\/∃x∈xs,q=x.d\/q=x.k:=by grind[bks]
noncomputable def zuu (h:AH) (B:List Nat) (q:Nat):Option (Bool×TypeId×(Nat->Option Nat)):=
 if q∈B then match h.get q with | some (.cells cs e false)=>some (false,e,zaK cx0 e (cs.length / sz cx0 e)) | _=>none else none
theorem znX {h:AH} {B:List Nat} {q n e:Nat} {cs:List Value} (hq:q∈B) (hg:h.get q=some (.cells cs e false)) (hl:cs.length=n * sz cx0 e) (h0:0 < sz cx0 e):zuu h B q=some (false,e,zaK cx0 e n):=by grind[zuu,Nat.mul_div_cancel]
theorem zDg:cx0.fl 57=[3,9,9,3,34,55]:=by kernel_rfl
theorem zy2:sz cx0 57=6:=by unfold sz; rfl
theorem sz4:sz cx0 4=1:=by unfold sz; rw[fl4]; rfl
theorem zBc:ck cx0 3=.int .i64 (kLo .i64) (kHi .i64):=by rfl
theorem ck9:ck cx0 9=.str:=by kernel_rfl
theorem znY:∀{xs:List OX} {j i:Nat} (hj:j < xs.length),i < 6->(xs.flatMap OX.row)[j * 6+i]?= xs[j].row[i]?
 | x :: xs,0,i,_,hi=>by grind[OX.row]
 | x :: xs,j+1,i,hj,hi=>by
   rw[List.flatMap_cons,Qu (by simp[OX.row]; omega)]
   have:=znY (xs:=xs) (j:=j) (i:=i) (by grind) hi
   rw[show (j+1) * 6+i - x.row.length=j * 6+i by grind[OX.row],this]
   rfl
theorem zuv {xs:List OX} {j:Nat} (hj:j < xs.length):((xs.flatMap OX.row).drop (j * 6)).take 6=xs[j].row:=by
 refine Jl λi=>?_
 grind[znY,OX.row]
theorem zgU.grow {lim b c:Nat} {h:AH} {xs:List OX} (R:zgU lim h b c xs):zby lim h 57 6 (some ⟨b,0,none⟩) xs.length c (xs.flatMap OX.row):=⟨zkz xs,.inr ⟨b,rfl,R.lo,R.hi,R.gb,R.c⟩⟩
theorem zgU.ops {lim b c:Nat} {h:AH} {xs:List OX} (R:zgU lim h b c xs) (hn:xs.length * 96<=reachBytes):Ops h (some ⟨b,0,none⟩) xs.length (xs.map OX.o):=
 ⟨.inr ⟨_,_,rfl⟩,by simp,hn,_,R.grow.shows,λi hi=>by
   have hi:i < xs.length:=by grind
   have A:=R.els _ (Qj hi)
   have a1:=A.dk
   have a2:=A.hi
   rw[zuv hi,List.getElem_map]
   exact⟨_,_,_,_,_,_,rfl,⟨.inr ⟨_,_,rfl⟩,rfl,A.l1,⟨by grind[zaD],.inr ⟨_,0,_,_,_,rfl,by omega,A.gd,by grind[zaD],by grind[zaD]⟩⟩,A.u⟩,⟨.inr ⟨_,_,rfl⟩,rfl,A.l2,⟨by grind[zem],.inr ⟨_,0,_,_,_,rfl,a2,A.gk,by grind[zem],by grind[zem]⟩⟩⟩,A.nm,A.to⟩⟩
section
variable {lim b c:Nat} {h:AH} {xs:List OX} (R:zgU lim h b c xs)
include R
theorem zgU.tb:zuu h (bks b xs) b=some (false,57,zaK cx0 57 xs.length):=znX (by grind[ziI]) R.gb (by rw[zkz,zy2]) (by grind[zy2])
theorem zgU.td {x:OX} (hx:x∈xs):zuu h (bks b xs) x.d=some (false,5,zaK cx0 5 x.o.data.length):=znX (by grind[ziI]) (R.els x hx).gd (by grind[zaD,sz5]) (by grind[sz5])
theorem zgU.tk {x:OX} (hx:x∈xs):zuu h (bks b xs) x.k=some (false,4,zaK cx0 4 x.o.keep.length):=znX (by grind[ziI]) (R.els x hx).gk (by grind[zem,sz4]) (by grind[sz4])
theorem zgU.bd {q:Nat} (hq:q∈bks b xs):lim<=q/\q < h.next:=by
 rcases ziI.1 hq with rfl | ⟨x,hx,e⟩
 ·exact⟨R.lo,R.hi⟩
 ·have A:=R.els x hx
  have a1:=A.lo
  have a2:=A.dk
  have a3:=A.hi
  omega
theorem zgU.typed {S:TY} (hS:S.ty=zuu h (bks b xs)) (ok:∀x∈xs,zfW x.o) {q:Nat} {ro:Bool} {e:TypeId} {cc:Nat->Option Nat} (hq:S.ty q=some (ro,e,cc)):(lim<=q/\q < h.next)/\∃cs r,h.get q=some (.cells cs e r)/\(ro=false->r=false)/\zaw cx0 S cc cs:=by
 rw[hS] at hq
 have hm:q∈bks b xs:=by grind[zuu]
 refine⟨R.bd hm,?_⟩
 rcases ziI.1 hm with rfl | ⟨x,hx,rfl | rfl⟩
 ·rw[R.tb] at hq
  cases hq
  refine⟨_,_,R.gb,λ_=>rfl,zaW λj hj i t hi=>?_⟩
  rw[zDg] at hi
  have hi6:i < 6:=(by grind)
  rw[zy2,znY hj hi6]
  have hx:xs[j]∈xs:=Qj hj
  generalize xs[j]=x at *
  have A:=R.els x hx
  have k:=ok x hx
  have e1:=k.lo
  have e2:=k.hi
  have e3:=k.nLo
  have e4:=k.nHi
  have oc:zai=18446744073709551616:=rfl
  have dl:=k.dataL
  have kl:=k.keepL
  match i,hi with
  | 0,hi=>exact⟨_,rfl,by grind[okC,zBc,kLo,kHi]⟩
  | 1,hi=>exact⟨_,rfl,by grind[okC,ck9,zfW.nameL,zbd]⟩
  | 2,hi=>exact⟨_,rfl,by grind[okC,ck9,zfW.toL,zbd]⟩
  | 3,hi=>exact⟨_,rfl,by grind[okC,zBc,kLo,kHi]⟩
  | 4,hi=>
    cases hi
    refine⟨_,rfl,?_⟩
    unfold okC
    refine⟨_,by grind[big],by grind[zcf],_,_,rfl,.inr ⟨_,_,_,_,_,rfl,by rw[hS]; exact R.td hx,by grind[zbo],nofun,nofun,?_⟩⟩
    rcases A.cd with z | z
    ·exact .inr ⟨z,rfl,by rfl⟩
    grind
  | 5,hi=>
    cases hi
    refine⟨_,rfl,?_⟩
    unfold okC
    refine⟨_,by grind[big],by grind[zcf],_,_,rfl,.inr ⟨_,_,_,_,_,rfl,by rw[hS]; exact R.tk hx,by grind[zbo],nofun,nofun,?_⟩⟩
    rcases A.ck with z | z
    ·exact .inr ⟨z,rfl,by rfl⟩
    grind
 ·rw[R.td hx] at hq
  cases hq
  exact⟨_,_,(R.els x hx).gd,λ_=>rfl,zer (zaD _ _) λv hv=>by
   obtain⟨y,hy,rfl⟩:=List.mem_map.1 hv
   have:=(R.els x hx).u y hy
   exact⟨_,rfl,by omega,by omega⟩⟩
 ·rw[R.tk hx] at hq
  cases hq
  refine⟨_,_,(R.els x hx).gk,λ_=>rfl,zaW λj hj i t hi=>?_⟩
  rw[fl4] at hi
  rw[sz4]
  match i,hi with
  | 0,hi=>
    rw[Qp,Nat.add_zero,zho,List.getElem?_map,Qe hj]
    exact⟨_,rfl,by grind[okC,ck4]⟩
end
abbrev zg2 (K:Xs) (Q:Value->AH->Prop) (i27:Int) (p24:Option Addr) (n25:Nat) (h19:AH) (h9999:AH):Prop:=
 (i27=0->zag p24 λb37 o38=>(((0:Int)<=0)/\((0:Int) < (n25:Int))/\
 (∃i39 i40 i41,ldN h19 b37 o38 3=some (qL i39 i40 i41)/\
 ((3=3)/\∃h42,stN h19 h9999.next 0 (qL i39 i40 i41)=some h42/\
 (∃i43 i44 i45,ldN h42 h9999.next 0 3=some (qL i43 i44 i45)/\
 (Q (.tuple #[.agg (qL i43 i44 i45).toArray,.int .i64 0]) h42))))))
theorem zmw {K:Xs} (hk:K 168=none) (a:Option Addr) (b:Option Addr) (d e:Nat) (f:Option Addr) (g i:Nat) (j:AH) (Q:Value->AH->Prop) (H:
 aL j [.int .i64 0,.int .u64 0,.int .u32 0] 96 λk=>Wt K 165 [(.int .i64 (d:Int))] k λl m=>
 (∃o,l=(.int .i64 o)/\
 ((o=0->(3=3)/\∃p,stN m j.next 0 [.int .i64 0,.int .u64 0,.int .u32 0]=some p/\
 (∃q r s,ldN p j.next 0 3=some (qL q r s)/\
 (Q (.tuple #[.agg (qL q r s).toArray,.int .i64 121]) p)))/\
 (¬o=0->((g:Int)=o->Wt K 212 [.pointer a,.slice b d e,.slice f g i] m λt u=>
 (∃v w x y,t=(.tuple #[.slice v w x,.int .i64 y])/\
 (∃z aa ab,zau Tryz.prog u 61 (.slice f g i) (some (.int .i64 (w:Int))) none none=some (.slice z aa ab)/\
 (∃ac:Option Addr->Nat->Nat->Option Addr->Nat->Nat->Int->Nat->AH->Prop,(∃n,ac z aa ab v w x y n u)/\
 ∀(ad:Nat) (ae:AH),∀(af:Option Addr) (ag:Nat) (ah:Nat),∀(ai:Option Addr) (aj:Nat) (ak:Nat),∀(al:Int),ac af ag ah ai aj ak al ad ae->
 (al=0->((1:Int) < (aj:Int)->Wt K 213 [.pointer a,.slice ai aj ak,.slice af ag ah] ae λam an=>
 (∃ao ap aq ar,am=(.tuple #[.slice ao ap aq,.int .i64 ar])/\
 (∃au av aw,zau Tryz.prog an 61 (.slice af ag ah) (some (.int .i64 (ap:Int))) none none=some (.slice au av aw)/\
 (∃ax,ax < ad/\ac au av aw ao ap aq ar ax an))))/\
 (¬(1:Int) < (aj:Int)->(zg2 K Q al ai aj ae j)/\
 (¬al=0->(3=3)/\∃ay,stN ae j.next 0 [.int .i64 0,.int .u64 0,.int .u32 0]=some ay/\
 (∃az a0 a1,ldN ay j.next 0 3=some (qL az a0 a1)/\
 (Q (.tuple #[.agg (qL az a0 a1).toArray,.int .i64 al]) ay)))))/\
 (¬al=0->(zg2 K Q al ai aj ae j)/\
 (¬al=0->(3=3)/\∃a2,stN ae j.next 0 [.int .i64 0,.int .u64 0,.int .u32 0]=some a2/\
 (∃a3 a4 a5,ldN a2 j.next 0 3=some (qL a3 a4 a5)/\
 (Q (.tuple #[.agg (qL a3 a4 a5).toArray,.int .i64 al]) a2))))))))/\
 (¬(g:Int)=o->(3=3)/\∃a6,stN m j.next 0 [.int .i64 0,.int .u64 0,.int .u32 0]=some a6/\
 (∃a7 a8 a9,ldN a6 j.next 0 3=some (qL a7 a8 a9)/\
 (Q (.tuple #[.agg (qL a7 a8 a9).toArray,.int .i64 121]) a6))))))):
 Wt K 168 [.pointer a,.slice b d e,.slice f g i] j Q:=
  zaj (hs:=[(6,[(2,.slice none 0 0),(9,.slice none 0 0),(10,.int .i64 0)])]) hk (Eq.mpr (by kernel_rfl) H)
theorem zfM {K:Xs} (hk:K 214=none) (a:Option Addr) (b d:Nat) (h:AH) (Q:Value->AH->Prop) (H:
 ∃e:Int->Int->Nat->AH->Prop,(∃n,e (-1) 0 n h)/\
 ∀(f:Nat) (g:AH),∀(i:Int),∀(j:Int),e i j f g->
 (j < (b:Int)->zag a λk l=>(0<=j/\j < (b:Int)/\
 (∃m o,ldN g k (l+j.toNat * 2) 2=some [.int .i64 m,.int .i64 o]/\
 (aL g [.int .i64 0,.int .i64 0] 294 λp=>(2=2)/\∃q,stN p g.next 0 [.int .i64 m,.int .i64 o]=some q/\
 (∃r s,ldN q g.next 0 2=some [.int .i64 r,.int .i64 s]/\
 (Wt K 241 [.agg #[.int .i64 r,.int .i64 s]] q λt u=>
 (((t=(.bool true)/\
 (lI u g.next 0 λv=>((v<=i->Q (.bool false) u)/\
 (¬v<=i->lI u g.next 0 λw=>(lI u g.next 1 λx=>(wI (w+x) λy=>wI (j+1) λz=>∃aa,aa < f/\e y z aa u))))))\/(t=(.bool false)/\
 (Q (.bool false) u))))))))))/\
 (¬j < (b:Int)->Q (.bool true) g)):
 Wt K 214 [.slice a b d] h Q:=
  zaj (hs:=[(3,[(3,.int .i64 0),(8,.int .i64 0)])]) hk (Eq.mpr (by kernel_rfl) H)
theorem zeP {K:Xs} (hk:K 241=none) (a:Int) (b:Int) (h:AH) (Q:Value->AH->Prop) (H:
 aL h [.int .i64 a,.int .i64 b] 294 λd=>lI d h.next 0 λe=>((0<=e->lI d h.next 0 λf=>((f < 4096->lI d h.next 1 λg=>((1<=g->lI d h.next 1 λi=>(lI d h.next 0 λj=>(wI (4096 - j) λk=>(i<=k->Q (.bool true) d)/\
 (¬i<=k->Q (.bool false) d))))/\
 (¬1<=g->Q (.bool false) d)))/\
 (¬f < 4096->Q (.bool false) d)))/\
 (¬0<=e->Q (.bool false) d))):
 Wt K 241 [.agg #[.int .i64 a,.int .i64 b]] h Q:=
  zaj (hs:=[]) hk (Eq.mpr (by kernel_rfl) H)
theorem zkO {K:Xs} (hk:K 196=none) (a:Option Addr) (b d:Nat) (h:AH) (Q:Value->AH->Prop) (H:
 Wt K 214 [.slice a b d] h λe f=>
 (((e=(.bool true)/\
 (∃g:Int->Int->Nat->AH->Prop,(∃n,g 0 0 n f)/\
 ∀(i:Nat) (j:AH),∀(k:Int),∀(l:Int),g k l i j->
 (l < (b:Int)->zag a λm o=>(0<=l/\l < (b:Int)/\
 (∃p q,ldN j m (o+l.toNat * 2) 2=some [.int .i64 p,.int .i64 q]/\
 (aL j [.int .i64 0,.int .i64 0] 294 λr=>(2=2)/\∃s,stN r j.next 0 [.int .i64 p,.int .i64 q]=some s/\
 (lI s j.next 1 λt=>(wI (k+t) λu=>wI (l+1) λv=>∃w,w < i/\g u v w s))))))/\
 (¬l < (b:Int)->Q (.int .i64 k) j)))\/(e=(.bool false)/\
 (Q (.int .i64 0) f))))):
 Wt K 196 [.slice a b d] h Q:=
  zaj (hs:=[(5,[(3,.int .i64 0),(11,.int .i64 0)])]) hk (Eq.mpr (by kernel_rfl) H)
theorem ziJ {K:Xs} (hk:K 59=none) (a:Option Addr) (b d:Nat) (e:Int) (h:AH) (Q:Value->AH->Prop) (H:
 ∃f:Int->Nat->AH->Prop,(∃n,f 0 n h)/\
 ∀(g:Nat) (i:AH),∀(j:Int),f j g i->
 (j < (b:Int)->zag a λk l=>(0<=j/\j < (b:Int)/\
 (lU i k (l+j.toNat * 11) λm=>((m=e->Q (.int .i64 j) i)/\
 (¬m=e->wI (j+1) λo=>∃p,p < g/\f o p i)))))/\
 (¬j < (b:Int)->Q (.int .i64 (-1)) i)):
 Wt K 59 [.slice a b d,.int .u64 e] h Q:=
  zaj (hs:=[(2,[(8,.int .i64 0)])]) hk (Eq.mpr (by kernel_rfl) H)
theorem zkP {K:Xs} (hk:K 61=none) (a:Option Addr) (b d:Nat) (e:Int) (h:AH) (Q:Value->AH->Prop) (H:
 Wt K 59 [.slice a b d,.int .u64 e] h λf g=>
 (∃i,f=(.int .i64 i)/\
 ((i < 0->Q (.tuple #[.slice none 0 0,.int .u64 0]) g)/\
 (¬i < 0->zag a λj k=>(0<=i/\i < (b:Int)/\
 (((ld1 g j ((k+i.toNat * 11)+2)=some (.bool true)/\
 (Q (.tuple #[.slice none 0 0,.int .u64 0]) g))\/(ld1 g j ((k+i.toNat * 11)+2)=some (.bool false)/\
 (zag a λl m=>(0<=i/\i < (b:Int)/\
 (lU g l ((m+i.toNat * 11)+4) λo=>(∃p:Option Addr->Nat->Nat->Int->Nat->AH->Prop,(∃n,p none 0 0 o n g)/\
 ∀(q:Nat) (r:AH),∀(s:Option Addr) (t:Nat) (u:Nat),∀(v:Int),p s t u v q r->
 (v=0->Q (.tuple #[.slice s t u,.int .u64 v]) r)/\
 (¬v=0->((t:Int) < 32->Wt K 59 [.slice a b d,.int .u64 v] r λw x=>
 (∃y,w=(.int .i64 y)/\
 ((y < 0->Q (.tuple #[.slice s t u,.int .u64 v]) x)/\
 (¬y < 0->zag a λz aa=>(0<=y/\y < (b:Int)/\
 (lU x z ((aa+y.toNat * 11)+3) λab=>((ab=e->aL x [.int .u64 v] 62 λac=>∃ad ae af ag,zak Tryz.prog ac .append #[70,70] [.slice s t u,(.slice (some ⟨x.next,0,none⟩) 1 1)]=some (.slice ad ae af,ag)/\
 (zag a λah ai=>(0<=y/\y < (b:Int)/\
 (lU ag ah ((ai+y.toNat * 11)+4) λaj=>(∃ak,ak < q/\p ad ae af aj ak ag)))))/\
 (¬ab=e->Q (.tuple #[.slice s t u,.int .u64 v]) x))))))))/\
 (¬(t:Int) < 32->Q (.tuple #[.slice s t u,.int .u64 v]) r)))))))))))))):
 Wt K 61 [.slice a b d,.int .u64 e] h Q:=
  zaj (hs:=[(6,[(7,.slice none 0 0),(8,.int .u64 0)])]) hk (Eq.mpr (by kernel_rfl) H)
theorem ziK {K:Xs} (hk:K 146=none) (a:Option Addr) (b d:Nat) (e:Int) (h:AH) (Q:Value->AH->Prop) (H:
 Wt K 61 [.slice a b d,.int .u64 e] h λf g=>
 (∃i j k l,f=(.tuple #[.slice i j k,.int .u64 l])/\
 (Q (.slice i j k) g))):
 Wt K 146 [.slice a b d,.int .u64 e] h Q:=
  zaj (hs:=[]) hk (Eq.mpr (by kernel_rfl) H)
theorem zkQ {K:Xs} (hk:K 148=none) (a:Option Addr) (b d:Nat) (e:Int) (h:AH) (Q:Value->AH->Prop) (H:
 aL h [.int .u64 e] 62 λf=>Wt K 204 [.slice a b d,(.func (.func 205) #[] #[(.pointer (some ⟨h.next,0,none⟩))])] f λg i=>
 (∃j,g=(.int .i64 j)/\
 (Q (.int .i64 j) i))):
 Wt K 148 [.slice a b d,.int .u64 e] h Q:=
  zaj (hs:=[]) hk (Eq.mpr (by kernel_rfl) H)
theorem ziL {K:Xs} (hk:K 205=none) (a:Int) (b:ByteArray) (d:Bool) (e:Int) (f:Int) (g:Int) (i:Int) (j:Int) (k:Int) (l:Int) (m:Option Addr) (n o:Nat) (p:Option Addr) (h:AH) (Q:Value->AH->Prop) (H:
 aL h (sC a b d e f g i j k l m n o) 99 λq=>lU q h.next 0 λr=>(zag p λs t=>(lU q s t λu=>((r=u->Q (.bool true) q)/\
 (¬r=u->Q (.bool false) q))))):
 Wt K 205 [.agg (sC a b d e f g i j k l m n o).toArray,.pointer p] h Q:=
  zaj (hs:=[]) hk (Eq.mpr (by kernel_rfl) H)
theorem zbS {K:Xs} (hk:K 204=none) (a:Option Addr) (b d:Nat) (e:Option Addr) (h:AH) (Q:Value->AH->Prop) (H:
 ∃f:Int->Nat->AH->Prop,(∃n,f 0 n h)/\
 ∀(g:Nat) (i:AH),∀(j:Int),f j g i->
 (j < (b:Int)->zag a λk l=>(0<=j/\j < (b:Int)/\
 (∃m o p q r s t u v w x y z,ldN i k (l+j.toNat * 11) 11=some (sC m o p q r s t u v w x y z)/\
 (Wt K 205 [.agg (sC m o p q r s t u v w x y z).toArray,.pointer e] i λaa ab=>
 (((aa=(.bool true)/\
 (Q (.int .i64 j) ab))\/(aa=(.bool false)/\
 (wI (j+1) λac=>∃ad,ad < g/\f ac ad ab))))))))/\
 (¬j < (b:Int)->Q (.int .i64 (-1)) i)):
 Wt K 204 [.slice a b d,(.func (.func 205) #[] #[.pointer e])] h Q:=
  zaj (hs:=[(2,[(8,.int .i64 0)])]) hk (Eq.mpr (by kernel_rfl) H)
end Go.Am
