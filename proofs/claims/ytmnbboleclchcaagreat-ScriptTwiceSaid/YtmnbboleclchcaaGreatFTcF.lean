/-
  Texts of this proof, part 33. No condition.
-/
import Derived.Test.YtmnbboleclchcaaGreatFVMix
set_option linter.unusedVariables false
set_option linter.unusedSimpArgs false
set_option maxRecDepth 100000
namespace Go.Am
open Go.Proofs
section
variable {S:TY} {g:Int} {hp:AH}
theorem zjw (w:WT cx0 S g hp) {base n T:Nat} {wr fr kc:Bool} {v:Value} (s:SlV cx0 S base wr fr kc T n v) (h0:0 < sz cx0 T):
 ∃p c cs,v=.slice p n c/\(p=none\/∃b off ro e cc,p=some ⟨b,off,none⟩/\S.ty b=some (ro,e,cc)/\b < hp.next/\¬S.dv b/\(wr=true->ro=false))/\zaz hp p n (sz cx0 T) cs/\
  ∀j,j < n->∀i t,(cx0.fl T)[i]?= some t->∃x,cs[j * sz cx0 T+i]?= some x/\okC cx0 S t x:=by
 obtain⟨hn,p,c,rfl,k⟩:=s
 rcases k with ⟨rfl,rfl,rfl⟩ | ⟨b,off,ro,e,cc,rfl,k1,k2,k3,k4,k5⟩
 ·exact⟨none,0,[],rfl,.inl rfl,⟨by simp,.inl rfl⟩,by omega⟩
 ·obtain⟨m1,m2,al,r,m3,m4,m5⟩:=w.1 b _ _ _ k1
  have at1:∀j,j < n->∀i t,(cx0.fl T)[i]?= some t->∃x,al[off+j * sz cx0 T+i]?= some x/\okC cx0 S t x:=λj hj i t hi=>m5 _ _ (k2 j hj i t hi)
  have hlen:n=0\/off+n * sz cx0 T<=al.length:=by
   rcases QW n with z | z
   ·omega
   ·obtain⟨x,hx, -⟩:=at1 (n - 1) (by omega) (sz cx0 T - 1) _ (Qe (l:=cx0.fl T) (i:=sz cx0 T - 1) (by grind[sz]))
    have:=(Qo.1 hx).1
    have e1:n * sz cx0 T=(n - 1) * sz cx0 T+sz cx0 T:=by rw[<-Nat.succ_mul]; grind
    omega
  refine⟨_,c,(al.drop off).take (n * sz cx0 T),rfl,by grind,⟨?_,?_⟩,λj hj i t hi=>?_⟩
  ·grind
  ·grind
  ·obtain⟨x,hx,ho⟩:=at1 j hj i t hi
   have e1:j * sz cx0 T+sz cx0 T<=n * sz cx0 T:=by rw[<-Nat.succ_mul]; exact Qt _ hj
   grind[sz]
theorem zn0 (w:WT cx0 S g hp) {base n T:Nat} {wr fr kc:Bool} {v:Value} (s:SlV cx0 S base wr fr kc T n v) {k:IntKind} {lo hi:Int} (hf:cx0.fl T=[T]) (hc:ck cx0 T=.int k lo hi):
 ∃p c l,v=.slice p n c/\(p=none\/∃b off ro e cc,p=some ⟨b,off,none⟩/\S.ty b=some (ro,e,cc)/\b < hp.next/\¬S.dv b/\(wr=true->ro=false))/\zaz hp p n 1 (zh9 k l)/\l.length=n/\∀x∈l,lo<=x/\x<=hi:=by
 have hz:sz cx0 T=1:=by grind[sz]
 obtain⟨p,c,cs,h1,h2,h3,h4⟩:=zjw w s (by omega)
 rw[hz] at h3 h4
 have h5:∀j,j < n->∃x:Int,cs[j]?= some (.int k x)/\lo<=x/\x<=hi:=λj hj=>by
  obtain⟨x,e1,e2⟩:=h4 j hj 0 T (by grind)
  grind[okC]
 have:∃l:List Int,cs=zh9 k l/\∀x∈l,lo<=x/\x<=hi:=by
  have hl:=h3.1
  clear h1 h2 h3 h4 s
  rw[Qp] at hl
  subst hl
  induction cs with
  | nil=>exact⟨[],rfl,by simp⟩
  | cons a cs ih=>
    obtain⟨l,q1,q2⟩:=ih λj hj=>by simpa using h5 (j+1) (by grind)
    obtain⟨x,e1,e2⟩:=h5 0 (by simp)
    cases e1
    exact⟨x :: l,by rw[q1]; rfl,by grind⟩
 obtain⟨l,rfl,q⟩:=this
 exact⟨p,c,l,h1,h2,h3,by have:=h3.1; grind[zh9],q⟩
theorem zsv {k:IntKind}:∀{l:List Int},(∀x∈l,0<=x)->zh9 k l=za7 k (l.map Int.toNat)
 | [],_=>rfl
 | x :: l,h=>by
   have h1:=h x (by simp)
   have h2:=zsv (k:=k) (l:=l) λy hy=>h y (by grind)
   grind[zh9,za7]
theorem zef (w:WT cx0 S g hp) {base n T:Nat} {wr fr kc:Bool} {v:Value} (s:SlV cx0 S base wr fr kc T n v) {k:IntKind} {hi:Nat} (hf:cx0.fl T=[T]) (hc:ck cx0 T=.int k 0 hi):
 ∃p c l,v=.slice p n c/\(p=none\/∃b off ro e cc,p=some ⟨b,off,none⟩/\S.ty b=some (ro,e,cc)/\b < hp.next/\¬S.dv b/\(wr=true->ro=false))/\zaz hp p n 1 (za7 k l)/\l.length=n/\∀x∈l,x<=hi:=by grind[zn0,zsv]
end
theorem fl5:cx0.fl 5=[5]:=by kernel_rfl
theorem zx8:ck cx0 5=.int .u8 0 (255:Nat):=by rfl
theorem zxg:cx0.fl 62=[62]:=by kernel_rfl
theorem zsw:ck cx0 62=.int .u64 0 (18446744073709551615:Nat):=by rfl
theorem zjX:∀data:List Nat,zaF (za7 .u8 data)=some (data.map UInt8.ofNat)
 | []=>rfl
 | x :: xs=>by
   show (zaF (za7 .u8 xs)).map (UInt8.ofNat ((x:Nat):Int).toNat :: ·)=_
   rw[zjX xs,Qh]
   rfl
theorem zsx {h:AH} {p:Option Addr} {n c:Nat} {data:List Nat} (S:zaz h p n 1 (za7 .u8 data)) (hp:p=none\/∃b off,p=some ⟨b,off,none⟩):zav Tryz.prog h 34 9 (.slice p n c)=some (.string ⟨(data.map UInt8.ofNat).toArray⟩,h):=by
 unfold zav
 rw[Tryz.underlying34,Tryz.underlying9]
 simp only[Tryz.underlying5,S.firstC hp,zjX]
theorem v26:Vl 26 s26:=zaY λρ g Q H S hp vs hw hg=>by
 obtain⟨(n:Nat),(m:Nat),_⟩:=ρ
 obtain⟨x,y,rfl,gx,gy⟩:=zec (a:=.sl false false false 5 n) (b:=.sl false false false 5 m) hg
 obtain⟨p,c,l,rfl,px,sx, -⟩:=zef hw gx fl5 zx8
 obtain⟨q,d,r,rfl,py,sy, -⟩:=zef hw gy fl5 zx8
 have P:∀{p:Option Addr},(p=none\/∃b off ro e cc,p=some ⟨b,off,none⟩/\S.ty b=some (ro,e,cc)/\b < hp.next/\¬S.dv b/\(false=true->ro=false))->p=none\/∃b off,p=some ⟨b,off,none⟩:=by grind
 exact zeM (xb rfl) _ _ _ _ _ _ _ _ ⟨_,zsx sx (P px),_,zsx sy (P py),λ_=>za5 hw (Old.refl _) (zit _) rfl H.1,λ_=>za5 hw (Old.refl _) (zit _) rfl H.2⟩
theorem zc1 {S:TY} {g:Int} {hp:AH} (w:WT cx0 S g hp) {base n T st:Nat} {wr fr kc:Bool} {v:Value} (s:SlV cx0 S base wr fr kc T n v) (hu:und cx0 st=some (.slice T)) (hi:(inf cx0 T).isSome=true) {lo hi' : Option Value} {l u:Int} (hl:zp3 lo 0 l) (hh:zp3 hi' n u) (h1:0<=l) (h2:l<=u) (h3:u<=n):
 ∃p c,zay Tryz.prog hp st v lo hi' none=some (.slice p (u - l).toNat c)/\SlV cx0 S base wr fr kc T (u - l).toNat (.slice p (u - l).toNat c):=by
 obtain⟨x,e,k⟩:=zoR (σ:=⟨Tr.ofList [],[],g⟩) ziL hu hi (by grind[zcj,QG]) w s hl hh h1 h2 h3
 obtain⟨k1,p,c,rfl,k2⟩:=k
 exact⟨p,c,e,k1,p,c,rfl,k2⟩
theorem zqe:und cx0 34=some (.slice 5):=by rfl
theorem zxh:(inf cx0 5).isSome=true:=by kernel_rfl
theorem zz2 {x:Nat} (hx:x < 256):zaV .shl .i64 (x:Int) 8=some (.int .i64 ((256 * x:Nat):Int)):=by grind[zaV,IntKind.bits,zfq]
theorem zDw {a b:Nat} (ha:a < 256) (hb:b < 256):zgK .or .i64 (a:Int) ((256 * b:Nat):Int)=some (.int .i64 ((a+256 * b:Nat):Int)):=by
 unfold zgK
 have h1:BitVec.ofInt (IntKind.bits .i64) (a:Int)=BitVec.ofNat 64 a:=by rfl
 have h2:BitVec.ofInt (IntKind.bits .i64) ((256 * b:Nat):Int)=BitVec.ofNat 64 (256 * b):=by rfl
 have h3:(BitVec.ofNat 64 a ||| BitVec.ofNat 64 (256 * b)).toNat=a+256 * b:=by
  rw[BitVec.toNat_or,Jj,Jj,Q0 (by omega),Q0 (by omega)]
  rw[Nat.or_comm,show 256 * b=2 ^ 8 * b from rfl,<-Nat.two_pow_add_eq_or_of_lt (by omega),Nat.add_comm]
 grind[BitVec.toNat,zfq]
theorem v41:Vl 41 s41:=zaY λρ g Q H S hp vs hw hg=>by
 obtain⟨(n:Nat),_⟩:=ρ
 obtain⟨x,rfl,gx⟩:=zgy (a:=.sl false false false 5 n) hg
 have gx':=gx
 obtain⟨p,c,l,rfl,px,sx,hl,hb⟩:=zef hw gx fl5 zx8
 obtain⟨hbig,H0,H1⟩:=H
 refine zcF (xb rfl) _ _ _ _ _ ⟨λ_=>za5 hw (Old.refl _) (by exact⟨_,rfl,rfl,⟨rfl,by decide,by decide⟩,⟨by omega,none,0,rfl,by simp⟩,rfl,trivial⟩) rfl (H0 0),λhn=>?_⟩
 obtain⟨b,off,rfl,l0⟩:=sx.get (i:=0) (by omega)
 obtain⟨b',off',e,l1⟩:=sx.get (i:=1) (by omega)
 cases e
 rw[zbu (by omega)] at l0 l1
 have b0:=hb _ (Qj (by omega:0 < l.length))
 have b1:=hb _ (Qj (by omega:1 < l.length))
 obtain⟨p',c',e',k⟩:=zc1 hw gx' zqe zxh (lo:=some (.int .i64 2)) (hi':=none) (l:=2) (u:=n) (.inr ⟨_,rfl⟩) (.inl ⟨rfl,rfl⟩) (by omega) (by omega) (by omega)
 refine zaa ⟨by omega,by omega,_,l0,λi3 e3=>zaa ⟨by omega,by omega,_,l1,λi7 e7=>?_⟩⟩
 have e3:=zaT e3 (by omega) (by omega)
 have e7:=zaT e7 (by omega) (by omega)
 subst e3 e7
 have I:InR .i64 ((l[0]+256 * l[1]:Nat):Int):=⟨by grind[kLo],by grind[kHi]⟩
 exact⟨_,zz2 (by omega),_,zDw (by omega) (by omega),p',_,c',e',za5 hw (Old.refl _) (by exact⟨_,rfl,rfl,⟨rfl,I⟩,k,rfl,trivial⟩) rfl (H1 _ (by omega) (by omega) _ (by omega))⟩
theorem zDx:Vl 107 zAO:=zaY λρ g Q H S hp vs hw hg=>by
 obtain⟨(s:ByteArray),_⟩:=ρ
 obtain⟨x,rfl,gx⟩:=zgy (a:=.str s) hg
 obtain⟨rfl,gx⟩:=gx
 obtain⟨H1,H0⟩:=H
 have N:∀{h'},Old hp h'->Fin S g hp true Q (.bool false) h':=λo=>za5 hw o (zit _) rfl H0
 refine zkS (xb rfl) _ _ _ ⟨λ_=>N (Old.refl _),λz=>⟨λ_=>N (Old.refl _),λy h0 e0=>?_⟩⟩
 have o0:=zab e0
 refine⟨λk h=>∃pos,h.get hp.next=some (.siter s pos)/\s.size - pos=k/\Old hp h,by grind[zae],?_⟩
 rintro k h3 ⟨pos,c3,rfl,o3⟩
 refine⟨rfl,s,pos,c3,λhlt h7 e7=>?_,λhge=>za5 hw o3 (zit _) rfl (H1 (by omega))⟩
 have o7:Old hp h7:=by grind[zje.set,zje,zje.toOld]
 have R:∃j4,j4 < s.size - pos/\∃pos,h7.get hp.next=some (.siter s pos)/\s.size - pos=j4/\Old hp h7:=by grind[Utf8.decode,AH.get_set]
 grind
theorem zuv (s:ByteArray) (c:Int):-1<=zki s c/\zki s c < s.size:=by grind[zki]
theorem zDy:Vl 266 zBf:=zaY λρ g Q H S hp vs hw hg=>by
 obtain⟨(s:ByteArray),(c:Int),_⟩:=ρ
 obtain⟨x,y,rfl,gx,gy⟩:=zec (a:=.str s) (b:=.int .u8 c) hg
 simp only[gam] at gx gy
 have b:=zuv s c
 have I:InR .i64 (zki s c):=by
  unfold za8 at gx
  exact⟨by grind[kLo],by grind[kHi]⟩
 refine⟨0,.int .i64 (zki s c),hp,?_,za5 hw (Old.refl _) (zwz I) rfl (H _ b.1 b.2)⟩
 have e:Nat.ble hp.next hp.next=true:=by simp
 have e2:KB 266=some (.ext zco):=rfl
 grind[zdQ,zco,zpj]
section
variable {S:TY} {g:Int} {hp:AH}
theorem zhv {h' : AH} {T b n c:Nat} {cs:List Value} (G:za1 hp.next h' T (sz cx0 T) b n c cs) (hv:zau cx0 S (zaJ cx0 T n) cs) (hn:n<=zbT) (kc:Bool) (hk:kc=true->c=n):
 ∃al,hp.next<=b/\b < h'.next/\h'.get b=some (.cells al T false)/\zau cx0 S (zaJ cx0 T n) al/\gam cx0 (zeI S b (false,T,zaJ cx0 T n)) h' L0 hp.next (.sl true true kc T n) (.slice (some ⟨b,0,none⟩) n c):=by
 obtain⟨h1,h2,h3,h4,h5,rest,h6,h7⟩:=G
 refine⟨_,h2,h3,h6,λi t hi=>?_,?_⟩
 ·obtain⟨v,e,o⟩:=hv i t hi
  exact⟨v,by rw[QT (Qo.1 e).1]; exact e,o⟩
 ·simp only[gam]
  refine⟨hn,_,c,rfl,.inr ⟨b,0,false,T,zaJ cx0 T n,rfl,if_pos rfl,λj hj=>by rw[Qq]; exact zbh hj,λ_=>rfl,λ_=>h2,.inl ⟨h5,h4,λq j hj=>by rw[Qq]; exact zbh (by rw[<-hk q]; exact hj)⟩⟩⟩
theorem zaS {T n:Nat} {cs:List Value} (h:∀j,j < n->∀i t,(cx0.fl T)[i]?= some t->∃x,cs[j * sz cx0 T+i]?= some x/\okC cx0 S t x):zau cx0 S (zaJ cx0 T n) cs:=λi t hi=>by
 unfold zaJ at hi
 split at hi
 ·rename_i hlt
  have hp:0 < sz cx0 T:=by
   rcases QW (sz cx0 T) with z | z
   ·rw[z] at hlt; omega
   ·exact z
  have:=h (i / sz cx0 T) (Nat.div_lt_of_lt_mul (by rw[Nat.mul_comm]; exact hlt)) _ t hi
  rw[Nat.mul_comm,Nat.div_add_mod] at this
  exact this
 ·cases hi
theorem ziN (w:WT cx0 S g hp) {base n T:Nat} {wr fr kc:Bool} {v:Value} (s:SlV cx0 S base wr fr kc T n v) (h0:0 < sz cx0 T) {h' : AH} (o:Old hp h'):zjd v=some n/\∃new,firstC h' (sz cx0 T) n v=some new/\new.length=n * sz cx0 T/\zau cx0 S (zaJ cx0 T n) new:=by
 obtain⟨p,c,cs,rfl,hp',hs,hc⟩:=zjw w s h0
 exact⟨rfl,cs,(hs.old o).firstC (hp'.elim .inl λ⟨b,off,_,_,_,h,_⟩=>.inr ⟨b,off,h⟩),hs.1,zaS hc⟩
end
theorem eU8:za3 Tryz.prog 34 5 1 1:=zaW (by kernel_rfl)
theorem sz5:sz cx0 5=1:=by unfold sz; rw[fl5]; rfl
theorem flS:cx0.fl 4000034=[4000034]:=by kernel_rfl
theorem ckS:ck cx0 4000034=.ss 5:=by kernel_rfl
theorem zeu {S:TY} {l:List Value} {n:Nat} (hl:l.length=n) (hu:U8s l):zau cx0 S (zaJ cx0 5 n) l:=zaS λj hj i t hi=>by
 rw[fl5] at hi
 rw[sz5]
 match i,hi with
 | 0,hi=>
   cases hi
   exact⟨l[j],by rw[Qp,Nat.add_zero]; exact Qe (by omega),ok5.2 (hu _ (Qj _))⟩
theorem zx9 (n:Nat):zaV .shr .i64 (n:Int) 8=some (.int .i64 ((n / 256:Nat):Int)):=by
 unfold zaV
 rw[if_neg (by omega)]
 have h1:min ((8:Int)).toNat (IntKind.bits .i64)=8:=by decide
 simp only[h1]
 congr 2
 rw[Int.fdiv_eq_ediv_of_nonneg _ (by decide)]
 omega
def zmC (f:Nat->Nat):Nat->Nat
 | 0=>0
 | j+1=>zmC f j+(2+f j)
theorem zsy {f:Nat->Nat}:∀{j:Nat},(∀i,i < j->f i<=65535)->zmC f j<=j * 65537
 | 0,_=>Qc _
 | j+1,h=>by
   have:=zsy (j:=j) λi hi=>h i (by omega)
   have:=h j (by omega)
   simp only[zmC]
   omega
theorem zvk (a b:Int) (ha:U8 (.int .u8 a)) (hb:U8 (.int .u8 b)):U8s [.int .u8 a,.int .u8 b]:=λv hv=>by
 simp only[Qy,List.not_mem_nil,or_false] at hv
 rcases hv with rfl | rfl <;> assumption
theorem ziO {i x:Int} (e:i=IntKind.wrap .u8 x):U8 (.int .u8 i):=by
 subst e
 exact⟨_,rfl,(zaQ .u8 x).1,(zaQ .u8 x).2⟩
theorem zmD {f:Nat->Nat} {i:Nat}:∀{j:Nat},i<=j->zmC f i<=zmC f j
 | 0,h=>by rw[Nat.le_zero.1 h]; exact Qc _
 | j+1,h=>by
   rcases QK j i with q | q
   ·rw[show i=j+1 by omega]; exact Qc _
   ·have:=zmD (f:=f) q
    simp only[zmC]
    omega
theorem v20:Vl 20 s20:=zaY λρ g Q H S hp vs hw hg=>by
 obtain⟨(n:Nat),_⟩:=ρ
 obtain⟨x,rfl,gx⟩:=zgy (a:=.sl false false false 4000034 n) hg
 simp only[gam] at gx
 obtain⟨hbig,H⟩:=H
 have bad:∀h',Old hp h'->Fin S g hp true Q (.tuple #[.slice none 0 0,.int .i64 21]) h':=λh' o=>za5 hw o (by simp only[gam,gams]; exact⟨_,rfl,rfl,⟨by decide,none,0,rfl,.inl ⟨rfl,rfl,rfl⟩⟩,⟨rfl,by decide,by decide⟩,trivial⟩) rfl (H 0 (Qg _) _ ⟨by decide,by decide⟩)
 obtain⟨p,c,cs,rfl,hp',hs,hc⟩:=zjw hw gx (by unfold sz; rw[flS]; decide)
 have hz:sz cx0 4000034=1:=by unfold sz; rw[flS]; rfl
 rw[hz] at hs hc
 have hf:∀j,∃m:Nat,j < n->m<=za8/\∃x,cs[j]?= some x/\SlV cx0 S 0 false false false 5 m x:=λj=>by
  rcases QK j n with hj | hj
  ·obtain⟨x,e1,e2⟩:=hc j hj 0 _ (by rw[flS]; rfl)
   unfold okC at e2
   rw[ckS] at e2
   obtain⟨m,m1,m2⟩:=e2
   exact⟨m,λ_=>⟨m1,x,by simpa using e1,m2⟩⟩
  ·exact⟨0,λh=>absurd h (by omega)⟩
 obtain⟨f,hf⟩:=Q4 hf
 have at1:∀{j:Nat} {h' : AH},j < n->Old hp h'->∃b off,p=some ⟨b,off,none⟩/\∃p' c',ld1 h' b (off+j)=some (.slice p' (f j) c')/\SlV cx0 S 0 false false false 5 (f j) (.slice p' (f j) c'):=λ{j h'} hj o=>by
  obtain⟨b,off,e1,e2⟩:=(hs.old o).get hj
  obtain⟨-,x,e3,e4⟩:=hf j hj
  have e4':=e4
  obtain⟨-,p',c',rfl, -⟩:=e4
  exact⟨b,off,e1,p',c',e2.trans e3,e4'⟩
 refine zfJ (xb rfl) _ _ _ _ _ ⟨λ_=>bad _ (Old.refl _),λhn=>⟨λi4 i5 k h=>∃j:Nat,i5=j/\j<=n/\i4=((2+zmC f j:Nat):Int)/\(∀i,i < j->f i<=65535)/\n - j=k/\h=hp,⟨_,0,rfl,Qg _,rfl,λi hi=>absurd hi (Nat.not_lt_zero _),rfl,rfl⟩,?_⟩⟩
 rintro k h i4 i5 ⟨j,rfl,hj,rfl,hle,rfl,rfl⟩
 have ht:=zsy hle
 refine⟨λz=>?_,λz=>?_⟩
 ·obtain⟨b,off,rfl,p',c',l1,l2⟩:=at1 (j:=j) (by omega) (Old.refl _)
  refine zaa ⟨by omega,z,_,_,_,by rw[Qh,Qp]; exact l1,λy=>bad _ (Old.refl _),λy i11 e11 i12 e12 i13 e13=>?_⟩
  have e11:=zaT e11 (by omega) (by omega)
  have e12:=zaT e12 (by omega) (by omega)
  have e13:=zaT e13 (by omega) (by omega)
  refine⟨_,by omega,j+1,by rw[e13]; rfl,by omega,by rw[e12,e11]; simp only[zmC]; omega,λi hi=>?_,rfl,rfl⟩
  rcases Nat.lt_succ_iff_lt_or_eq.1 hi with q | rfl
  ·exact hle i q
  ·omega
 obtain rfl:j=n:=by omega
 refine⟨⟨by omega,by omega,by omega,by omega⟩,λh14 e14 i15 e15=>⟨_,zx9 _,λi17 e17 h18 e18=>?_⟩⟩
 have o14:=zab e14
 have n14:=zad e14
 have G0:za1 h.next h14 5 1 h.next 0 (2+zmC f j) []:=za1.make e14 (by rw[Qh]; simp) (by simp only[zai]; omega)
 obtain⟨h22,k22,G22,n22,f22⟩:=G0.push eU8 e18 (m:=2) rfl (by decide) (by omega)
 refine⟨_,_,_,h22,by rw[Qh]; exact k22,λp27 n28 c29 i30 k h1=>∃i:Nat,i30=i/\i<=j/\j - i=k/\p27=some ⟨h.next,0,none⟩/\c29=2+zmC f j/\Old h h1/\n28=2+zmC f i/\∃al,za1 h.next h1 5 1 h.next n28 (2+zmC f j) al/\zau cx0 S (zaJ cx0 5 n28) al,
  ⟨_,0,rfl,Qg _,rfl,rfl,rfl,⟨by omega,λb hb=>by rw[f22 b (by omega) (by omega),o14.2 b hb]⟩,rfl,_,G22,zeu rfl (zvk _ _ (ziO e15) (ziO e17))⟩,?_⟩
 rintro k h1 p27 n28 c29 i30 ⟨i,rfl,hi,rfl,rfl,rfl,o1,rfl,al,G1,T1⟩
 refine⟨λz=>?_,λz=>?_⟩
 ·have hij:i < j:=by omega
  have hm:zmC f (i+1)<=zmC f j:=zmD hij
  simp only[zmC] at hm
  obtain⟨b,off,rfl,p',c',l1,l2⟩:=at1 hij o1
  refine zaa ⟨by omega,z,_,_,_,by rw[Qh,Qp]; exact l1,λi36 e36=>⟨_,zx9 _,λi38 e38 h39 e39=>?_⟩⟩
  obtain⟨h43,k43,G43,n43,f43⟩:=G1.push eU8 e39 (m:=2) rfl (by decide) (by omega)
  have o43:Old h h43:=⟨by have:=o1.1; omega,λb hb=>by rw[f43 b (by have:=o1.1; omega) (by omega),o1.2 b hb]⟩
  obtain⟨q1,new,q2,q3,q4⟩:=ziN hw l2 (by rw[sz5]; decide) o43
  rw[sz5] at q2 q3
  obtain⟨h47,k47,G47,n47⟩:=G43.app eU8 q1 q2 q3 (by omega)
  refine⟨_,_,_,h43,k43,_,_,_,h47,k47,λi48 e48=>?_⟩
  have e48:=zaT e48 (by omega) (by omega)
  refine⟨j - (i+1),by omega,i+1,by rw[e48]; rfl,hij,rfl,rfl,rfl,o43.near n47 (Qc _),by simp only[zmC]; omega,_,G47,?_⟩
  have T2:=zeu (S:=S) (n:=2) rfl (zvk _ _ (ziO e36) (ziO e38))
  have T3:=zaL (X:=cx0) (T:=5) (by rw[sz5]; exact G1.1) T1 T2
  exact zaL (X:=cx0) (T:=5) (by rw[sz5]; exact G43.1) T3 q4
 ·obtain rfl:i=j:=by omega
  obtain⟨al',g1,g2,g3,g4,g5⟩:=zhv (by rw[sz5]; exact G1) T1 (by unfold zbT; omega) false (λq=>by cases q)
  refine zc0 hw o1 g1 g2 g3 g4 (r:=.tup [.sl true true false 5 (2+zmC f i),.int .i64 0]) ?_ rfl (H _ (by omega) 0 ⟨by decide,by decide⟩)
  simp only[gam,gams] at g5 ⊢
  exact⟨_,rfl,rfl,g5,⟨rfl,by decide,by decide⟩,trivial⟩
theorem zkU:∀{k:Nat} {l:List Int},zzg k l->l.length<=k
 | _,[],_=>Qg _
 | 0,_ :: _,h=>h.elim
 | k+1,_ :: _,h=>Nat.succ_le_succ (zkU h.2)
theorem zoY:∀{k:Nat} {l:List Int},zzg k l->∀x∈l,1<=x/\x<=8
 | _,[],_,_,h=>by cases h
 | 0,_ :: _,h,_,_=>h.elim
 | k+1,_ :: _,h,x,hx=>by
   rcases Qy.1 hx with rfl | hx
   ·exact h.1
   ·exact zoY h.2 x hx
theorem zfK:∀{l:List Int} {j:Nat} (hj:j < l.length),zbS (l.take (j+1))=zbS (l.take j)+l[j]
 | x :: l,0,_=>by simp[zbS]
 | x :: l,j+1,hj=>by
   have:=zfK (l:=l) (j:=j) (by simpa using hj)
   simp only[List.take_succ_cons,zbS,List.getElem_cons_succ] at this ⊢
   omega
theorem zdE:∀{l:List Int} (j:Nat),(∀x∈l,1<=x/\x<=8)->0<=zbS (l.take j)/\zbS (l.take j)<=zbS l/\zbS l<=8 * l.length/\(l.length:Int)<=zbS l
 | [],j,_=>by simp[zbS]
 | x :: l,0,h=>by
   have:=zdE (l:=l) 0 λy hy=>h y (by simp[hy])
   have:=h x (by simp)
   simp only[List.take_zero,zbS,QF] at *
   omega
 | x :: l,j+1,h=>by
   have:=zdE (l:=l) j λy hy=>h y (by simp[hy])
   have:=h x (by simp)
   simp only[List.take_succ_cons,zbS,QF] at *
   omega
theorem zya {S:TY} {g:Int} {hp:AH} (w:WT cx0 S g hp) {base:Nat} {l:List Int} {v:Value} (h:gam cx0 S hp L0 base (.xs l) v):∃p c,v=.slice p l.length c/\zaz hp p l.length 1 (zh9 .i64 l):=by
 simp only[gam] at h
 obtain⟨h1,b,off,c,ro,e,cs,rfl,h2,h3,h4,h5⟩:=h
 refine⟨_,c,rfl,by simp[zh9],?_⟩
 rcases QW l.length with z | z
 ·exact .inl z
 obtain⟨m1,m2,al,r,m3,m4,m5⟩:=w.1 b _ _ _ h4
 have at1:∀i (hi:i < l.length),al[off+i]?= some (.int .i64 l[i]):=λi hi=>by
  obtain⟨e1,e2,e3⟩:=h5 i l[i] (Qe hi)
  obtain⟨v,v1,v2⟩:=m5 _ _ e1
  unfold okC at v2
  have hk:ck cx0 (2000000+l[i].toNat)=.int .i64 ((2000000+l[i].toNat - 2000000:Nat):Int) ((2000000+l[i].toNat - 2000000:Nat):Int):=by
   unfold ck
   have q1:Nat.beq (2000000+l[i].toNat) r4=false:=by
    cases hb:Nat.beq (2000000+l[i].toNat) r4 with
    | false=>rfl
    | true=>have:=Qb hb; unfold r4 at this; omega
   have q2:exK (2000000+l[i].toNat)=true:=by
    unfold exK
    simp only[Qd,Nat.ble_eq,Q5]
    omega
   rw[q1,q2]
   rfl
  rw[hk] at v2
  obtain⟨x,rfl,x1,x2⟩:=v2
  rw[v1]
  congr 2
  omega
 have hl:=(Qo.1 (at1 (l.length - 1) (by omega))).1
 refine .inr ⟨b,off,al,e,r,rfl,m1,m3,by omega,Jb λi=>?_⟩
 rw[Qp,Ji]
 split
 ·rename_i hi
  rw[QX,at1 i hi]
  simp[zh9,hi]
 ·rename_i hi
  rw[List.getElem?_eq_none (by simp[zh9]; omega)]
theorem zgA {k:IntKind} {l:List Int} {i:Nat} (hi:i < l.length):(zh9 k l)[i]?= some (.int k l[i]):=by simp[zh9,hi]
theorem zyb {hp:AH} {p:Option Addr} {c:Nat} {l:List Int} (hs:zaz hp p l.length 1 (zh9 .i64 l)) (hw:wok l):
 Wf Tryz.prog KB 39 [.slice p l.length c] hp λv h'=>v=.tuple #[.int .i64 (zbS l),.bool true]/\h'= hp:=by
 have hl:=zkU hw
 have ha:=zoY hw
 refine zfI (xb rfl) _ _ _ _ _ ⟨λi4 i5 k g=>∃j:Nat,i5=j/\i4=zbS (l.take j)/\j<=l.length/\l.length - j=k/\g=hp,⟨_,0,rfl,by simp[zbS],Qg _,rfl,rfl⟩,?_⟩
 rintro k _ i4 i5 ⟨j,rfl,rfl,hj,rfl,rfl⟩
 refine⟨λq=>?_,λq=>⟨by rw[QA (by omega)],rfl⟩⟩
 have hj' : j < l.length:=by omega
 obtain⟨b,off,rfl,hld⟩:=hs.get hj'
 rw[zgA hj'] at hld
 have w1:=ha _ (Qj hj')
 have s1:=zfK hj'
 have s2:=zdE (j+1) ha
 have s3:=zdE j ha
 refine zaa ⟨by omega,q,_,by rw[Qh,Qp]; exact hld,λz=>absurd z (by omega),λ_=>⟨λz=>absurd z (by omega),λ_ i9 e9 i10 e10=>?_⟩⟩
 have e10:=zaT e10 (by omega) (by omega)
 have e9:=zaT e9 (by omega) (by omega)
 exact⟨_,by omega,j+1,by rw[e10]; rfl,by rw[e9,s1],hj',rfl,rfl⟩
theorem zBr {k:IntKind} {x s:Int} (h:0<=s):∃y,zaV .shr k x s=some (.int k y):=by
 unfold zaV
 rw[if_neg (by omega)]
 exact⟨_,rfl⟩
theorem v18:Vl 18 s18:=zaY λρ g Q H S hp vs hw hg=>by
 obtain⟨(l:List Int),(m:Nat),_⟩:=ρ
 obtain⟨x,y,rfl,gx,gy⟩:=zec (a:=.xs l) (b:=.sl false false false 62 m) hg
 obtain⟨p,c,rfl,sx⟩:=zya hw gx
 simp only[gam] at gy
 obtain⟨q,d,r,rfl,py,sy,hr,hb⟩:=zef hw gy zxg zsw
 obtain⟨hwok,H⟩:=H
 have hl:=zkU hwok
 have ha:=zoY hwok
 have bad:∀h',Old hp h'->Fin S g hp true Q (.tuple #[.slice none 0 0,.int .i64 21]) h':=λh' o=>za5 hw o (by simp only[gam,gams]; exact⟨_,rfl,rfl,⟨by decide,none,0,rfl,.inl ⟨rfl,rfl,rfl⟩⟩,⟨rfl,by decide,by decide⟩,trivial⟩) rfl (H 0 (Qg _) _ ⟨by decide,by decide⟩ λz=>absurd z (by decide))
 refine zg1 (xb rfl) _ _ _ _ _ _ _ _ ((zyb sx hwok).mono ?_)
 rintro _ _ ⟨rfl,rfl⟩
 rename_i hp
 have full:=zdE l.length ha
 refine⟨_,.inl ⟨rfl,λhm=>⟨λi k h=>∃j:Nat,i=j/\j<=m/\m - j=k/\h=hp,⟨_,0,rfl,Qg _,rfl,rfl⟩,?_⟩,λ_=>bad _ (Old.refl _)⟩⟩
 obtain rfl:m=l.length:=by omega
 have atw:∀{j:Nat} {h' : AH},j < l.length->Old hp h'->∃b off,p=some ⟨b,off,none⟩/\∃w,1<=w/\w<=8/\ld1 h' b (off+j)=some (.int .i64 w)/\zbS (l.take (j+1))=zbS (l.take j)+w:=λ{j h'} hj o=>by
  obtain⟨b,off,e1,e2⟩:=(sx.old o).get hj
  rw[zgA hj] at e2
  have:=ha _ (Qj hj)
  exact⟨b,off,e1,_,this.1,this.2,e2,zfK hj⟩
 have atn:∀{j:Nat} {h' : AH},j < l.length->Old hp h'->∃b off,q=some ⟨b,off,none⟩/\∃w,ld1 h' b (off+j)=some (.int .u64 w):=λ{j h'} hj o=>by
  obtain⟨b,off,e1,e2⟩:=(sy.old o).get hj
  rw[zbu (by omega)] at e2
  exact⟨b,off,e1,_,e2⟩
 rintro k h i ⟨j,rfl,hj,rfl,rfl⟩
 refine⟨λz=>?_,λz=>?_⟩
 ·obtain⟨b,off,rfl,w,w1,w2,lw, -⟩:=atw (j:=j) (by omega) (Old.refl _)
  obtain⟨b2,off2,rfl,u,lu⟩:=atn (j:=j) (by omega) (Old.refl _)
  refine zaa ⟨by omega,z,_,by rw[Qh,Qp]; exact lu,zaa ⟨by omega,by omega,_,by rw[Qh,Qp]; exact lw,λi14 e14=>?_⟩⟩
  have e14:=zaT e14 (by omega) (by omega)
  obtain⟨y,ey⟩:=zBr (k:=.u64) (x:=u) (s:=i14) (by omega)
  refine⟨y,ey,λ_ i16 e16=>?_,λ_=>bad _ (Old.refl _)⟩
  have e16:=zaT e16 (by omega) (by omega)
  exact⟨_,by omega,j+1,by rw[e16]; rfl,by omega,rfl,rfl⟩
 obtain rfl:j=l.length:=by omega
 refine⟨⟨by omega,by omega,by omega,by omega⟩,λh17 e17=>?_⟩
 have o17:=zab e17
 have G0:za1 h.next h17 5 1 h.next 0 (zbS l).toNat []:=za1.make e17 (by simp) (by simp only[zai]; omega)
 refine⟨λp22 n23 c24 i25 k h1=>∃j:Nat,i25=j/\j<=l.length/\l.length - j=k/\p22=some ⟨h.next,0,none⟩/\c24=(zbS l).toNat/\Old h h1/\n23=(zbS (l.take j)).toNat/\∃al,za1 h.next h1 5 1 h.next n23 c24 al/\zau cx0 S (zaJ cx0 5 n23) al,
  ⟨_,0,rfl,Qg _,rfl,rfl,rfl,o17,by simp[zbS],_,G0,zeu rfl λv hv=>by cases hv⟩,?_⟩
 rintro k h1 p22 n23 c24 i25 ⟨j,rfl,hj,rfl,rfl,rfl,o1,rfl,al,G1,T1⟩
 refine⟨λz=>?_,λz=>?_⟩
 ·have hj' : j < l.length:=by omega
  obtain⟨b,off,rfl,w,w1,w2,lw,sw⟩:=atw hj' o1
  obtain⟨b2,off2,rfl,u,lu⟩:=atn hj' o1
  have a1:=zdE j ha
  have a2:=zdE (j+1) ha
  refine zaa ⟨by omega,z,_,by rw[Qh,Qp]; exact lu,zaa ⟨by omega,z,_,by rw[Qh,Qp]; exact lw,?_⟩⟩
  refine⟨λp36 n37 c38 i39 k h2=>∃t:Nat,i39=t/\(t:Int)<=w/\w.toNat - t=k/\p36=some ⟨h.next,0,none⟩/\c38=(zbS l).toNat/\Old h h2/\n37=(zbS (l.take j)).toNat+t/\∃al,za1 h.next h2 5 1 h.next n37 c38 al/\zau cx0 S (zaJ cx0 5 n37) al,
   ⟨_,0,rfl,by omega,rfl,rfl,rfl,o1,rfl,_,G1,T1⟩,?_⟩
  rintro k h2 p36 n37 c38 i39 ⟨t,rfl,ht,rfl,rfl,rfl,o2,rfl,al2,G2,T2⟩
  refine⟨λz2 i40 e40=>?_,λz2 i49 e49=>?_⟩
  ·have e40:=zaT e40 (by omega) (by omega)
   obtain⟨y,ey⟩:=zBr (k:=.u64) (x:=u) (s:=i40) (by omega)
   refine⟨y,ey,λi42 e42 h43 e43=>?_⟩
   obtain⟨h47,k47,G47,n47,f47⟩:=G2.push eU8 e43 (m:=1) rfl (by decide) (by omega)
   refine⟨_,_,_,h47,k47,λi48 e48=>?_⟩
   have e48:=zaT e48 (by omega) (by omega)
   exact⟨w.toNat - (t+1),by omega,t+1,by rw[e48]; rfl,by omega,rfl,rfl,rfl,⟨by have:=o2.1; omega,λb hb=>by rw[f47 b (by have:=o2.1; omega) (by omega),o2.2 b hb]⟩,by omega,_,G47,
    zaL (X:=cx0) (T:=5) (by rw[sz5]; exact G2.1) T2 (zeu rfl λv hv=>by rw[QD.1 hv]; exact ziO e42)⟩
  ·have e49:=zaT e49 (by omega) (by omega)
   have e3:(zbS (l.take j)).toNat+t=(zbS (l.take (j+1))).toNat:=by omega
   exact⟨l.length - (j+1),by omega,j+1,by rw[e49]; rfl,hj',rfl,rfl,rfl,o2,e3,_,G2,T2⟩
 ·obtain rfl:j=l.length:=by omega
  rw[List.take_length] at G1 T1 full ⊢
  obtain⟨al',g1,g2,g3,g4,g5⟩:=zhv (by rw[sz5]; exact G1) T1 (by unfold zbT; omega) true (λ_=>rfl)
  refine zc0 hw o1 g1 g2 g3 g4 (r:=.tup [.sl true true true 5 (zbS l).toNat,.int .i64 0]) ?_ rfl (H _ (by omega) 0 ⟨by decide,by decide⟩ λ_=>by omega)
  simp only[gam,gams] at g5 ⊢
  exact⟨_,rfl,rfl,g5,⟨rfl,by decide,by decide⟩,trivial⟩
theorem zzh:za3 Tryz.prog 70 62 1 8:=zaW (by kernel_rfl)
theorem zBs:sz cx0 62=1:=by unfold sz; rw[zxg]; rfl
theorem zuw {S:TY} {i:Int} (h:InR .u64 i):okC cx0 S 62 (.int .u64 i):=by unfold okC; rw[zsw]; exact⟨i,rfl,h.1,h.2⟩
theorem ziP {S:TY} {T:Nat} {v:Value} (hf:cx0.fl T=[T]) (h:okC cx0 S T v):zau cx0 S (zaJ cx0 T 1) [v]:=zaS λj hj i t hi=>by
 rw[hf] at hi
 match j,i,hi with
 | 0,0,hi=>cases hi; exact⟨v,by simp,h⟩
theorem v24:Vl 24 s24:=zaY λρ g Q H S hp vs hw hg=>by
 obtain⟨(l:List Int),(m:Nat),_⟩:=ρ
 obtain⟨x,y,rfl,gx,gy⟩:=zec (a:=.xs l) (b:=.sl false false false 5 m) hg
 obtain⟨p,c,rfl,sx⟩:=zya hw gx
 simp only[gam] at gy
 have gy':=gy
 obtain⟨-,q,d,rfl, -⟩:=gy'
 obtain⟨hwok,H⟩:=H
 have hl:=zkU hwok
 have ha:=zoY hwok
 have bad:∀h',Old hp h'->Fin S g hp true Q (.tuple #[.slice none 0 0,.int .i64 21]) h':=λh' o=>za5 hw o (by simp only[gam,gams]; exact⟨_,rfl,rfl,⟨by decide,none,0,rfl,.inl ⟨rfl,rfl,rfl⟩⟩,⟨rfl,by decide,by decide⟩,trivial⟩) rfl (H 0 (Qg _) _ ⟨by decide,by decide⟩ λz=>absurd z (by decide))
 refine zee (xb rfl) _ _ _ _ _ _ _ _ ((zyb sx hwok).mono ?_)
 rintro _ h ⟨rfl,rfl⟩
 refine⟨_,.inl ⟨rfl,λhm=>⟨⟨by omega,by omega,by omega,by omega⟩,λh3 e3=>?_⟩,λ_=>bad _ (Old.refl _)⟩⟩
 have full:=zdE l.length ha
 rw[List.take_length] at full
 have o3:=zab e3
 have G0:za1 h.next h3 62 1 h.next 0 l.length []:=za1.make e3 (by simp) (by simp only[zai]; omega)
 refine⟨λp8 n9 c10 p11 n12 c13 i14 k h1=>∃j:Nat,i14=j/\j<=l.length/\l.length - j=k/\SlV cx0 S h.next false false false 5 n9 (.slice p8 n9 c10)/\(n9:Int)=zbS l - zbS (l.take j)/\p11=some ⟨h.next,0,none⟩/\n12=j/\c13=l.length/\Old h h1/\∃al,za1 h.next h1 62 1 h.next j l.length al/\zau cx0 S (zaJ cx0 62 j) al,
  ⟨_,0,rfl,Qg _,rfl,gy,by simp[zbS]; omega,rfl,rfl,by simp,o3,_,G0,zaS λj hj=>absurd hj (Nat.not_lt_zero _)⟩,?_⟩
 rintro k h1 p8 n9 c10 p11 _ c13 i14 ⟨j,rfl,hj,rfl,gs,hn,rfl,rfl,rfl,o1,al,G1,T1⟩
 rename_i j
 refine⟨λz=>?_,λz=>?_⟩
 ·have hj' : j < l.length:=by omega
  obtain⟨b,off,rfl,lw⟩:=(sx.old o1).get hj'
  rw[zgA hj'] at lw
  have hw':=ha _ (Qj hj')
  have sw:=zfK hj'
  have a2:=zdE (j+1) ha
  generalize l[j]=w at lw hw' sw
  refine zaa ⟨by omega,z,w,by rw[Qh,Qp]; exact lw,?_⟩
  refine⟨λi22 i23 k h2=>∃t:Nat,i23=t/\(t:Int)<=w/\w.toNat - t=k/\InR .u64 i22/\h2=h1,⟨_,0,rfl,by omega,rfl,⟨by decide,by decide⟩,rfl⟩,?_⟩
  rintro k h2 i22 i23 ⟨t,rfl,ht,rfl,hi,rfl⟩
  refine⟨λz2=>?_,λz2 h32 e32=>?_⟩
  ·have gs':=gs
   obtain⟨_,_,r,e, -,sr,hr,hb⟩:=zef hw gs' fl5 zx8
   cases e
   obtain⟨b2,off2,rfl,lr⟩:=(sr.old o1).get (i:=t) (by omega)
   rw[zbu (by omega)] at lr
   refine zaa ⟨by omega,by omega,_,by rw[Qh,Qp]; exact lr,λi27 e27 i28 e28=>?_⟩
   have e28:=zaT e28 (by omega) (by omega)
   refine⟨_,by unfold zaV; rw[if_neg (by omega)],_,rfl,λi31 e31=>?_⟩
   have e31:=zaT e31 (by omega) (by omega)
   exact⟨w.toNat - (t+1),by omega,t+1,by rw[e31]; rfl,by omega,rfl,zaQ _ _,rfl⟩
  ·obtain⟨h36,k36,G36,n36,f36⟩:=G1.push zzh e32 (m:=1) rfl (by decide) (by omega)
   have o36:Old h h36:=⟨by have:=o1.1; omega,λb hb=>by rw[f36 b (by have:=o1.1; omega) (by omega),o1.2 b hb]⟩
   obtain⟨p',c',e',k'⟩:=zc1 (hw.old o36) gs zqe zxh (lo:=some (.int .i64 w)) (hi':=none) (l:=w) (u:=(n9:Int)) (.inr ⟨_,rfl⟩) (.inl ⟨rfl,rfl⟩) (by omega) (by omega) (by omega)
   refine⟨_,_,_,h36,k36,_,_,_,e',λi40 e40=>?_⟩
   have e40:=zaT e40 (by omega) (by omega)
   exact⟨l.length - (j+1),by omega,j+1,by rw[e40]; rfl,hj',rfl,k',by omega,rfl,rfl,rfl,o36,_,G36,zaL (X:=cx0) (T:=62) (by rw[zBs]; exact G1.1) T1 (ziP zxg (zuw hi))⟩
 ·obtain rfl:j=l.length:=by omega
  obtain⟨al',g1,g2,g3,g4,g5⟩:=zhv (by rw[zBs]; exact G1) T1 (by unfold zbT; omega) false (λq=>by cases q)
  refine zc0 hw o1 g1 g2 g3 g4 (r:=.tup [.sl true true false 62 l.length,.int .i64 0]) ?_ rfl (H _ (by omega) 0 ⟨by decide,by decide⟩ λ_=>rfl)
  simp only[gam,gams] at g5 ⊢
  exact⟨_,rfl,rfl,g5,⟨rfl,by decide,by decide⟩,trivial⟩
end Go.Am
