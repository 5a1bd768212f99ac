/-
  Texts of this proof, part 33. No condition.
-/
import Derived.Test.YtmnbboleclchcaaGreatFVMix
set_option linter.unusedVariables false
set_option linter.unusedSimpArgs false
set_option maxRecDepth 100000
namespace Go.Am
open Go.Proofs
section
variable {S:TY} {g:Int} {hp:AH}
theorem zkK (w:WT cx0 S g hp) {base n T:Nat} {wr fr kc:Bool} {v:Value} (s:SlV cx0 S base wr fr kc T n v) (h0:0 < sz cx0 T):
 ∃p c cs,v=.slice p n c/\(p=none\/∃b off ro e cc,p=some ⟨b,off,none⟩/\S.ty b=some (ro,e,cc)/\b < hp.next/\¬S.dv b/\(wr=true->ro=false))/\zaF hp p n (sz cx0 T) cs/\
  ∀j,j < n->∀i t,(cx0.fl T)[i]?= some t->∃x,cs[j * sz cx0 T+i]?= some x/\okC cx0 S t x:=by
 obtain⟨hn,p,c,rfl,k⟩:=s
 rcases k with ⟨rfl,rfl,rfl⟩ | ⟨b,off,ro,e,cc,rfl,k1,k2,k3,k4,k5⟩
 ·exact⟨none,0,[],rfl,.inl rfl,⟨by simp,.inl rfl⟩,by omega⟩
 ·obtain⟨m1,m2,al,r,m3,m4,m5⟩:=w.1 b _ _ _ k1
  have at1:∀j,j < n->∀i t,(cx0.fl T)[i]?= some t->∃x,al[off+j * sz cx0 T+i]?= some x/\okC cx0 S t x:=λj hj i t hi=>m5 _ _ (k2 j hj i t hi)
  have hlen:n=0\/off+n * sz cx0 T<=al.length:=by
   rcases QK n with z | z
   ·omega
   ·obtain⟨x,hx, -⟩:=at1 (n - 1) (by omega) (sz cx0 T - 1) _ (Qe (l:=cx0.fl T) (i:=sz cx0 T - 1) (by grind[sz]))
    have:=(Qo.1 hx).1
    have e1:n * sz cx0 T=(n - 1) * sz cx0 T+sz cx0 T:=by rw[<-Nat.succ_mul]; grind
    omega
  refine⟨_,c,(al.drop off).take (n * sz cx0 T),rfl,by grind,⟨?_,?_⟩,λj hj i t hi=>?_⟩
  ·grind
  ·grind
  ·obtain⟨x,hx,ho⟩:=at1 j hj i t hi
   have e1:j * sz cx0 T+sz cx0 T<=n * sz cx0 T:=by rw[<-Nat.succ_mul]; exact Qt _ hj
   grind[sz]
theorem znV (w:WT cx0 S g hp) {base n T:Nat} {wr fr kc:Bool} {v:Value} (s:SlV cx0 S base wr fr kc T n v) {k:IntKind} {lo hi:Int} (hf:cx0.fl T=[T]) (hc:ck cx0 T=.int k lo hi):
 ∃p c l,v=.slice p n c/\(p=none\/∃b off ro e cc,p=some ⟨b,off,none⟩/\S.ty b=some (ro,e,cc)/\b < hp.next/\¬S.dv b/\(wr=true->ro=false))/\zaF hp p n 1 (zh6 k l)/\l.length=n/\∀x∈l,lo<=x/\x<=hi:=by
 have hz:sz cx0 T=1:=by grind[sz]
 obtain⟨p,c,cs,h1,h2,h3,h4⟩:=zkK w s (by omega)
 rw[hz] at h3 h4
 have h5:∀j,j < n->∃x:Int,cs[j]?= some (.int k x)/\lo<=x/\x<=hi:=λj hj=>by
  obtain⟨x,e1,e2⟩:=h4 j hj 0 T (by grind)
  grind[okC]
 have:∃l:List Int,cs=zh6 k l/\∀x∈l,lo<=x/\x<=hi:=by
  have hl:=h3.1
  clear h1 h2 h3 h4 s
  rw[Qp] at hl
  subst hl
  induction cs with
  | nil=>exact⟨[],rfl,by simp⟩
  | cons a cs ih=>
    obtain⟨l,q1,q2⟩:=ih λj hj=>by simpa using h5 (j+1) (by grind)
    obtain⟨x,e1,e2⟩:=h5 0 (by simp)
    cases e1
    exact⟨x :: l,by rw[q1]; rfl,by grind⟩
 obtain⟨l,rfl,q⟩:=this
 exact⟨p,c,l,h1,h2,h3,by have:=h3.1; grind[zh6],q⟩
theorem zsm {k:IntKind}:∀{l:List Int},(∀x∈l,0<=x)->zh6 k l=za6 k (l.map Int.toNat)
 | [],_=>rfl
 | x :: l,h=>by
   have h1:=h x (by simp)
   have h2:=zsm (k:=k) (l:=l) λy hy=>h y (by grind)
   grind[zh6,za6]
theorem zd8 (w:WT cx0 S g hp) {base n T:Nat} {wr fr kc:Bool} {v:Value} (s:SlV cx0 S base wr fr kc T n v) {k:IntKind} {hi:Nat} (hf:cx0.fl T=[T]) (hc:ck cx0 T=.int k 0 hi):
 ∃p c l,v=.slice p n c/\(p=none\/∃b off ro e cc,p=some ⟨b,off,none⟩/\S.ty b=some (ro,e,cc)/\b < hp.next/\¬S.dv b/\(wr=true->ro=false))/\zaF hp p n 1 (za6 k l)/\l.length=n/\∀x∈l,x<=hi:=by grind[znV,zsm]
end
theorem fl5:cx0.fl 5=[5]:=by kernel_rfl
theorem zxX:ck cx0 5=.int .u8 0 (255:Nat):=by rfl
theorem zw8:cx0.fl 62=[62]:=by kernel_rfl
theorem zsn:ck cx0 62=.int .u64 0 (18446744073709551615:Nat):=by rfl
theorem zjN:∀data:List Nat,zaG (za6 .u8 data)=some (data.map UInt8.ofNat)
 | []=>rfl
 | x :: xs=>by
   show (zaG (za6 .u8 xs)).map (UInt8.ofNat ((x:Nat):Int).toNat :: ·)=_
   rw[zjN xs,Qi]
   rfl
theorem zso {h:AH} {p:Option Addr} {n c:Nat} {data:List Nat} (S:zaF h p n 1 (za6 .u8 data)) (hp:p=none\/∃b off,p=some ⟨b,off,none⟩):zav Tryz.prog h 34 9 (.slice p n c)=some (.string ⟨(data.map UInt8.ofNat).toArray⟩,h):=by
 unfold zav
 rw[Tryz.underlying34,Tryz.underlying9]
 simp only[Tryz.underlying5,S.firstC hp,zjN]
theorem v26:Vl 26 s26:=za0 λρ g Q H S hp vs hw hg=>by
 obtain⟨(n:Nat),(m:Nat),_⟩:=ρ
 obtain⟨x,y,rfl,gx,gy⟩:=zd5 (a:=.sl false false false 5 n) (b:=.sl false false false 5 m) hg
 obtain⟨p,c,l,rfl,px,sx, -⟩:=zd8 hw gx fl5 zxX
 obtain⟨q,d,r,rfl,py,sy, -⟩:=zd8 hw gy fl5 zxX
 have P:∀{p:Option Addr},(p=none\/∃b off ro e cc,p=some ⟨b,off,none⟩/\S.ty b=some (ro,e,cc)/\b < hp.next/\¬S.dv b/\(false=true->ro=false))->p=none\/∃b off,p=some ⟨b,off,none⟩:=by grind
 exact zeL (xb rfl) _ _ _ _ _ _ _ _ ⟨_,zso sx (P px),_,zso sy (P py),λ_=>za7 hw (Old.refl _) (zim _) rfl H.1,λ_=>za7 hw (Old.refl _) (zim _) rfl H.2⟩
theorem zc5 {S:TY} {g:Int} {hp:AH} (w:WT cx0 S g hp) {base n T st:Nat} {wr fr kc:Bool} {v:Value} (s:SlV cx0 S base wr fr kc T n v) (hu:und cx0 st=some (.slice T)) (hi:(inf cx0 T).isSome=true) {lo hi' : Option Value} {l u:Int} (hl:zp2 lo 0 l) (hh:zp2 hi' n u) (h1:0<=l) (h2:l<=u) (h3:u<=n):
 ∃p c,zau Tryz.prog hp st v lo hi' none=some (.slice p (u - l).toNat c)/\SlV cx0 S base wr fr kc T (u - l).toNat (.slice p (u - l).toNat c):=by
 obtain⟨x,e,k⟩:=zoQ (σ:=⟨Tr.ofList [],[],g⟩) zjj hu hi (by grind[zch,QH]) w s hl hh h1 h2 h3
 obtain⟨k1,p,c,rfl,k2⟩:=k
 exact⟨p,c,e,k1,p,c,rfl,k2⟩
theorem zqc:und cx0 34=some (.slice 5):=by rfl
theorem zw9:(inf cx0 5).isSome=true:=by kernel_rfl
theorem zzK {x:Nat} (hx:x < 256):zaT .shl .i64 (x:Int) 8=some (.int .i64 ((256 * x:Nat):Int)):=by grind[zaT,IntKind.bits,zfo]
theorem zDd {a b:Nat} (ha:a < 256) (hb:b < 256):zgI .or .i64 (a:Int) ((256 * b:Nat):Int)=some (.int .i64 ((a+256 * b:Nat):Int)):=by
 unfold zgI
 have h1:BitVec.ofInt (IntKind.bits .i64) (a:Int)=BitVec.ofNat 64 a:=by rfl
 have h2:BitVec.ofInt (IntKind.bits .i64) ((256 * b:Nat):Int)=BitVec.ofNat 64 (256 * b):=by rfl
 have h3:(BitVec.ofNat 64 a ||| BitVec.ofNat 64 (256 * b)).toNat=a+256 * b:=by
  rw[BitVec.toNat_or,Ji,Ji,QY (by omega),QY (by omega)]
  rw[Nat.or_comm,show 256 * b=2 ^ 8 * b from rfl,<-Nat.two_pow_add_eq_or_of_lt (by omega),Nat.add_comm]
 grind[BitVec.toNat,zfo]
theorem v41:Vl 41 s41:=za0 λρ g Q H S hp vs hw hg=>by
 obtain⟨(n:Nat),_⟩:=ρ
 obtain⟨x,rfl,gx⟩:=zhe (a:=.sl false false false 5 n) hg
 have gx':=gx
 obtain⟨p,c,l,rfl,px,sx,hl,hb⟩:=zd8 hw gx fl5 zxX
 obtain⟨hbig,H0,H1⟩:=H
 refine zcH (xb rfl) _ _ _ _ _ ⟨λ_=>za7 hw (Old.refl _) (by exact⟨_,rfl,rfl,⟨rfl,by decide,by decide⟩,⟨by omega,none,0,rfl,by simp⟩,rfl,trivial⟩) rfl (H0 0),λhn=>?_⟩
 obtain⟨b,off,rfl,l0⟩:=sx.get (i:=0) (by omega)
 obtain⟨b',off',e,l1⟩:=sx.get (i:=1) (by omega)
 cases e
 rw[zbn (by omega)] at l0 l1
 have b0:=hb _ (Qj (by omega:0 < l.length))
 have b1:=hb _ (Qj (by omega:1 < l.length))
 obtain⟨p',c',e',k⟩:=zc5 hw gx' zqc zw9 (lo:=some (.int .i64 2)) (hi':=none) (l:=2) (u:=n) (.inr ⟨_,rfl⟩) (.inl ⟨rfl,rfl⟩) (by omega) (by omega) (by omega)
 refine zaa ⟨by omega,by omega,_,l0,λi3 e3=>zaa ⟨by omega,by omega,_,l1,λi7 e7=>?_⟩⟩
 have e3:=zaR e3 (by omega) (by omega)
 have e7:=zaR e7 (by omega) (by omega)
 subst e3 e7
 have I:InR .i64 ((l[0]+256 * l[1]:Nat):Int):=⟨by grind[kLo],by grind[kHi]⟩
 exact⟨_,zzK (by omega),_,zDd (by omega) (by omega),p',_,c',e',za7 hw (Old.refl _) (by exact⟨_,rfl,rfl,⟨rfl,I⟩,k,rfl,trivial⟩) rfl (H1 _ (by omega) (by omega) _ (by omega))⟩
theorem zDe:Vl 107 zAw:=za0 λρ g Q H S hp vs hw hg=>by
 obtain⟨(s:ByteArray),_⟩:=ρ
 obtain⟨x,rfl,gx⟩:=zhe (a:=.str s) hg
 obtain⟨rfl,gx⟩:=gx
 obtain⟨H1,H0⟩:=H
 have N:∀{h'},Old hp h'->Fin S g hp true Q (.bool false) h':=λo=>za7 hw o (zim _) rfl H0
 refine zkI (xb rfl) _ _ _ ⟨λ_=>N (Old.refl _),λz=>⟨λ_=>N (Old.refl _),λy h0 e0=>?_⟩⟩
 have o0:=zab e0
 refine⟨λk h=>∃pos,h.get hp.next=some (.siter s pos)/\s.size - pos=k/\Old hp h,by grind[zae],?_⟩
 rintro k h3 ⟨pos,c3,rfl,o3⟩
 refine⟨rfl,s,pos,c3,λhlt h7 e7=>?_,λhge=>za7 hw o3 (zim _) rfl (H1 (by omega))⟩
 have o7:Old hp h7:=by grind[zh5.set,zh5,zh5.toOld]
 have R:∃j4,j4 < s.size - pos/\∃pos,h7.get hp.next=some (.siter s pos)/\s.size - pos=j4/\Old hp h7:=by grind[Utf8.decode,AH.get_set]
 grind
theorem zun (s:ByteArray) (c:Int):-1<=zj8 s c/\zj8 s c < s.size:=by grind[zj8]
theorem zDf:Vl 266 zAX:=za0 λρ g Q H S hp vs hw hg=>by
 obtain⟨(s:ByteArray),(c:Int),_⟩:=ρ
 obtain⟨x,y,rfl,gx,gy⟩:=zd5 (a:=.str s) (b:=.int .u8 c) hg
 simp only[gam] at gx gy
 have b:=zun s c
 have I:InR .i64 (zj8 s c):=by
  unfold zbd at gx
  exact⟨by grind[kLo],by grind[kHi]⟩
 refine⟨0,.int .i64 (zj8 s c),hp,?_,za7 hw (Old.refl _) (zwq I) rfl (H _ b.1 b.2)⟩
 have e:Nat.ble hp.next hp.next=true:=by simp
 have e2:KB 266=some (.ext zcn):=rfl
 grind[zew,zcn,zpm]
def zg1 (P:Program) (h:AH) (elem:TypeId) (p:Option Addr) (n c:Nat):Prop:=(p=none/\n=0/\c < zai)\/∃b off,p=some ⟨b,off,none⟩/\zf6 P h elem b n c
theorem zg1.kept {P:Program} {h h' : AH} {elem:TypeId} {p:Option Addr} {n c:Nat} (k:zg1 P h elem p n c) (e:∀a,p=some a->h'.get a.block=h.get a.block):zg1 P h' elem p n c:=by
 rcases k with k | ⟨b,off,rfl,k⟩
 ·exact .inl k
 ·refine .inr ⟨b,off,rfl,?_⟩
  rcases k with k | ⟨h1,cs,e',ro,h2,h3⟩
  ·exact .inl k
  ·exact .inr ⟨h1,cs,e',ro,by grind,h3⟩
theorem zg1.old {P:Program} {h h' : AH} {elem:TypeId} {p:Option Addr} {n c:Nat} (k:zg1 P h elem p n c) (o:Old h h') (hb:∀a,p=some a->a.block < h.next):zg1 P h' elem p n c:=k.kept λa ha=>o.2 _ (hb a ha)
def zwG:Option Nat->Option Value
 | none=>none
 | some i=>some (.int .i64 (i:Int))
def zhs (n:Nat):Option Nat->Nat
 | none=>n
 | some i=>i
theorem cutP {P:Program} {h:AH} {st elem:TypeId} {sz by' : Nat} (E:za5 P st elem sz by') {p:Option Addr} {n c:Nat} (hsz:P.cellsOf elem=sz) (hc:zg1 P h elem p n c) (lo hi:Option Nat) (h1:zhs 0 lo<=zhs n hi) (h2:zhs n hi<=n):
 ∃p' c',zau P h st (.slice p n c) (zwG lo) (zwG hi) none=some (.slice p' (zhs n hi - zhs 0 lo) c')/\(∀b off,p=some ⟨b,off,none⟩->∃off',p'= some ⟨b,off',none⟩/\(zhs 0 lo < zhs n hi->off'= off+zhs 0 lo * sz))/\(p=none->p'= none)/\zg1 P h elem p' (zhs n hi - zhs 0 lo) c':=by
 obtain⟨hu,i,z,hi',hz,hzs,hpos,rfl,rfl⟩:=E
 have b0:∀m,(m=n\/n<=m)->zbk n m (zwG lo) (zwG hi) none=some (zhs 0 lo,zhs n hi,m):=λm hm=>by
  unfold zbk
  cases hi with
  | none=>
    simp only[zwG,zhs] at h1 h2 ⊢
    grind[zfs]
  | some j=>
    simp only[zwG,zhs] at h1 h2 ⊢
    grind[zfs]
 unfold zau
 rw[hu]
 rcases hc with ⟨rfl,rfl,hcc⟩ | ⟨b,off,rfl,hc⟩
 ·simp only[hi',Option.isSome_some,true_and,b0 c (.inr (by omega)),if_pos hcc]
  exact⟨none,_,rfl,by simp,λ_=>rfl,.inl ⟨rfl,by omega,by omega⟩⟩
 ·simp only[hi',Option.isSome_some,if_true]
  rcases hc with ⟨h3,h4⟩ | ⟨rfl,cs,e,ro,hg,he⟩
  ·rw[if_neg (by omega),if_pos h4,b0 c (.inr h3)]
   refine⟨_,_,rfl,λb' off' z=>?_,λz=>(by grind),.inr ⟨b,_,rfl,.inl ⟨by omega,by omega⟩⟩⟩
   grind
  ·rw[if_pos rfl,b0 n (.inl rfl)]
   simp only[hg,he,if_true]
   refine⟨_,_,rfl,λb' off' z=>?_,λz=>(by grind),.inr ⟨b,_,rfl,.inr ⟨rfl,cs,e,ro,hg,he⟩⟩⟩
   grind
theorem zaF.kept {h h' : AH} {p:Option Addr} {n sz:Nat} {cs:List Value} (s:zaF h p n sz cs) (hn:h.next<=h'.next) (k:∀a,p=some a->h'.get a.block=h.get a.block):zaF h' p n sz cs:=by
 refine⟨s.1,?_⟩
 rcases s.2 with h0 | ⟨b,off,al,e,ro,hp,hb,hg,hl,hc⟩
 all_goals grind
theorem zaF.cut2 {h:AH} {p p' : Option Addr} {n sz lo hi:Nat} {cs:List Value} (s:zaF h p n sz cs) (h1:lo<=hi) (h2:hi<=n) (hp:∀b off,p=some ⟨b,off,none⟩->∃off',p'= some ⟨b,off',none⟩/\(lo < hi->off'= off+lo * sz)):
 zaF h p' (hi - lo) sz ((cs.drop (lo * sz)).take ((hi - lo) * sz)):=by
 have hle:hi * sz<=n * sz:=Qt _ h2
 have hm:(hi - lo) * sz=hi * sz - lo * sz:=Nat.sub_mul _ _ _
 refine⟨by rw[Jd,Je,s.1,hm]; omega,?_⟩
 by_cases hq:lo < hi
 ·rcases s.2 with h0 | ⟨b,off,al,e,ro,rfl,hb,hg,hl,hc⟩
  ·omega
  ·have hlo:lo * sz<=hi * sz:=Qt _ h1
   grind[List.drop_take,QB]
 omega
theorem zsp {P:Program} {h:AH} {t elem:TypeId} {by' : Nat} (E:za5 P t elem 1 by') {b n c:Nat} {cs:List Value} {e:TypeId} (hb:h.get b=some (.cells cs e false)) (hle:cs.length=n)
 {p:Option Addr} {m c' : Nat} {ns:List Value} (hs:zaF h p m 1 ns) (hp:p=none\/∃b off,p=some ⟨b,off,none⟩) (hnm:n<=m) (st:TypeId):
 ∃i h',zak P h .copy #[t,st] [.slice (some ⟨b,0,none⟩) n c,.slice p m c']=some (.int .i64 i,h')/\zaY b h h'/\h'.get b=some (.cells (ns.take n) e false):=by
 by_cases hn:0 < n
 ·obtain⟨h',k,nr,g⟩:=ztU E (off:=0) (n:=n) (c:=c) hb (by omega) hn hs hp (c':=c') st
  have hl:(ns.take n).length=n:=by rw[Jd,hs.1]; omega
  grind
 ·obtain rfl:n=0:=by omega
  obtain⟨hu,i,z,hi,hz,hzs,hpos,hsz,hby⟩:=E
  have hfc:firstC h i.size 0 (.slice p m c')=some []:=by grind[firstC]
  refine⟨((0:Nat):Int),h,?_,zaY.refl _ _,by grind⟩
  show (match zc7 P h t (.slice (some ⟨b,0,none⟩) 0 c) (.slice p m c') with | x=>x)=_
  unfold zc7
  grind[zi5]
theorem za1.app {P:Program} {lim:Nat} {h:AH} {st elem:TypeId} {sz by' : Nat} {b n c:Nat} {cs:List Value} (g:za1 lim h elem sz b n c cs) (E:za5 P st elem sz by')
 {x:Value} {m:Nat} {ns:List Value} (hx:zi5 x=some m) (hfn:firstC h sz m x=some ns) (hns:ns.length=m * sz) (hroom:n+m<=c):
 ∃h',zak P h .append #[st,st] [.slice (some ⟨b,0,none⟩) n c,x]=some (.slice (some ⟨b,0,none⟩) (n+m) c,h')/\za1 lim h' elem sz b (n+m) c (cs ++ ns)/\zaY b h h':=by
 have gs:=g.shows
 obtain⟨h1,h2,h3,h4',h5,rest,h6,h7⟩:=g
 obtain⟨hu,i,z,hi,hz,hzs,hpos,rfl,rfl⟩:=E
 have hfc:firstC h i.size n (.slice (some ⟨b,0,none⟩) n c)=some cs:=gs.firstC (.inr ⟨b,0,rfl⟩)
 rw[Qs] at h7
 have hns2:ns.length<=rest.length:=by
  have:(n+m) * i.size<=c * i.size:=Qt _ hroom
  rw[QQ] at this
  omega
 cases m with
 | zero=>
   have:ns=[]:=by simpa using hns
   subst this
   refine⟨h,?_,⟨by simpa using h1,h2,h3,h4',h5,rest,by simpa using h6,by simpa using h7⟩,rfl,λ_ _=>rfl⟩
   rw[zaO hu]
   unfold zaN
   simp only[hu,hi,hx,hfc,hfn,hz]
   rw[if_pos ⟨hzs,hpos,hns,h1⟩,if_neg (by omega),if_pos hroom]
   rfl
 | succ m'=>
   refine⟨h.set b (.cells (cs ++ ns ++ rest.drop ns.length) elem false),?_,⟨by rw[Qs,h1,hns,<-QQ],h2,h3,hroom,h5,rest.drop ns.length,zaf _ _ _,?_⟩,rfl,λx hx=>zal hx⟩
   ·rw[zaO hu]
    unfold zaN
    simp only[hu,hi,hx,hfc,hfn,hz]
    rw[if_pos ⟨hzs,hpos,hns,h1⟩,if_neg (by omega),if_pos hroom]
    have:zap h b (0+n * i.size) ns=some (h.set b (.cells (cs ++ ns ++ rest.drop ns.length) elem false)):=by
     unfold zap
     rw[h6]
     simp only
     rw[if_pos (by rw[Qs]; omega),Qq,<-h1,List.take_left,QO]
     rw[QI (by omega),QU,show cs.length+ns.length - cs.length=ns.length by omega]
    rw[this]
   ·rw[Qs,Qs,Je]; omega
theorem zby.cutQ {P:Program} {lim:Nat} {h:AH} {elem:TypeId} {sz:Nat} {p:Option Addr} {n c:Nat} {cs:List Value} (g:zby lim h elem sz p n c cs) (hn:n < zai):zg1 P h elem p n c:=by
 rcases g.2 with ⟨h1,h2,h3⟩ | ⟨b,h1, -, -,h4,h5⟩
 ·exact .inl ⟨h1,h2,by omega⟩
 ·refine .inr ⟨b,0,h1,?_⟩
  rcases h5 with h5 | h5
  ·exact .inr ⟨h5,_,_,_,h4,rfl⟩
  ·exact .inl ⟨by omega,by omega⟩
theorem zuo (x:Nat):zaT .shr .u64 (x:Int) 1=some (.int .u64 ((x / 2:Nat):Int)):=by
 unfold zaT
 rw[if_neg (by omega)]
 have h1:min ((1:Int)).toNat (IntKind.bits .u64)=1:=by decide
 simp only[h1]
 congr 2
 rw[Int.fdiv_eq_ediv_of_nonneg _ (by decide)]
 omega
section
variable {P:Program} {K:Xs} {h h' : AH}
def LtH (h:AH):Prop:=∀b o,h.get b=some o->b < h.next
theorem LtH.alloc (z:LtH h) {o:zb3}:LtH (h.alloc o):=λb q e=>by
 rw[AH.get_alloc] at e
 rw[AH.next_alloc]
 split at e
 ·omega
 ·have:=z b q e; omega
theorem LtH.del (z:LtH h) {b:Nat}:LtH (h.del b):=λc q e=>by
 rw[AH.get_del] at e
 split at e
 ·grind
 ·exact z c q e
theorem LtH.set (z:LtH h) {b:Nat} {o o' : zb3} (hb:h.get b=some o):LtH (h.set b o'):=λc q e=>by
 rw[AH.get_set] at e
 split at e
 ·rename_i hc; exact z c o (hc▸hb)
 ·exact z c q e
theorem LtH.killV (z:LtH h) (v:Value):LtH (killV h v):=by
 unfold Am.killV
 grind[del]
theorem LtH.preKill (z:LtH h) (ks:List Tmp) (d:Option Tmp) (e:Env):LtH (preKill ks d e h):=by
 unfold Am.preKill
 grind[killV]
theorem zbQ {b off:Nat} {vs:List Value} (hs:zap h b off vs=some h'):LtH h->LtH h':=by grind[zap,LtH.set]
theorem zsq {st:TypeId} {xi:Bool} {s x v:Value} (hs:zaN P h st xi s x=some (v,h')):LtH h->LtH h':=by
 unfold zaN at hs
 repeat' split at hs
 all_goals first | (simp at hs; done) | skip
 all_goals grind[LtH.alloc,LtH.del,zbQ]
theorem zwH {st:TypeId} {d s v:Value} (hs:zc7 P h st d s=some (v,h')):LtH h->LtH h':=by
 unfold zc7 at hs
 repeat' split at hs
 all_goals first | (simp at hs; done) | skip
 all_goals grind[zbQ]
theorem zup {t:TypeId} {x v:Value} (hs:ze9 P h t x=some (v,h')):LtH h->LtH h':=by
 unfold ze9 at hs
 grind[zbQ]
theorem zsr {t:TypeId} {m k v:Value} (hs:zeS P h t m k=some (v,h')):LtH h->LtH h':=by
 unfold zeS at hs
 grind[LtH.set]
theorem zss {t:TypeId} {m k v:Value} (hs:za9 P h t m k v=some h'):LtH h->LtH h':=by
 unfold za9 at hs
 grind[LtH.set]
theorem zms {t:TypeId} {l c v:Value} (hs:zaV P h t l c=some (v,h')):LtH h->LtH h':=by
 unfold zaV at hs
 grind[LtH.alloc]
theorem zkL {t:TypeId} {n:Nat} {ps:Array (Nat×Value)} {v:Value} (hs:zas P h t n ps=some (v,h')):LtH h->LtH h':=by grind[zas,LtH.alloc]
theorem zqd {s d:TypeId} {x v:Value} (hs:zav P h s d x=some (v,h')):LtH h->LtH h':=by
 unfold zav at hs
 grind[LtH.alloc,LtH.set]
theorem zuq {t:TypeId} {a v:Value} (hs:zbK P h t a v=some h'):LtH h->LtH h':=by
 unfold zbK at hs
 grind[zbQ]
theorem zjO {b:Builtin} {ats:Array TypeId} {args:List Value} {v:Value} (hs:zak P h b ats args=some (v,h')):LtH h->LtH h':=by
 unfold zak at hs
 split at hs
 ·grind[Qk]
 ·grind[Qk]
 ·split at hs
  ·unfold zeb at hs
   grind[LtH.alloc]
  grind[zsq]
 all_goals grind[zwH,zup,zsr,Qk]
theorem zzL {o:Oper} {e:Env} {v:Value} (hs:aOp P o e h=some (v,h')):LtH h->LtH h':=by
 obtain⟨dst,op,type,pos,after,guard⟩:=o
 cases op <;> simp only[aOp] at hs
 case typeAssert x xt t ok=>grind
 case makeInterface t x=>grind
 all_goals first
  | (simp at hs; done)
  | (obtain⟨_,_,hq⟩:=Qk.1 hs; cases hq; exact id)
  | (obtain⟨_,rfl⟩:=hs; exact id)
  | exact zms hs
  | exact zkL hs
  | exact zqd hs
  | (obtain⟨h2,hst,hq⟩:=Qk.1 hs; cases hq; exact zuq hst)
  | (obtain⟨h2,hst,hq⟩:=Qk.1 hs; cases hq; exact zss hst)
  | skip
 case call c=>grind[zjO]
 case next it st=>grind[LtH.set]
 all_goals
  repeat' split at hs
 all_goals first
  | (simp at hs; done)
  | (obtain⟨_,rfl⟩:=hs; (intro z; first | exact z | exact z.alloc | exact z.set (by assumption) | exact z.del.alloc | exact zbQ (by assumption) z))
  | (obtain⟨_,_,hq⟩:=Qk.1 hs; cases hq; exact id)
  | (obtain⟨_,hs⟩:=zhB hs; obtain⟨_,_,hq⟩:=Qk.1 hs; cases hq; exact id)
def zzM (r:Ex):Prop:=∀rd ks c e h x e' h',r rd ks c e h=some (x,e',h')->LtH h->LtH h'
section
variable {r:Ex} (M:zzM r) (KL:∀f x,K f=some (.ext x)\/K f=some (.sum x)->∀args h v h',x args h=some (v,h')->LtH h->LtH h')
include M KL
omit KL in
theorem zur {f:FuncId} {args:List Value} {v:Value} (hs:zeT P r f args h=some (v,h')):LtH h->LtH h':=by
 unfold zeT at hs
 split at hs
 rotate_left
 ·simp at hs
 split at hs
 rotate_left
 ·simp at hs
 split at hs
 ·rename_i hr
  split at hs
  ·simp only[Qa,Qg] at hs
   obtain⟨_,rfl⟩:=hs
   exact M _ _ _ _ _ _ _ _ hr
  ·simp at hs
 ·rename_i hr
  split at hs
  ·simp only[Qa,Qg] at hs
   obtain⟨_,rfl⟩:=hs
   exact M _ _ _ _ _ _ _ _ hr
  ·simp at hs
 ·simp at hs
theorem zkM {f:FuncId} {args:List Value} {v:Value} (hs:zcr P K r f args h=some (v,h')):LtH h->LtH h':=by
 unfold zcr at hs
 split at hs
 ·rename_i hk
  exact KL _ _ (.inr hk) _ _ _ _ (zcl hs).2
 all_goals grind[zur]
theorem zus {f:FuncId} {args:List Value} {v:Value} (hs:zew P K r f args h=some (v,h')):LtH h->LtH h':=by
 unfold zew at hs
 split at hs
 ·rename_i hk
  exact KL _ _ (.inl hk) _ _ _ _ (zcl hs).2
 ·exact zkM M KL hs
omit KL in
theorem zst {l:Nat} {args:List Value} {v:Value} (hs:zc9 r l args h=some (v,h')):LtH h->LtH h':=by
 unfold zc9 at hs
 split at hs
 rotate_left
 ·simp at hs
 split at hs
 rotate_left
 ·simp at hs
 split at hs
 rotate_left
 ·simp at hs
 rename_i h1
 split at hs
 rotate_left
 ·simp at hs
 split at hs
 rotate_left
 ·simp at hs
 split at hs
 rotate_left
 ·simp at hs
 rename_i h2
 split at hs
 rotate_left
 ·simp at hs
 have a1:=M _ _ _ _ _ _ _ _ h1
 have a2:=M _ _ _ _ _ _ _ _ h2
 split at hs <;>
 ·simp only[Qa,Qg] at hs
  obtain⟨_,rfl⟩:=hs
  exact λz=>(a2 ((a1 z).set (by assumption))).set (by assumption)
theorem zqe {f:Value} {args:List Value} {v:Value} (hs:zcs P K r f args h=some (v,h')):LtH h->LtH h':=by
 unfold zcs at hs
 split at hs
 ·exact zus M KL hs
 all_goals grind[zst]
theorem zoX {o:Oper} {e:Env} {v:Value} (hs:runOp P K r o e h=some (v,h')):LtH h->LtH h':=by
 unfold runOp at hs
 split at hs
 ·exact zqe M KL hs
 grind[zzL]
theorem ziF {ks:List Tmp} {ops:Array Oper}:∀{os:List Oper} {e e' : Env} {h h' : AH},zbi P K r ks ops os e h=some (e',h')->LtH h->LtH h'
 | [],e,e',h,h',hs=>by grind[zbi]
 | o :: os,e,e',h,h',hs=>by
   unfold zbi at hs
   split at hs
   ·split at hs
    ·rename_i hr
     have a1:=zoX M KL hr
     exact λz=>ziF hs (a1 (z.preKill _ _ _))
    grind
   ·exact ziF hs
   grind
theorem znW {ops:Array Oper}:∀{os:List Nat} {e:Env} {h:AH} {l:List (Env×AH)},zcY P K r ops os e h=some l->∀y,l.getLast?= some y->LtH h->LtH y.2
 | [],e,h,l,hr,y,hy=>by grind[zcY]
 | j :: js,e,h,l,hr,y,hy=>by
   have ne:∀{os:List Nat} {e:Env} {h:AH} {l:List (Env×AH)},zcY P K r ops os e h=some l->l≠[]:=by
    intro os e h l hq
    cases os with
    | nil=>grind[zcY]
    | cons a os=>
      unfold zcY at hq
      grind
   unfold zcY at hr
   split at hr
   rotate_left
   ·grind
   split at hr
   ·split at hr
    ·rename_i v h1 hr1
     have n1:=zoX M KL hr1
     split at hr
     ·rename_i l2 hl2
      simp only[Qa] at hr
      subst hr
      rw[List.getLast?_cons_of_ne_nil (ne hl2)] at hy
      exact λz=>znW hl2 y hy (n1 z)
     grind
    grind
   ·split at hr
    ·rename_i l2 hl2
     simp only[Qa] at hr
     subst hr
     rw[List.getLast?_cons_of_ne_nil (ne hl2)] at hy
     exact znW hl2 y hy
    grind
   grind
theorem zsu {ops:Array Oper} {e e' : Env} (hs:zb8 P K r ops e h=some (e',h')):LtH h->LtH h':=by
 unfold zb8 at hs
 split at hs
 rotate_left
 ·grind
 split at hs
 rotate_left
 ·grind
 rename_i hl
 split at hs
 rotate_left
 ·grind
 exact znW M KL hl _ hs
theorem zmt {f:Value} {l:Nat} {v:Value} (hs:zbp P K r f l h=some (v,h')):LtH h->LtH h':=by
 unfold zbp at hs
 split at hs
 ·exact zkM M KL hs
 grind
theorem zqf {ks:List Tmp} {f:Operand} {ps:List Tmp} {asx bd:Code} {e e' : Env} {x:AX} (hs:zct P K r ks f ps asx bd e h=some (x,e',h')):LtH h->LtH h':=by
 unfold zct at hs
 split at hs
 rotate_left
 ·grind
 rename_i hi
 have a1:=zmt M KL hi
 grind[LtH.alloc,LtH.del]
theorem zsv:zzM (zaJ P K r):=by
 intro rd ks c e h x e' h' hs
 unfold zaJ at hs
 split at hs
 ·grind
 ·grind
 ·split at hs
  ·split at hs
   ·rename_i hr
    obtain⟨_,_,rfl⟩:=hs
    exact ziF M KL hr
   grind
  ·split at hs
   ·rename_i hr
    obtain⟨_,_,rfl⟩:=hs
    exact zsu M KL hr
   grind
 ·split at hs
  ·rename_i hr
   exact λz=>M _ _ _ _ _ _ _ _ hs (M _ _ _ _ _ _ _ _ hr z)
  ·exact M _ _ _ _ _ _ _ _ hs
 ·split at hs
  ·rename_i t _
   cases t
   ·exact M _ _ _ _ _ _ _ _ hs
   ·exact M _ _ _ _ _ _ _ _ hs
  grind
 ·split at hs
  ·rename_i id' _ _ hr
   have:=M _ _ _ _ _ _ _ _ hr
   grind
  ·exact M _ _ _ _ _ _ _ _ hs
 ·split at hs
  ·rename_i hr
   exact λz=>M _ _ _ _ _ _ _ _ hs (M _ _ _ _ _ _ _ _ hr z)
  ·exact M _ _ _ _ _ _ _ _ hs
 ·exact M _ _ _ _ _ _ _ _ hs
 ·grind
 ·grind
 ·split at hs
  ·grind
  ·exact zqf M KL hs
 all_goals grind
end
theorem zA9 (KL:∀f x,K f=some (.ext x)\/K f=some (.sum x)->∀args h v h',x args h=some (v,h')->LtH h->LtH h'):∀n,zzM (ex P K n)
 | 0=>λ_ _ _ _ _ _ _ _ hs=>by grind[ex]
 | n+1=>zsv (zA9 KL n) KL
end
end Go.Am
