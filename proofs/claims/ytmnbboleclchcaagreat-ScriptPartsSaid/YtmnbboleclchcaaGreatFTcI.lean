/-
  Texts of this proof, part 38. No condition.
-/
import Derived.Test.YtmnbboleclchcaaGreatFVMiy
set_option linter.unusedVariables false
set_option linter.unusedSimpArgs false
set_option maxRecDepth 100000
namespace Go.Am
open Go.Proofs
theorem zBd {S:TY} {g:Int} {hp:AH} (hw:WT cx0 S g hp) {base n TS T:Nat} {v:Value} (gx:SlV cx0 S base false false false TS n v) (hfl:cx0.fl TS=[TS]) (hck:ck cx0 TS=.ss T):
 ∃p c,∃f:Nat->Nat,v=.slice p n c/\∀{j:Nat} {h' : AH},j < n->Old hp h'->f j<=zbd/\∃b off,p=some ⟨b,off,none⟩/\∃p' c',ld1 h' b (off+j)=some (.slice p' (f j) c')/\SlV cx0 S 0 false false false T (f j) (.slice p' (f j) c'):=by
 have hz:sz cx0 TS=1:=by grind[sz]
 obtain⟨p,c,cs,rfl,hp',hs,hc⟩:=zkK hw gx (by omega)
 rw[hz] at hs hc
 have hf:∀j,∃m:Nat,j < n->m<=zbd/\∃x,cs[j]?= some x/\SlV cx0 S 0 false false false T m x:=λj=>by
  rcases QL j n with hj | hj
  ·obtain⟨x,e1,e2⟩:=hc j hj 0 _ (by rw[hfl]; rfl)
   grind[okC]
  ·exact⟨0,by omega⟩
 obtain⟨f,hf⟩:=Q2 hf
 refine⟨p,c,f,rfl,λ{j h'} hj o=>?_⟩
 obtain⟨b,off,e1,e2⟩:=(hs.old o).get hj
 obtain⟨m,x,e3,e4⟩:=hf j hj
 obtain⟨-,p',c',rfl, -⟩:=e4
 grind
theorem zy3:cx0.fl 96=[3,62,94]:=by kernel_rfl
theorem zo3:sz cx0 96=3:=by grind[sz,zy3]
theorem zsL:za5 Tryz.prog 97 96 3 24:=zaU (by kernel_rfl)
theorem zzV {h:AH} {b n m c' : Nat} {al new:List Value} {p' : Option Addr} (hb:h.get b=some (.cells al 96 false)) (hl:b < h.next) (hn:n * 3<=al.length) (f2:firstC h 3 m (.slice p' m c')=some new) (hnew:new.length=m * 3) (hr:(n+m) * 24<=zay):
 ∃h',zak Tryz.prog h .append #[97,97] [.slice (some ⟨b,0,none⟩) n zai,.slice p' m c']=some (.slice (some ⟨h.next,0,none⟩) (n+m) zai,h')/\h'.next=h.next+1/\h'.get h.next=some (.cells (al.take (n * 3) ++ new) 96 false)/\∀x,x < h.next->x≠b->h'.get x=h.get x:=by
 obtain⟨hu,i,z,hi,hz,hzs,hpos,hsz,hby⟩:=zsL
 have hb0:zak Tryz.prog h .append #[97,97] [.slice (some ⟨b,0,none⟩) n zai,.slice p' m c']=zaN Tryz.prog h 97 false (.slice (some ⟨b,0,none⟩) n zai) (.slice p' m c'):=zaO hu
 have S0:zaF h (some ⟨b,0,none⟩) n 3 (al.take (n * 3)):=⟨by grind,.inr ⟨b,0,al,_,_,rfl,hl,hb,by omega,by rfl⟩⟩
 have f1:=S0.firstC (c:=zai) (.inr ⟨_,_,rfl⟩)
 rw[hb0]
 unfold zaN
 have hc:z.cells.size=3/\0 < 3/\new.length=m * 3/\(al.take (n * 3)).length=n * 3:=by grind
 simp only[hu,hi,hsz,zi5,f1,f2,hz,hby,hb]
 rw[if_pos hc,if_pos trivial,if_pos (by grind[zay])]
 refine⟨_,rfl,rfl,zao _ _,λx hx hne=>?_⟩
 grind[zbx,AH.next_del,AH.get_del]
theorem zsM:zuN Tryz.prog 97 (.slice none 0 0)=some (.int .i64 0):=by kernel_rfl
theorem zzW {h:AH} {s:Nat} (h2:s * 24<=zay):Wf Tryz.prog KB 195 [.slice none 0 0,.int .i64 (s:Nat)] h λv h'=>(v=.slice none 0 0/\h'= h)\/∃al,v=.slice (some ⟨h.next,0,none⟩) 0 zai/\h.next < h'.next/\h'.get h.next=some (.cells al 96 false)/\Old h h':=by
 unfold zay at h2
 refine zwL (xb rfl) _ _ _ _ h _ ⟨by omega,λ_=>⟨_,zsM,λi1 e1 i2 e2=>⟨λz=>⟨_,zsM,?_⟩,by simp⟩⟩⟩
 have e1:i1=0:=by rw[zaR e1 (by omega) (by omega)]; rfl
 have e2:i2=(s:Nat):=by rw[zaR e2 (by omega) (by omega)]; omega
 subst e2
 have k1:zau Tryz.prog h 97 (.slice none 0 0) none (some (.int .i64 0)) none=some (.slice none 0 0):=by kernel_rfl
 obtain⟨hu,i,zz,hi,hz,hzs,hpos,hsz,hby⟩:=zsL
 have hz' : zan Tryz.prog 96=some [.int .i64 0,.int .u64 0,.int .u32 0]:=by kernel_rfl
 have k2:zak Tryz.prog h .append #[97,3] [.slice none 0 0,.int .i64 (s:Nat)]=some (.slice (some ⟨h.next,0,none⟩) s zai,h.alloc (.cells ((List.replicate s [.int .i64 0,.int .u64 0,.int .u32 0]).flatten) 96 false)):=by
  have hui:Tryz.prog.underlying 3=some (.int .i64):=by rfl
  unfold zak
  unfold zeb
  grind[zay]
 refine⟨_,_,_,k1,_,_,_,_,k2,?_⟩
 have w:=zao h (.cells ((List.replicate s [Value.int .i64 0,.int .u64 0,.int .u32 0]).flatten) 96 false)
 have k3:zau Tryz.prog (h.alloc (.cells ((List.replicate s [Value.int .i64 0,.int .u64 0,.int .u32 0]).flatten) 96 false)) 97 (.slice (some ⟨h.next,0,none⟩) s zai) none (some (.int .i64 ((0:Nat):Int))) none=some (.slice (some ⟨h.next,0,none⟩) 0 zai):=by
  unfold zau
  unfold zbk
  grind[zfs]
 exact⟨_,_,_,k3,.inr ⟨_,rfl,Jb _,w,za2 _ _⟩⟩
def zqu (f:Nat->Nat):Nat->Nat
 | 0=>0
 | j+1=>zqu f j+f j
theorem zsN {f:Nat->Nat} {C:Nat}:∀{j:Nat},(∀i,i < j->f i<=C)->zqu f j<=j * C
 | 0,_=>by simp[zqu]
 | j+1,h=>by
   have:=zsN (j:=j) λi hi=>h i (by omega)
   grind[zqu]
theorem zDn:cx0.fl 4000097=[4000097]:=by kernel_rfl
theorem zDo:ck cx0 4000097=.ss 96:=by kernel_rfl
theorem zuB {S:TY} {g:Int} {hp h' : AH} {Q:TV->Int->Prop} {p:Option Addr} {n c:Nat} {cs:List Value} (hw:WT cx0 S g hp) (o:Old hp h') (G:zby hp.next h' 96 3 p n c cs) (hv:zaw cx0 S (zaK cx0 96 n) cs) (hn:n<=zcf) (hq:Q (.sl true true false 96 n) g):Fin S g hp true Q (.slice p n c) h':=by
 obtain⟨h1,h2⟩:=G
 rcases h2 with ⟨rfl,rfl,rfl⟩ | ⟨b,rfl,g1,g2,g3,g4⟩
 ·exact za7 hw o (by exact⟨Qf _,none,0,rfl,by simp⟩) rfl hq
 ·refine zdE hw o g1 g2 g3 hv ?_ rfl hq
  refine⟨hn,_,c,rfl,.inr ⟨b,0,false,96,zaK cx0 96 n,rfl,if_pos rfl,by grind[zbo],λ_=>rfl,λ_=>g1,?_⟩⟩
  rcases g4 with rfl | rfl
  ·exact .inr ⟨rfl,rfl,by kernel_rfl⟩
  grind[zcf,zai]
theorem zDp:Vl 125 zAE:=za0 λρ g Q H S hp vs hw hg=>by
 obtain⟨(n:Nat),_⟩:=ρ
 obtain⟨x,rfl,gx⟩:=zhe (a:=.sl false false false 4000097 n) hg
 obtain⟨(hbig:n<=big),H⟩:=H
 obtain⟨p,c,f,rfl,at1⟩:=zBd hw gx zDn zDo
 have bd:∀{j:Nat},j<=n->zqu f j<=n * zbd:=λ{j} hj=>Qm (zsN λi hi=>(at1 (j:=i) (by omega) (Old.refl _)).1) (Qt _ hj)
 have hbig' : n<=1048576:=hbig
 have bn:n * zbd<=274877906944:=by grind[zbd]
 refine zsE (xb rfl) _ _ _ _ _ ⟨λi4 i5 k h=>∃j:Nat,i5=j/\j<=n/\i4=(zqu f j:Nat)/\n - j=k/\h=hp,⟨_,0,rfl,Qf _,rfl,rfl,rfl⟩,?_⟩
 rintro k h i4 i5 ⟨j,rfl,hj,rfl,rfl,rfl⟩
 refine⟨λz=>?_,λz=>?_⟩
 ·obtain⟨m,b,off,rfl,p',c',l1,l2⟩:=at1 (j:=j) (by omega) (Old.refl _)
  have b1:=bd (j:=j+1) (by omega)
  simp only[zqu] at b1
  refine zaa ⟨by omega,z,_,_,_,by rw[Qi,Qp]; omega,λi11 e11=>?_⟩
  have e11:=zaR e11 (by omega) (by omega)
  refine⟨by omega,λ_ i12 e12=>?_⟩
  have e12:=zaR e12 (by omega) (by omega)
  exact⟨_,by omega,j+1,by omega,by omega,by rw[e11]; rfl,rfl,rfl⟩
 obtain rfl:j=n:=by omega
 have bj:=bd (Qc j)
 have I:∀{p22:Option Addr} {n23 c24:Nat} {h14:AH},Old h h14->n23=0->(zby h.next h14 96 3 p22 0 c24 []\/∃b al,p22=some ⟨b,0,none⟩/\c24=zai/\h.next<=b/\b < h14.next/\h14.get b=some (.cells al 96 false))->
  ∃I18:Option Addr->Nat->Nat->Int->Nat->AH->Prop,(∃n,I18 p22 n23 c24 0 n h14)/\
  ∀(k19:Nat) (h20:AH),∀(p22:Option Addr) (n23:Nat) (c24:Nat),∀(i25:Int),I18 p22 n23 c24 i25 k19 h20->
  ((i25:Int) < ((j:Nat):Int)->zag p λb26 o27=>(((0:Int)<=i25)/\((i25:Int) < ((j:Nat):Int))/\
  (∃(p28:Option Addr) (n29 c30:Nat),ld1 h20 b26 (o27+Int.toNat i25 * 1)=some (.slice p28 n29 c30)/\
  (∃(p31:Option Addr) (n32 c33:Nat) (h34:AH),zak Tryz.prog h20 .append #[97,97] [(.slice p22 n23 c24),(.slice p28 n29 c30)]=some (.slice p31 n32 c33,h34)/\
  (∀i35:Int,i35=IntKind.wrap .i64 (i25+1)->∃j21,j21 < k19/\I18 p31 n32 c33 i35 j21 h34)))))/\
  (¬(i25:Int) < ((j:Nat):Int)->Fin S g h true Q (.slice p22 n23 c24) h20):=by
  intro p22 n23 c24 h14 o14 e23 st
  refine⟨λp n c i k h1=>∃u:Nat,i=u/\u<=j/\j - u=k/\n=zqu f u/\Old h h1/\((∃cs,zby h.next h1 96 3 p n c cs/\zaw cx0 S (zaK cx0 96 n) cs)\/(n=0/\∃b al,p=some ⟨b,0,none⟩/\c=zai/\h.next<=b/\b < h1.next/\h1.get b=some (.cells al 96 false))),
   ⟨_,0,rfl,Qf _,rfl,e23,o14,?_⟩,?_⟩
  ·grind[zaW]
  rintro k h1 p1 _ c1 _ ⟨u,rfl,hu,rfl,rfl,o1,st⟩
  refine⟨λz=>?_,λz=>?_⟩
  ·have huj:u < j:=by omega
   obtain⟨m,b,off,rfl,p',c',l1,l2⟩:=at1 huj o1
   have b1:=bd (j:=u+1) (by omega)
   simp only[zqu] at b1
   obtain⟨q1,new,q2,q3,q4⟩:=zoY hw l2 (by grind[zo3]) o1
   have rm:(zqu f u+f u) * 24<=zay:=by grind[zay]
   refine zaa ⟨by omega,z,_,_,_,by rw[Qi,Qp]; omega,?_⟩
   rcases st with ⟨cs,G1,T1⟩ | ⟨e0,b0,al,rfl,rfl,s1,s2,s3⟩
   ·obtain⟨p2,c2,h2,k2,G2,ob2, -, -⟩:=G1.append zsL o1.1 q1 q2 q3 rm (by omega) ⟨_,zsL.1⟩
    refine⟨_,_,_,h2,k2,λi35 e35=>?_⟩
    have e35:=zaR e35 (by omega) (by omega)
    exact⟨_,by omega,u+1,by omega,by omega,rfl,rfl,⟨Qm o1.1 ob2.1,λx hx=>by rw[ob2.2 x hx,o1.2 x hx]⟩,.inl ⟨_,G2,zaL (X:=cx0) (T:=96) (by exact G1.1) T1 q4⟩⟩
   ·obtain⟨h2,k2,n2,w2,f2⟩:=zzV (n:=0) s3 s2 (by omega) q2 q3 (by omega)
    rw[Qq] at k2
    rw[e0]
    refine⟨_,_,_,h2,k2,λi35 e35=>?_⟩
    have e35:=zaR e35 (by omega) (by omega)
    exact⟨_,by omega,u+1,by omega,by omega,rfl,by grind[zqu],⟨by omega,λx hx=>by rw[f2 x (by omega) (by omega),o1.2 x hx]⟩,.inl ⟨new,⟨q3,by grind⟩,q4⟩⟩
  ·obtain rfl:u=j:=by omega
   have hq:=H (zqu f u) bj
   rcases st with ⟨cs,G1,T1⟩ | ⟨e0,b0,al,rfl,rfl,s1,s2,s3⟩
   ·exact zuB hw o1 G1 T1 (by grind[zcf]) hq
   ·rw[e0] at hq ⊢
    refine zdE hw o1 s1 s2 s3 (cc:=λ_=>none) (λi t hi=>by grind) ?_ rfl hq
    exact⟨Qf _,_,_,rfl,.inr ⟨b0,0,false,96,_,rfl,if_pos rfl,by omega,λ_=>rfl,λ_=>s1,.inr ⟨rfl,rfl,by kernel_rfl⟩⟩⟩
 refine (zzW (by grind[zay])).mono ?_
 rintro _ h14 (⟨rfl,rfl⟩ | ⟨al,rfl,r1,r2,r3⟩)
 ·exact⟨_,_,_,rfl,I (Old.refl _) rfl (by grind[zby.nil])⟩
 ·exact⟨_,_,_,rfl,I r3 rfl (by grind)⟩
theorem zDq:ck cx0 94=.int .u32 (kLo .u32) (kHi .u32):=by kernel_rfl
def ptC (a b c:Int):List Value:=[.int .i64 a,.int .u64 b,.int .u32 c]
structure PtR (a b c:Int):Prop where
 a:InR .i64 a
 b:InR .u64 b
 c:InR .u32 c
theorem zmz {S:TY} {l:List Value} (hl:l.length=3) (h:∀(i:Nat) (t:Nat),(cx0.fl 96)[i]?= some t->∃x:Value,l[i]?= some x/\okC cx0 S t x):∃a b c:Int,l=ptC a b c/\PtR a b c:=by
 match l,hl with
 | [x,y,z],_=>
   obtain⟨_,e0,k0⟩:=h 0 3 rfl
   obtain⟨_,e1,k1⟩:=h 1 62 rfl
   obtain⟨_,e2,k2⟩:=h 2 94 rfl
   cases e0
   cases e1
   cases e2
   unfold okC at k0 k1 k2
   obtain⟨a,rfl,k0⟩:=k0
   obtain⟨b,rfl,k1⟩:=k1
   obtain⟨c,rfl,k2⟩:=k2
   exact⟨a,b,c,rfl,k0,k1,k2⟩
theorem zkV {S:TY} {a b c:Int} (r:PtR a b c):zaw cx0 S (zcR cx0 96) (ptC a b c):=λi t hi=>by
 unfold zcR at hi
 rw[zy3] at hi
 match i,hi with
 | 0,hi=>cases hi; exact⟨_,rfl,by unfold okC; exact⟨_,rfl,r.a⟩⟩
 | 1,hi=>cases hi; exact⟨_,rfl,zut r.b⟩
 | 2,hi=>cases hi; exact⟨_,rfl,by unfold okC; exact⟨_,rfl,r.c⟩⟩
 | i+3,hi=>grind
theorem zsO {S:TY} {a b c:Int} (r:PtR a b c):zaw cx0 S (zaK cx0 96 1) (ptC a b c):=zaW λj hj i t hi=>by
 have:=zkV (S:=S) r i t (by grind[zcR])
 grind
theorem zo4 {S:TY} {h:AH} {base:Nat} {a b c:Int} (r:PtR a b c):gam cx0 S h L0 base (.aggT 96) (.agg #[.int .i64 a,.int .u64 b,.int .u32 c]):=by
 exact⟨ptC a b c,rfl,by rfl,zkV r⟩
theorem zsP {S:TY} {h:AH} {base:Nat} {v:Value} (g:gam cx0 S h L0 base (.aggT 96) v):∃a b c:Int,v=.agg #[.int .i64 a,.int .u64 b,.int .u32 c]/\PtR a b c:=by
 obtain⟨vs,rfl,hl,ht⟩:=g
 obtain⟨a,b,c,rfl,r⟩:=zmz hl λi t hi=>ht i t hi
 exact⟨a,b,c,rfl,r⟩
theorem zx5 {S:TY} {g:Int} {hp:AH} (w:WT cx0 S g hp) {base n:Nat} {wr fr kc:Bool} {v:Value} (s:SlV cx0 S base wr fr kc 96 n v):
 ∃p c,v=.slice p n c/\∀j,j < n->∃b off,p=some ⟨b,off,none⟩/\∃x y z,PtR x y z/\∀h',Old hp h'->ldN h' b (off+j * 3) 3=some (ptC x y z):=by
 obtain⟨p,c,cs,rfl,hp',hs,hc⟩:=zkK w s (by grind[zo3])
 rw[zo3] at hs hc
 refine⟨p,c,rfl,λj hj=>?_⟩
 have hl:=hs.1
 obtain⟨b,off,rfl,e2, -⟩:=hs.getN hj
 obtain⟨x,y,z,ec,r⟩:=zmz (S:=S) (l:=(cs.drop (j * 3)).take 3) (by grind) λi t hi=>by grind[zy3]
 refine⟨b,off,rfl,x,y,z,r,λh' o=>?_⟩
 obtain⟨b',off',q,e3, -⟩:=(hs.old o).getN hj
 grind
theorem zc6 {f:FuncId} {s:FS} (v:Vl f s) (hpu:s.pu=true) {ρ:ATs s.ps} {S:TY} {g:Int} {hp h1:AH} (hw:WT cx0 S g hp) (o:Old hp h1) {vs:List Value} (ga:gams cx0 S h1 L0 h1.next (instAs s.ps ρ) vs) {Q' : TV->Prop} (H:s.s ρ g λr _=>Q' r):
 Wf Tryz.prog KB f vs h1 λv h'=>Old h1 h'/\∃S' r,gam cx0 S' h' L0 h1.next r v/\Q' r:=by
 refine (v ρ g _ H S h1 vs (hw.old o) ga).mono ?_
 rintro v h' ⟨S2,r,g2,xx,wt2,nx,fr,gm, -,hq⟩
 exact⟨⟨nx,by grind⟩,S2,r,gm,hq⟩
theorem zDr {c:Int} (h:InR .u32 c):(Lit.int .u32 c).wf=true:=by grind[InR,kLo,kHi,Lit.wf,IntKind.min,IntKind.max,IntKind.signed,IntKind.bits]
theorem zx6 {c:Int} (h:InR .u64 c):(Lit.int .u64 c).wf=true:=by grind[InR,kLo,kHi,Lit.wf,IntKind.min,IntKind.max,IntKind.signed,IntKind.bits]
theorem zzX {c:Int} (h:InR .i64 c):(Lit.int .i64 c).wf=true:=by grind[InR,kLo,kHi,Lit.wf,IntKind.min,IntKind.max,IntKind.signed,IntKind.bits]
theorem zvg {a b c:Int} (r:PtR a b c):zev Tryz.prog 96 (.agg #[.int .i64 a,.int .u64 b,.int .u32 c])=some [.int .i64 a,.int .u64 b,.int .u32 c]:=by
 rw[znn (by simp[Value.formed]),zgR Tryz.underlying96 (d:=39) rfl]
 have k3:=zfq (P:=Tryz.prog) Tryz.underlying3 (m:=39) (d:=38) rfl a
 have k4:=zfq (P:=Tryz.prog) Tryz.underlying62 (m:=39) (d:=38) rfl b
 have k5:=zfq (P:=Tryz.prog) Tryz.underlying94 (m:=39) (d:=38) rfl c
 rw[if_pos (zzX r.a)] at k3
 rw[if_pos (zx6 r.b)] at k4
 rw[if_pos (zDr r.c)] at k5
 simp_all
theorem zx7:und cx0 97=some (.slice 96):=by kernel_rfl
theorem zx8:(inf cx0 96).isSome=true:=by kernel_rfl
theorem zzY (v209:Vl 209 zzE) {S:TY} {g:Int} {hp h1:AH} (hw:WT cx0 S g hp) (o:Old hp h1) {a b c x y z:Int} (r:PtR a b c) (q:PtR x y z):
 Wf Tryz.prog KB 209 [.agg #[.int .i64 a,.int .u64 b,.int .u32 c],.agg #[.int .i64 x,.int .u64 y,.int .u32 z]] h1 λv h'=>Old h1 h'/\(v=.bool true\/v=.bool false):=by
 refine (zc6 v209 rfl (ρ:=((),(),())) hw o (vs:=[_,_]) ⟨zo4 r,zo4 q,trivial⟩ (Q':=λr=>r=.bool true\/r=.bool false) ⟨.inl rfl,.inr rfl⟩).mono ?_
 grind[gam]
theorem zDs (v209:Vl 209 zzE) (v235:Vl 235 zAx):Vl 202 zAZ:=za0 λρ g Q H S hp vs hw hg=>by
 obtain⟨(n:Nat),_,_⟩:=ρ
 obtain⟨x,y,rfl,gx,gy⟩:=zd5 (a:=.sl false false false 96 n) (b:=.aggT 96) hg
 obtain⟨a,b,c,rfl,rq⟩:=zsP gy
 obtain⟨(hbig:n<=big),H⟩:=H
 have hbig' : n<=1048576:=hbig
 obtain⟨p,ca,rfl,lat⟩:=zx5 hw gx
 have bad:∀h',Old hp h'->Fin S g hp true Q (.tuple #[.slice none 0 0,.int .i64 131]) h':=λh' o=>za7 hw o (by exact⟨_,rfl,rfl,⟨by omega,none,0,rfl,by simp⟩,⟨rfl,by decide,by decide⟩,trivial⟩) rfl (H 0 (Qf _) 131 ⟨by decide,by decide⟩)
 refine zn2 (xb rfl) _ _ _ _ _ _ hp _ λg0 e0 g1 e1=>?_
 have o0:=zab e0
 have o1:=zab e1
 have n0:=zad e0
 have n1:=zad e1
 have oh1:=o0.trans o1
 have wl:∀{g:AH},Old g1 g->g.get hp.next=some (.cells [.slice p n ca] 97 false):=λo=>(o.2 _ (by omega)).trans (by simp_all)
 have wq:∀{g:AH},Old g1 g->g.get g0.next=some (.cells (ptC a b c) 96 false):=λo=>(o.2 _ (by omega)).trans (zae e1)
 have r1:=Old.refl g1
 have search:Wf Tryz.prog KB 233 [.int .i64 ((n:Nat):Int),.func (.func 234) #[] #[.pointer (some ⟨hp.next,0,none⟩),.pointer (some ⟨g0.next,0,none⟩)]] g1 λv h'=>Old g1 h'/\∃i:Nat,v=.int .i64 (i:Int)/\i<=n:=by
  refine zsF (xb rfl) _ _ _ g1 _ ⟨λx y k g=>∃i j:Nat,x=i/\y=j/\i<=j/\j<=n/\j - i=k/\Old g1 g,⟨_,0,n,rfl,rfl,Qf _,Qc _,rfl,r1⟩,?_⟩
  rintro k1 g2 _ _ ⟨i,j,rfl,rfl,hij,hj,rfl,o2⟩
  refine⟨λz i6 e6 i7 e7=>?_,by grind⟩
  have e6:=zaR e6 (by omega) (by omega)
  subst e6
  have e7:=zv0 e7 (by omega) (by omega)
  subst e7
  refine⟨_,zuo (i+j),λi9 e9=>?_⟩
  have e9:=zaR e9 (by omega) (by omega)
  subst e9
  obtain⟨b5,o6,rfl,x,y,z',rr,ld⟩:=lat ((i+j) / 2) (by omega)
  refine zkT (xb rfl) _ _ _ g2 _ (zaa ⟨_,_,_,zah (wl o2) rfl,zaa ⟨by omega,by omega,_,_,_,by exact ld _ (oh1.trans o2),zaa ⟨_,_,_,zaz (wq o2) rfl,(zzY v209 hw (oh1.trans o2) rr rq).mono ?_⟩⟩⟩)
  rintro _ g11 ⟨o11,rfl | rfl⟩
  ·refine .inl ⟨rfl,.inr ⟨rfl,λi12 e12=>?_⟩⟩
   have e12:=zaR e12 (by omega) (by omega)
   exact⟨j - ((i+j) / 2+1),by omega,(i+j) / 2+1,j,by omega,rfl,by omega,hj,rfl,o2.trans o11⟩
  ·exact .inr ⟨rfl,.inl ⟨rfl,(i+j) / 2 - i,by omega,i,(i+j) / 2,rfl,rfl,by omega,by omega,rfl,o2.trans o11⟩⟩
 refine⟨_,_,_,zah (wl r1) rfl,search.mono ?_⟩
 rintro _ g6 ⟨o6,i,rfl,hi⟩
 refine⟨_,rfl,_,_,_,zaz (wq o6) rfl,(zc6 v235 rfl (ρ:=((),())) hw (oh1.trans o6) (vs:=[_]) ⟨zo4 rq,trivial⟩ (Q':=λr=>r=.bool true\/r=.bool false) ⟨.inl rfl,.inr rfl⟩).mono ?_⟩
 rintro _ g12 ⟨o12,S',r,gm,rfl | rfl⟩
 rotate_left
 ·grind[gam,Old.trans]
 subst gm
 have o112:=o6.trans o12
 have oh12:=oh1.trans o112
 refine .inl ⟨rfl,_,_,_,zah (wl o112) rfl,λz=>?_,λz=>⟨_,_,_,zah (wl o112) rfl,?_⟩⟩
 case' inl.refine_1=>
  obtain⟨b5,o6',hp5,x,y,z',rr,ld⟩:=lat i (by omega)
  refine⟨_,_,_,zah (wl o112) rfl,?_⟩
  rw[hp5]
  refine zaa ⟨by omega,by omega,_,_,_,by exact ld _ oh12,_,_,_,zaz (wq o112) rfl,_,_,zvg rr,zvg rq,λ_=>bad _ oh12,λ_=>?_⟩
  refine⟨_,_,_,zah (wl o112) rfl,?_⟩
 all_goals
  intro i32 e32
  have e32:=zaR e32 (by omega) (by omega)
  refine⟨by omega,λh33 e33=>?_⟩
  have o33:=zab e33
  have G0:za1 g12.next h33 96 3 g12.next 0 (n+1) []:=by grind[za1.make,ze5,zai]
  have oh33:=oh12.trans o33
  obtain⟨p1,c1,es1,k1⟩:=zc5 (hw.old oh33) gx zx7 zx8 (lo:=none) (hi':=some (.int .i64 (i:Int))) (l:=0) (u:=(i:Int)) (.inl ⟨rfl,rfl⟩) (.inr ⟨_,rfl⟩) (by omega) (by omega) (by omega)
  refine⟨_,_,_,by grind[zah,Old.trans],_,_,_,es1,?_⟩
  obtain⟨q1,new1,q2,q3,q4⟩:=zoY (hw.old oh33) k1 (by grind[zo3]) (Old.refl h33)
  obtain⟨h43,k43,G43,n43⟩:=G0.app zsL q1 q2 q3 (by omega)
  have o43:=o33.near n43 (Qc _)
  refine⟨_,_,_,h43,by rw[show i32.toNat=n+1 by omega]; exact k43,_,_,_,zaz (wq (o112.trans o43)) rfl,λh47 e47=>?_⟩
  obtain⟨h51,k51,G51,n51,f51⟩:=G43.push zsL e47 (m:=1) rfl (by omega) (by omega)
  have o51:Old g12 h51:=⟨by have:=o43.1; omega,λb hb=>by rw[f51 b (by have:=o43.1; omega) (by omega),o43.2 b hb]⟩
  obtain⟨p2,c2,es2,k2⟩:=zc5 (hw.old (oh12.trans o51)) gx zx7 zx8 (lo:=some (.int .i64 (i:Int))) (hi':=none) (l:=(i:Int)) (u:=(n:Int)) (.inr ⟨_,rfl⟩) (.inl ⟨rfl,rfl⟩) (by omega) (by omega) (by omega)
  refine⟨_,_,_,h51,k51,_,_,_,by grind[zah,Old.trans],_,_,_,es2,?_⟩
  obtain⟨q5,new2,q6,q7,q8⟩:=zoY (hw.old (oh12.trans o51)) k2 (by grind[zo3]) (Old.refl h51)
  obtain⟨h61,k61,G61,n61⟩:=G51.app zsL q5 q6 q7 (by omega)
  have o61:=o51.near n61 (Qc _)
  refine⟨_,_,_,h61,k61,?_⟩
  have T1:=zaL (X:=cx0) (T:=96) (by exact G0.1) (zaW (S:=S) (T:=96) (n:=0) λj hj=>absurd hj (Nat.not_lt_zero _)) q4
  have T2:=zaL (X:=cx0) (T:=96) (by grind[zo3]) T1 (zsO rq)
  have T3:=zaL (X:=cx0) (T:=96) (by exact G51.1) T2 q8
  have l12:=oh12.1
  obtain⟨al',g1,g2,g3,g4,g5⟩:=zht (hp:=g12) (by exact G61) T3 (by grind[zcf]) false (λq=>by omega)
  refine zdE hw (oh12.trans o61) (by omega) g2 g3 g4 (r:=.tup [.sl false false false 96 (0+i+1+((n:Int) - i).toNat),.int .i64 0]) ?_ rfl (H _ (by omega) 0 ⟨by decide,by decide⟩)
  exact⟨_,rfl,rfl,SlV.weak g5 (λq=>by rfl) (λq=>by grind) (λq=>by omega),⟨rfl,by decide,by decide⟩,trivial⟩
theorem zx9 {h:AH} {p:Option Addr} {n c:Nat} {l:List (Int×Int)} (hs:zaF h p n 2 (spI l)) (hl:l.length=n) (hi:∀q∈l,inP q) (hn:n<=281474976710656):
 Wf Tryz.prog KB 196 [.slice p n c] h λv h'=>Old h h'/\v=.int .i64 ((exI l).length:Nat):=by
 refine zkO (xb rfl) _ _ _ _ _ ((zsB hs hl hi hn).mono ?_)
 rintro _ h1 ⟨o1,⟨rfl,hg⟩ | ⟨rfl,hg⟩⟩
 ·have e:exI l=exN (natP l):=if_pos hg
  obtain⟨e1,e2⟩:=ziM hg
  have hm:(natP l).length=n:=by rw[<-hl]; exact QV _
  have hx:=znZ l
  rw[e] at hx ⊢
  rw[e1] at hs
  generalize natP l=sp at e1 e2 hm hs hx
  have pl:∀j,pre sp j<=(exN sp).length:=by grind[pre,exN,List.map_take,zcx]
  refine .inl ⟨rfl,λi6 i7 k g=>∃j:Nat,i7=j/\j<=n/\n - j=k/\Old h g/\i6=(pre sp j:Nat),⟨_,0,rfl,Qf _,rfl,o1,rfl⟩,?_⟩
  rintro k g i6 i7 ⟨j,rfl,hj,rfl,o,rfl⟩
  refine⟨λz=>?_,λz=>⟨o,?_⟩⟩
  ·have hjl:j < sp.length:=by omega
   obtain⟨b,off,rfl,hld, -⟩:=(hs.old o).getN (i:=j) (by omega)
   rw[zkR sp j hjl] at hld
   have ps:=zo0 sp hjl
   have p1:=pl (j+1)
   generalize sp[j]=q0 at hld ps
   obtain⟨s,m⟩:=q0
   refine zaa ⟨by omega,z,_,_,hld,λg12 e12=>⟨rfl,_,zaX (zae e12) rfl,_,zah (zaf _ _ _) rfl,λi15 e15 i16 e16=>?_⟩⟩
   have e15:=zaR e15 (by omega) (by omega)
   have e16:=zaR e16 (by omega) (by omega)
   have o12:=zab e12
   have n12:=zad e12
   have k13:=zam g.next g12 (.cells [.int .i64 s,.int .i64 m] 294 false)
   exact⟨n - (j+1),by omega,j+1,by omega,by omega,rfl,o.trans ⟨by rw[k13.1,n12]; omega,λc hc=>by rw[k13.2 c (by omega),o12.2 c hc]⟩,by omega⟩
  grind[zsy]
 grind[exI]
theorem flR:cx0.fl 1000000=[1000000]:=by kernel_rfl
theorem ckR:ck cx0 1000000=.int .i64 0 4095:=by rfl
theorem zDt:za5 Tryz.prog 61 3 1 8:=zaU (by rfl)
theorem za1.stay {lim:Nat} {h h' : AH} {elem:TypeId} {sz b n c:Nat} {cs:List Value} (g:za1 lim h elem sz b n c cs) (hn:h.next<=h'.next) (k:h'.get b=h.get b):za1 lim h' elem sz b n c cs:=by
 obtain⟨h1,h2,h3,h4,h5,rest,h6,h7⟩:=g
 exact⟨h1,h2,by omega,h4,h5,rest,by grind,h7⟩
theorem zDu:Vl 126 zAU:=za0 λρ g Q H S hp vs hw hg=>by
 obtain⟨(n:Nat),_⟩:=ρ
 obtain⟨x,rfl,gx⟩:=zhe (a:=.sl false false false 294 n) hg
 have hn:=gx.1
 obtain⟨p,c,l,rfl,hpp,hs,hl,hi⟩:=zhu hw gx
 obtain⟨hbig,H⟩:=H
 have nb:n<=281474976710656:=hn
 have hx:=znZ l
 refine zmq (xb rfl) _ _ _ hp _ ((zx9 hs hl hi nb).mono ?_)
 rintro _ g1 ⟨o1,rfl⟩
 refine⟨_,rfl,by omega,λg3 e3 g4 e4=>?_⟩
 have o3:=zab e3
 have o4:=zab e4
 have n3:=zad e3
 have n4:=zad e4
 have G3:za1 g1.next g3 3 1 g1.next 0 (exI l).length []:=za1.make e3 (by simp) (by grind[zai])
 have k5:=zam g3.next g4 (.cells ([Value.slice none 0 0].set 0 (.slice (some ⟨g1.next,0,none⟩) (Int.toNat 0) (Int.toNat ((exI l).length:Nat)))) 61 false)
 refine⟨_,zaM (zae e4) (by simp),?_⟩
 generalize e5:g4.set g3.next (.cells ([Value.slice none 0 0].set 0 (.slice (some ⟨g1.next,0,none⟩) (Int.toNat 0) (Int.toNat ((exI l).length:Nat)))) 61 false)=g5 at k5 ⊢
 have n5:=k5.1
 have o5:Old g3 g5:=⟨by omega,λc hc=>by rw[k5.2 c (by omega),o4.2 c hc]⟩
 have w5:g5.get g3.next=some (.cells [.slice (some ⟨g1.next,0,none⟩) 0 (exI l).length] 61 false):=by grind[zaf]
 have G5:=G3.old o5
 have o15:Old hp g5:=(by grind[Old.trans])
 refine zcW (xb rfl) _ _ _ g5 _ λg7 e7=>⟨232,[.pointer (some ⟨g5.next,0,none⟩)],rfl,?_⟩
 have o7:=zab e7
 have n7:=zad e7
 have c7:=zae e7
 have l1:=o1.1
 have w7:g7.get g3.next=_:=(o7.2 _ (by omega)).trans w5
 have G7:=G5.old o7
 have o07:Old hp g7:=o15.trans o7
 have ow:∀{c},c < hp.next->¬(c=g1.next\/c=g3.next):=by omega
 have fo:∀{g:AH},Fm g7 (λc=>c=g1.next\/c=g3.next) g->Old hp g:=λq=>⟨by have:=q.1; omega,λc hc=>by rw[q.2 c (by omega) (ow hc),o07.2 c hc]⟩
 have fd:∀{g:AH},Fm g7 (λc=>c=g1.next\/c=g3.next) g->Old hp (g.del g7.next):=λq=>⟨(fo q).1,λc hc=>by rw[zaS _ (by omega),(fo q).2 c hc]⟩
 have sI:∀i:Nat,zqh g7 ((λi g=>g.get g3.next=some (.cells [.slice (some ⟨g1.next,0,none⟩) i (exI l).length] 61 false)/\g3.next < g.next/\∃al,za1 g1.next g 3 1 g1.next i (exI l).length al/\zaw cx0 S (zaK cx0 1000000 i) al:Nat->AH->Prop) i):=λi h1 h2 q hn k=>by grind[za1.stay]
 refine⟨Jr g7 (λc=>c=g1.next\/c=g3.next) _,Dr g7 (λc=>c=g1.next\/c=g3.next) λ_ _=>False,(exI l).length,λi=>[.int .i64 ((exI l)[i]?.getD 0:Nat)],Gr g7,Br g7,⟨rfl,rfl⟩,by simp,jr0 λg f k=>⟨(by grind),by have:=f.1; omega,[],G7.stay (by have:=f.1; omega) (k _ (by omega)),by grind[zaW]⟩,jrN sI,drN λ_ _ _ q=>q.elim,jrG sI,drG λ_ _ _ q=>q.elim,gr1,?_,?_,?_,?_⟩
 ·rintro k g11 hk ⟨f,q1,q2,al,q3,q4⟩ - i18 ei
  refine⟨rfl,rfl,λg16 nr hL=>?_⟩
  have d16:g16.get g3.next=some (.cells [.slice (some ⟨g1.next,0,none⟩) k (exI l).length] 61 false):=by rw[nr.2 _ (by omega)]; omega
  have G16:=q3.stay (Q1 nr.1.symm) (nr.2 _ (by omega))
  dsimp only at ei
  have hy:=zo1 l _ (Qj hk)
  refine⟨_,_,_,zah d16 rfl,λh24 e24=>?_⟩
  obtain⟨h28,k28,G28,n28,f28⟩:=G16.push zDt e24 (m:=1) rfl (by omega) (by omega)
  have f1:=f.1
  have m16:=nr.1
  have d28:h28.get g3.next=some (.cells [.slice (some ⟨g1.next,0,none⟩) k (exI l).length] 61 false):=by grind
  refine⟨_,_,_,h28,k28,_,zaM d28 (by simp),?_⟩
  have ns:=zam g3.next h28 (.cells ([Value.slice (some ⟨g1.next,0,none⟩) k (exI l).length].set 0 (.slice (some ⟨g1.next,0,none⟩) (k+1) (exI l).length)) 61 false)
  refine⟨by rw[ns.2 _ (by omega),f28 _ (by omega) (by omega)],⟨⟨by rw[ns.1,n28]; omega,λc hc ho=>?_⟩,zaf _ _ _,by rw[ns.1,n28]; omega,_,G28.stay (by simp) (ns.2 _ (by omega)),zaL (X:=cx0) (T:=1000000) (by exact q3.1) q4 (ziH flR ?_)⟩,λh5 n5=>⟨by rw[n5.1,ns.1,n28]; omega,λc hc1 hc2=>?_⟩⟩
  ·rw[ns.2 c λz=>ho (.inr z),f28 c (by omega) λz=>ho (.inl z),nr.2 c (by omega),f.2 c hc ho]
  ·grind[okC,ckR]
  ·rw[n5.2 c (by omega),ns.2 c (by omega),f28 c (by omega) (by omega),nr.2 c (by omega)]
 ·exact zkS hl hi nb (by omega) (by omega) c7 λg f=>hs.old (fo f)
 ·rintro h ⟨f,q1,q2,al,q3,q4⟩
  have d:(h.del g7.next).get g3.next=_:=(zaS _ (by omega)).trans q1
  have G:=q3.stay (h':=h.del g7.next) (Qc _) (zaS _ (by omega))
  refine⟨_,_,_,zah d rfl,?_⟩
  obtain⟨r1,r2,r3,r4,r5,rest,r6,r7⟩:=G
  refine zdE hw (fd f) l1 r3 r6 (cc:=zaK cx0 1000000 (exI l).length) (λi t hit=>?_) ?_ rfl (H _ hx)
  ·obtain⟨v,e,o⟩:=q4 i t hit
   grind
  ·exact⟨Qm hx (by decide),_,_,rfl,.inr ⟨g1.next,0,false,3,_,rfl,if_pos rfl,by grind[zbo],λ_=>rfl,λ_=>l1,by grind⟩⟩
 ·rintro x h - ⟨-,q⟩
  grind
theorem zya {S:TY} {g:Int} {hp h' : AH} {b:Nat} {cs:List Value} {e:TypeId} {cc:Nat->Option Nat} (w:WT cx0 S g hp) (o:Old hp h') (h1:hp.next<=b) (h2:b < h'.next) (h3:h'.get b=some (.cells cs e false)) (h4:zaw cx0 S cc cs):
 Xt hp.next S (zeH S b (false,e,cc))/\WT cx0 (zeH S b (false,e,cc)) g h':=by
 have hl:Le2 S (zeH S b (false,e,cc)):=⟨λc q hc=>by
  have:=(w.1 c q.1 q.2.1 q.2.2 hc).1
  show (if c=b then _ else S.ty c)=some q
  grind,rfl⟩
 have w':=w.old o
 refine⟨⟨hl.ty,λc hc=>if_neg (by omega),λ_ h=>h,λ_ _ h=>h,rfl⟩,λc ro e' c' hc=>?_,w'.2.1,zjM.d2 S _ g h' w'.2.2 rfl λ_=>Iff.rfl⟩
 have hc' : (if c=b then some (false,e,cc) else S.ty c)=some (ro,e',c'):=hc
 split at hc'
 ·rename_i q
  subst q
  cases hc'
  exact⟨h2,λq=>by have:=w.2.1 c q; omega,cs,false,h3,λ_=>rfl,h4.mono hl⟩
 ·obtain⟨k1,k2,cs',r',k3,k4,k5⟩:=w'.1 c ro e' c' hc'
  exact⟨k1,k2,cs',r',k3,k4,k5.mono hl⟩
theorem Xt.trans2 {a b:Nat} {S S1 S2:TY} (x:Xt a S S1) (hab:a<=b) (y:Xt b S1 S2):Xt a S S2:=⟨by grind[ty],λc hc=>(y.old c (by omega)).trans (x.old c hc),by grind[dv],by grind[dvo],y.dev.trans x.dev⟩
theorem zDv (v253:Vl 253 zAF):Vl 260 zAK:=za0 λρ g Q H S hp vs hw hg=>by
 obtain⟨(n:Nat),(m:Nat),_⟩:=ρ
 obtain⟨x,y,rfl,gx,gy⟩:=zd5 (a:=.sl false false false 294 n) (b:=.sl false false false 294 m) hg
 have nb:n<=281474976710656:=gx.1
 have mb:m<=281474976710656:=gy.1
 obtain⟨p,c,l,rfl,hpp,hs,hl,hi⟩:=zhu hw gx
 obtain⟨q,d,r,rfl,hqq,hs2,hl2,hi2⟩:=zhu hw gy
 obtain⟨-, -,H⟩:=H
 refine znU (xb rfl) _ _ _ _ _ _ hp _ ((zzS hs hl hi nb).mono ?_)
 rintro _ g1 ⟨rfl,o1,lt1,cs1,w1,bs1⟩
 refine⟨_,rfl,λg3 e3=>?_⟩
 have o3:=zab e3
 have n3:=zad e3
 refine⟨_,zaM (zae e3) (by simp),?_⟩
 generalize e4:g3.set g1.next (.cells ([Value.pointer none].set 0 (.pointer (some ⟨hp.next,0,none⟩))) 345 false)=g4
 have k4:zaY g1.next g3 g4:=by grind[zam]
 have n4:=k4.1
 have o4:Old g1 g4:=⟨by omega,λc hc=>by rw[k4.2 c (by omega),o3.2 c hc]⟩
 have w4:g4.get g1.next=some (.cells [ptr hp.next 0] 345 false):=by rw[<-e4,zaf]; rfl
 refine zcW (xb rfl) _ _ _ g4 _ λg6 e6=>⟨232,[.pointer (some ⟨g4.next,0,none⟩)],rfl,?_⟩
 have o6:=zab e6
 have n6:=zad e6
 have c6:=zae e6
 have o06:Old hp g6:=(by grind[Old.trans])
 have b6:g6.get hp.next=some (.cells cs1 336 false):=by rw[o6.2 _ (by omega),o4.2 _ lt1]; omega
 have p6:g6.get g1.next=some (.cells [ptr hp.next 0] 345 false):=by simp_all
 have fo:∀{g:AH},Fm g6 (·= hp.next) g->Old hp g:=λq=>⟨by have:=q.1; omega,λc hc=>by rw[q.2 c (by omega) (by omega),o06.2 c hc]⟩
 have fd:∀{g:AH},Fm g6 (·= hp.next) g->Old hp (g.del g6.next):=λq=>⟨(fo q).1,λc hc=>by rw[zaS _ (by omega),(fo q).2 c hc]⟩
 have sI:∀i:Nat,zqh g6 ((λ_ g=>(∃cs,g.get hp.next=some (.cells cs 336 false)/\zqi cs)/\hp.next < g.next:Nat->AH->Prop) i):=λi h1 h2 q hn k=>by grind
 refine⟨Jr g6 (·= hp.next) _,Dr g6 (·= hp.next) λ_ _=>False,(exI r).length,λi=>[.int .i64 ((exI r)[i]?.getD 0:Nat)],Gr g6,Br g6,⟨rfl,rfl⟩,by simp,jr0 λg f k=>⟨by grind,by have:=f.1; omega⟩,jrN sI,drN λ_ _ _ q=>q.elim,jrG sI,drG λ_ _ _ q=>q.elim,gr1,?_,?_,?_,?_⟩
 ·rintro k g11 hk q - i14 ei
  refine⟨rfl,rfl,λg16 nr hL=>?_⟩
  obtain⟨⟨cs,w,bs⟩,hlt⟩:=q.2
  have d16:g16.get hp.next=some (.cells cs 336 false):=by rw[nr.2 _ (by omega)]; omega
  have p16:g16.get g1.next=some (.cells [ptr hp.next 0] 345 false):=by rw[nr.2 _ (by omega),q.1.2 _ (by omega) (by omega)]; omega
  dsimp only at ei
  rw[Qe hk] at ei
  simp only[QT,Q4,Value.int.injEq,true_and,and_true] at ei
  have hx:=zo1 r _ (Qj hk)
  obtain⟨r1,r2,r3⟩:=zd9 q.1 nr (b:=hp.next) (by omega) rfl (.cells (cs.set (0+Int.toNat i14 * 1) (.bool false)) 336 false)
  exact⟨_,zah p16 rfl,zaa ⟨by omega,by omega,_,zaM d16 (by rw[bs.1]; omega),r1,⟨r2,by grind[zaf,zmx],Nat.lt_trans (by omega) r2.1⟩,r3⟩⟩
 ·exact zkS hl2 hi2 mb (by omega) (by omega) c6 λg f=>hs2.old (fo f)
 ·rintro h ⟨f,⟨cs,w,bs⟩,hlt⟩
  have pd:(h.del g6.next).get g1.next=some (.cells [ptr hp.next 0] 345 false):=by rw[zaS _ (by omega),f.2 _ (by omega) (by omega)]; omega
  refine⟨_,zah pd rfl,?_⟩
  have od:=fd f
  obtain⟨x1,wt1⟩:=zya hw od (Qc _) (by grind[AH.del]) (by rw[zaS _ (by omega)]; omega) (zn0 bs)
  generalize h.del g6.next=hd at od wt1
  refine (v253 ((),()) g (λr g'=>g'= g/\∃k,k<=4096/\r=.sl false false false 294 k) ?_ _ hd _ wt1 ?_).mono ?_
  ·exact λn hn=>by grind
  ·exact⟨zx2 (if_pos rfl),trivial⟩
  ·rintro v h35 ⟨S2,r2,g2,xx,wt2,nx,fr,gm, -,rfl,k,hk,rfl⟩
   have gm':=gm
   obtain⟨-,p',c',rfl, -⟩:=gm'
   refine⟨_,_,_,rfl,S2,.sl false false false 294 k,g2,x1.trans2 od.1 xx,wt2,Qm od.1 nx,λb hb _=>by rw[fr b (by have:=od.1; omega) (.inl rfl),od.2 b hb],?_,rfl,H k hk⟩
   grind[gam,SlV.weak]
 ·rintro x h - ⟨-,q⟩
  grind
end Go.Am
