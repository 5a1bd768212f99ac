/-
  Texts of this proof, part 38. No condition.
-/
import Derived.Test.YtmnbboleclchcaaGreatFVMiy
set_option linter.unusedVariables false
set_option linter.unusedSimpArgs false
set_option maxRecDepth 100000
namespace Go.Am
open Go.Proofs
theorem zBt {S:TY} {g:Int} {hp:AH} (hw:WT cx0 S g hp) {base n TS T:Nat} {v:Value} (gx:SlV cx0 S base false false false TS n v) (hfl:cx0.fl TS=[TS]) (hck:ck cx0 TS=.ss T):
 ∃p c,∃f:Nat->Nat,v=.slice p n c/\∀{j:Nat} {h' : AH},j < n->Old hp h'->f j<=za8/\∃b off,p=some ⟨b,off,none⟩/\∃p' c',ld1 h' b (off+j)=some (.slice p' (f j) c')/\SlV cx0 S 0 false false false T (f j) (.slice p' (f j) c'):=by
 have hz:sz cx0 TS=1:=by grind[sz]
 obtain⟨p,c,cs,rfl,hp',hs,hc⟩:=zjw hw gx (by omega)
 rw[hz] at hs hc
 have hf:∀j,∃m:Nat,j < n->m<=za8/\∃x,cs[j]?= some x/\SlV cx0 S 0 false false false T m x:=λj=>by
  rcases QK j n with hj | hj
  ·obtain⟨x,e1,e2⟩:=hc j hj 0 _ (by rw[hfl]; rfl)
   grind[okC]
  ·exact⟨0,by omega⟩
 obtain⟨f,hf⟩:=Q4 hf
 refine⟨p,c,f,rfl,λ{j h'} hj o=>?_⟩
 obtain⟨b,off,e1,e2⟩:=(hs.old o).get hj
 obtain⟨m,x,e3,e4⟩:=hf j hj
 obtain⟨-,p',c',rfl, -⟩:=e4
 grind
theorem zzi:cx0.fl 96=[3,62,94]:=by kernel_rfl
theorem zk2:sz cx0 96=3:=by grind[sz,zzi]
theorem zAb {h:AH} {b n m c' : Nat} {al new:List Value} {p' : Option Addr} (hb:h.get b=some (.cells al 96 false)) (hl:b < h.next) (hn:n * 3<=al.length) (f2:firstC h 3 m (.slice p' m c')=some new) (hnew:new.length=m * 3) (hr:(n+m) * 24<=zaA):
 ∃h',zak Tryz.prog h .append #[97,97] [.slice (some ⟨b,0,none⟩) n zai,.slice p' m c']=some (.slice (some ⟨h.next,0,none⟩) (n+m) zai,h')/\h'.next=h.next+1/\h'.get h.next=some (.cells (al.take (n * 3) ++ new) 96 false)/\∀x,x < h.next->x≠b->h'.get x=h.get x:=by
 obtain⟨hu,i,z,hi,hz,hzs,hpos,hsz,hby⟩:=zqb
 have hb0:zak Tryz.prog h .append #[97,97] [.slice (some ⟨b,0,none⟩) n zai,.slice p' m c']=zaM Tryz.prog h 97 false (.slice (some ⟨b,0,none⟩) n zai) (.slice p' m c'):=zaO hu
 have S0:zaz h (some ⟨b,0,none⟩) n 3 (al.take (n * 3)):=⟨by grind,.inr ⟨b,0,al,_,_,rfl,hl,hb,by omega,by rfl⟩⟩
 have f1:=S0.firstC (c:=zai) (.inr ⟨_,_,rfl⟩)
 rw[hb0]
 unfold zaM
 have hc:z.cells.size=3/\0 < 3/\new.length=m * 3/\(al.take (n * 3)).length=n * 3:=by grind
 simp only[hu,hi,hsz,zjd,f1,f2,hz,hby,hb]
 rw[if_pos hc,if_pos trivial,if_pos (by grind[zaA])]
 refine⟨_,rfl,rfl,zan _ _,λx hx hne=>?_⟩
 grind[zbk,AH.next_del,AH.get_del]
theorem zsN:zuU Tryz.prog 97 (.slice none 0 0)=some (.int .i64 0):=by kernel_rfl
theorem zAc {h:AH} {s:Nat} (h2:s * 24<=zaA):Wf Tryz.prog KB 195 [.slice none 0 0,.int .i64 (s:Nat)] h λv h'=>(v=.slice none 0 0/\h'= h)\/∃al,v=.slice (some ⟨h.next,0,none⟩) 0 zai/\h.next < h'.next/\h'.get h.next=some (.cells al 96 false)/\Old h h':=by
 unfold zaA at h2
 refine zwS (xb rfl) _ _ _ _ h _ ⟨by omega,λ_=>⟨_,zsN,λi1 e1 i2 e2=>⟨λz=>⟨_,zsN,?_⟩,by simp⟩⟩⟩
 have e1:i1=0:=by rw[zaT e1 (by omega) (by omega)]; rfl
 have e2:i2=(s:Nat):=by rw[zaT e2 (by omega) (by omega)]; omega
 subst e2
 have k1:zay Tryz.prog h 97 (.slice none 0 0) none (some (.int .i64 0)) none=some (.slice none 0 0):=by kernel_rfl
 obtain⟨hu,i,zz,hi,hz,hzs,hpos,hsz,hby⟩:=zqb
 have hz' : zao Tryz.prog 96=some [.int .i64 0,.int .u64 0,.int .u32 0]:=by kernel_rfl
 have k2:zak Tryz.prog h .append #[97,3] [.slice none 0 0,.int .i64 (s:Nat)]=some (.slice (some ⟨h.next,0,none⟩) s zai,h.alloc (.cells ((List.replicate s [.int .i64 0,.int .u64 0,.int .u32 0]).flatten) 96 false)):=by
  have hui:Tryz.prog.underlying 3=some (.int .i64):=by rfl
  unfold zak
  unfold zeh
  grind[zaA]
 refine⟨_,_,_,k1,_,_,_,_,k2,?_⟩
 have w:=zan h (.cells ((List.replicate s [Value.int .i64 0,.int .u64 0,.int .u32 0]).flatten) 96 false)
 have k3:zay Tryz.prog (h.alloc (.cells ((List.replicate s [Value.int .i64 0,.int .u64 0,.int .u32 0]).flatten) 96 false)) 97 (.slice (some ⟨h.next,0,none⟩) s zai) none (some (.int .i64 ((0:Nat):Int))) none=some (.slice (some ⟨h.next,0,none⟩) 0 zai):=by
  unfold zay
  unfold zbm
  grind[zfr]
 exact⟨_,_,_,k3,.inr ⟨_,rfl,Je _,w,za2 _ _⟩⟩
def zqt (f:Nat->Nat):Nat->Nat
 | 0=>0
 | j+1=>zqt f j+f j
theorem zsO {f:Nat->Nat} {C:Nat}:∀{j:Nat},(∀i,i < j->f i<=C)->zqt f j<=j * C
 | 0,_=>by simp[zqt]
 | j+1,h=>by
   have:=zsO (j:=j) λi hi=>h i (by omega)
   grind[zqt]
theorem zDF:cx0.fl 4000097=[4000097]:=by kernel_rfl
theorem zDG:ck cx0 4000097=.ss 96:=by kernel_rfl
theorem zuC {S:TY} {g:Int} {hp h' : AH} {Q:TV->Int->Prop} {p:Option Addr} {n c:Nat} {cs:List Value} (hw:WT cx0 S g hp) (o:Old hp h') (G:zbB hp.next h' 96 3 p n c cs) (hv:zau cx0 S (zaJ cx0 96 n) cs) (hn:n<=zbT) (hq:Q (.sl true true false 96 n) g):Fin S g hp true Q (.slice p n c) h':=by
 obtain⟨h1,h2⟩:=G
 rcases h2 with ⟨rfl,rfl,rfl⟩ | ⟨b,rfl,g1,g2,g3,g4⟩
 ·exact za5 hw o (by exact⟨Qg _,none,0,rfl,by simp⟩) rfl hq
 ·refine zc0 hw o g1 g2 g3 hv ?_ rfl hq
  refine⟨hn,_,c,rfl,.inr ⟨b,0,false,96,zaJ cx0 96 n,rfl,if_pos rfl,by grind[zbh],λ_=>rfl,λ_=>g1,?_⟩⟩
  rcases g4 with rfl | rfl
  ·exact .inr ⟨rfl,rfl,by kernel_rfl⟩
  grind[zbT,zai]
theorem zDH:Vl 125 zAW:=zaY λρ g Q H S hp vs hw hg=>by
 obtain⟨(n:Nat),_⟩:=ρ
 obtain⟨x,rfl,gx⟩:=zgy (a:=.sl false false false 4000097 n) hg
 obtain⟨(hbig:n<=big),H⟩:=H
 obtain⟨p,c,f,rfl,at1⟩:=zBt hw gx zDF zDG
 have bd:∀{j:Nat},j<=n->zqt f j<=n * za8:=λ{j} hj=>Qm (zsO λi hi=>(at1 (j:=i) (by omega) (Old.refl _)).1) (Qt _ hj)
 have hbig' : n<=1048576:=hbig
 have bn:n * za8<=274877906944:=by grind[za8]
 refine zsG (xb rfl) _ _ _ _ _ ⟨λi4 i5 k h=>∃j:Nat,i5=j/\j<=n/\i4=(zqt f j:Nat)/\n - j=k/\h=hp,⟨_,0,rfl,Qg _,rfl,rfl,rfl⟩,?_⟩
 rintro k h i4 i5 ⟨j,rfl,hj,rfl,rfl,rfl⟩
 refine⟨λz=>?_,λz=>?_⟩
 ·obtain⟨m,b,off,rfl,p',c',l1,l2⟩:=at1 (j:=j) (by omega) (Old.refl _)
  have b1:=bd (j:=j+1) (by omega)
  simp only[zqt] at b1
  refine zaa ⟨by omega,z,_,_,_,by rw[Qh,Qp]; omega,λi11 e11=>?_⟩
  have e11:=zaT e11 (by omega) (by omega)
  refine⟨by omega,λ_ i12 e12=>?_⟩
  have e12:=zaT e12 (by omega) (by omega)
  exact⟨_,by omega,j+1,by omega,by omega,by rw[e11]; rfl,rfl,rfl⟩
 obtain rfl:j=n:=by omega
 have bj:=bd (Qc j)
 have I:∀{p22:Option Addr} {n23 c24:Nat} {h14:AH},Old h h14->n23=0->(zbB h.next h14 96 3 p22 0 c24 []\/∃b al,p22=some ⟨b,0,none⟩/\c24=zai/\h.next<=b/\b < h14.next/\h14.get b=some (.cells al 96 false))->
  ∃I18:Option Addr->Nat->Nat->Int->Nat->AH->Prop,(∃n,I18 p22 n23 c24 0 n h14)/\
  ∀(k19:Nat) (h20:AH),∀(p22:Option Addr) (n23:Nat) (c24:Nat),∀(i25:Int),I18 p22 n23 c24 i25 k19 h20->
  ((i25:Int) < ((j:Nat):Int)->zag p λb26 o27=>(((0:Int)<=i25)/\((i25:Int) < ((j:Nat):Int))/\
  (∃(p28:Option Addr) (n29 c30:Nat),ld1 h20 b26 (o27+Int.toNat i25 * 1)=some (.slice p28 n29 c30)/\
  (∃(p31:Option Addr) (n32 c33:Nat) (h34:AH),zak Tryz.prog h20 .append #[97,97] [(.slice p22 n23 c24),(.slice p28 n29 c30)]=some (.slice p31 n32 c33,h34)/\
  (∀i35:Int,i35=IntKind.wrap .i64 (i25+1)->∃j21,j21 < k19/\I18 p31 n32 c33 i35 j21 h34)))))/\
  (¬(i25:Int) < ((j:Nat):Int)->Fin S g h true Q (.slice p22 n23 c24) h20):=by
  intro p22 n23 c24 h14 o14 e23 st
  refine⟨λp n c i k h1=>∃u:Nat,i=u/\u<=j/\j - u=k/\n=zqt f u/\Old h h1/\((∃cs,zbB h.next h1 96 3 p n c cs/\zau cx0 S (zaJ cx0 96 n) cs)\/(n=0/\∃b al,p=some ⟨b,0,none⟩/\c=zai/\h.next<=b/\b < h1.next/\h1.get b=some (.cells al 96 false))),
   ⟨_,0,rfl,Qg _,rfl,e23,o14,?_⟩,?_⟩
  ·grind[zaS]
  rintro k h1 p1 _ c1 _ ⟨u,rfl,hu,rfl,rfl,o1,st⟩
  refine⟨λz=>?_,λz=>?_⟩
  ·have huj:u < j:=by omega
   obtain⟨m,b,off,rfl,p',c',l1,l2⟩:=at1 huj o1
   have b1:=bd (j:=u+1) (by omega)
   simp only[zqt] at b1
   obtain⟨q1,new,q2,q3,q4⟩:=ziN hw l2 (by grind[zk2]) o1
   have rm:(zqt f u+f u) * 24<=zaA:=by grind[zaA]
   refine zaa ⟨by omega,z,_,_,_,by rw[Qh,Qp]; omega,?_⟩
   rcases st with ⟨cs,G1,T1⟩ | ⟨e0,b0,al,rfl,rfl,s1,s2,s3⟩
   ·obtain⟨p2,c2,h2,k2,G2,ob2, -, -⟩:=G1.append zqb o1.1 q1 q2 q3 rm (by omega) ⟨_,zqb.1⟩
    refine⟨_,_,_,h2,k2,λi35 e35=>?_⟩
    have e35:=zaT e35 (by omega) (by omega)
    exact⟨_,by omega,u+1,by omega,by omega,rfl,rfl,⟨Qm o1.1 ob2.1,λx hx=>by rw[ob2.2 x hx,o1.2 x hx]⟩,.inl ⟨_,G2,zaL (X:=cx0) (T:=96) (by exact G1.1) T1 q4⟩⟩
   ·obtain⟨h2,k2,n2,w2,f2⟩:=zAb (n:=0) s3 s2 (by omega) q2 q3 (by omega)
    rw[Qq] at k2
    rw[e0]
    refine⟨_,_,_,h2,k2,λi35 e35=>?_⟩
    have e35:=zaT e35 (by omega) (by omega)
    exact⟨_,by omega,u+1,by omega,by omega,rfl,by grind[zqt],⟨by omega,λx hx=>by rw[f2 x (by omega) (by omega),o1.2 x hx]⟩,.inl ⟨new,⟨q3,by grind⟩,q4⟩⟩
  ·obtain rfl:u=j:=by omega
   have hq:=H (zqt f u) bj
   rcases st with ⟨cs,G1,T1⟩ | ⟨e0,b0,al,rfl,rfl,s1,s2,s3⟩
   ·exact zuC hw o1 G1 T1 (by grind[zbT]) hq
   ·rw[e0] at hq ⊢
    refine zc0 hw o1 s1 s2 s3 (cc:=λ_=>none) (λi t hi=>by grind) ?_ rfl hq
    exact⟨Qg _,_,_,rfl,.inr ⟨b0,0,false,96,_,rfl,if_pos rfl,by omega,λ_=>rfl,λ_=>s1,.inr ⟨rfl,rfl,by kernel_rfl⟩⟩⟩
 refine (zAc (by grind[zaA])).mono ?_
 rintro _ h14 (⟨rfl,rfl⟩ | ⟨al,rfl,r1,r2,r3⟩)
 ·exact⟨_,_,_,rfl,I (Old.refl _) rfl (by grind[zbB.nil])⟩
 ·exact⟨_,_,_,rfl,I r3 rfl (by grind)⟩
theorem zDI:ck cx0 94=.int .u32 (kLo .u32) (kHi .u32):=by kernel_rfl
def ptC (a b c:Int):List Value:=[.int .i64 a,.int .u64 b,.int .u32 c]
structure PtR (a b c:Int):Prop where
 a:InR .i64 a
 b:InR .u64 b
 c:InR .u32 c
theorem zmH {S:TY} {l:List Value} (hl:l.length=3) (h:∀(i:Nat) (t:Nat),(cx0.fl 96)[i]?= some t->∃x:Value,l[i]?= some x/\okC cx0 S t x):∃a b c:Int,l=ptC a b c/\PtR a b c:=by
 match l,hl with
 | [x,y,z],_=>
   obtain⟨_,e0,k0⟩:=h 0 3 rfl
   obtain⟨_,e1,k1⟩:=h 1 62 rfl
   obtain⟨_,e2,k2⟩:=h 2 94 rfl
   cases e0
   cases e1
   cases e2
   unfold okC at k0 k1 k2
   obtain⟨a,rfl,k0⟩:=k0
   obtain⟨b,rfl,k1⟩:=k1
   obtain⟨c,rfl,k2⟩:=k2
   exact⟨a,b,c,rfl,k0,k1,k2⟩
theorem zk3 {S:TY} {a b c:Int} (r:PtR a b c):zau cx0 S (zcO cx0 96) (ptC a b c):=λi t hi=>by
 unfold zcO at hi
 rw[zzi] at hi
 match i,hi with
 | 0,hi=>cases hi; exact⟨_,rfl,by unfold okC; exact⟨_,rfl,r.a⟩⟩
 | 1,hi=>cases hi; exact⟨_,rfl,zuw r.b⟩
 | 2,hi=>cases hi; exact⟨_,rfl,by unfold okC; exact⟨_,rfl,r.c⟩⟩
 | i+3,hi=>grind
theorem zsP {S:TY} {a b c:Int} (r:PtR a b c):zau cx0 S (zaJ cx0 96 1) (ptC a b c):=zaS λj hj i t hi=>by
 have:=zk3 (S:=S) r i t (by grind[zcO])
 grind
theorem zo2 {S:TY} {h:AH} {base:Nat} {a b c:Int} (r:PtR a b c):gam cx0 S h L0 base (.aggT 96) (.agg #[.int .i64 a,.int .u64 b,.int .u32 c]):=by
 exact⟨ptC a b c,rfl,by rfl,zk3 r⟩
theorem zsQ {S:TY} {h:AH} {base:Nat} {v:Value} (g:gam cx0 S h L0 base (.aggT 96) v):∃a b c:Int,v=.agg #[.int .i64 a,.int .u64 b,.int .u32 c]/\PtR a b c:=by
 obtain⟨vs,rfl,hl,ht⟩:=g
 obtain⟨a,b,c,rfl,r⟩:=zmH hl λi t hi=>ht i t hi
 exact⟨a,b,c,rfl,r⟩
theorem zyg {S:TY} {g:Int} {hp:AH} (w:WT cx0 S g hp) {base n:Nat} {wr fr kc:Bool} {v:Value} (s:SlV cx0 S base wr fr kc 96 n v):
 ∃p c,v=.slice p n c/\∀j,j < n->∃b off,p=some ⟨b,off,none⟩/\∃x y z,PtR x y z/\∀h',Old hp h'->ldN h' b (off+j * 3) 3=some (ptC x y z):=by
 obtain⟨p,c,cs,rfl,hp',hs,hc⟩:=zjw w s (by grind[zk2])
 rw[zk2] at hs hc
 refine⟨p,c,rfl,λj hj=>?_⟩
 have hl:=hs.1
 obtain⟨b,off,rfl,e2, -⟩:=hs.getN hj
 obtain⟨x,y,z,ec,r⟩:=zmH (S:=S) (l:=(cs.drop (j * 3)).take 3) (by grind) λi t hi=>by grind[zzi]
 refine⟨b,off,rfl,x,y,z,r,λh' o=>?_⟩
 obtain⟨b',off',q,e3, -⟩:=(hs.old o).getN hj
 grind
theorem zc2 {f:FuncId} {s:FS} (v:Vl f s) (hpu:s.pu=true) {ρ:ATs s.ps} {S:TY} {g:Int} {hp h1:AH} (hw:WT cx0 S g hp) (o:Old hp h1) {vs:List Value} (ga:gams cx0 S h1 L0 h1.next (instAs s.ps ρ) vs) {Q' : TV->Prop} (H:s.s ρ g λr _=>Q' r):
 Wf Tryz.prog KB f vs h1 λv h'=>Old h1 h'/\∃S' r,gam cx0 S' h' L0 h1.next r v/\Q' r:=by
 refine (v ρ g _ H S h1 vs (hw.old o) ga).mono ?_
 rintro v h' ⟨S2,r,g2,xx,wt2,nx,fr,gm, -,hq⟩
 exact⟨⟨nx,by grind⟩,S2,r,gm,hq⟩
theorem zDJ {c:Int} (h:InR .u32 c):(Lit.int .u32 c).wf=true:=by grind[InR,kLo,kHi,Lit.wf,IntKind.min,IntKind.max,IntKind.signed,IntKind.bits]
theorem zyh {c:Int} (h:InR .u64 c):(Lit.int .u64 c).wf=true:=by grind[InR,kLo,kHi,Lit.wf,IntKind.min,IntKind.max,IntKind.signed,IntKind.bits]
theorem zwU {c:Int} (h:InR .i64 c):(Lit.int .i64 c).wf=true:=by grind[InR,kLo,kHi,Lit.wf,IntKind.min,IntKind.max,IntKind.signed,IntKind.bits]
theorem zvn {a b c:Int} (r:PtR a b c):zdL Tryz.prog 96 (.agg #[.int .i64 a,.int .u64 b,.int .u32 c])=some [.int .i64 a,.int .u64 b,.int .u32 c]:=by
 rw[zkA (by simp[Value.formed]),zdV Tryz.underlying96 (d:=39) rfl]
 have k3:=zde (P:=Tryz.prog) Tryz.underlying3 (m:=39) (d:=38) rfl a
 have k4:=zde (P:=Tryz.prog) Tryz.underlying62 (m:=39) (d:=38) rfl b
 have k5:=zde (P:=Tryz.prog) Tryz.underlying94 (m:=39) (d:=38) rfl c
 rw[if_pos (zwU r.a)] at k3
 rw[if_pos (zyh r.b)] at k4
 rw[if_pos (zDJ r.c)] at k5
 simp_all
theorem zyi:und cx0 97=some (.slice 96):=by kernel_rfl
theorem zyj:(inf cx0 96).isSome=true:=by kernel_rfl
theorem zAd (v209:Vl 209 zzW) {S:TY} {g:Int} {hp h1:AH} (hw:WT cx0 S g hp) (o:Old hp h1) {a b c x y z:Int} (r:PtR a b c) (q:PtR x y z):
 Wf Tryz.prog KB 209 [.agg #[.int .i64 a,.int .u64 b,.int .u32 c],.agg #[.int .i64 x,.int .u64 y,.int .u32 z]] h1 λv h'=>Old h1 h'/\(v=.bool true\/v=.bool false):=by
 refine (zc2 v209 rfl (ρ:=((),(),())) hw o (vs:=[_,_]) ⟨zo2 r,zo2 q,trivial⟩ (Q':=λr=>r=.bool true\/r=.bool false) ⟨.inl rfl,.inr rfl⟩).mono ?_
 grind[gam]
theorem zDK (v209:Vl 209 zzW) (v235:Vl 235 zAP):Vl 202 zBh:=zaY λρ g Q H S hp vs hw hg=>by
 obtain⟨(n:Nat),_,_⟩:=ρ
 obtain⟨x,y,rfl,gx,gy⟩:=zec (a:=.sl false false false 96 n) (b:=.aggT 96) hg
 obtain⟨a,b,c,rfl,rq⟩:=zsQ gy
 obtain⟨(hbig:n<=big),H⟩:=H
 have hbig' : n<=1048576:=hbig
 obtain⟨p,ca,rfl,lat⟩:=zyg hw gx
 have bad:∀h',Old hp h'->Fin S g hp true Q (.tuple #[.slice none 0 0,.int .i64 131]) h':=λh' o=>za5 hw o (by exact⟨_,rfl,rfl,⟨by omega,none,0,rfl,by simp⟩,⟨rfl,by decide,by decide⟩,trivial⟩) rfl (H 0 (Qg _) 131 ⟨by decide,by decide⟩)
 refine zn4 (xb rfl) _ _ _ _ _ _ hp _ λg0 e0 g1 e1=>?_
 have o0:=zab e0
 have o1:=zab e1
 have n0:=zad e0
 have n1:=zad e1
 have oh1:=o0.trans o1
 have wl:∀{g:AH},Old g1 g->g.get hp.next=some (.cells [.slice p n ca] 97 false):=λo=>(o.2 _ (by omega)).trans (by simp_all)
 have wq:∀{g:AH},Old g1 g->g.get g0.next=some (.cells (ptC a b c) 96 false):=λo=>(o.2 _ (by omega)).trans (zae e1)
 have r1:=Old.refl g1
 have search:Wf Tryz.prog KB 233 [.int .i64 ((n:Nat):Int),.func (.func 234) #[] #[.pointer (some ⟨hp.next,0,none⟩),.pointer (some ⟨g0.next,0,none⟩)]] g1 λv h'=>Old g1 h'/\∃i:Nat,v=.int .i64 (i:Int)/\i<=n:=by
  refine zsH (xb rfl) _ _ _ g1 _ ⟨λx y k g=>∃i j:Nat,x=i/\y=j/\i<=j/\j<=n/\j - i=k/\Old g1 g,⟨_,0,n,rfl,rfl,Qg _,Qc _,rfl,r1⟩,?_⟩
  rintro k1 g2 _ _ ⟨i,j,rfl,rfl,hij,hj,rfl,o2⟩
  refine⟨λz i6 e6 i7 e7=>?_,by grind⟩
  have e6:=zaT e6 (by omega) (by omega)
  subst e6
  have e7:=zv8 e7 (by omega) (by omega)
  subst e7
  refine⟨_,zt1 (i+j),λi9 e9=>?_⟩
  have e9:=zaT e9 (by omega) (by omega)
  subst e9
  obtain⟨b5,o6,rfl,x,y,z',rr,ld⟩:=lat ((i+j) / 2) (by omega)
  refine zk0 (xb rfl) _ _ _ g2 _ (zaa ⟨_,_,_,zah (wl o2) rfl,zaa ⟨by omega,by omega,_,_,_,by exact ld _ (oh1.trans o2),zaa ⟨_,_,_,zaw (wq o2) rfl,(zAd v209 hw (oh1.trans o2) rr rq).mono ?_⟩⟩⟩)
  rintro _ g11 ⟨o11,rfl | rfl⟩
  ·refine .inl ⟨rfl,.inr ⟨rfl,λi12 e12=>?_⟩⟩
   have e12:=zaT e12 (by omega) (by omega)
   exact⟨j - ((i+j) / 2+1),by omega,(i+j) / 2+1,j,by omega,rfl,by omega,hj,rfl,o2.trans o11⟩
  ·exact .inr ⟨rfl,.inl ⟨rfl,(i+j) / 2 - i,by omega,i,(i+j) / 2,rfl,rfl,by omega,by omega,rfl,o2.trans o11⟩⟩
 refine⟨_,_,_,zah (wl r1) rfl,search.mono ?_⟩
 rintro _ g6 ⟨o6,i,rfl,hi⟩
 refine⟨_,rfl,_,_,_,zaw (wq o6) rfl,(zc2 v235 rfl (ρ:=((),())) hw (oh1.trans o6) (vs:=[_]) ⟨zo2 rq,trivial⟩ (Q':=λr=>r=.bool true\/r=.bool false) ⟨.inl rfl,.inr rfl⟩).mono ?_⟩
 rintro _ g12 ⟨o12,S',r,gm,rfl | rfl⟩
 rotate_left
 ·grind[gam,Old.trans]
 subst gm
 have o112:=o6.trans o12
 have oh12:=oh1.trans o112
 refine .inl ⟨rfl,_,_,_,zah (wl o112) rfl,λz=>?_,λz=>⟨_,_,_,zah (wl o112) rfl,?_⟩⟩
 case' inl.refine_1=>
  obtain⟨b5,o6',hp5,x,y,z',rr,ld⟩:=lat i (by omega)
  refine⟨_,_,_,zah (wl o112) rfl,?_⟩
  rw[hp5]
  refine zaa ⟨by omega,by omega,_,_,_,by exact ld _ oh12,_,_,_,zaw (wq o112) rfl,_,_,zvn rr,zvn rq,λ_=>bad _ oh12,λ_=>?_⟩
  refine⟨_,_,_,zah (wl o112) rfl,?_⟩
 all_goals
  intro i32 e32
  have e32:=zaT e32 (by omega) (by omega)
  refine⟨by omega,λh33 e33=>?_⟩
  have o33:=zab e33
  have G0:za1 g12.next h33 96 3 g12.next 0 (n+1) []:=by grind[za1.make,ze5,zai]
  have oh33:=oh12.trans o33
  obtain⟨p1,c1,es1,k1⟩:=zc1 (hw.old oh33) gx zyi zyj (lo:=none) (hi':=some (.int .i64 (i:Int))) (l:=0) (u:=(i:Int)) (.inl ⟨rfl,rfl⟩) (.inr ⟨_,rfl⟩) (by omega) (by omega) (by omega)
  refine⟨_,_,_,by grind[zah,Old.trans],_,_,_,es1,?_⟩
  obtain⟨q1,new1,q2,q3,q4⟩:=ziN (hw.old oh33) k1 (by grind[zk2]) (Old.refl h33)
  obtain⟨h43,k43,G43,n43⟩:=G0.app zqb q1 q2 q3 (by omega)
  have o43:=o33.near n43 (Qc _)
  refine⟨_,_,_,h43,by rw[show i32.toNat=n+1 by omega]; exact k43,_,_,_,zaw (wq (o112.trans o43)) rfl,λh47 e47=>?_⟩
  obtain⟨h51,k51,G51,n51,f51⟩:=G43.push zqb e47 (m:=1) rfl (by omega) (by omega)
  have o51:Old g12 h51:=⟨by have:=o43.1; omega,λb hb=>by rw[f51 b (by have:=o43.1; omega) (by omega),o43.2 b hb]⟩
  obtain⟨p2,c2,es2,k2⟩:=zc1 (hw.old (oh12.trans o51)) gx zyi zyj (lo:=some (.int .i64 (i:Int))) (hi':=none) (l:=(i:Int)) (u:=(n:Int)) (.inr ⟨_,rfl⟩) (.inl ⟨rfl,rfl⟩) (by omega) (by omega) (by omega)
  refine⟨_,_,_,h51,k51,_,_,_,by grind[zah,Old.trans],_,_,_,es2,?_⟩
  obtain⟨q5,new2,q6,q7,q8⟩:=ziN (hw.old (oh12.trans o51)) k2 (by grind[zk2]) (Old.refl h51)
  obtain⟨h61,k61,G61,n61⟩:=G51.app zqb q5 q6 q7 (by omega)
  have o61:=o51.near n61 (Qc _)
  refine⟨_,_,_,h61,k61,?_⟩
  have T1:=zaL (X:=cx0) (T:=96) (by exact G0.1) (zaS (S:=S) (T:=96) (n:=0) λj hj=>absurd hj (Nat.not_lt_zero _)) q4
  have T2:=zaL (X:=cx0) (T:=96) (by grind[zk2]) T1 (zsP rq)
  have T3:=zaL (X:=cx0) (T:=96) (by exact G51.1) T2 q8
  have l12:=oh12.1
  obtain⟨al',g1,g2,g3,g4,g5⟩:=zhv (hp:=g12) (by exact G61) T3 (by grind[zbT]) false (λq=>by omega)
  refine zc0 hw (oh12.trans o61) (by omega) g2 g3 g4 (r:=.tup [.sl false false false 96 (0+i+1+((n:Int) - i).toNat),.int .i64 0]) ?_ rfl (H _ (by omega) 0 ⟨by decide,by decide⟩)
  exact⟨_,rfl,rfl,SlV.weak g5 (λq=>by rfl) (λq=>by grind) (λq=>by omega),⟨rfl,by decide,by decide⟩,trivial⟩
theorem zDL:Vl 160 zxZ:=zaY λρ g Q H S hp vs hw hg=>by
 obtain⟨(n:Nat),_⟩:=ρ
 obtain⟨x,rfl,gx⟩:=zgy (a:=.sl false false false 96 n) hg
 have gx:SlV cx0 S hp.next false false false 96 n x:=gx
 obtain⟨hbig,H⟩:=H
 have hb:n<=1048576:=hbig
 have hrm:zaA=140737488355328:=rfl
 have k160:KB 160=some (.sum ziK):=by unfold KB; rw[zf7 (by decide),zig]
 have fin:∀{b c' : Nat} {h' : AH} {ns:List Value},hp.next<=b->b < h'.next->h'.get b=some (.cells ns 96 false)->(c'= zai\/c'= n)->Old hp h'->zau cx0 S (zaJ cx0 96 n) ns->Fin S g hp zxZ.pu Q (.slice (some ⟨b,0,none⟩) n c') h':=λ{b c' h' ns} h1 h2 h3 hc o ht=>
  zc0 hw o h1 h2 h3 ht (r:=.sl true true false 96 n) (by
   refine⟨by unfold zbT; omega,_,_,rfl,.inr ⟨b,0,false,96,zaJ cx0 96 n,rfl,if_pos rfl,λj hj=>by rw[Qq]; exact zbh hj,λ_=>rfl,λ_=>h1,?_⟩⟩
   rcases hc with hc | hc
   ·exact .inr ⟨hc,rfl,by rfl⟩
   ·exact .inl ⟨by rw[hc]; unfold zai; omega,by omega,nofun⟩) rfl (H n hbig)
 obtain⟨q1,new,q2,q3,q4⟩:=ziN hw gx (by grind[zk2]) (Old.refl hp)
 rw[zk2] at q2 q3
 obtain⟨hv,p,c,rfl,k⟩:=id gx
 have gen:(∀b off,some p≠some (some ⟨b,off,none⟩)\/0 < n+c)->zti p True (0 < n+c)->Wf Tryz.prog KB 160 [.slice p n c] hp (Fin S g hp zxZ.pu Q):=λhne hp0=>by
  obtain⟨v,h',f,m,e⟩:=(zkR (K:=K6) rfl p n c hp (Fin S g hp zxZ.pu Q) (by
   cases p with
   | none=>
     obtain⟨rfl,rfl⟩:n=0/\c=0:=by grind
     exact za5 hw (Old.refl _) (r:=.sl true true false 96 0) ⟨by unfold zbT; omega,none,0,rfl,.inl ⟨rfl,rfl,rfl⟩⟩ rfl (H 0 (by omega))
   | some a=>
     refine⟨hp0,λh1 e1=>?_⟩
     have o1:=zab e1
     obtain⟨-,new',q2', -, -⟩:=ziN (hw.old o1) gx (by grind[zk2]) (Old.refl h1)
     obtain⟨-,n2,r2,r3,r4⟩:=ziN hw gx (by grind[zk2]) o1
     rw[zk2] at r2 r3
     obtain⟨b,c',h',k1,k2,k3,k4,k5,k6,k7⟩:=znV e1 zqb q1 r2 r3 (by omega) (by omega)
     exact⟨_,_,_,_,k1,fin k2 k3 k4 (k5.imp And.left id) ⟨by have:=zad e1; omega,k7⟩ r4⟩)).call rfl
  have hx:hp.next<=h'.next:=by
   obtain⟨_,_,_, -, -,z, -⟩:=f
   exact z
  refine zrx k160 (zss ?_ e) hx f
  intro b off e
  cases e
  rcases hne b off with z | z
  ·exact z rfl
  ·omega
 cases p with
 | none=>exact gen (λb off=>.inl nofun) trivial
 | some a=>
   by_cases z:0 < n+c
   ·exact gen (λ_ _=>.inr z) z
   ·obtain⟨rfl,rfl⟩:n=0/\c=0:=by omega
    obtain⟨b,off,rfl⟩:∃b off,a=⟨b,off,none⟩:=by grind
    exact zrx k160 (v:=.slice (some ⟨hp.next,0,none⟩) 0 0) (h':=hp.alloc (.cells [] 96 false)) rfl (by rw[AH.next_alloc]; omega) (fin (Qc _) (by rw[AH.next_alloc]; omega) (zan _ _) (.inr rfl) (zab rfl) (zaS λj hj=>absurd hj (Nat.not_lt_zero _)))
theorem zyk {h:AH} {p:Option Addr} {n c:Nat} {l:List (Int×Int)} (hs:zaz h p n 2 (spI l)) (hl:l.length=n) (hi:∀q∈l,inP q) (hn:n<=281474976710656):
 Wf Tryz.prog KB 196 [.slice p n c] h λv h'=>Old h h'/\v=.int .i64 ((exI l).length:Nat):=by
 refine zkV (xb rfl) _ _ _ _ _ ((zsD hs hl hi hn).mono ?_)
 rintro _ h1 ⟨o1,⟨rfl,hg⟩ | ⟨rfl,hg⟩⟩
 ·have e:exI l=exN (natP l):=if_pos hg
  obtain⟨e1,e2⟩:=ziT hg
  have hm:(natP l).length=n:=by rw[<-hl]; exact QN _
  have hx:=zn1 l
  rw[e] at hx ⊢
  rw[e1] at hs
  generalize natP l=sp at e1 e2 hm hs hx
  have pl:∀j,pre sp j<=(exN sp).length:=by grind[pre,exN,List.map_take,zcx]
  refine .inl ⟨rfl,λi6 i7 k g=>∃j:Nat,i7=j/\j<=n/\n - j=k/\Old h g/\i6=(pre sp j:Nat),⟨_,0,rfl,Qg _,rfl,o1,rfl⟩,?_⟩
  rintro k g i6 i7 ⟨j,rfl,hj,rfl,o,rfl⟩
  refine⟨λz=>?_,λz=>⟨o,?_⟩⟩
  ·have hjl:j < sp.length:=by omega
   obtain⟨b,off,rfl,hld, -⟩:=(hs.old o).getN (i:=j) (by omega)
   rw[zkY sp j hjl] at hld
   have ps:=zoZ sp hjl
   have p1:=pl (j+1)
   generalize sp[j]=q0 at hld ps
   obtain⟨s,m⟩:=q0
   refine zaa ⟨by omega,z,_,_,hld,λg12 e12=>⟨rfl,_,zaR (zae e12) rfl,_,zah (zaf _ _ _) rfl,λi15 e15 i16 e16=>?_⟩⟩
   have e15:=zaT e15 (by omega) (by omega)
   have e16:=zaT e16 (by omega) (by omega)
   have o12:=zab e12
   have n12:=zad e12
   have k13:=zam g.next g12 (.cells [.int .i64 s,.int .i64 m] 294 false)
   exact⟨n - (j+1),by omega,j+1,by omega,by omega,rfl,o.trans ⟨by rw[k13.1,n12]; omega,λc hc=>by rw[k13.2 c (by omega),o12.2 c hc]⟩,by omega⟩
  grind[zsA]
 grind[exI]
theorem flR:cx0.fl 1000000=[1000000]:=by kernel_rfl
theorem ckR:ck cx0 1000000=.int .i64 0 4095:=by rfl
theorem zDM:za3 Tryz.prog 61 3 1 8:=zaW (by rfl)
theorem za1.stay {lim:Nat} {h h' : AH} {elem:TypeId} {sz b n c:Nat} {cs:List Value} (g:za1 lim h elem sz b n c cs) (hn:h.next<=h'.next) (k:h'.get b=h.get b):za1 lim h' elem sz b n c cs:=by
 obtain⟨h1,h2,h3,h4,h5,rest,h6,h7⟩:=g
 exact⟨h1,h2,by omega,h4,h5,rest,by grind,h7⟩
theorem zDN:Vl 126 zBc:=zaY λρ g Q H S hp vs hw hg=>by
 obtain⟨(n:Nat),_⟩:=ρ
 obtain⟨x,rfl,gx⟩:=zgy (a:=.sl false false false 294 n) hg
 have hn:=gx.1
 obtain⟨p,c,l,rfl,hpp,hs,hl,hi⟩:=zhw hw gx
 obtain⟨hbig,H⟩:=H
 have nb:n<=281474976710656:=hn
 have hx:=zn1 l
 refine zmA (xb rfl) _ _ _ hp _ ((zyk hs hl hi nb).mono ?_)
 rintro _ g1 ⟨o1,rfl⟩
 refine⟨_,rfl,by omega,λg3 e3 g4 e4=>?_⟩
 have o3:=zab e3
 have o4:=zab e4
 have n3:=zad e3
 have n4:=zad e4
 have G3:za1 g1.next g3 3 1 g1.next 0 (exI l).length []:=za1.make e3 (by simp) (by grind[zai])
 have k5:=zam g3.next g4 (.cells ([Value.slice none 0 0].set 0 (.slice (some ⟨g1.next,0,none⟩) (Int.toNat 0) (Int.toNat ((exI l).length:Nat)))) 61 false)
 refine⟨_,zaN (zae e4) (by simp),?_⟩
 generalize e5:g4.set g3.next (.cells ([Value.slice none 0 0].set 0 (.slice (some ⟨g1.next,0,none⟩) (Int.toNat 0) (Int.toNat ((exI l).length:Nat)))) 61 false)=g5 at k5 ⊢
 have n5:=k5.1
 have o5:Old g3 g5:=⟨by omega,λc hc=>by rw[k5.2 c (by omega),o4.2 c hc]⟩
 have w5:g5.get g3.next=some (.cells [.slice (some ⟨g1.next,0,none⟩) 0 (exI l).length] 61 false):=by grind[zaf]
 have G5:=G3.old o5
 have o15:Old hp g5:=(by grind[Old.trans])
 refine zcS (xb rfl) _ _ _ g5 _ λg7 e7=>⟨232,[.pointer (some ⟨g5.next,0,none⟩)],rfl,?_⟩
 have o7:=zab e7
 have n7:=zad e7
 have c7:=zae e7
 have l1:=o1.1
 have w7:g7.get g3.next=_:=(o7.2 _ (by omega)).trans w5
 have G7:=G5.old o7
 have o07:Old hp g7:=o15.trans o7
 have ow:∀{c},c < hp.next->¬(c=g1.next\/c=g3.next):=by omega
 have fo:∀{g:AH},Fm g7 (λc=>c=g1.next\/c=g3.next) g->Old hp g:=λq=>⟨by have:=q.1; omega,λc hc=>by rw[q.2 c (by omega) (ow hc),o07.2 c hc]⟩
 have fd:∀{g:AH},Fm g7 (λc=>c=g1.next\/c=g3.next) g->Old hp (g.del g7.next):=λq=>⟨(fo q).1,λc hc=>by rw[zaU _ (by omega),(fo q).2 c hc]⟩
 have sI:∀i:Nat,zqg g7 ((λi g=>g.get g3.next=some (.cells [.slice (some ⟨g1.next,0,none⟩) i (exI l).length] 61 false)/\g3.next < g.next/\∃al,za1 g1.next g 3 1 g1.next i (exI l).length al/\zau cx0 S (zaJ cx0 1000000 i) al:Nat->AH->Prop) i):=λi h1 h2 q hn k=>by grind[za1.stay]
 refine⟨Jr g7 (λc=>c=g1.next\/c=g3.next) _,Dr g7 (λc=>c=g1.next\/c=g3.next) λ_ _=>False,(exI l).length,λi=>[.int .i64 ((exI l)[i]?.getD 0:Nat)],Gr g7,Br g7,⟨rfl,rfl⟩,by simp,jr0 λg f k=>⟨(by grind),by have:=f.1; omega,[],G7.stay (by have:=f.1; omega) (k _ (by omega)),by grind[zaS]⟩,jrN sI,drN λ_ _ _ q=>q.elim,jrG sI,drG λ_ _ _ q=>q.elim,gr1,?_,?_,?_,?_⟩
 ·rintro k g11 hk ⟨f,q1,q2,al,q3,q4⟩ - i18 ei
  refine⟨rfl,rfl,λg16 nr hL=>?_⟩
  have d16:g16.get g3.next=some (.cells [.slice (some ⟨g1.next,0,none⟩) k (exI l).length] 61 false):=by rw[nr.2 _ (by omega)]; omega
  have G16:=q3.stay (Q1 nr.1.symm) (nr.2 _ (by omega))
  dsimp only at ei
  have hy:=zo0 l _ (Qj hk)
  refine⟨_,_,_,zah d16 rfl,λh24 e24=>?_⟩
  obtain⟨h28,k28,G28,n28,f28⟩:=G16.push zDM e24 (m:=1) rfl (by omega) (by omega)
  have f1:=f.1
  have m16:=nr.1
  have d28:h28.get g3.next=some (.cells [.slice (some ⟨g1.next,0,none⟩) k (exI l).length] 61 false):=by grind
  refine⟨_,_,_,h28,k28,_,zaN d28 (by simp),?_⟩
  have ns:=zam g3.next h28 (.cells ([Value.slice (some ⟨g1.next,0,none⟩) k (exI l).length].set 0 (.slice (some ⟨g1.next,0,none⟩) (k+1) (exI l).length)) 61 false)
  refine⟨by rw[ns.2 _ (by omega),f28 _ (by omega) (by omega)],⟨⟨by rw[ns.1,n28]; omega,λc hc ho=>?_⟩,zaf _ _ _,by rw[ns.1,n28]; omega,_,G28.stay (by simp) (ns.2 _ (by omega)),zaL (X:=cx0) (T:=1000000) (by exact q3.1) q4 (ziP flR ?_)⟩,λh5 n5=>⟨by rw[n5.1,ns.1,n28]; omega,λc hc1 hc2=>?_⟩⟩
  ·rw[ns.2 c λz=>ho (.inr z),f28 c (by omega) λz=>ho (.inl z),nr.2 c (by omega),f.2 c hc ho]
  ·grind[okC,ckR]
  ·rw[n5.2 c (by omega),ns.2 c (by omega),f28 c (by omega) (by omega),nr.2 c (by omega)]
 ·exact zkZ hl hi nb (by omega) (by omega) c7 λg f=>hs.old (fo f)
 ·rintro h ⟨f,q1,q2,al,q3,q4⟩
  have d:(h.del g7.next).get g3.next=_:=(zaU _ (by omega)).trans q1
  have G:=q3.stay (h':=h.del g7.next) (Qc _) (zaU _ (by omega))
  refine⟨_,_,_,zah d rfl,?_⟩
  obtain⟨r1,r2,r3,r4,r5,rest,r6,r7⟩:=G
  refine zc0 hw (fd f) l1 r3 r6 (cc:=zaJ cx0 1000000 (exI l).length) (λi t hit=>?_) ?_ rfl (H _ hx)
  ·obtain⟨v,e,o⟩:=q4 i t hit
   grind
  ·exact⟨Qm hx (by decide),_,_,rfl,.inr ⟨g1.next,0,false,3,_,rfl,if_pos rfl,by grind[zbh],λ_=>rfl,λ_=>l1,by grind⟩⟩
 ·rintro x h - ⟨-,q⟩
  grind
theorem zyl {S:TY} {g:Int} {hp h' : AH} {b:Nat} {cs:List Value} {e:TypeId} {cc:Nat->Option Nat} (w:WT cx0 S g hp) (o:Old hp h') (h1:hp.next<=b) (h2:b < h'.next) (h3:h'.get b=some (.cells cs e false)) (h4:zau cx0 S cc cs):
 Xt hp.next S (zeI S b (false,e,cc))/\WT cx0 (zeI S b (false,e,cc)) g h':=by
 have hl:Le2 S (zeI S b (false,e,cc)):=⟨λc q hc=>by
  have:=(w.1 c q.1 q.2.1 q.2.2 hc).1
  show (if c=b then _ else S.ty c)=some q
  grind,rfl⟩
 have w':=w.old o
 refine⟨⟨hl.ty,λc hc=>if_neg (by omega),λ_ h=>h,λ_ _ h=>h,rfl⟩,λc ro e' c' hc=>?_,w'.2.1,zjW.d2 S _ g h' w'.2.2 rfl λ_=>Iff.rfl⟩
 have hc' : (if c=b then some (false,e,cc) else S.ty c)=some (ro,e',c'):=hc
 split at hc'
 ·rename_i q
  subst q
  cases hc'
  exact⟨h2,λq=>by have:=w.2.1 c q; omega,cs,false,h3,λ_=>rfl,h4.mono hl⟩
 ·obtain⟨k1,k2,cs',r',k3,k4,k5⟩:=w'.1 c ro e' c' hc'
  exact⟨k1,k2,cs',r',k3,k4,k5.mono hl⟩
theorem Xt.trans2 {a b:Nat} {S S1 S2:TY} (x:Xt a S S1) (hab:a<=b) (y:Xt b S1 S2):Xt a S S2:=⟨by grind[ty],λc hc=>(y.old c (by omega)).trans (x.old c hc),by grind[dv],by grind[dvo],y.dev.trans x.dev⟩
theorem zDO (v253:Vl 253 zAX):Vl 260 zA2:=zaY λρ g Q H S hp vs hw hg=>by
 obtain⟨(n:Nat),(m:Nat),_⟩:=ρ
 obtain⟨x,y,rfl,gx,gy⟩:=zec (a:=.sl false false false 294 n) (b:=.sl false false false 294 m) hg
 have nb:n<=281474976710656:=gx.1
 have mb:m<=281474976710656:=gy.1
 obtain⟨p,c,l,rfl,hpp,hs,hl,hi⟩:=zhw hw gx
 obtain⟨q,d,r,rfl,hqq,hs2,hl2,hi2⟩:=zhw hw gy
 obtain⟨-, -,H⟩:=H
 refine znZ (xb rfl) _ _ _ _ _ _ hp _ ((zz8 hs hl hi nb).mono ?_)
 rintro _ g1 ⟨rfl,o1,lt1,cs1,w1,bs1⟩
 refine⟨_,rfl,λg3 e3=>?_⟩
 have o3:=zab e3
 have n3:=zad e3
 refine⟨_,zaN (zae e3) (by simp),?_⟩
 generalize e4:g3.set g1.next (.cells ([Value.pointer none].set 0 (.pointer (some ⟨hp.next,0,none⟩))) 345 false)=g4
 have k4:zaZ g1.next g3 g4:=by grind[zam]
 have n4:=k4.1
 have o4:Old g1 g4:=⟨by omega,λc hc=>by rw[k4.2 c (by omega),o3.2 c hc]⟩
 have w4:g4.get g1.next=some (.cells [ptr hp.next 0] 345 false):=by rw[<-e4,zaf]; rfl
 refine zcS (xb rfl) _ _ _ g4 _ λg6 e6=>⟨232,[.pointer (some ⟨g4.next,0,none⟩)],rfl,?_⟩
 have o6:=zab e6
 have n6:=zad e6
 have c6:=zae e6
 have o06:Old hp g6:=(by grind[Old.trans])
 have b6:g6.get hp.next=some (.cells cs1 336 false):=by rw[o6.2 _ (by omega),o4.2 _ lt1]; omega
 have p6:g6.get g1.next=some (.cells [ptr hp.next 0] 345 false):=by simp_all
 have fo:∀{g:AH},Fm g6 (·= hp.next) g->Old hp g:=λq=>⟨by have:=q.1; omega,λc hc=>by rw[q.2 c (by omega) (by omega),o06.2 c hc]⟩
 have fd:∀{g:AH},Fm g6 (·= hp.next) g->Old hp (g.del g6.next):=λq=>⟨(fo q).1,λc hc=>by rw[zaU _ (by omega),(fo q).2 c hc]⟩
 have sI:∀i:Nat,zqg g6 ((λ_ g=>(∃cs,g.get hp.next=some (.cells cs 336 false)/\zqh cs)/\hp.next < g.next:Nat->AH->Prop) i):=λi h1 h2 q hn k=>by grind
 refine⟨Jr g6 (·= hp.next) _,Dr g6 (·= hp.next) λ_ _=>False,(exI r).length,λi=>[.int .i64 ((exI r)[i]?.getD 0:Nat)],Gr g6,Br g6,⟨rfl,rfl⟩,by simp,jr0 λg f k=>⟨by grind,by have:=f.1; omega⟩,jrN sI,drN λ_ _ _ q=>q.elim,jrG sI,drG λ_ _ _ q=>q.elim,gr1,?_,?_,?_,?_⟩
 ·rintro k g11 hk q - i14 ei
  refine⟨rfl,rfl,λg16 nr hL=>?_⟩
  obtain⟨⟨cs,w,bs⟩,hlt⟩:=q.2
  have d16:g16.get hp.next=some (.cells cs 336 false):=by rw[nr.2 _ (by omega)]; omega
  have p16:g16.get g1.next=some (.cells [ptr hp.next 0] 345 false):=by rw[nr.2 _ (by omega),q.1.2 _ (by omega) (by omega)]; omega
  dsimp only at ei
  rw[Qe hk] at ei
  simp only[QV,Q8,Value.int.injEq,true_and,and_true] at ei
  have hx:=zo0 r _ (Qj hk)
  obtain⟨r1,r2,r3⟩:=zeg q.1 nr (b:=hp.next) (by omega) rfl (.cells (cs.set (0+Int.toNat i14 * 1) (.bool false)) 336 false)
  exact⟨_,zah p16 rfl,zaa ⟨by omega,by omega,_,zaN d16 (by rw[bs.1]; omega),r1,⟨r2,by grind[zaf,zmF],Nat.lt_trans (by omega) r2.1⟩,r3⟩⟩
 ·exact zkZ hl2 hi2 mb (by omega) (by omega) c6 λg f=>hs2.old (fo f)
 ·rintro h ⟨f,⟨cs,w,bs⟩,hlt⟩
  have pd:(h.del g6.next).get g1.next=some (.cells [ptr hp.next 0] 345 false):=by rw[zaU _ (by omega),f.2 _ (by omega) (by omega)]; omega
  refine⟨_,zah pd rfl,?_⟩
  have od:=fd f
  obtain⟨x1,wt1⟩:=zyl hw od (Qc _) (by grind[AH.del]) (by rw[zaU _ (by omega)]; omega) (zn2 bs)
  generalize h.del g6.next=hd at od wt1
  refine (v253 ((),()) g (λr g'=>g'= g/\∃k,k<=4096/\r=.sl false false false 294 k) ?_ _ hd _ wt1 ?_).mono ?_
  ·exact λn hn=>by grind
  ·exact⟨zyd (if_pos rfl),trivial⟩
  ·rintro v h35 ⟨S2,r2,g2,xx,wt2,nx,fr,gm, -,rfl,k,hk,rfl⟩
   have gm':=gm
   obtain⟨-,p',c',rfl, -⟩:=gm'
   refine⟨_,_,_,rfl,S2,.sl false false false 294 k,g2,x1.trans2 od.1 xx,wt2,Qm od.1 nx,λb hb _=>by rw[fr b (by have:=od.1; omega) (.inl rfl),od.2 b hb],?_,rfl,H k hk⟩
   grind[gam,SlV.weak]
 ·rintro x h - ⟨-,q⟩
  grind
end Go.Am
