/-
  Texts of this proof, part 41. No condition.
-/
import Derived.Test.YtmnbboleclchcaaGreatFTcEv
set_option linter.unusedVariables false
set_option linter.unusedSimpArgs false
set_option maxRecDepth 100000
namespace Go.Am
open Go.Proofs
theorem zmI {P:Program} {h:AH} {st elem:TypeId} {sz by' : Nat} (E:za3 P st elem sz by') {b off n c lo hi:Nat} (hsz:P.cellsOf elem=sz) (hc:zf6 P h elem b n c) (h1:lo < hi) (h2:hi<=n):
 zay P h st (.slice (some ⟨b,off,none⟩) n c) (some (.int .i64 (lo:Int))) (some (.int .i64 (hi:Int))) (some (.int .i64 (hi:Int)))=some (.slice (some ⟨b,off+lo * sz,none⟩) (hi - lo) (hi - lo)):=by
 obtain⟨hu,i,z,hi',hz,hzs,hpos,rfl,rfl⟩:=E
 unfold zay
 rw[hu]
 simp only[hi',Option.isSome_some,if_true]
 rcases hc with ⟨q1,q2⟩ | ⟨rfl,cs,e,ro,hg,he⟩
 ·unfold zbm
  grind[zfr]
 ·unfold zbm
  grind[zfr]
section
variable {h:AH}
theorem zys {ya pb0 pb1 b off n c m:Nat} (hm:1<=m/\m<=1000) (hn:n<=1000000) {JJ:Nat->AH->Prop} {DD:AH->Prop} {BB:AH->AH->Prop}
 (hs:∀i h1,JJ i h1->(∃t ro,h1.get pb0=some (.cells [.slice (some ⟨b,off,none⟩) n c] t ro))/\(∃t ro,h1.get pb1=some (.cells [.int .i64 (m:Nat)] t ro))/\zf6 Tryz.prog h1 5 b n c)
 (hr:∀(k:Nat) (h1:AH),k < (n+m - 1) / m->JJ k h1->Wy Tryz.prog KB ya [.slice (some ⟨b,off+k * m * 1,none⟩) (min m (n - k * m)) (min m (n - k * m))] h1 λv h2=>((v=.bool true/\JJ (k+1) h2)\/(v=.bool false/\DD h2))/\BB h1 h2)
 (h0:JJ 0 h):Wf Tryz.prog KB 258 [Value.func (Fn.yield ya) #[] #[],.pointer (some ⟨pb0,0,none⟩),.pointer (some ⟨pb1,0,none⟩)] h λ_ h'=>JJ ((n+m - 1) / m) h'\/DD h':=by
 have hdiv:∀j,j < (n+m - 1) / m↔j * m < n:=by grind[Nat.lt_div_iff_mul_lt]
 refine zn5 (xb rfl) _ _ _ h _ ⟨λi k g=>∃j:Nat,i=((j * m:Nat):Int)/\j<=(n+m - 1) / m/\(n+m - 1) / m - j=k/\JJ j g,⟨_,0,by simp,Qg _,rfl,h0⟩,?_⟩
 rintro k1 g2 i4 ⟨j,rfl,hj,rfl,J2⟩
 obtain⟨⟨t0,r0,c0⟩,⟨t1,r1,c1⟩,C2⟩:=hs j g2 J2
 refine zaa ⟨_,_,_,zah c0 rfl,λz=>zaa ⟨_,zah c1 rfl,zaa ⟨_,_,_,zah c0 rfl,?_⟩⟩,λz=>?_⟩
 ·have hjm:j * m < n:=by omega
  have hjN:=(hdiv j).2 hjm
  obtain⟨off2,c2,k2, -, -⟩:=zro (eU8) (by rfl) (h:=g2) (b:=b) (off:=off) (lo:=j * m) C2 (by omega)
  refine⟨_,_,_,k2,λi21 e21=>zaa ⟨_,_,_,zah c0 rfl,λi27 e27 i28 e28=>?_⟩⟩
  have e21:i21=((min m (n - j * m):Nat):Int):=by omega
  subst e21
  have e27:=zaT e27 (by omega) (by omega)
  have e28:=zaT e28 (by omega) (by omega)
  subst e27
  subst e28
  have k3:=zmI (eU8) (by rfl) (h:=g2) (b:=b) (off:=off) (lo:=j * m) (hi:=j * m+min m (n - j * m)) C2 (by omega) (by omega)
  rw[show j * m+min m (n - j * m) - j * m=min m (n - j * m) by omega] at k3
  refine⟨_,_,_,k3,(hr j g2 hjN J2).mono' ?_⟩
  rintro v g33 ⟨⟨rfl,J33⟩ | ⟨rfl,D33⟩, -⟩
  ·obtain⟨-,⟨t3,r3,c3⟩, -⟩:=hs (j+1) g33 J33
   refine⟨true,rfl,?_⟩
   simp only[Bool.not_true,cond_false]
   refine zaa ⟨_,zah c3 rfl,λi38 e38=>?_⟩
   have e38:=zaT e38 (by omega) (by omega)
   exact⟨_,by omega,j+1,by grind,hjN,rfl,J33⟩
  grind
 grind
theorem zyt {ya pb0 pb1 b off n c m:Nat} (hm:1<=m/\m<=1000) (hn:n<=1000000) {JJ:Nat->AH->Prop} {DD:AH->Prop} {BB:AH->AH->Prop}
 (hs:∀i h1,JJ i h1->(∃t ro,h1.get pb0=some (.cells [.slice (some ⟨b,off,none⟩) n c] t ro))/\(∃t ro,h1.get pb1=some (.cells [.int .i64 (m:Nat)] t ro))/\zf6 Tryz.prog h1 96 b n c)
 (hr:∀(k:Nat) (h1:AH),k < (n+m - 1) / m->JJ k h1->Wy Tryz.prog KB ya [.slice (some ⟨b,off+k * m * 3,none⟩) (min m (n - k * m)) (min m (n - k * m))] h1 λv h2=>((v=.bool true/\JJ (k+1) h2)\/(v=.bool false/\DD h2))/\BB h1 h2)
 (h0:JJ 0 h):Wf Tryz.prog KB 259 [Value.func (Fn.yield ya) #[] #[],.pointer (some ⟨pb0,0,none⟩),.pointer (some ⟨pb1,0,none⟩)] h λ_ h'=>JJ ((n+m - 1) / m) h'\/DD h':=by
 have hdiv:∀j,j < (n+m - 1) / m↔j * m < n:=by grind[Nat.lt_div_iff_mul_lt]
 refine zqj (xb rfl) _ _ _ h _ ⟨λi k g=>∃j:Nat,i=((j * m:Nat):Int)/\j<=(n+m - 1) / m/\(n+m - 1) / m - j=k/\JJ j g,⟨_,0,by simp,Qg _,rfl,h0⟩,?_⟩
 rintro k1 g2 i4 ⟨j,rfl,hj,rfl,J2⟩
 obtain⟨⟨t0,r0,c0⟩,⟨t1,r1,c1⟩,C2⟩:=hs j g2 J2
 refine zaa ⟨_,_,_,zah c0 rfl,λz=>zaa ⟨_,zah c1 rfl,zaa ⟨_,_,_,zah c0 rfl,?_⟩⟩,λz=>?_⟩
 ·have hjm:j * m < n:=by omega
  have hjN:=(hdiv j).2 hjm
  obtain⟨off2,c2,k2, -, -⟩:=zro (zqb) (by simp) (h:=g2) (b:=b) (off:=off) (lo:=j * m) C2 (by omega)
  refine⟨_,_,_,k2,λi21 e21=>zaa ⟨_,_,_,zah c0 rfl,λi27 e27 i28 e28=>?_⟩⟩
  have e21:i21=((min m (n - j * m):Nat):Int):=by omega
  subst e21
  have e27:=zaT e27 (by omega) (by omega)
  have e28:=zaT e28 (by omega) (by omega)
  subst e27
  subst e28
  have k3:=zmI (zqb) (by simp) (h:=g2) (b:=b) (off:=off) (lo:=j * m) (hi:=j * m+min m (n - j * m)) C2 (by omega) (by omega)
  rw[show j * m+min m (n - j * m) - j * m=min m (n - j * m) by omega] at k3
  refine⟨_,_,_,k3,(hr j g2 hjN J2).mono' ?_⟩
  rintro v g33 ⟨⟨rfl,J33⟩ | ⟨rfl,D33⟩, -⟩
  ·obtain⟨-,⟨t3,r3,c3⟩, -⟩:=hs (j+1) g33 J33
   refine⟨true,rfl,?_⟩
   simp only[Bool.not_true,cond_false]
   refine zaa ⟨_,zah c3 rfl,λi38 e38=>?_⟩
   have e38:=zaT e38 (by omega) (by omega)
   exact⟨_,by omega,j+1,by grind,hjN,rfl,J33⟩
  grind
 grind
end
structure Ew (S:TY) (B:Nat) (hp:AH) (own:Nat->Prop) (S1:TY) (g1:Int) (h1:AH):Prop where
 x:Xt B S S1
 w:WT cx0 S1 g1 h1
 n:B<=h1.next
 k:∀b,b < B->¬own b->S.ty b=none->¬S.dv b->h1.get b=hp.get b
section
variable {S S1:TY} {B:Nat} {hp h1 h2:AH} {own:Nat->Prop} {g1:Int}
theorem Ew.call (E:Ew S B hp own S1 g1 h1) {f:FuncId} {s:FS} (v:Vl f s) {ρ:ATs s.ps} {vs:List Value} (ga:gams cx0 S1 h1 L0 h1.next (instAs s.ps ρ) vs) {Q:TV->Int->Prop} (H:s.s ρ g1 Q):
 Wf Tryz.prog KB f vs h1 λv h2=>∃S2 r g2,Ew S B hp own S2 g2 h2/\Xt h1.next S1 S2/\h1.next<=h2.next/\(∀b,b < h1.next->S1.ty b=none->¬S1.dv b->h2.get b=h1.get b)/\gam cx0 S2 h2 L0 h1.next r v/\Q r g2:=by
 refine (v ρ g1 _ H S1 h1 vs E.w ga).mono ?_
 rintro v h2 ⟨S2,r,g2,X,w,n,fr,gm, -,hq⟩
 refine⟨S2,r,g2,⟨E.x.trans2 E.n X,w,Qm E.n n,λb hb ho h1' h2'=>?_⟩,X,n,by grind,gm,hq⟩
 rw[fr b (Qi hb E.n) (.inr ⟨by rw[E.x.old b hb]; omega,λq=>h2' (E.x.dvo b hb q)⟩),E.k b hb ho h1' h2']
theorem Ew.upd (E:Ew S B hp own S1 g1 h1) (n:h1.next<=h2.next) (k1:∀b,b < h1.next->((∃q,S1.ty b=some q)\/S1.dv b)->h2.get b=h1.get b) (k2:∀b,b < B->¬own b->h2.get b=h1.get b):Ew S B hp own S1 g1 h2:=
 ⟨E.x,E.w.keep ziL n k1,Qm E.n n,by grind[k]⟩
theorem Ew.old (E:Ew S B hp own S1 g1 h1) (o:Old h1 h2):Ew S B hp own S1 g1 h2:=E.upd o.1 (λb hb _=>o.2 b hb) λb hb _=>o.2 b (Qi hb E.n)
end
def SvJ (S:TY) (l:Nat) (hp:AH) (r1 r2 o:Nat) (gi:Int) (w k:Nat) (h:AH):Prop:=
 ∃S1 g1 pp cc al,Ew S (l+1) hp (λb=>b=r1\/b=r2\/b=o\/b=l) S1 g1 h/\gi<=g1/\g1<=gi+w/\h.get o=some (.cells [.slice pp k cc] 97 false)/\h.get r1=some (.cells [.slice none 0 0] 97 false)/\h.get r2=some (.cells [.int .i64 0] 30 false)/\
  zbB (l+1) h 96 3 pp k cc al/\zau cx0 S1 (zaJ cx0 96 k) al/\∀a,pp=some a->S1.ty a.block=none/\¬S1.dv a.block
def SvD (S:TY) (l:Nat) (hp:AH) (r1 r2 o:Nat) (gi:Int) (w:Nat) (h:AH):Prop:=
 ∃S1 g1 e,Ew S (l+1) hp (λb=>b=r1\/b=r2\/b=o\/b=l) S1 g1 h/\gi<=g1/\g1<=gi+w/\h.get r1=some (.cells [.slice none 0 0] 97 false)/\h.get r2=some (.cells [.int .i64 e] 30 false)/\InR .i64 e/\e≠0
section
variable {S:TY} {l:Nat} {hp h h' : AH} {r1 r2 o:Nat} {gi:Int} {w k:Nat}
structure Plc (S:TY) (l:Nat) (r1 r2 o:Nat):Prop where
 lt:r1 < l/\r2 < l/\o < l/\r1≠r2/\r1≠o/\r2≠o
 un:∀b,b=r1\/b=r2\/b=o\/b=l->S.ty b=none/\¬S.dv b
theorem Plc.off (P:Plc S l r1 r2 o) {S1:TY} (X:Xt (l+1) S S1) {b:Nat} (hb:b=r1\/b=r2\/b=o\/b=l):S1.ty b=none/\¬S1.dv b:=by
 have hl:=P.lt
 obtain⟨u1,u2⟩:=P.un b hb
 grind[Xt.old,Xt.dvo]
theorem SvJ.old (J:SvJ S l hp r1 r2 o gi w k h) (P:Plc S l r1 r2 o) (q:Old h h'):SvJ S l hp r1 r2 o gi w k h':=by
 obtain⟨S1,g1,pp,cc,al,E,b1,b2,c1,c2,c3,G,T,U⟩:=J
 have hl:=P.lt
 have hn:=E.n
 exact⟨S1,g1,pp,cc,al,E.old q,b1,b2,by rw[q.2 _ (by omega)]; omega,by rw[q.2 _ (by omega)]; omega,by rw[q.2 _ (by omega)]; omega,G.old q,T,U⟩
theorem SvJ.near (J:SvJ S l hp r1 r2 o gi w k h) (P:Plc S l r1 r2 o) (q:zaZ l h h'):SvJ S l hp r1 r2 o gi w k h':=by
 obtain⟨S1,g1,pp,cc,al,E,b1,b2,c1,c2,c3,G,T,U⟩:=J
 have hl:=P.lt
 have of:=P.off E.x (b:=l) (.inr (.inr (.inr rfl)))
 exact⟨S1,g1,pp,cc,al,E.upd (Q1 q.1.symm) (λb hb z=>q.2 b λe=>by grind) (λb hb ho=>q.2 b λe=>ho (.inr (.inr (.inr e)))),b1,b2,by rw[q.2 _ (by omega)]; omega,by rw[q.2 _ (by omega)]; omega,by rw[q.2 _ (by omega)]; omega,by grind[zbB.near],T,U⟩
theorem SvD.near (J:SvD S l hp r1 r2 o gi w h) (P:Plc S l r1 r2 o) (q:zaZ l h h'):SvD S l hp r1 r2 o gi w h':=by
 obtain⟨S1,g1,e,E,b1,b2,c2,c3,r⟩:=J
 have hl:=P.lt
 have of:=P.off E.x (b:=l) (.inr (.inr (.inr rfl)))
 exact⟨S1,g1,e,E.upd (Q1 q.1.symm) (λb hb z=>q.2 b λe=>by grind) (λb hb ho=>q.2 b λe=>ho (.inr (.inr (.inr e)))),b1,b2,by rw[q.2 _ (by omega)]; omega,by rw[q.2 _ (by omega)]; omega,r⟩
theorem SvJ.put0 {S1:TY} {g1:Int} {pp:Option Addr} {cc:Nat} {al:List Value} (E:Ew S (l+1) hp (λb=>b=r1\/b=r2\/b=o\/b=l) S1 g1 h) (b1:gi<=g1) (b2:g1<=gi+w) (c1:h.get o=some (.cells [.slice pp k cc] 97 false)) (c2:h.get r1=some (.cells [.slice none 0 0] 97 false)) (c3:h.get r2=some (.cells [.int .i64 0] 30 false))
 (G:zbB (l+1) h 96 3 pp k cc al) (T:zau cx0 S1 (zaJ cx0 96 k) al) (U:∀a,pp=some a->S1.ty a.block=none/\¬S1.dv a.block) (P:Plc S l r1 r2 o) (v172:Vl 172 zxf) (hb:gi+w+1<=1000000000) {pv sv:Value} {i:Int} {n:Nat} (gp:zbr cx0 S 139 pv) (hi:InR .i64 i) (gs:SlV cx0 S1 h.next false false false 5 n sv) (hn:n<=big):
 Wf Tryz.prog KB 172 [pv,.int .i64 i,sv] h λv h'=>∃a b c e,v=.tuple #[.agg #[.int .i64 a,.int .u64 b,.int .u32 c],.int .i64 e]/\InR .i64 e/\PtR a b c/\h'.get l=h.get l/\h.next<=h'.next/\SvJ S l hp r1 r2 o gi (w+1) k h':=by
 have hl:=P.lt
 have hnx:=E.n
 refine (E.call v172 (ρ:=((),i,n,())) (vs:=[_,_,_]) ⟨gp.mono E.x.le,⟨rfl,hi⟩,gs,trivial⟩ (Q:=λr g'=>(∃e:Int,InR .i64 e/\r=.tup [.aggT 96,.int .i64 e])/\g1<=g'/\g'<=g1+1) ⟨hn,by omega,λg' h1 h2 e he=>⟨⟨e,he,rfl⟩,h1,h2⟩⟩).mono ?_
 rintro v h' ⟨S2,r,g2,E2,X2,n2,fr,gm,⟨e,he,rfl⟩,q1,q2⟩
 obtain⟨x,y,rfl,gm1,gm2⟩:=zxj gm
 obtain⟨a,b,c,rfl,rp⟩:=zsQ gm1
 obtain⟨rfl, -⟩:=gm2
 have kp:∀{b},b=r1\/b=r2\/b=o\/b=l->h'.get b=h.get b:=by grind[Plc.off,Ew.x]
 refine⟨a,b,c,e,rfl,he,rp,by grind,n2,S2,g2,pp,cc,al,E2,by omega,by omega,by grind,by grind,by grind,⟨G.1,?_⟩,T.mono X2.le,λx hx=>?_⟩
 ·rcases G.2 with z | ⟨b,rfl,z1,z2,z3,z4⟩
  all_goals grind
 ·have:=(G.block hx).2
  grind[Xt.old,Xt.dvo]
theorem SvJ.put (J:SvJ S l hp r1 r2 o gi w k h) (P:Plc S l r1 r2 o) (v172:Vl 172 zxf) (hb:gi+w+1<=1000000000) {pv sv:Value} {i:Int} {n:Nat} (gp:zbr cx0 S 139 pv) (hi:InR .i64 i) (gs:∀S1 g1,Le2 S S1->WT cx0 S1 g1 h->SlV cx0 S1 h.next false false false 5 n sv) (hn:n<=big):
 Wf Tryz.prog KB 172 [pv,.int .i64 i,sv] h λv h'=>∃a b c e,v=.tuple #[.agg #[.int .i64 a,.int .u64 b,.int .u32 c],.int .i64 e]/\InR .i64 e/\PtR a b c/\h'.get l=h.get l/\h.next<=h'.next/\SvJ S l hp r1 r2 o gi (w+1) k h':=by
 obtain⟨S1,g1,pp,cc,al,E,b1,b2,c1,c2,c3,G,T,U⟩:=J
 exact SvJ.put0 E b1 b2 c1 c2 c3 G T U P v172 hb gp hi (gs S1 g1 E.x.le E.w) hn
theorem zvq {S1:TY} {g:Int} {h:AH} (w:WT cx0 S1 g h) {b:Nat} {cs:List Value} {e:TypeId} {cc:Nat->Option Nat} (hb:b < h.next) (h1:S1.ty b=none) (h2:¬S1.dv b) (hg:h.get b=some (.cells cs e false)) (ht:zau cx0 S1 cc cs):
 WT cx0 (zeI S1 b (false,e,cc)) g h/\Le2 S1 (zeI S1 b (false,e,cc)):=by
 have hl:Le2 S1 (zeI S1 b (false,e,cc)):=⟨λc q hc=>by
  show (if c=b then _ else S1.ty c)=some q
  grind,rfl⟩
 refine⟨⟨λc ro e' c' hc=>?_,w.2.1,zjW.d2 S1 _ g h w.2.2 rfl λ_=>Iff.rfl⟩,hl⟩
 have hc' : (if c=b then some (false,e,cc) else S1.ty c)=some (ro,e',c'):=hc
 split at hc'
 ·rename_i q
  subst q
  cases hc'
  exact⟨hb,h2,cs,false,hg,λ_=>rfl,ht.mono hl⟩
 ·obtain⟨k1,k2,cs',r',k3,k4,k5⟩:=w.1 c ro e' c' hc'
  exact⟨k1,k2,cs',r',k3,k4,k5.mono hl⟩
theorem SvJ.putN (J:SvJ S l hp r1 r2 o gi w k h) (P:Plc S l r1 r2 o) (v172:Vl 172 zxf) (hb:gi+w+1<=1000000000) {pv:Value} {i:Int} {n:Nat} (gp:zbr cx0 S 139 pv) (hi:InR .i64 i) {h' : AH} (q:Old h h') {b:Nat} (q1:h.next<=b) (q2:b < h'.next) {cs:List Value} {e:TypeId} (q3:h'.get b=some (.cells cs e false)) (q4:U8s cs) (q5:cs.length=n) (hn:n<=big):
 Wf Tryz.prog KB 172 [pv,.int .i64 i,.slice (some ⟨b,0,none⟩) n n] h' λv h2=>∃a b c e,v=.tuple #[.agg #[.int .i64 a,.int .u64 b,.int .u32 c],.int .i64 e]/\InR .i64 e/\PtR a b c/\h2.get l=h'.get l/\h'.next<=h2.next/\SvJ S l hp r1 r2 o gi (w+1) k h2:=by
 obtain⟨S1,g1,pp,cc,al,E,b1,b2,c1,c2,c3,G,T,U⟩:=J
 have hl:=P.lt
 have hnx:=E.n
 have n1:S1.ty b=none:=by
  cases hq:S1.ty b with
  | none=>rfl
  | some z=>have:=(E.w.1 b z.1 z.2.1 z.2.2 hq).1; omega
 have n2:¬S1.dv b:=λz=>by have:=E.w.2.1 b z; omega
 have E':=E.old q
 obtain⟨w2,le⟩:=zvq E'.w q2 n1 n2 q3 (zeu (S:=S1) q5 q4)
 have hnb:n<=1048576:=hn
 refine SvJ.put0 (al:=al) (pp:=pp) (cc:=cc) ⟨E'.x.trans2 (Qc _) ⟨le.ty,λc hc=>if_neg (by omega),λ_ h=>h,λ_ _ h=>h,rfl⟩,w2,E'.n,E'.k⟩ b1 b2 (by rw[q.2 _ (by omega)]; omega) (by rw[q.2 _ (by omega)]; omega) (by rw[q.2 _ (by omega)]; omega) (G.old q) (T.mono le) (λa ha=>?_) P v172 hb gp hi ?_ hn
 ·obtain⟨u1,u2⟩:=U a ha
  have:=(G.block ha).2
  exact⟨by show (if a.block=b then _ else S1.ty a.block)=none; grind,u2⟩
 ·exact⟨by grind[zbT],_,n,rfl,.inr ⟨b,0,false,e,_,rfl,if_pos rfl,by grind[zbh],(λz=>by rfl),(λz=>by grind),by grind[zai]⟩⟩
theorem SvJ.app (J:SvJ S l hp r1 r2 o gi w k h) (P:Plc S l r1 r2 o) (hk:k<=1000000) {a b c:Int} (rp:PtR a b c):
 ∃p42 c44,ld1 h o 0=some (.slice p42 k c44)/\∀h48:AH,h48=h.alloc (.cells (ptC a b c) 96 false)->∃p49 n50 c51 h52,zak Tryz.prog h48 .append #[97,97] [.slice p42 k c44,.slice (some ⟨h.next,0,none⟩) 1 1]=some (.slice p49 n50 c51,h52)/\∃h53,st1 h52 o 0 (.slice p49 n50 c51)=some h53/\h53.get l=h.get l/\SvJ S l hp r1 r2 o gi w (k+1) h53:=by
 obtain⟨S1,g1,pp,cc,al,E,b1,b2,c1,c2,c3,G,T,U⟩:=J
 have hl:=P.lt
 have hnx:=E.n
 refine⟨pp,cc,zah c1 rfl,λh48 e48=>?_⟩
 obtain⟨p49,c51,h52,k52,G52,ob52,ap52,fr52⟩:=G.push zqb hnx e48 (m:=1) rfl (by grind[zaA]) (by omega)
 obtain⟨bn,rfl,hbn⟩:=fr52 (by omega)
 have ne:∀{b},b < l+1->apart pp b:=λ{b} hb=>by
  cases hq:pp with
  | none=>trivial
  | some x=>have:=(G.block hq).1; exact λz=>by omega
 have kb:∀{b},b < l+1->h52.get b=h.get b:=by grind
 refine⟨_,_,c51,h52,k52,_,zaN ((kb (by omega)).trans c1) (by simp),?_⟩
 have ns:=zam o h52 (.cells ([Value.slice pp k cc].set 0 (.slice (some ⟨bn,0,none⟩) (k+1) c51)) 97 false)
 have ln:=ob52.1
 have oo:=P.off E.x (b:=o) (.inr (.inr (.inl rfl)))
 refine⟨by rw[ns.2 _ (by omega),kb (by omega)],S1,g1,some ⟨bn,0,none⟩,c51,al ++ ptC a b c,E.upd (by simp_all) (λb hb z=>?_) (λb hb ho=>?_),b1,b2,zaf _ _ _,by rw[ns.2 _ (by omega),kb (by omega)]; omega,by rw[ns.2 _ (by omega),kb (by omega)]; omega,by grind[zbB.near],zaL (X:=cx0) (T:=96) (by exact G.1) T (zsP rp),λx hx=>?_⟩
 ·rw[ns.2 b λq=>by grind]
  refine ap52 b hb ?_
  cases hq:pp with
  | none=>trivial
  | some x=>
    intro q
    grind
 ·simp_all
 ·cases hx
  have lt:∀q,S1.ty bn=some q->bn < h.next:=λq z=>(E.w.1 bn q.1 q.2.1 q.2.2 z).1
  refine⟨?_,λq=>by have:=E.w.2.1 bn q; omega⟩
  cases hq:S1.ty bn<;>grind
theorem SvJ.err (J:SvJ S l hp r1 r2 o gi w k h) (P:Plc S l r1 r2 o) {e:Int} (he:InR .i64 e) (h0:e≠0):
 ∃h54,st1 h r1 0 (.slice none 0 0)=some h54/\∃h55,st1 h54 r2 0 (.int .i64 e)=some h55/\h55.get l=h.get l/\SvD S l hp r1 r2 o gi w h55:=by
 obtain⟨S1,g1,pp,cc,al,E,b1,b2,c1,c2,c3,G,T,U⟩:=J
 have hl:=P.lt
 have n1:=zam r1 h (.cells ([Value.slice none 0 0].set 0 (.slice none 0 0)) 97 false)
 have n2:=zam r2 (h.set r1 (.cells ([Value.slice none 0 0].set 0 (.slice none 0 0)) 97 false)) (.cells ([Value.int .i64 0].set 0 (.int .i64 e)) 30 false)
 have o1:=P.off E.x (b:=r1) (.inl rfl)
 have o2:=P.off E.x (b:=r2) (.inr (.inl rfl))
 refine⟨_,zaN c2 (by simp),_,zaN ((n1.2 _ (by omega)).trans c3) (by simp),by rw[n2.2 _ (by omega),n1.2 _ (by omega)],S1,g1,e,E.upd (by simp) (λb hb z=>?_) (by simp_all),b1,b2,by simp_all,zaf _ _ _,he,h0⟩
 rw[n2.2 b λq=>by grind,n1.2 b λq=>by grind]
end
section
variable {S:TY} {l:Nat} {h0 g6 h:AH} {r1 r2 o:Nat} {gi:Int} {w k:Nat} {Q:TV->Int->Prop}
theorem Ew.fin {S1:TY} {g1:Int} {h:AH} (E:Ew S (l+1) g6 (λb=>b=r1\/b=r2\/b=o\/b=l) S1 g1 h) (o6:Old h0 g6) (hl:g6.next=l) (hr:h0.next<=r1/\h0.next<=r2/\h0.next<=o/\h0.next<=l) {S2:TY} (X:Xt (l+1) S1 S2) (w2:WT cx0 S2 g1 h) {v:Value} {r:TV} (gm:gam cx0 S2 h L0 h0.next r v) (ht:tagsOf r=[]) (hq:Q r g1):Fin S gi h0 false Q v h:=by
 have hn:=E.n
 refine⟨S2,r,g1,(Xt.refl h0.next S).trans2 (by omega) (E.x.trans2 (Qc _) X),w2,by omega,λb hb q=>?_,gm,ht,hq⟩
 rcases q with q | ⟨q1,q2⟩
 ·grind
 ·rw[E.k b (by omega) (by omega) q1 q2,o6.2 b hb]
theorem SvJ.ok (J:SvJ S l g6 r1 r2 o gi w k h) (P:Plc S l r1 r2 o) (o6:Old h0 g6) (hl6:g6.next=l) (hr:h0.next<=r1/\h0.next<=r2/\h0.next<=o/\h0.next<=l) (hk:k<=1000000) (H:∀g',gi<=g'->g'<=gi+w->Q (.tup [.sl false false false 96 k,.int .i64 0]) g'):
 ∃(p65:Option Addr) (n66 c67:Nat),ld1 (h.del l) o 0=some (.slice p65 n66 c67)/\∃h68,st1 (h.del l) r1 0 (.slice p65 n66 c67)=some h68/\∃h69,st1 h68 r2 0 (.int .i64 0)=some h69/\∃(p70:Option Addr) (n71 c72:Nat),ld1 h69 r1 0=some (.slice p70 n71 c72)/\∃i73:Int,ld1 h69 r2 0=some (.int .i64 i73)/\Fin S gi h0 false Q (.tuple #[.slice p70 n71 c72,.int .i64 i73]) h69:=by
 have J:=J.near P (h':=h.del l) ⟨rfl,by grind[zaU]⟩
 generalize h.del l=h at J ⊢
 obtain⟨S1,g1,pp,cc,al,E,b1,b2,c1,c2,c3,G,T,U⟩:=J
 have hl:=P.lt
 have n1:=zam r1 h (.cells ([Value.slice none 0 0].set 0 (.slice pp k cc)) 97 false)
 have n2:=zam r2 (h.set r1 (.cells ([Value.slice none 0 0].set 0 (.slice pp k cc)) 97 false)) (.cells ([Value.int .i64 0].set 0 (.int .i64 0)) 30 false)
 have o1:=P.off E.x (b:=r1) (.inl rfl)
 have o2:=P.off E.x (b:=r2) (.inr (.inl rfl))
 refine⟨pp,k,cc,zah c1 rfl,_,zaN c2 (by simp),_,zaN ((n1.2 _ (by omega)).trans c3) (by simp),pp,k,cc,zah ((n2.2 _ (by omega)).trans (zaf _ _ _)) rfl,0,by grind[zah,zaf],?_⟩
 have E2:Ew S (l+1) g6 (λb=>b=r1\/b=r2\/b=o\/b=l) S1 g1 _:=E.upd (h2:=(h.set r1 (.cells ([Value.slice none 0 0].set 0 (.slice pp k cc)) 97 false)).set r2 (.cells ([Value.int .i64 0].set 0 (.int .i64 0)) 30 false)) (by simp) (λb hb z=>by
  rw[n2.2 b λq=>by grind,n1.2 b λq=>by grind]) (by simp_all)
 have G2:=(G.near n1 (by omega) (Qc _)).near n2 (by omega) (Qc _)
 rcases G2.2 with ⟨rfl,rfl,rfl⟩ | ⟨b,rfl,z1,z2,z3,z4⟩
 ·exact E2.fin o6 hl6 hr (Xt.refl _ _) E2.w (r:=.tup [.sl false false false 96 0,.int .i64 0]) (ze8 zo3 (Go.Am.gi ⟨by decide,by decide⟩)) rfl (H _ b1 b2)
 ·obtain⟨u1,u2⟩:=U _ rfl
  obtain⟨w2,le⟩:=zvq E2.w z2 u1 u2 z3 T
  refine E2.fin o6 hl6 hr ⟨le.ty,λc hc=>if_neg (by omega),λ_ h=>h,λ_ _ h=>h,rfl⟩ w2 (r:=.tup [.sl false false false 96 k,.int .i64 0]) (ze8 ?_ (Go.Am.gi ⟨by decide,by decide⟩)) rfl (H _ b1 b2)
  refine⟨by grind[zbT],_,cc,rfl,.inr ⟨b,0,false,96,zaJ cx0 96 k,rfl,if_pos rfl,by grind[zbh],(λq=>by rfl),(λq=>by omega),?_⟩⟩
  rcases z4 with rfl | rfl
  ·exact .inr ⟨rfl,rfl,by kernel_rfl⟩
  grind[zai]
theorem SvD.ok (J:SvD S l g6 r1 r2 o gi w h) (P:Plc S l r1 r2 o) (o6:Old h0 g6) (hl6:g6.next=l) (hr:h0.next<=r1/\h0.next<=r2/\h0.next<=o/\h0.next<=l) (H:∀e:Int,InR .i64 e->e≠0->∀g',gi<=g'->g'<=gi+w->Q (.tup [.sl false false false 96 0,.int .i64 e]) g'):
 ∃(p76:Option Addr) (n77 c78:Nat),ld1 (h.del l) r1 0=some (.slice p76 n77 c78)/\∃i79:Int,ld1 (h.del l) r2 0=some (.int .i64 i79)/\Fin S gi h0 false Q (.tuple #[.slice p76 n77 c78,.int .i64 i79]) (h.del l):=by
 have J:=J.near P (h':=h.del l) ⟨rfl,by grind[zaU]⟩
 obtain⟨S1,g1,e,E,b1,b2,c2,c3,he,h0'⟩:=J
 exact⟨none,0,0,zah c2 rfl,e,zah c3 rfl,E.fin o6 hl6 hr (Xt.refl _ _) E.w (r:=.tup [.sl false false false 96 0,.int .i64 e]) (ze8 zo3 (Go.Am.gi he)) rfl (by grind)⟩
end
theorem upN {n b:Nat} (hb:0 < b):upF (n:Int) (b:Int)=(((n+b - 1) / b:Nat):Int):=by grind[upF]
theorem zAg (v172:Vl 172 zxf):Vl 212 zzX:=zaY λρ g Q H S hp vs hw hg=>by
 obtain⟨_,(n:Nat),(m:Nat),_⟩:=ρ
 obtain⟨x,y,z,rfl,gx,gy,gz⟩:=zqd (a:=.hp 139) (b:=.sl false false false 5 n) (c:=.sl false false false 3 m) hg
 simp only[gam] at gx gy gz
 obtain⟨(hbn:n<=big),(hbm:m<=big),hgw,⟨hn1,hn2,hup⟩,H⟩:=H
 have H:∀j:Nat,∀e:Int,InR .i64 e->(e=0->(j:Int)=upF n 128)->(¬e=0->j=0)->∀g' : Int,g<=g'->g'<=g+600->Q (.tup [.sl false false false 96 j,.int .i64 e]) g':=H
 obtain⟨N,hN⟩:∃N,N=(n+128 - 1) / 128:=⟨_,rfl⟩
 have eN:upF n 128=(N:Int):=by grind[upN]
 rw[eN] at hup
 have hN6:N<=600:=by omega
 obtain⟨pb,_,rfl, -⟩:∃b c,x=ptr b 0/\True:=by
  obtain⟨b,c,rfl, -⟩:=gx
  exact⟨b,c,rfl,trivial⟩
 obtain⟨pa,ca,rfl⟩:=ziZ gz
 have gy0:=gy
 obtain⟨-,py,c,rfl,⟨-,rfl, -⟩ | ⟨tb,toff,ro,e,cc,rfl,k1,k2, -, -,k5⟩⟩:=gy
 ·omega
 refine zhe (xb rfl) _ _ _ _ _ _ _ hp _ λg0 e0 g1 e1 g2 e2 g3 e3 g4 e4=>zsJ (xb rfl) _ _ _ _ g4 _ λg5 e5 g6 e6=>⟨_,zah (zae e6) rfl,by omega,λ_=>⟨258,[.pointer (some ⟨g4.next,0,none⟩),.pointer (some ⟨g5.next,0,none⟩)],rfl,?_⟩⟩
 have o0:=zab e0
 have n0:=zad e0
 have o1:=zab e1
 have n1:=zad e1
 have o2:=zab e2
 have n2:=zad e2
 have o3:=zab e3
 have n3:=zad e3
 have o4:=zab e4
 have n4:=zad e4
 have o5:=zab e5
 have n5:=zad e5
 have o6:=zab e6
 have n6:=zad e6
 have oh:Old hp g6:=(by grind[Old.trans])
 have c0:g6.get hp.next=some (.cells [ptr pb 0] 105 false):=by rw[o6.2 _ (by omega),o5.2 _ (by omega),o4.2 _ (by omega),o3.2 _ (by omega),o2.2 _ (by omega),o1.2 _ (by omega)]; exact zae e0
 have c1:g6.get g0.next=some (.cells [.slice pa m ca] 61 false):=by simp_all
 have c2:g6.get g1.next=some (.cells [.slice none 0 0] 97 false):=by simp_all
 have c3:g6.get g2.next=some (.cells [.int .i64 0] 30 false):=by simp_all
 have c4:g6.get g3.next=some (.cells [.slice none 0 0] 97 false):=by simp_all
 have c5:g6.get g4.next=_:=(o6.2 _ (by omega)).trans (zae e5)
 have c6:=zae e6
 have un:∀b,hp.next<=b->S.ty b=none/\¬S.dv b:=λb hb=>⟨by
  cases hq:S.ty b with
  | none=>rfl
  | some q=>have:=(hw.1 b q.1 q.2.1 q.2.2 hq).1; omega,λq=>by have:=hw.2.1 b q; omega⟩
 have P:Plc S g6.next g1.next g2.next g3.next:=⟨by omega,by grind⟩
 have hr:hp.next<=g1.next/\hp.next<=g2.next/\hp.next<=g3.next/\hp.next<=g6.next:=by omega
 refine⟨λk=>SvJ S g6.next g6 g1.next g2.next g3.next g k k,λx h=>x=.ret/\SvD S g6.next g6 g1.next g2.next g3.next g N h,N,λk=>[.slice (some ⟨tb,toff+k * 128 * 1,none⟩) (min 128 (n - k * 128)) (min 128 (n - k * 128))],λ_ _=>False,λ_ _=>True,
  ⟨rfl,rfl⟩,by simp,λh1 q1 q2=>?_,by grind[SvJ.near],by grind[SvD.near],by simp,by simp,by simp,?_,?_,λh64 J=>?_,λh74 D=>?_,λx h _ q=>by rw[q.1]; rfl⟩
 ·have o61:Old g6 h1:=⟨by omega,by grind⟩
  exact⟨S,g,none,0,[],⟨Xt.refl _ _,(hw.old oh).old o61,by omega,by grind⟩,Jd _,by omega,(by grind),(by grind),(by grind),zbB.nil _ _ _ _,by grind[zaS],λa e=>by grind⟩
 ·rintro k g14 hk J14 - p17 n18 c19 hit
  simp only[Q8,Value.slice.injEq,and_true] at hit
  obtain⟨rfl,rfl,rfl⟩:=hit
  refine⟨rfl,rfl,λg23 nr hL=>?_⟩
  have J23:=J14.near P nr
  have J23':=J23
  obtain⟨S1,g1',pp,cc',al,E,b1,b2,d1,d2,d3, -, -, -⟩:=J23'
  have kk:∀b,hp.next<=b->b < g6.next+1->b≠g1.next->b≠g2.next->b≠g3.next->b≠g6.next->g23.get b=g6.get b:=by grind[Ew.k]
  obtain⟨_,_,ai,ez, -,sz',hlz,hbz⟩:=zn0 E.w (gz.mono E.x.le) (by rfl) ck3
  cases ez
  obtain⟨b31,o32,rfl,l33⟩:=sz'.get (i:=k) (by omega)
  rw[zgA (by omega)] at l33
  have r33:InR .i64 ai[k]:=hbz _ (by simp)
  generalize ai[k]=i33 at l33 r33
  refine⟨_,zah ((kk hp.next (by omega) (by omega) (by omega) (by omega) (by omega) (by omega)).trans c0) rfl,_,_,_,zah ((kk g0.next (by omega) (by omega) (by omega) (by omega) (by omega) (by omega)).trans c1) rfl,pp,k,cc',zah d1 rfl,zaa ⟨by omega,by omega,i33,by grind,(J23.put P v172 (by omega) gx r33 (n:=min 128 (n - k * 128)) (λS1 g1 le w=>?_) (by omega)).mono ?_⟩⟩
  ·refine⟨by grind[zbT],_,_,rfl,.inr ⟨tb,_,ro,e,cc,rfl,le.ty _ _ k1,λj hj=>?_,(λz=>by grind),(λz=>by grind),by grind[zai]⟩⟩
   have:=k2 (k * 128+j) (by omega)
   rw[sz5,Qp] at this ⊢
   grind
  rintro _ g35 ⟨a,b,c',ee,rfl,he,rp,kl,n35,J35⟩
  refine⟨a,b,c',ee,rfl,λg40 e40=>⟨rfl,?_⟩⟩
  obtain⟨g41,k41,n41,o41,v41⟩:=zbP e40 (vs:=ptC a b c') rfl
  have w41:=v41 [] λc hc=>by grind
  have J41:=J35.old P o41
  have hE:=E.n
  refine⟨g41,k41,λz=>?_,λz=>?_⟩
  ·obtain⟨p42,c44,l42,ap⟩:=J41.app P (by omega) rp
   refine⟨p42,k,c44,l42,_,_,_,w41.ld rfl,λh48 e48=>?_⟩
   obtain⟨p49,n50,c51,h52,k52,h53,k53,kl2,J53⟩:=ap h48 e48
   exact⟨p49,n50,c51,h52,k52,h53,k53,by rw[kl2,o41.2 _ (by omega),kl],J53,λ_ _=>trivial⟩
  ·obtain⟨h54,k54,h55,k55,kl2,D⟩:=J41.err P he z
   refine⟨h54,k54,h55,k55,by rw[kl2,o41.2 _ (by omega),kl],⟨rfl,?_⟩,λ_ _=>trivial⟩
   obtain⟨S1,g1,e',E',q1,q2,q3⟩:=D
   exact⟨S1,g1,e',E',q1,by omega,q3⟩
 ·intro JJ DD hJ hG hDG hround g60 hj0
  subst hN
  exact zys (ya:=g6.next) (pb0:=g4.next) (pb1:=g5.next) (b:=tb) (off:=toff) (n:=n) (c:=c) (m:=128) (by omega) (by omega) (JJ:=JJ) (DD:=DD) (BB:=λ_ _=>True) (λi h1 j=>by
   obtain⟨S1,g1',pp,cc',al,E, -⟩:=hJ i h1 j
   have kk:∀b,hp.next<=b->b < g6.next+1->b≠g1.next->b≠g2.next->b≠g3.next->b≠g6.next->h1.get b=g6.get b:=by grind[Ew.k]
   refine⟨by grind,by grind,?_⟩
   rcases k5 with ⟨q1,q2, -⟩ | ⟨q1, -,q2⟩
   ·exact .inl ⟨q2,q1⟩
   ·obtain⟨-, -,cs,r,q3, -⟩:=E.w.1 tb _ _ _ (E.x.ty _ _ k1)
    exact .inr ⟨q1,cs,e,r,q3,q2.trans (by rfl)⟩)
   (by omega) hj0
 ·refine J.ok P oh rfl hr (by omega) λg' h1 h2=>H N 0 ⟨by decide,by decide⟩ (λ_=>eN.symm) (by omega) g' h1 (by omega)
 ·exact D.2.ok P oh rfl hr λe he h0 g' h1 h2=>H 0 e he (λz=>absurd z h0) (λ_=>rfl) g' h1 (by omega)
end Go.Am
