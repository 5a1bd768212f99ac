/-
  Texts of this proof, part 40. No condition.
-/
import Derived.Test.YtmnbboleclchcaaGreatFTcT
set_option linter.unusedVariables false
set_option linter.unusedSimpArgs false
set_option maxRecDepth 100000
namespace Go.Am
open Go.Proofs
structure Ev (S:TY) (hp:AH) (g:Int) (S1:TY) (h1:AH):Prop where
 x:Xt hp.next S S1
 w:WT cx0 S1 g h1
 o:Old hp h1
section
variable {S S1:TY} {hp h1 h2:AH} {g:Int}
theorem Ev.start (hw:WT cx0 S g hp):Ev S hp g S hp:=⟨Xt.refl _ _,hw,Old.refl _⟩
theorem Ev.old (E:Ev S hp g S1 h1) (o:Old h1 h2):Ev S hp g S1 h2:=⟨E.x,E.w.old o,E.o.trans o⟩
theorem Ev.call (E:Ev S hp g S1 h1) {f:FuncId} {s:FS} (v:Vl f s) (hpu:s.pu=true) {ρ:ATs s.ps} {vs:List Value} (ga:gams cx0 S1 h1 L0 h1.next (instAs s.ps ρ) vs) {Q:TV->Prop} (H:s.s ρ g λr g'=>g=g'/\Q r):
 Wf Tryz.prog KB f vs h1 λv h2=>∃S2 r,Ev S hp g S2 h2/\Le2 S1 S2/\Old h1 h2/\gam cx0 S2 h2 L0 h1.next r v/\Q r:=by
 refine (zgD v hpu E.w ga H).mono ?_
 rintro v h2 ⟨o,S2,r,g',X,w,gm, -,rfl,hq⟩
 exact⟨S2,r,⟨E.x.trans2 E.o.1 X,w,E.o.trans o⟩,X.le,o,gm,hq⟩
theorem Ev.fin (E:Ev S hp g S1 h1) {Q:TV->Int->Prop} {v:Value} {r:TV} {pu:Bool} (gm:gam cx0 S1 h1 L0 hp.next r v) (ht:tagsOf r=[]) (hq:Q r g):Fin S g hp pu Q v h1:=
 ⟨S1,r,g,E.x,E.w,E.o.1,λb hb _=>E.o.2 b hb,gm,ht,hq⟩
theorem Ev.block (E:Ev S hp g S1 h1) {cs:List Value} {e:TypeId} {cc:Nat->Option Nat} (ea:h2=h1.alloc (.cells cs e false)) (ht:zau cx0 S1 cc cs):
 Ev S hp g (zeI S1 h1.next (false,e,cc)) h2/\Le2 S1 (zeI S1 h1.next (false,e,cc))/\Old h1 h2:=by
 have o:=zab ea
 have n:=zad ea
 have hl:Le2 S1 (zeI S1 h1.next (false,e,cc)):=⟨λc q hc=>by
  have:=(E.w.1 c q.1 q.2.1 q.2.2 hc).1
  show (if c=h1.next then _ else S1.ty c)=some q
  grind,rfl⟩
 have w':=E.w.old o
 have lo:=E.o.1
 refine⟨⟨E.x.trans2 lo ⟨hl.ty,λc hc=>if_neg (by omega),λ_ h=>h,λ_ _ h=>h,rfl⟩,⟨λc ro e' c' hc=>?_,w'.2.1,zjW.d2 S1 _ g h2 w'.2.2 rfl λ_=>Iff.rfl⟩,E.o.trans o⟩,hl,o⟩
 have hc' : (if c=h1.next then some (false,e,cc) else S1.ty c)=some (ro,e',c'):=hc
 split at hc'
 ·rename_i q
  subst q
  cases hc'
  exact⟨by omega,λq=>by have:=E.w.2.1 _ q; omega,cs,false,zae ea,λ_=>rfl,ht.mono hl⟩
 ·obtain⟨k1,k2,cs',r',k3,k4,k5⟩:=w'.1 c ro e' c' hc'
  exact⟨k1,k2,cs',r',k3,k4,k5.mono hl⟩
theorem Ev.xs (E:Ev S hp g S1 h1) {l:List Int} (ea:h2=h1.alloc (.cells (zh9 .i64 l) 3 false)) (hl:okL l) (hn:l.length<=64):
 ∃S2,Ev S hp g S2 h2/\Le2 S1 S2/\Old h1 h2/\∀base,gam cx0 S2 h2 L0 base (.xs l) (.slice (some ⟨h1.next,0,none⟩) l.length l.length):=by
 obtain⟨E2,l2,o2⟩:=E.block ea (zvp hl)
 refine⟨_,E2,l2,o2,λbase=>?_⟩
 exact⟨by grind[zbT],_,0,_,_,_,_,rfl,Qc _,by grind[zai],if_pos rfl,λi x hi=>⟨by grind[cE],hl x (by grind)⟩⟩
end
theorem ziZ {S:TY} {base n T:Nat} {w fr kc:Bool} {v:Value} (g:SlV cx0 S base w fr kc T n v):∃p c,v=.slice p n c:=by
 obtain⟨-,p,c,e, -⟩:=g
 grind
theorem SlV.wk {S S' : TY} {base base' T n:Nat} {w fr kc:Bool} {v:Value} (g:SlV cx0 S base w fr kc T n v) (l:Le2 S S'):SlV cx0 S' base' false false false T n v:=(by grind[mono,weak])
theorem zo3 {S:TY} {base T:Nat} {w fr kc:Bool}:SlV cx0 S base w fr kc T 0 (.slice none 0 0):=⟨by omega,none,0,rfl,by simp⟩
theorem ze8 {S:TY} {h:AH} {base:Nat} {a b:TV} {x y:Value} (ga:gam cx0 S h L0 base a x) (gb:gam cx0 S h L0 base b y):gam cx0 S h L0 base (.tup [a,b]) (.tuple #[x,y]):=by
 exact⟨[x,y],rfl,by cases x <;> rfl,ga,gb,trivial⟩
theorem zeR {S:TY} {h:AH} {base n T:Nat} {w fr kc:Bool} {e:Int} {v:Value} (g:gam cx0 S h L0 base (.tup [.sl w fr kc T n,.int .i64 e]) v):∃p c,v=.tuple #[.slice p n c,.int .i64 e]/\SlV cx0 S base w fr kc T n (.slice p n c):=by grind[zxj,gam,ziZ]
theorem zDT (v166:Vl 166 zAT) (v193:Vl 193 zBb) (v194:Vl 194 zBd) (v169:Vl 169 zA4):Vl 124 zBe:=zaY λρ g Q H S hp vs hw hg=>by
 obtain⟨(t:Int),(n:Nat),_⟩:=ρ
 obtain⟨x,y,rfl,gx,gy⟩:=zec (a:=.int .i64 t) (b:=.sl false false false 5 n) hg
 obtain⟨rfl,ht⟩:=gx
 obtain⟨p,c,rfl⟩:=ziZ gy
 obtain⟨(hbig:n<=big),H⟩:=H
 have E0:=Ev.start hw
 have bad:∀{S1 h1},Ev S hp g S1 h1->Fin S g hp true Q (.tuple #[.slice none 0 0,.int .i64 81]) h1:=λE=>E.fin (r:=.tup [.sl false false false 294 0,.int .i64 81]) (ze8 (by grind[gam,zo3]) (gi ⟨by decide,by decide⟩)) rfl (H 0 (Qg _) _ ⟨by decide,by decide⟩)
 refine zju (xb rfl) _ _ _ _ hp _ ((E0.call v166 rfl (ρ:=(t,())) (vs:=[_]) ⟨⟨rfl,ht⟩,trivial⟩ (Q:=λr=>∃i:Int,r=.int .i64 i/\(i=0\/162<=i)/\i<=3000) λc _ h1 h2=>⟨rfl,c,rfl,h1,h2⟩).mono ?_)
 rintro v h1 ⟨S1,r,E1,l1,o1,gm,i2,rfl,h2,h2'⟩
 obtain⟨rfl, -⟩:=gm
 refine⟨_,rfl,λ_=>bad E1,λz=>⟨λhn h3 e3=>?_,λ_=>bad E1⟩⟩
 obtain⟨S3,E3,l3,o3,g3⟩:=E1.xs (l:=[2]) e3 (λx hx=>by grind) (by simp)
 obtain⟨p4,c6,k4,s4⟩:=zc1 E3.w (gy.mono (l1.trans l3)) zqe zxh (lo:=none) (hi':=some (.int .i64 2)) (l:=0) (u:=2) (.inl ⟨rfl,rfl⟩) (.inr ⟨_,rfl⟩) (by omega) (by omega) (by omega)
 refine⟨_,_,_,k4,(E3.call v24 rfl (ρ:=([2],(2:Nat),())) (vs:=[_,_]) ⟨g3 _,s4.wk (Le2.refl _),trivial⟩ (Q:=λr=>∃(m:Nat) (e:Int),r=.tup [.sl true true false 62 m,.int .i64 e]/\(e=0->m=1)) ⟨⟨⟨by omega,by omega⟩,trivial⟩,λm _ e he hm=>⟨rfl,m,e,rfl,hm⟩⟩).mono ?_⟩
 rintro v h8 ⟨S8,r,E8,l8,o8,gm,m,i12,rfl,hm⟩
 obtain⟨p9,c11,rfl,s9⟩:=zeR gm
 refine⟨_,_,_,_,rfl,λz12=>?_,λ_=>bad E8⟩
 obtain⟨_,_,ns,e9, -,sh9,hl9, -⟩:=zef E8.w s9 zxg zsw
 cases e9
 obtain⟨b13,o14,rfl,l15⟩:=sh9.get (i:=0) (by omega)
 rw[zbu (by omega)] at l15
 generalize ns[0]=cnt at l15
 have ld:ld1 h8 b13 o14=some (.int .u64 (cnt:Nat)):=l15
 refine zaa ⟨by omega,by omega,_,ld,λi16 e16=>⟨by omega,λi17 e17 i18 e18=>⟨λ_=>bad E8,λz18=>zaa ⟨by omega,by omega,_,ld,λi22 e22 i23 e23 i24 e24=>?_⟩⟩⟩⟩
 have e16:=zaT e16 (by omega) (by omega)
 rw[Int.tdiv_eq_ediv_of_nonneg (by omega)] at e17
 have e17:=zaT e17 (by omega) (by omega)
 have e18:=zv8 e18 (by omega) (by omega)
 have e22:=zaT e22 (by omega) (by omega)
 have e23:=zaT e23 (by omega) (by omega)
 have e24:=zaT e24 (by omega) (by omega)
 obtain⟨p25,c27,k25,s25⟩:=zc1 E8.w (gy.mono ((l1.trans l3).trans l8)) zqe zxh (lo:=some (.int .i64 2)) (hi':=some (.int .i64 i24)) (l:=2) (u:=i24) (.inr ⟨_,rfl⟩) (.inr ⟨_,rfl⟩) (by omega) (by omega) (by omega)
 refine⟨_,_,_,k25,(E8.call v193 rfl (ρ:=((i24 - 2).toNat,())) (vs:=[_]) ⟨s25.wk (Le2.refl _),trivial⟩ (Q:=λr=>∃(m:Nat) (e:Int),r=.tup [.sl false false false 312 m,.int .i64 e]/\m<=big) ⟨(show (i24 - 2).toNat<=big by omega),λm hm e he=>⟨rfl,m,e,rfl,hm⟩⟩).mono ?_⟩
 rintro v h29 ⟨S29,r,E29,l29,o29,gm,m,i33,rfl,hm31⟩
 obtain⟨p30,c32,rfl,s30⟩:=zeR gm
 refine⟨_,_,_,_,rfl,λ_=>?_,λ_=>bad E29⟩
 refine (E29.call v194 rfl (ρ:=((0:Nat),m,())) (vs:=[_,_]) ⟨zo3,s30.wk (Le2.refl _),trivial⟩ (Q:=λr=>∃(m:Nat) (e:Int),r=.tup [.sl false false false 294 m,.int .i64 e]/\m<=big) ⟨Qg _,hm31,λm hm e he=>⟨rfl,m,e,rfl,hm⟩⟩).mono ?_
 rintro v h35 ⟨S35,r,E35,l35,o35,gm,m,i39,rfl,hm37⟩
 obtain⟨p36,c38,rfl,s36⟩:=zeR gm
 refine⟨_,_,_,_,rfl,λ_=>?_,λ_=>bad E35⟩
 refine (E35.call v169 rfl (ρ:=(t,m,())) (vs:=[_,_]) ⟨⟨rfl,ht⟩,s36.wk (Le2.refl _),trivial⟩ (Q:=λr=>∃(m:Nat) (e:Int),r=.tup [.sl false false false 5 m,.int .i64 e]/\m<=big) ⟨hm37,λm hm e he _=>⟨rfl,m,e,rfl,show m<=big by grind[big]⟩⟩).mono ?_
 rintro v h41 ⟨S41,r,E41,l41,o41,gm,m2,i45,rfl,hm43⟩
 obtain⟨p42,c44,rfl,s42⟩:=zeR gm
 refine⟨_,_,_,_,rfl,λ_=>?_,λ_=>bad E41⟩
 refine (E41.call v26 rfl (ρ:=(m2,n,())) (vs:=[_,_]) ⟨s42.wk (Le2.refl _),gy.wk ((((((l1.trans l3).trans l8).trans l29).trans l35)).trans l41),trivial⟩ (Q:=λr=>r=.bool true\/r=.bool false) ⟨⟨rfl,.inl rfl⟩,⟨rfl,.inr rfl⟩⟩).mono ?_
 rintro v h47 ⟨S47,r,E47,l47,o47,gm,rfl | rfl⟩ <;> (simp only[gam] at gm; subst gm)
 ·exact .inl ⟨rfl,E47.fin (r:=.tup [.sl false false false 294 m,.int .i64 0]) (ze8 (s36.wk (l41.trans l47)) (gi ⟨by decide,by decide⟩)) rfl (H m hm37 0 ⟨by decide,by decide⟩)⟩
 grind
theorem Ev.finB {S S1:TY} {hp g0 h1 h2:AH} {g:Int} (hw:WT cx0 S g hp) (o0:Old hp g0) (E:Ev S g0 g S1 h1) {b:Nat} (hb:hp.next<=b) (hb2:b < g0.next) (nr:zaZ b h1 h2) {Q:TV->Int->Prop} {v:Value} {r:TV} (gm:gam cx0 S1 h2 L0 hp.next r v) (ht:tagsOf r=[]) (hq:Q r g):Fin S g hp true Q v h2:=by
 have l1:=E.o.1
 refine⟨S1,r,g,(Xt.refl hp.next S).trans2 o0.1 E.x,E.w.keep ziL (Q1 nr.1.symm) λc hc k=>nr.2 c λz=>?_,by rw[nr.1]; omega,λc hc _=>by rw[nr.2 c (by omega),E.o.2 c (by omega),o0.2 c hc],gm,ht,hq⟩
 subst z
 rcases k with ⟨q,k⟩ | k
 ·rw[E.x.old _ hb2] at k
  have:=(hw.1 c q.1 q.2.1 q.2.2 k).1
  omega
 ·have:=hw.2.1 _ (E.x.dvo _ hb2 k)
  omega
theorem fl9:ck cx0 9=.str:=by kernel_rfl
theorem zDU:ck cx0 97=.sl 96:=by kernel_rfl
theorem zsT {S:TY} {i0 i3 i4 i5 i6 i7 i8 i9:Int} {s1:ByteArray} {b2:Bool} {p:Option Addr} {n c:Nat} (k0:InR .u64 i0) (k1:s1.size<=za8) (k3:InR .u64 i3) (k4:InR .u64 i4) (k5:InR .u64 i5) (k6:InR .i64 i6) (kp:PtR i7 i8 i9) (kn:n<=big) (ks:SlV cx0 S 0 false false false 96 n (.slice p n c)):
 zau cx0 S (zcO cx0 99) [.int .u64 i0,.string s1,.bool b2,.int .u64 i3,.int .u64 i4,.int .u64 i5,.int .i64 i6,.int .i64 i7,.int .u64 i8,.int .u32 i9,.slice p n c]:=λi t hi=>by
 unfold zcO at hi
 rw[ztm] at hi
 match i,hi with
 | 0,hi=>cases hi; exact⟨_,rfl,zuw k0⟩
 | 1,hi=>exact⟨_,rfl,by grind[okC,fl9]⟩
 | 2,hi=>exact⟨_,rfl,by grind[okC,ck4]⟩
 | 3,hi=>cases hi; exact⟨_,rfl,zuw k3⟩
 | 4,hi=>cases hi; exact⟨_,rfl,zuw k4⟩
 | 5,hi=>cases hi; exact⟨_,rfl,zuw k5⟩
 | 6,hi=>cases hi; exact⟨_,rfl,by unfold okC; exact⟨_,rfl,k6⟩⟩
 | 7,hi=>cases hi; exact⟨_,rfl,by unfold okC; exact⟨_,rfl,kp.a⟩⟩
 | 8,hi=>cases hi; exact⟨_,rfl,zuw kp.b⟩
 | 9,hi=>cases hi; exact⟨_,rfl,by unfold okC; exact⟨_,rfl,kp.c⟩⟩
 | 10,hi=>cases hi; exact⟨_,rfl,by grind[okC,zDU]⟩
 | i+11,hi=>simp_all
theorem zDV (v23:Vl 23 s23) (v187:Vl 187 zAV) (v227:Vl 227 zA6):Vl 188 zA7:=zaY λρ g Q H S hp vs hw hg=>by
 obtain⟨(n:Nat),_⟩:=ρ
 obtain⟨x,rfl,gx⟩:=zgy (a:=.sl false false false 5 n) hg
 simp only[gam] at gx
 obtain⟨p,c,rfl⟩:=ziZ gx
 obtain⟨(hbig:n<=big),H⟩:=H
 have H:∀e:Int,InR .i64 e->Q (.tup [.aggT 99,.int .i64 e]) g:=H
 refine zjt (xb rfl) _ _ _ hp _ λg0 e0=>?_
 have o0:=zab e0
 have n0:=zad e0
 have w0:=zae e0
 have E0:Ev S g0 g S g0:=Ev.start (hw.old o0)
 have wb:∀{h:AH},Old g0 h->∃cs:List Value,cs.length=11/\h.get hp.next=some (.cells cs 99 false):=λo=>⟨_,rfl,(o.2 _ (by omega)).trans w0⟩
 have ret:∀{S1:TY} {h1:AH} {l:List Value} {e:Int},Ev S g0 g S1 h1->l.length=11->zau cx0 S1 (zcO cx0 99) l->InR .i64 e->∃h12:AH,stN h1 hp.next 0 l=some h12/\ldN h12 hp.next 0 11=some l/\Fin S g hp true Q (.tuple #[.agg l.toArray,.int .i64 e]) h12:=λ{S1 h1 l e} E hl ht he=>by
  obtain⟨cs,hc,w⟩:=wb E.o
  refine⟨_,zaR w (by omega),by grind[zaw,zaf],Ev.finB hw o0 E (Qc _) (by omega) (zam _ _ _) (r:=.tup [.aggT 99,.int .i64 e]) (ze8 ?_ (gi he)) rfl (H e he)⟩
  grind[gam,zlc]
 have bad:∀{S1:TY} {h1:AH},Ev S g0 g S1 h1->(List.length zvm=11)/\∃h12:AH,stN h1 hp.next 0 zvm=some h12/\∃(i0:Int) (s1:ByteArray) (b2:Bool) (i3 i4 i5 i6 i7 i8 i9:Int) (q:Option Addr) (m d:Nat),ldN h12 hp.next 0 11=some [.int .u64 i0,.string s1,.bool b2,.int .u64 i3,.int .u64 i4,.int .u64 i5,.int .i64 i6,.int .i64 i7,.int .u64 i8,.int .u32 i9,.slice q m d]/\Fin S g hp true Q (.tuple #[.agg #[.int .u64 i0,.string s1,.bool b2,.int .u64 i3,.int .u64 i4,.int .u64 i5,.int .i64 i6,.int .i64 i7,.int .u64 i8,.int .u32 i9,.slice q m d],.int .i64 151]) h12:=λ{S1 h1} E=>by
  obtain⟨h12,k1,k2,k3⟩:=ret E (l:=zvm) (e:=151) rfl zjY ⟨by decide,by decide⟩
  exact⟨rfl,h12,k1,_,_,_,_,_,_,_,_,_,_,_,_,_,k2,k3⟩
 refine (E0.call v23 rfl (ρ:=(n,())) (vs:=[_]) ⟨gx.wk (Le2.refl _),trivial⟩ (Q:=λr=>(∃e:Int,¬e=0/\r=.tup [.sl false false false 34 0,.int .i64 e])\/∃m:Nat,m<=65535/\r=.tup [.sl false false false 4000034 m,.int .i64 0]) ⟨hbig,λe _ he=>⟨rfl,.inl ⟨e,he,rfl⟩⟩,λm hm=>⟨rfl,.inr ⟨m,hm,rfl⟩⟩⟩).mono ?_
 rintro v h2 ⟨S2,r,E2,l2,o2,gm,⟨e,he,rfl⟩ | ⟨m,hm,rfl⟩⟩
 ·obtain⟨q,d,rfl,s2⟩:=zeR gm
  exact⟨_,_,_,_,rfl,by omega,λ_=>bad E2⟩
 obtain⟨p3,c5,rfl,s3⟩:=zeR gm
 obtain⟨_,_,f,e3,at3⟩:=zBt E2.w s3 flS ckS
 cases e3
 refine⟨_,_,_,_,rfl,λ_=>⟨λz3=>?_,λ_=>bad E2⟩,by omega⟩
 obtain rfl:m=3:=by omega
 obtain⟨f0,b7,o8,rfl,p9,c11,l9,s9⟩:=at3 (j:=0) (by omega) (Old.refl _)
 refine zaa ⟨by omega,by omega,p9,f 0,c11,l9,λ_=>bad E2,λz34 h26 e26=>?_⟩
 obtain⟨S26,E26,l26,o26,g26⟩:=E2.xs (l:=[8,1,8,8,8,1]) e26 (λx hx=>by grind) (by simp)
 obtain⟨-,b,off,e,p29,c31,l29,s29⟩:=at3 (j:=0) (by omega) o26
 cases e
 obtain⟨p32,c34,k32,s32⟩:=zc1 E26.w (s29.mono l26) zqe zxh (lo:=none) (hi':=some (.int .i64 34)) (l:=0) (u:=34) (.inl ⟨rfl,rfl⟩) (.inr ⟨_,rfl⟩) (by omega) (by omega) (by omega)
 refine zaa ⟨by omega,by omega,p29,f 0,c31,l29,_,_,_,k32,(E26.call v24 rfl (ρ:=([8,1,8,8,8,1],(34:Nat),())) (vs:=[_,_]) ⟨g26 _,s32.wk (Le2.refl _),trivial⟩ (Q:=λr=>∃(m:Nat) (e:Int),r=.tup [.sl true true false 62 m,.int .i64 e]/\(e=0->m=6)) ⟨?_,λm _ e he hm=>⟨rfl,m,e,rfl,hm⟩⟩).mono ?_⟩
 ·exact⟨by omega,by omega,by omega,by omega,by omega,by omega,trivial⟩
 rintro v h36 ⟨S36,r,E36,l36,o36,gm,n38,i40,rfl,hn⟩
 obtain⟨p37,c39,rfl,s37⟩:=zeR gm
 refine⟨_,_,_,_,rfl,λz40=>?_,λ_=>bad E36⟩
 obtain rfl:=hn z40
 have o236:=o26.trans o36
 obtain⟨-,b,off,e,p43,c45,l43,s43⟩:=at3 (j:=0) (by omega) o236
 cases e
 obtain⟨p46,c48,k46,s46⟩:=zc1 E36.w (s43.mono (l26.trans l36)) zqe zxh (lo:=some (.int .i64 34)) (hi':=none) (l:=34) (u:=(f 0:Nat)) (.inr ⟨_,rfl⟩) (.inl ⟨rfl,rfl⟩) (by omega) (by omega) (by omega)
 have hf0:f 0<=262144:=f0
 refine zaa ⟨by omega,by omega,p43,f 0,c45,l43,_,_,_,k46,(E36.call v187 rfl (ρ:=((((f 0:Nat):Int) - 34).toNat,())) (vs:=[_]) ⟨s46.wk (Le2.refl _),trivial⟩ (Q:=λr=>∃e:Int,r=.tup [.aggT 96,.int .i64 e]/\InR .i64 e) ⟨(show (((f 0:Nat):Int) - 34).toNat<=big by grind[big]),λe he=>⟨rfl,e,rfl,he⟩⟩).mono ?_⟩
 rintro v h50 ⟨S50,r,E50,l50,o50,gm,i54,rfl,he54⟩
 obtain⟨_,_,rfl,gm1,gm2⟩:=zxj gm
 obtain⟨rfl, -⟩:=gm2
 obtain⟨i51,i52,i53,rfl,rp⟩:=zsQ gm1
 refine⟨i51,i52,i53,_,rfl,λh55 e55=>⟨rfl,?_⟩⟩
 have o55:=zab e55
 have n55:=zad e55
 have k56:=zam h50.next h55 (.cells [.int .i64 i51,.int .u64 i52,.int .u32 i53] 96 false)
 refine⟨_,zaR (zae e55) rfl,?_⟩
 have w56:(h55.set h50.next (.cells [.int .i64 i51,.int .u64 i52,.int .u32 i53] 96 false)).get h50.next=some (.cells [.int .i64 i51,.int .u64 i52,.int .u32 i53] 96 false):=zaf _ _ _
 generalize h55.set h50.next (.cells [.int .i64 i51,.int .u64 i52,.int .u32 i53] 96 false)=h56 at k56 w56 ⊢
 have o56:Old h50 h56:=⟨by rw[k56.1]; omega,λc hc=>by rw[k56.2 c (by omega),o55.2 c hc]⟩
 have E56:=E50.old o56
 refine⟨λz54=>?_,λ_=>bad E56⟩
 have o256:=(o236.trans o50).trans o56
 obtain⟨f2,b,off,e,p59,c61,l59,s59⟩:=at3 (j:=2) (by omega) o256
 cases e
 refine zaa ⟨by omega,by omega,p59,f 2,c61,l59,(E56.call v227 rfl (ρ:=(f 2,())) (vs:=[_]) ⟨s59.wk ((l26.trans l36).trans l50),trivial⟩ (Q:=λr=>∃(m:Nat) (e:Int),r=.tup [.sl false false false 96 m,.int .i64 e]/\m<=big) ⟨(show f 2<=big by have f2:f 2<=262144:=f2; grind[big]),λm hm e he=>⟨rfl,m,e,rfl,hm⟩⟩).mono ?_⟩
 rintro v h63 ⟨S63,r,E63,l63,o63,gm,n65,i67,rfl,hn65⟩
 obtain⟨p64,c66,rfl,s64⟩:=zeR gm
 refine⟨_,_,_,_,rfl,λz67=>?_,λ_=>bad E63⟩
 have o3663:=(o50.trans o56).trans o63
 obtain⟨_,_,ns,e, -,sh,hl,hb⟩:=zef E36.w s37 zxg zsw
 cases e
 have num:∀{j:Nat},j < 6->∃b off,p37=some ⟨b,off,none⟩/\∃i:Int,InR .u64 i/\ld1 h63 b (off+j)=some (.int .u64 i):=λ{j} hj=>by
  obtain⟨b,off,e,k⟩:=(sh.old o3663).get hj
  rw[zbu (by omega)] at k
  have:=hb _ (Qj (by omega:j < ns.length))
  exact⟨b,off,e,_,⟨by grind[kLo],by grind[kHi]⟩,k⟩
 obtain⟨b68,o69,rfl,i70,r70,l70⟩:=num (j:=0) (by omega)
 obtain⟨_,_,e,i79,r79,l79⟩:=num (j:=1) (by omega)
 cases e
 obtain⟨_,_,e,i82,r82,l82⟩:=num (j:=2) (by omega)
 cases e
 obtain⟨_,_,e,i85,r85,l85⟩:=num (j:=3) (by omega)
 cases e
 obtain⟨_,_,e,i88,r88,l88⟩:=num (j:=4) (by omega)
 cases e
 obtain⟨_,_,e,i91,r91,l91⟩:=num (j:=5) (by omega)
 cases e
 obtain⟨f1,b,off,e,p73,c75,l73,s73⟩:=at3 (j:=1) (by omega) (o256.trans o63)
 cases e
 obtain⟨_,_,data,e,hp73,sh73,hd, -⟩:=zef E63.w (s73.mono (((l26.trans l36).trans l50).trans l63)) fl5 zx8
 cases e
 have k76:=zsx (c:=c75) sh73 (hp73.elim .inl λ⟨b,off,_,_,_,h,_⟩=>.inr ⟨b,off,h⟩)
 have h76:(⟨(data.map UInt8.ofNat).toArray⟩:ByteArray).size<=za8:=by
  show (data.map UInt8.ofNat).toArray.size<=za8
  grind
 have w63:ldN h63 h50.next 0 3=some [.int .i64 i51,.int .u64 i52,.int .u32 i53]:=zaw ((o63.2 _ (by rw[k56.1]; omega)).trans w56) rfl
 have goal:∀(z:Bool) (i92:Int),i92=IntKind.wrap .i64 i91->∃h96:AH,stN h63 hp.next 0 [.int .u64 i70,.string ⟨(data.map UInt8.ofNat).toArray⟩,.bool z,.int .u64 i82,.int .u64 i85,.int .u64 i88,.int .i64 i92,.int .i64 i51,.int .u64 i52,.int .u32 i53,.slice p64 n65 c66]=some h96/\∃(i0:Int) (s1:ByteArray) (b2:Bool) (i3 i4 i5 i6 i7 i8 i9:Int) (q:Option Addr) (m d:Nat),ldN h96 hp.next 0 11=some [.int .u64 i0,.string s1,.bool b2,.int .u64 i3,.int .u64 i4,.int .u64 i5,.int .i64 i6,.int .i64 i7,.int .u64 i8,.int .u32 i9,.slice q m d]/\Fin S g hp true Q (.tuple #[.agg #[.int .u64 i0,.string s1,.bool b2,.int .u64 i3,.int .u64 i4,.int .u64 i5,.int .i64 i6,.int .i64 i7,.int .u64 i8,.int .u32 i9,.slice q m d],.int .i64 0]) h96:=λz i92 e92=>by
  have r92:InR .i64 i92:=by grind[zaQ]
  obtain⟨h96,k1,k2,k3⟩:=ret E63 (e:=0) rfl (zsT (b2:=z) r70 h76 r82 r85 r88 r92 rp hn65 (s64.weak (λz=>by omega) (λz=>by grind) (λz=>by omega))) ⟨by decide,by decide⟩
  grind
 refine zaa ⟨by omega,by omega,i70,l70,zaa ⟨by omega,by omega,p73,f 1,c75,l73,_,k76,zaa ⟨by omega,by omega,i79,l79,λ_=>?_,λ_=>?_⟩⟩⟩
 all_goals refine zaa ⟨by omega,by omega,i82,l82,zaa ⟨by omega,by omega,i85,l85,zaa ⟨by omega,by omega,i88,l88,zaa ⟨by omega,by omega,i91,l91,λi92 e92=>⟨_,_,_,w63,?_⟩⟩⟩⟩⟩
 ·exact⟨rfl,goal true i92 e92⟩
 ·exact⟨rfl,goal false i92 e92⟩
def zqk (k:Value):Prop:=∃(x:Int) (s:ByteArray),InR .u64 x/\s.size<=za8/\k=.agg #[.int .u64 x,.string s]
theorem zk5 {k:Value} (h:zqk k):∃la,zdL Tryz.prog 265 k=some la:=by
 obtain⟨x,s,hx,hs,rfl⟩:=h
 rw[zkA (by simp[Value.formed]),zdV Tryz.underlying265 (d:=39) rfl]
 have k3:=zde (P:=Tryz.prog) Tryz.underlying62 (m:=39) (d:=38) rfl x
 have k4:=zdW (P:=Tryz.prog) Tryz.underlying9 (m:=39) (d:=38) rfl s
 rw[if_pos (zyh hx)] at k3
 rw[if_pos (show s.size<=maxLen from Qm hs (by decide))] at k4
 simp_all
def zwX (h:AH) (m:Nat):Prop:=∃es clock,h.get m=some (.map es clock)/\∀e∈es,zqk e.key/\∃v:Int,e.val=.int .i64 v
theorem findI {la:List Lit}:∀{es:List MapEntry} {i:Nat},(∀e∈es,zqk e.key/\∃v:Int,e.val=.int .i64 v)->zfa Tryz.prog 265 la es i=some none\/∃(j:Nat) (v:Int),zfa Tryz.prog 265 la es i=some (some (j,.int .i64 v))
 | [],i,_=>.inl rfl
 | e :: es,i,h=>by
   obtain⟨k1,v,k2⟩:=h e QO
   obtain⟨lb,k3⟩:=zk5 k1
   unfold zfa
   rw[k3]
   simp only
   cases litsEq la lb
   ·exact findI λe he=>h e (QB _ he)
   grind
theorem zyp:zvE Tryz.prog 265=true:=by kernel_rfl
theorem zAf:zeS Tryz.prog 3=some (.int .i64 0):=by rfl
theorem zwX.look {h:AH} {m:Nat} (M:zwX h m) {k:Value} (hk:zqk k):∃(i:Int) (b:Bool),zcr Tryz.prog h 263 (.map (some m)) k true=some (.tuple #[.int .i64 i,.bool b]):=by
 obtain⟨es,clock,hg,hE⟩:=M
 obtain⟨la,hl⟩:=zk5 hk
 unfold zcr
 rw[Tryz.underlying263]
 simp only[zyp,hl,zAf,hg]
 rcases findI (la:=la) (i:=0) hE with q | ⟨j,v,q⟩
 all_goals simp_all
theorem zwX.put {h:AH} {m:Nat} (M:zwX h m) {k:Value} (hk:zqk k) (i:Int):∃h',zba Tryz.prog h 263 (.map (some m)) k (.int .i64 i)=some h'/\zaZ m h h'/\zwX h' m:=by
 obtain⟨es,clock,hg,hE⟩:=M
 obtain⟨la,hl⟩:=zk5 hk
 unfold zba
 rw[Tryz.underlying263]
 simp only[zyp,hl,hg]
 rcases findI (la:=la) (i:=0) hE with q | ⟨j,v,q⟩
 ·rw[q]
  refine⟨_,rfl,zam _ _ _,_,_,zaf _ _ _,λe he=>?_⟩
  grind
 ·rw[q]
  refine⟨_,rfl,zam _ _ _,_,_,zaf _ _ _,λe he=>?_⟩
  grind[Jg]
theorem zyq:cx0.fl 265=[62,9]:=by kernel_rfl
theorem zyr {S:TY} {g:Int} {hp:AH} (w:WT cx0 S g hp) {base n:Nat} {wr fr kc:Bool} {v:Value} (s:SlV cx0 S base wr fr kc 99 n v):
 ∃p c,v=.slice p n c/\∀j,j < n->∃b off,p=some ⟨b,off,none⟩/\(∀h base',gam cx0 S h L0 base' (.cp false false 99) (.pointer (some ⟨b,off+j * 11,none⟩)))/\
  ∃(i0:Int) (s1:ByteArray) (b2:Bool) (i3 i4 i5 i6 i7 i8 i9:Int) (q:Option Addr) (m d:Nat),zau cx0 S (zcO cx0 99) [.int .u64 i0,.string s1,.bool b2,.int .u64 i3,.int .u64 i4,.int .u64 i5,.int .i64 i6,.int .i64 i7,.int .u64 i8,.int .u32 i9,.slice q m d]/\
   (∀h',Old hp h'->ldN h' b (off+j * 11) 11=some [.int .u64 i0,.string s1,.bool b2,.int .u64 i3,.int .u64 i4,.int .u64 i5,.int .i64 i6,.int .i64 i7,.int .u64 i8,.int .u32 i9,.slice q m d])/\∀h',Old hp h'->ld1 h' b (off+j * 11)=some (.int .u64 i0):=by
 have s0:=s
 obtain⟨p,c,cs,rfl,hp',hs,hc⟩:=zjw w s (by grind[zlc])
 rw[zlc] at hs hc
 have hl:=hs.1
 refine⟨p,c,rfl,λj hj=>?_⟩
 have T:∀(i t:Nat),(cx0.fl 99)[i]?= some t->∃x,((cs.drop (j * 11)).take 11)[i]?= some x/\okC cx0 S t x:=λi t hi=>by
  have h3:i < 11:=by have:=(Qo.1 hi).1; rw[ztm] at this; omega
  grind
 obtain⟨i0,s1,b2,i3,i4,i5,i6,i7,i8,i9,q,m,d,e⟩:=ziY (S:=S) (l:=(cs.drop (j * 11)).take 11) (by grind) T
 obtain⟨b,off,rfl, -, -⟩:=hs.getN hj
 have ld:∀h',Old hp h'->ldN h' b (off+j * 11) 11=some ((cs.drop (j * 11)).take 11)/\ld1 h' b (off+j * 11)=((cs.drop (j * 11)).take 11)[0]?:=λh' o=>by
  obtain⟨b',off',q,e2,e3⟩:=(hs.old o).getN hj
  cases q
  exact⟨e2,by have:=e3 0 (by omega); grind⟩
 refine⟨b,off,rfl,λh base'=>?_,i0,s1,b2,i3,i4,i5,i6,i7,i8,i9,q,m,d,?_,by grind,by grind⟩
 ·obtain⟨-,_,_,e,z | ⟨b,off,ro,ee,cc,e2,k1,k2,k3,k4,k5⟩⟩:=s0
  ·omega
  ·cases e
   cases e2
   exact⟨b,_,ro,ee,cc,rfl,k1,by grind[zlc],(λz=>by grind),λz=>by grind⟩
 ·rw[<-e]
  exact λi t hi=>T i t hi
theorem zDW (v189:Vl 189 zAQ) (v190:Vl 190 zA8) (v191:Vl 191 zA9) (zAa:Vl 192 zzZ):Vl 123 zBa:=zaY λρ g Q H S hp vs hw hg=>by
 obtain⟨(nx:Int),(n:Nat),_⟩:=ρ
 obtain⟨x,y,rfl,gx,gy⟩:=zec (a:=.int .u64 nx) (b:=.sl false false false 99 n) hg
 obtain⟨rfl, -⟩:=gx
 obtain⟨p,c,rfl,rows⟩:=zyr hw gy
 obtain⟨(hbig:n<=big),H⟩:=H
 have H:Q (.bool true) g/\Q (.bool false) g:=H
 have bl:∀{h' : AH} (b:Bool),Old hp h'->Fin S g hp true Q (.bool b) h':=λb o=>za5 hw o (zit _) rfl (by cases b; all_goals grind)
 have two:∀{P:TV->Prop},(P=λr=>r=.bool true\/r=.bool false)->P (.bool true)/\P (.bool false):=λe=>by grind
 refine ziX (xb rfl) _ _ _ _ hp _ ⟨λ_=>bl _ (Old.refl _),λ_=>⟨λ_=>bl _ (Old.refl _),λhn32 g0 e0=>?_⟩⟩
 have o0:=zab e0
 have n0:=zad e0
 refine⟨λi5 i6 k g=>∃u:Nat,i6=u/\u<=n/\n - u=k/\Old hp g/\hp.next < g.next/\zwX g hp.next,⟨_,0,rfl,Qg _,rfl,o0,by omega,_,_,zae e0,by simp⟩,?_⟩
 rintro k h3 i5 _ ⟨u,rfl,hu,rfl,o3,l3,M3⟩
 refine⟨λz=>?_,λz=>⟨λi k g=>∃u:Nat,i=u/\u<=n/\n - u=k/\Old hp g,⟨_,0,rfl,Qg _,rfl,o3⟩,?_⟩⟩
 ·obtain⟨b7,o8,rfl,cp,i0,s1,b2,i3,i4,j5,i6,i7,i8,i9,q,m,d,T,lN,l1⟩:=rows u (by omega)
  refine zaa ⟨by omega,z,i0,s1,b2,i3,i4,j5,i6,i7,i8,i9,q,m,d,by grind,(zc2 v189 rfl (ρ:=((),())) hw o3 (vs:=[_]) ⟨?_,trivial⟩ (Q':=λr=>r=.bool true\/r=.bool false) (two rfl)).mono ?_⟩
  ·exact⟨_,rfl,by rfl,T⟩
  rintro v h23 ⟨o23,S',r,gm,rfl | rfl⟩ <;> (simp only[gam] at gm; subst gm)
  rotate_left
  ·exact .inr ⟨rfl,bl _ (o3.trans o23)⟩
  have o323:=o3.trans o23
  refine .inl ⟨rfl,i0,by grind,λ_=>bl _ o323,λ_=>⟨i0,by grind,λ_=>bl _ o323,λ_=>⟨i0,by grind,(zc2 v190 rfl (ρ:=((),())) hw o323 (vs:=[_]) ⟨by exact cp _ _,trivial⟩ (Q':=λr=>r=.aggT 265) rfl).mono ?_⟩⟩⟩
  rintro v h28 ⟨o28,S28,r,gm,rfl⟩
  obtain⟨l,rfl,hl,ht⟩:=gm
  match l,hl with
  | [a,b],_=>
    obtain⟨_,e,ka⟩:=ht 0 62 (by grind[zcO,zyq])
    cases e
    obtain⟨_,e,kb⟩:=ht 1 9 (by grind[zcO,zyq])
    cases e
    unfold okC at ka kb
    obtain⟨i29,rfl,ha1,ha2⟩:=ka
    obtain⟨s30,rfl,hs30⟩:=kb
    have hk:zqk (.agg #[.int .u64 i29,.string s30]):=⟨i29,s30,⟨ha1,ha2⟩,hs30,rfl⟩
    refine⟨_,_,rfl,λh31 e31=>⟨rfl,?_⟩⟩
    have o31:=zab e31
    have n31:=zad e31
    have k32:=zam h28.next h31 (.cells [.int .u64 i29,.string s30] 265 false)
    refine⟨_,zaR (zae e31) rfl,?_⟩
    have w32:(h31.set h28.next (.cells [.int .u64 i29,.string s30] 265 false)).get h28.next=some (.cells [.int .u64 i29,.string s30] 265 false):=zaf _ _ _
    generalize h31.set h28.next (.cells [.int .u64 i29,.string s30] 265 false)=h32 at k32 w32 ⊢
    have o32:Old h28 h32:=⟨by rw[k32.1]; omega,λc hc=>by rw[k32.2 c (by omega),o31.2 c hc]⟩
    have o332:=(o23.trans o28).trans o32
    have M32:zwX h32 hp.next:=by
     obtain⟨es,clock,hg,hE⟩:=M3
     exact⟨es,clock,(o332.2 _ l3).trans hg,hE⟩
    obtain⟨i35,b36,k35⟩:=M32.look hk
    refine⟨_,_,zaw w32 rfl,i35,b36,k35,?_⟩
    cases b36
    rotate_left
    ·exact bl _ (o3.trans o332)
    obtain⟨h39,k39,nr,M39⟩:=M32.put hk (u:Nat)
    refine⟨_,_,zaw w32 rfl,h39,k39,λi40 e40=>?_⟩
    have e40:=zaT e40 (by omega) (by omega)
    have l332:=o332.1
    exact⟨_,by omega,u+1,by omega,by omega,rfl,⟨by rw[nr.1]; omega,λc hc=>by rw[nr.2 c (by omega),(o3.trans o332).2 c hc]⟩,by rw[nr.1]; omega,M39⟩
 ·rintro k h43 _ ⟨w,rfl,hw',rfl,o43⟩
  refine⟨λz2=>?_,λ_=>bl _ o43⟩
  obtain⟨b46,o47,rfl,cp, -⟩:=rows w (by omega)
  refine zaa ⟨by omega,z2,(zc2 v191 rfl (ρ:=(n,(),())) hw o43 (vs:=[_,_]) ⟨gy.wk (Le2.refl _),by exact cp _ _,trivial⟩ (Q':=λr=>r=.bool true\/r=.bool false) ⟨hbig,two rfl⟩).mono ?_⟩
  rintro v h49 ⟨o49,S',r,gm,rfl | rfl⟩ <;> (simp only[gam] at gm; subst gm)
  rotate_left
  ·exact .inr ⟨rfl,bl _ (o43.trans o49)⟩
  have o449:=o43.trans o49
  refine .inl ⟨rfl,zaa ⟨by omega,z2,(zc2 zAa rfl (ρ:=(n,(),())) hw o449 (vs:=[_,_]) ⟨gy.wk (Le2.refl _),by exact cp _ _,trivial⟩ (Q':=λr=>r=.bool true\/r=.bool false) ⟨hbig,two rfl⟩).mono ?_⟩⟩
  rintro v h53 ⟨o53,S',r,gm,rfl | rfl⟩ <;> (simp only[gam] at gm; subst gm)
  ·refine .inl ⟨rfl,λi54 e54=>?_⟩
   have e54:=zaT e54 (by omega) (by omega)
   exact⟨_,by omega,w+1,by omega,by omega,rfl,o449.trans o53⟩
  ·exact .inr ⟨rfl,bl _ (o449.trans o53)⟩
end Go.Am
