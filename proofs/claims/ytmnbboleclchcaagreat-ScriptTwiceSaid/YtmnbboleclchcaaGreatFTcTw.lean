/-
  Texts of this proof, part 52. No condition.
-/
import Derived.Test.YtmnbboleclchcaaGreatFCScrR5
import Derived.OpenShut
import Derived.SizedLaws
import Derived.WalkKit
import Derived.ProofKit
import Derived.Test.YtmnbboleclchcaaGreatRows
set_option linter.unusedVariables false
set_option linter.unusedSimpArgs false
set_option maxRecDepth 100000
namespace Go.Am
open Go.Proofs
theorem Wf.l {f:FuncId} {args:List Value} {h:AH} {Q:Value->AH->Prop} (w:Wf Tryz.prog KB f args h Q) (hk:KB f=none) (z:LtH h):Wf Tryz.prog KB f args h λv h'=>Q v h'/\LtH h':=(w.rt hk).mono λv h' q=>⟨q.1,q.2.lt z⟩
theorem zw7:zw5 KB:=⟨⟨xb rfl,xb rfl,xb rfl,xb rfl,xb rfl,xb rfl,xb rfl,xb rfl⟩,xb rfl,xb rfl,xb rfl,xb rfl,xb rfl,xb rfl⟩
def zBT (s:zil) (n:Nat) (h:AH) (v:Value) (h' : AH):Prop:=
 ∃(pr:Option Addr) (cr:Nat) (pl:Option Addr) (nl cl:Nat) (x:Int) (dd:Bool) (rows:List (List Value)) (cs:List Value) (lim:Nat) (p:Option Addr) (c:Nat) (xs:List OX) (g:AH),
  v=.tuple #[.agg #[.slice pr n cr,.slice pl nl cl,.int .i64 x,.bool dd],.int .i64 0]/\Old h h'/\zaz h' pr n 129 rows.flatten/\(∀r∈rows,zgF r)/\zaz h' pl nl 4 cs/\(∀a,pr=some a\/pl=some a->h.next<=a.block)/\zi4 nl cs/\
  zfU lim g p c xs/\xs.map OX.o=s.ops/\xs.length=n/\LtH g/\zzl s.secs (bOf p) xs.length g rows λo hE pE=>zyO o hE pE pl nl cl x dd cs
theorem zBU {s:zil} {h0 h:AH} {p:Option Addr} {c:Nat} {xs:List OX} (R:zfU h0.next h p c xs) (o:Old h0 h) (hs:xs.map OX.o=s.ops) (ok:zdZ s) (l:LtH h):
 Wf Tryz.prog KB 6 [.agg #[.int .i64 s.secs,.slice p xs.length c]] h λv h'=>zBT s xs.length h0 v h':=by
 refine (zFR R hs ok).mono ?_
 rintro v h' ⟨pr,cr,pl,nl,cl,x,dd,rows,cs,rfl,k1,k2,k3,k4,k5,k6,kp,k7,k8⟩
 have on:=o.1
 exact⟨pr,cr,pl,nl,cl,x,dd,rows,cs,_,p,c,xs,h,rfl,⟨Qm o.1 k1,λa ha=>by rw[k2 a (Qi ha o.1) λhb=>by have:=(R.bd hb).1; omega,o.2 a ha]⟩,k3,k5,k6,λa ha=>ha.elim (λz=>by have:=k4 a z; omega) λz=>(kp a z).elim (λy=>by omega) λy=>(R.bd y).1,k7,R,hs,rfl,l,k8⟩
theorem zyV {s:zil} {p:Option Addr} {n c:Nat} {h:AH} (T:Ops h p n s.ops) (ok:¬zdZ s):
 Wf Tryz.prog KB 6 [.agg #[.int .i64 s.secs,.slice p n c]] h λv h'=>v=.tuple #[.agg #[.slice none 0 0,.slice none 0 0,.int .i64 0,.bool false],.int .i64 231]/\Old h h':=by
 refine zfO (xb rfl) _ _ _ _ h _ λg0 e0 g1 e1=>?_
 have o0:=zab e0
 have o1:=zab e1
 have n0:=zad e0
 have n1:=zad e1
 have c0:∀{g:AH},Old g1 g->g.get h.next=_:=λo=>((o1.trans o).2 _ (by omega)).trans (zae e0)
 have c1:∀{g:AH},Old g1 g->g.get g0.next=_:=λo=>(o.2 _ (by omega)).trans (zae e1)
 refine⟨_,_,_,_,zaw (c0 (Old.refl _)) rfl,?_⟩
 refine (zk8 (xb rfl) (xb rfl) (xb rfl) (T.old (o0.trans o1))).mono ?_
 rintro _ g7 ⟨⟨rfl,k⟩ | ⟨rfl, -⟩,o7⟩
 ·exact absurd k ok
 ·refine .inr ⟨rfl,rfl,_,zaR (c1 o7) rfl,_,_,_,_,_,_,_,_,zaw (zaf _ _ _) rfl,rfl,?_⟩
  exact⟨((o0.trans o1).trans o7).1,λb hb=>by rw[zal (by omega)]; exact ((o0.trans o1).trans o7).2 b hb⟩
theorem zAz {s:zil} {h:AH} {p:Option Addr} {c:Nat} {data:Bs} (T:zdN h p data.length data) (C:zie Tryz.prog h 5 p data.length c) (hb:∀a,p=some a->a.block < h.next) (is:znz data s) (l:LtH h):
 Wf Tryz.prog KB 9 [.slice p data.length c] h λv h'=>zBT s s.ops.length h v h':=by
 refine zjx (xb rfl) _ _ _ h _ λg0 e0=>?_
 have o0:=zab e0
 have n0:=zad e0
 refine ((zuO zw7 (T.old o0) (C.old o0 hb) λa ha=>by have:=hb a ha; omega).l (xb rfl) (zdF e0 l)).mono ?_
 rintro _ g2 ⟨⟨⟨s',q,c',xs,is',rfl,R,hxs⟩ | ⟨no, -⟩,o2⟩,l2⟩
 rotate_left
 ·exact absurd is (no s)
 obtain rfl:s'= s:=by
  have h1:=zny is.1
  have h2:=zny is'.1
  rw[is.2] at h1
  rw[is'.2,h1] at h2
  exact (Q7 h2).symm
 refine⟨_,_,_,_,_,rfl,λg8 e8=>?_⟩
 obtain⟨g9,k9,n9,o9,v9⟩:=zbP e8 (vs:=[.int .i64 s'.secs,.slice q xs.length c']) rfl
 have w9:=v9 [] (λc hc=>by grind)
 have l9:LtH g9:=by
  have e:=zaR (zae e8) (vs:=[.int .i64 s'.secs,.slice q xs.length c']) rfl
  rw[k9] at e
  cases e
  exact zs1 (zae e8) (zdF e8 l2)
 refine⟨rfl,g9,k9,λ_=>⟨_,_,_,_,zaw w9.1 rfl,?_⟩,λz=>absurd rfl z⟩
 have o09:=o2.trans o9
 refine (zBU (R.kept (Qc _) o9.1 λd _ hd=>o9.2 d hd) o09 hxs is'.1 l9).mono ?_
 rintro _ g15 ⟨pr,cr,pl,nl,cl,x,dd,rows,cs,lim,p',c'',ys,g,rfl,o15,k3,k5,k6,kp,k7,R',hs',hn,l',k8⟩
 have w0:g15.get h.next=_:=(o15.2 _ (by omega)).trans (zae e0)
 have oh:=o0.trans o15
 refine⟨_,_,_,_,_,_,_,_,_,rfl,rfl,_,zaR w0 rfl,_,_,_,_,_,_,_,_,zaw (zaf _ _ _) rfl,?_⟩
 have ln:xs.length=s'.ops.length:=by rw[<-hxs,QN]
 rw[ln] at k3 hn ⊢
 have nx:∀a,pr=some a\/pl=some a->a.block≠h.next:=λa ha=>by have:=kp a ha; omega
 exact⟨_,_,_,_,_,_,_,_,_,_,_,_,_,_,rfl,⟨oh.1,λb hb=>by rw[zal (by omega)]; exact oh.2 b hb⟩,k3.kept (Qc _) λa ha=>zal (nx a (.inl ha)),k5,k6.kept (Qc _) λa ha=>zal (nx a (.inr ha)),λa ha=>by have:=kp a ha; omega,k7,R',hs',hn,l',k8⟩
theorem zi9 (G:zdM Tryz.prog) (X:zbK Tryz.prog KB) {h:AH} {s:zil} {p:Option Addr} {n c:Nat} (T:Ops h p n s.ops) (hl:LtH h):
 Wf Tryz.prog KB 3 [.agg #[.int .i64 s.secs,.slice p n c]] h λv _=>v=.bool true:=by
 have hn:=T.2.1
 refine zcJ (xb rfl) _ _ _ _ h _ λg0 e0=>?_
 have o0:=zab e0
 have n0:=zad e0
 have l0:=zdF e0 hl
 have c0:∀{g:AH},Old g0 g->g.get h.next=_:=λo=>(o.2 _ (by omega)).trans (zae e0)
 refine zrx (f:=5) rfl (v:=.bool true) (h':=g0) rfl (Qc _) (.inl ⟨rfl,_,_,_,zah (c0 (Old.refl _)) rfl,λ_=>rfl,λz1=>⟨_,zah (c0 (Old.refl _)) rfl,λ_=>rfl,λz2=>⟨_,_,_,_,zaw (c0 (Old.refl _)) rfl,?_⟩⟩⟩)
 have hn50:n<=50:=by omega
 have hre:reachBytes=140737488351232:=rfl
 refine ((zw2 (xb rfl) (c:=c) (T.old o0)).l (xb rfl) l0).mono ?_
 rintro _ g12 ⟨⟨⟨pA,cA,xA,rfl,RA,hxA⟩,o12⟩,l12⟩
 refine⟨_,_,_,_,rfl,?_⟩
 have lA:xA.length=n:=by grind
 subst lA
 by_cases ok:zdZ s
 ·refine ((zBU RA o12 hxA ok l12).l (xb rfl) l12).mono ?_
  rintro _ g18 ⟨⟨pr,cr,pl,nl,cl,x,dd,rows,cs,lim,q,cq,xs,gA,rfl,o18,k3,k5,k6,kp,k7,R1,hs1,hn1,l1,k8⟩,l18⟩
  refine⟨_,_,_,_,_,_,_,_,_,rfl,λg28 e28=>?_⟩
  obtain⟨g29,k29,n29,o29,v29⟩:=zbP e28 (vs:=[.slice pr xA.length cr,.slice pl nl cl,.int .i64 x,.bool dd]) rfl
  have w29:=v29 [] (λc hc=>by grind)
  have l29:LtH g29:=by
   have e:=zaR (zae e28) (vs:=[.slice pr xA.length cr,.slice pl nl cl,.int .i64 x,.bool dd]) rfl
   rw[k29] at e
   cases e
   exact zs1 (zae e28) (zdF e28 l18)
  have o029:=o18.trans o29
  refine⟨rfl,g29,k29,_,_,_,_,zaw (c0 o029) rfl,((zw2 (xb rfl) (c:=c) (T.old (o0.trans o029))).l (xb rfl) l29).mono ?_⟩
  rintro _ g35 ⟨⟨⟨pC,cC,xC,rfl,RC,hxC⟩,o35⟩,l35⟩
  have lC:xC.length=xA.length:=by grind
  have TC:=RC.ops (by omega)
  rw[hxC,lC] at TC
  refine⟨_,_,_,_,rfl,((zi5 zw7.scr (s:=s) (c:=cC) TC).l (xb rfl) l35).mono ?_⟩
  rintro _ g41 ⟨⟨⟨-,pD,cD,rfl,N41⟩ | ⟨k', -⟩,o41⟩,l41⟩
  rotate_left
  ·exact absurd ok k'
  refine⟨_,_,_,_,rfl,λ_=>⟨λ_=>?_,λz=>absurd rfl z⟩,λz=>absurd rfl z⟩
  refine (zAz N41.1 N41.2.1 (λa ha=>(N41.2.2 a ha).2) ⟨ok,rfl⟩ l41).mono ?_
  rintro _ g47 ⟨pr',cr',pl',nl',cl',x',dd',rows',cs',lim',q',cq',ys,gB,rfl,o47,j3,j5,j6,jp,j7,R2,hs2,hn2,l2,j8⟩
  have ln:s.ops.length=xA.length:=hn.symm
  rw[ln] at j3 hn2
  refine⟨_,_,_,_,_,_,_,_,_,by rw[ln],λg57 e57=>?_⟩
  obtain⟨g58,k58,n58,o58,v58⟩:=zbP e57 (vs:=[.slice pr' xA.length cr',.slice pl' nl' cl',.int .i64 x',.bool dd']) rfl
  have w58:=v58 [] (λc hc=>by grind)
  have lc1:=k6.1
  have lc2:=j6.1
  obtain⟨rfl,rfl,rfl,rfl,rfl⟩:=zw3 G X R1 R2 l1 l2 (hs2.trans hs1.symm) k7 j7 lc1 lc2 k8 j8
  have oo:=((o29.trans o35).trans o41).trans (o47.trans o58)
  have oe:=(o35.trans o41).trans (o47.trans o58)
  have lr:rows'.length=xA.length:=by
   obtain⟨_,_,_,_,_,_,_,_,_, -, -, -, -,ch, -⟩:=j8
   rw[ch.len,hn2]
  have w29' : g58.get g18.next=_:=(oe.2 _ w29.2.1).trans w29.1
  refine⟨rfl,g58,k58,λ_=>⟨_,_,_,_,_,_,_,_,zaw w29' rfl,_,_,_,_,_,_,_,_,zaw w58.1 rfl,(zs9 (xb rfl) (xb rfl) (by omega) (k3.old oo) (j3.old o58) j5 lr (k6.old oo) (j6.old o58) j7).mono ?_⟩,λz=>absurd rfl z⟩
  rintro _ g76 ⟨rfl,o76⟩
  refine .inl ⟨rfl,_,_,_,zah ((o76.2 _ (by have:=oe.1; have:=w29.2.1; omega)).trans w29') rfl,_,_,_,zah (c0 ((o18.trans oo).trans o76)) rfl,λ_=>rfl,λz=>absurd rfl z⟩
 ·have TA:=RA.ops (by omega)
  rw[hxA] at TA
  refine (zyV TA ok).mono ?_
  rintro _ g18 ⟨rfl,o18⟩
  refine⟨_,_,_,_,_,_,_,_,_,rfl,λg28 e28=>?_⟩
  obtain⟨g29,k29,n29,o29,v29⟩:=zbP e28 (vs:=[.slice none 0 0,.slice none 0 0,.int .i64 0,.bool false]) rfl
  have w29:=v29 [] (λc hc=>by grind)
  have o029:=(o12.trans o18).trans o29
  refine⟨rfl,g29,k29,_,_,_,_,zaw (c0 o029) rfl,(zw2 (xb rfl) (c:=c) (T.old (o0.trans o029))).mono ?_⟩
  rintro _ g35 ⟨⟨pC,cC,xC,rfl,RC,hxC⟩,o35⟩
  have lC:xC.length=xA.length:=by grind
  have TC:=RC.ops (by omega)
  rw[hxC,lC] at TC
  refine⟨_,_,_,_,rfl,(zi5 zw7.scr (s:=s) (c:=cC) TC).mono ?_⟩
  rintro _ g41 ⟨⟨k', -⟩ | ⟨-,rfl⟩,o41⟩
  ·exact absurd k' ok
  have w41:g41.get g18.next=_:=((o35.trans o41).2 _ w29.2.1).trans w29.1
  exact⟨_,_,_,_,rfl,λ_=>⟨λz=>absurd z (by decide),λ_=>⟨λ_=>⟨_,_,_,zah w41 rfl,_,_,_,zah w41 rfl,λi e=>⟨λ_=>rfl,λz=>absurd (e.trans (by rfl)) z⟩⟩,λz=>absurd rfl z⟩⟩,λz=>absurd rfl z⟩
section
variable {P:Program} {h:AH}
theorem RdL.rep {f:TypeId->List Value->Prop} {e:TypeId}:∀{n:Nat} {cs:List Value},RdL P f (List.replicate n e) cs->cs.length=n * P.cellsOf e/\∀i,i < n->f e ((cs.drop (i * P.cellsOf e)).take (P.cellsOf e))
 | 0,cs,k=>⟨by rw[show cs=[] from k]; simp,by omega⟩
 | n+1,cs,k=>by
   obtain⟨k1,k2,k3⟩:=k
   obtain⟨r1,r2⟩:=RdL.rep (n:=n) k3
   refine⟨by grind,λi hi=>?_⟩
   cases i<;>grind[QC]
theorem zmO:∀al:List Value,(∀v∈al,∃m:Nat,v=.int .u8 m/\m < 256)->∃data:List Nat,al=za7 .u8 data/\∀x∈data,x < 256
 | [],_=>⟨[],rfl,by simp⟩
 | v :: al,h=>by
   obtain⟨m,rfl,hm⟩:=h v QO
   obtain⟨ds,rfl,hd⟩:=zmO al λx hx=>h x (QB _ hx)
   exact⟨m :: ds,rfl,by grind⟩
theorem zyW {m:Int} (h:(Lit.int .u8 m).wf=true):∃k:Nat,m=k/\k < 256:=by
 simp[Lit.wf,IntKind.min,IntKind.max,IntKind.signed,IntKind.bits] at h
 exact⟨m.toNat,by omega,by omega⟩
theorem zmP:∀al:List Value,(∀v∈al,∃b:Bool,v=.bool b)->∃l:List Bool,al=zjo l
 | [],_=>⟨[],rfl⟩
 | v :: al,h=>by
   obtain⟨b,rfl⟩:=h v QO
   obtain⟨l,rfl⟩:=zmP al λx hx=>h x (QB _ hx)
   exact⟨b :: l,rfl⟩
theorem zta {α:Type} (Q:Nat->α->Prop):∀n:Nat,(∀i,i < n->∃a,Q i a)->∃l:List α,l.length=n/\∀(i:Nat) (hi:i < l.length),Q i l[i]
 | 0,_=>by simp
 | n+1,h=>by
   obtain⟨l,hl,hq⟩:=zta Q n λi hi=>h i (by omega)
   obtain⟨a,ha⟩:=h n (by omega)
   refine⟨l ++ [a],by grind,λi hi=>?_⟩
   grind
theorem zfQ {l:List Value} {i:Nat} (hi:i < l.length):(l.drop i).take 1=[l[i]]:=by grind[QU]
theorem zuQ {g n:Nat} {al:List Value} (r:RdL Tryz.prog (Rd Tryz.prog h (g+1)) (List.replicate n 5) al):∃data:List Nat,al=za7 .u8 data/\data.length=n/\∀x∈data,x < 256:=by
 obtain⟨hl,hi⟩:=r.rep
 have hc2:Tryz.prog.cellsOf 5=1:=by rfl
 rw[hc2,Qp] at hl
 obtain⟨data,rfl,hd⟩:=zmO al λv hv=>by
  obtain⟨i,hil,rfl⟩:=Q2.1 hv
  have:=hi i (by omega)
  rw[hc2,Qp,zfQ hil] at this
  grind[Rd,Tryz.underlying5,zyW]
 grind[zaG]
theorem zuR {g n:Nat} {al:List Value} (r:RdL Tryz.prog (Rd Tryz.prog h (g+1)) (List.replicate n 4) al):∃l:List Bool,al=zjo l/\l.length=n:=by
 obtain⟨hl,hi⟩:=r.rep
 have hc2:Tryz.prog.cellsOf 4=1:=by rfl
 rw[hc2,Qp] at hl
 obtain⟨l,rfl⟩:=zmP al λv hv=>by grind[Q2,zfQ,Rd,Tryz.underlying4]
 grind[zep]
theorem zw8 {g:Nat} {v:Value} (r:Rd Tryz.prog h (g+2) 34 [v]):∃p n c data,v=.slice p n c/\zdN h p n data/\(0 < n->n<=c/\c < zai):=by
 unfold Rd at r
 obtain⟨p,n,c,al,e,hp,hn,hb,hs,hr⟩:=r
 have hc2:Tryz.prog.cellsOf 5=1:=by rfl
 have hb2:Tryz.prog.bytesOf 5=1:=by rfl
 rw[hb2,Qp] at hb
 obtain⟨data,rfl,hl,hd⟩:=zuQ hr
 exact⟨p,n,c,data,by grind,⟨hp,hl.symm,hb,hs,hd⟩,hn.2⟩
theorem ztb {g:Nat} {v:Value} (r:Rd Tryz.prog h (g+2) 55 [v]):∃p n c l,v=.slice p n c/\zu7 h p n l:=by
 unfold Rd at r
 obtain⟨p,n,c,al,e,hp,hn,hb,hs,hr⟩:=r
 have hc2:Tryz.prog.cellsOf 4=1:=by rfl
 have hb2:Tryz.prog.bytesOf 4=1:=by rfl
 rw[hb2,Qp] at hb
 obtain⟨l,rfl,hl⟩:=zuR hr
 exact⟨p,n,c,l,by grind,hp,hl.symm,hb,hs⟩
theorem zAA {g:Nat} {cs:List Value} (r:Rd Tryz.prog h (g+3) 57 cs):∃o:OpP,zwk h cs o:=by
 unfold Rd at r
 rw[Tryz.underlying57] at r
 have hc1:Tryz.prog.cellsOf 3=1:=by rfl
 have hc2:Tryz.prog.cellsOf 34=1:=by rfl
 have hc3:Tryz.prog.cellsOf 9=1:=by rfl
 have hc4:Tryz.prog.cellsOf 55=1:=by rfl
 simp only[QE,Jk,RdL,hc1,hc2,hc3,hc4,QC] at r
 obtain⟨k1,r1,k2,r2,k3,r3,k4,r4,k5,r5,k6,r6,r7⟩:=r
 unfold Rd at r1 r2 r3 r4
 obtain⟨x1,e1, -⟩:=r1
 obtain⟨x2,e2, -,w2⟩:=r2
 obtain⟨x3,e3, -,w3⟩:=r3
 obtain⟨x4,e4, -⟩:=r4
 match cs,e1,e2,e3,e4,r5,r6,r7,k6 with
 | [c0,c1,c2,c3,c4,c5],e1,e2,e3,e4,r5,r6,r7,k6=>
   obtain⟨pd,nd,cd,data,e5,t5, -⟩:=zw8 (g:=g) (v:=c4) r5
   obtain⟨pk,nk,ck,keep,e6,t6⟩:=ztb (g:=g) (v:=c5) r6
   simp at e1 e2 e3 e4
   subst e1 e2 e3 e4 e5 e6
   exact⟨⟨x1,x2,x3,x4,data,keep⟩,pd,nd,cd,pk,nk,ck,rfl,t5,t6,w2,w3⟩
 | c0 :: c1 :: c2 :: c3 :: c4 :: c5 :: c6 :: l,e1,e2,e3,e4,r5,r6,r7,k6=>grind
theorem zyX {g:Nat} {v:Value} (r:Rd Tryz.prog h (g+4) 22 [v]):∃p n c os,v=.slice p n c/\Ops h p n os/\(0 < n->n<=c/\c < zai):=by
 unfold Rd at r
 obtain⟨p,n,c,al,e,hp,hn,hb,hs,hr⟩:=r
 have hc2:Tryz.prog.cellsOf 57=6:=by rfl
 have hb2:Tryz.prog.bytesOf 57=96:=by rfl
 obtain⟨hl,hi⟩:=hr.rep
 obtain⟨os,hos,hq⟩:=zta (λi (o:OpP)=>zwk h ((al.drop (i * 6)).take 6) o) n λi hin=>zAA (hi i hin)
 exact⟨p,n,c,os,by grind,⟨hp,hos.symm,hb,al,hs,hq⟩,hn.2⟩
theorem zyY {g:Nat} {v:Value} (r:RdV Tryz.prog h (g+5) 24 v):∃p n c,∃s:zil,v=.agg #[.int .i64 s.secs,.slice p n c]/\Ops h p n s.ops/\(0 < n->n<=c/\c < zai):=by
 unfold RdV at r
 obtain⟨cs,rfl,r⟩:=r
 unfold Rd at r
 rw[Tryz.underlying24] at r
 have hc1:Tryz.prog.cellsOf 3=1:=by rfl
 have hc2:Tryz.prog.cellsOf 22=1:=by rfl
 simp only[QE,Jk,RdL,hc1,hc2,QC] at r
 obtain⟨k1,r1,k2,r2,r3⟩:=r
 unfold Rd at r1
 obtain⟨x1,e1, -⟩:=r1
 match cs,e1,r2,r3,k2 with
 | [c0,c1],e1,r2,r3,k2=>
   obtain⟨p,n,c,os,e2,T⟩:=zyX (g:=g) (v:=c1) r2
   simp at e1
   subst e1 e2
   exact⟨p,n,c,⟨x1,os⟩,rfl,T⟩
 | c0 :: c1 :: c2 :: l,e1,r2,r3,k2=>grind
theorem zpz.frozen {w w' : World} (k:zpz w w') (a:Addr) (ha:a.block < w.heap.size):w'.frozen? a=w.frozen? a:=by
 unfold World.frozen?
 rw[k.2.2.2 _ ha]
section
open Go.ChangeShapes Go.WideShapes
theorem ztc {H:Type} {enc:TypeId×Value->H} {f:Func} {s:ChangeSpec} {apart fresh handsOn again:Bool} {W W' : World} {args:Array Value} {v:Value} {ds gs:List (DataW H)} {before pa pv:List MemPlace}
 (hW:DataW.Whole enc P f.params.toList s.vars apart W args.toList ds gs before)
 (hres:∀(b:Nat) (sp:Nat->Bool) (hd:Bool),DataW.TrodAll enc P W' b sp hd f.resultTypes.toList (v.resultList f.resultTypes.size) (s.fn H (ds ++ gs)).results [])
 (hargs:∀sp:Nat->Bool,(∀p∈before,sp p.block=true)->DataW.TrodAll enc P W' 0 sp true f.params.toList args.toList (s.fn H (ds ++ gs)).args pa)
 (hvars:∀sp:Nat->Bool,(∀p∈before,sp p.block=true)->DataW.TrodVars enc P W' sp s.vars (s.fn H (ds ++ gs)).vars pv)
 (hps:before=pa ++ pv) (hk:zpz W W')
 (hok:∀(j:Nat) (t:TypeId) (r:Value),f.resultTypes[j]?= some t->(v.resultList f.resultTypes.size)[j]?= some r->Value.okWide P W' .any 0 t r):
 s.post enc P f apart fresh handsOn again W args v W':=by
 have hlt:=hW.lt
 have hold:∀p∈before,(λb=>decide (b < W.heap.size)) p.block=true:=by grind
 refine⟨ds,gs,before,[],pa,pv,hW,hres _ _ _,hargs _ hold,hvars _ hold,World.keptBut_mono (λp hp=>⟨hp,?_⟩) (hk.but (·∈before)),λ_=>?_⟩
 ·grind
 ·obtain⟨_,_,_,_,_,hz,hn⟩:=hW
  refine⟨hok,_,_,([] ++ pa) ++ pv,⟨[] ++ pa,pv,trodAll_append (hargs _ (λ_ _=>rfl)) (hres _ _ _),hvars _ (λ_ _=>rfl),rfl,?_,?_⟩,?_⟩
  ·intro b off hp
   have hp' : MemPlace.cell b off∈before:=by grind
   rw[hk.frozen _ (hlt _ hp')]
   exact hz b off hp'
  all_goals grind
end
end
theorem zFV {P:Program} {g:Nat} {t:TypeId} {h:AH}:∀{vs:List Value},RdA P h g [t] vs->∃a,vs=[a]/\RdV P h g t a
 | [a],r=>⟨a,rfl,r.1⟩
theorem zog {H:Type} {enc:TypeId×Value->H} {w:World} (G:zdM Tryz.prog) (X:zbK Tryz.prog KB) {base:Nat} {args:Array Value} {ds:List (DataW H)} {ps:List MemPlace}
 (ho:([24]:List TypeId).all (okT Tryz.prog 8)=true) (hv:∀(j:Nat) t v,([24]:List TypeId)[j]?= some t->args[j]?= some v->Value.okWide Tryz.prog w .any base t v) (hA:DataW.TrodAll enc Tryz.prog w 0 (λ_=>true) true [24] args.toList ds ps) (hwt:(DataW.weightsEach Tryz.prog [24] ds).all (·<=reachBytes)=true):
 Calls Tryz.prog 3 args w λe w'=>e=.returned (.bool true)/\zpz w w':=by
 obtain⟨φ,h,us,e,r,k⟩:=zoE ho (λj t v q1 q2=>hv j t v q1 (by rw[<-Qx]; exact q2)) hA hwt (St.empty w)
 obtain⟨a,rfl,r1⟩:=zFV k
 obtain⟨p,n,c,s,rfl,T,hC⟩:=zyY (g:=3) r1
 exact ztD G X (xb rfl) (zi9 G X T e.st.rel.lt) e.st.rel e.st.free e.st.ro r
theorem zoh {K:Xs} (hk:K 221=none) (a:Int) (b:Option Addr) (d e:Nat) (h:AH) (Q:Value->AH->Prop) (H:
 ∃f,aUn .xor (.int .u32 a)=some (.int .u32 f)/\
 (∃g:Int->Int->Nat->AH->Prop,(∃n,g f 0 n h)/\
 ∀(i:Nat) (j:AH),∀(k:Int),∀(l:Int),g k l i j->
 (l < (d:Int)->zag b λm o=>(0<=l/\l < (d:Int)/\
 (∃p,ld1 j m (o+l.toNat * 1)=some (.int .u8 p)/\
 (∀q:Int,q=IntKind.wrap .u32 p->∃r,zgK .xor .u32 k q=some (.int .u32 r)/\
 (∃s:Int->Int->Nat->AH->Prop,(∃n,s r 0 n j)/\
 ∀(t:Nat) (u:AH),∀(v:Int),∀(w:Int),s v w t u->
 (w < 8->∃x,zgK .and .u32 v 1=some (.int .u32 x)/\
 (∃y,zaV .shr .u32 v 1=some (.int .u32 y)/\
 ((x=1->∃z,zgK .xor .u32 y 2197175160=some (.int .u32 z)/\
 (wI (w+1) λaa=>∃ab,ab < t/\s z aa ab u))/\
 (¬x=1->wI (w+1) λac=>∃ab,ab < t/\s y ac ab u))))/\
 (¬w < 8->wI (l+1) λad=>∃ae,ae < i/\g v ad ae u))))))/\
 (¬l < (d:Int)->∃af,aUn .xor (.int .u32 k)=some (.int .u32 af)/\
 (Q (.int .u32 af) j)))):
 Wt K 221 [.int .u32 a,.slice b d e] h Q:=
  zaj (hs:=[(3,[(0,.int .u32 0),(12,.int .i64 0)]),(7,[(0,.int .u32 0),(20,.int .i64 0)])]) hk (Eq.mpr (by kernel_rfl) H)
theorem zfR {K:Xs} (hk:K 253=none) (a:Option Addr) (h:AH) (Q:Value->AH->Prop) (H:
 ∃b:Option Addr->Nat->Nat->Int->Nat->AH->Prop,(∃n,b none 0 0 0 n h)/\
 ∀(d:Nat) (e:AH),∀(f:Option Addr) (g:Nat) (i:Nat),∀(j:Int),b f g i j d e->
 (j < 4096->zag a λk l=>(0<=j/\j < 4096/\
 (((ld1 e k (l+j.toNat * 1)=some (.bool true)/\
 (wI ((g:Int) - 1) λm=>(0<=m->zag f λo p=>(0<=m/\m < (g:Int)/\
 (lI e o (p+m.toNat * 2) λq=>(zag f λr s=>(0<=m/\m < (g:Int)/\
 (lI e r ((s+m.toNat * 2)+1) λt=>(wI (q+t) λu=>(u=j->zag f λv w=>(0<=m/\m < (g:Int)/\
 (lI e v ((w+m.toNat * 2)+1) λx=>(wI (x+1) λy=>zag f λz aa=>(0<=m/\m < (g:Int)/\
 (sT e z ((aa+m.toNat * 2)+1) (.int .i64 y) λab=>(wI (j+1) λac=>∃ad,ad < d/\b f g i ac ad ab)))))))/\
 (¬u=j->aL e [.int .i64 j,.int .i64 1] 294 λae=>∃af ag ah ai,zak Tryz.prog ae .append #[153,153] [.slice f g i,(.slice (some ⟨e.next,0,none⟩) 1 1)]=some (.slice af ag ah,ai)/\
 (wI (j+1) λaj=>∃ad,ad < d/\b af ag ah aj ad ai)))))))))/\
 (¬0<=m->aL e [.int .i64 j,.int .i64 1] 294 λak=>∃al am an ao,zak Tryz.prog ak .append #[153,153] [.slice f g i,(.slice (some ⟨e.next,0,none⟩) 1 1)]=some (.slice al am an,ao)/\
 (wI (j+1) λap=>∃ad,ad < d/\b al am an ap ad ao))))\/(ld1 e k (l+j.toNat * 1)=some (.bool false)/\
 (wI (j+1) λaq=>∃ad,ad < d/\b f g i aq ad e))))))/\
 (¬j < 4096->Q (.slice f g i) e)):
 Wt K 253 [.pointer a] h Q:=
  zaj (hs:=[(3,[(3,.slice none 0 0),(8,.int .i64 0)])]) hk (Eq.mpr (by kernel_rfl) H)
theorem zqo {K:Xs} (hk:K 231=none) (a:Option Addr) (b d:Nat) (h:AH) (Q:Value->AH->Prop) (H:
 ∃e:List Value,zao Tryz.prog 336=some e/\aL h e 336 λf=>∃g:Int->Nat->AH->Prop,(∃n,g 0 n f)/\
 ∀(i:Nat) (j:AH),∀(k:Int),g k i j->
 (k < (b:Int)->zag a λl m=>(0<=k/\k < (b:Int)/\
 (lI j l (m+k.toNat * 1) λo=>((0<=o->(o < 4096->(0<=o)/\(o < 4096)/\
 (sT j h.next (0+o.toNat * 1) (.bool true) λp=>(wI (k+1) λq=>∃r,r < i/\g q r p)))/\
 (¬o < 4096->wI (k+1) λs=>∃r,r < i/\g s r j))/\
 (¬0<=o->wI (k+1) λt=>∃r,r < i/\g t r j)))))/\
 (¬k < (b:Int)->Wt K 253 [(.pointer (some ⟨h.next,0,none⟩))] j λu v=>
 (∃w x y,u=(.slice w x y)/\
 (Q (.slice w x y) v)))):
 Wt K 231 [.slice a b d] h Q:=
  zaj (hs:=[(3,[(8,.int .i64 0)])]) hk (Eq.mpr (by kernel_rfl) H)
theorem zja {K:Xs} (hk:K 217=none) (a:Option Addr) (b:Int) (h:AH) (Q:Value->AH->Prop) (H:
 ∃d:Option Addr->Nat->Nat->Int->Nat->AH->Prop,(∃n,d none 0 0 0 n h)/\
 ∀(e:Nat) (f:AH),∀(g:Option Addr) (i:Nat) (j:Nat),∀(k:Int),d g i j k e f->
 (k < 1024->Wt K 178 [.pointer a,.int .i64 k,.int .u8 b] f λl m=>
 (((l=(.bool true)/\
 (aL m [.int .i64 k] 3 λo=>∃p q r s,zak Tryz.prog o .append #[61,61] [.slice g i j,(.slice (some ⟨m.next,0,none⟩) 1 1)]=some (.slice p q r,s)/\
 (wI (k+1) λt=>∃u,u < e/\d p q r t u s)))\/(l=(.bool false)/\
 (wI (k+1) λv=>∃u,u < e/\d g i j v u m)))))/\
 (¬k < 1024->Wt K 231 [.slice g i j] f λw x=>
 (∃y z aa,w=(.slice y z aa)/\
 (Q (.slice y z aa) x)))):
 Wt K 217 [.pointer a,.int .u8 b] h Q:=
  zaj (hs:=[(3,[(5,.slice none 0 0),(7,.int .i64 0)])]) hk (Eq.mpr (by kernel_rfl) H)
theorem zjy {K:Xs} (hk:K 178=none) (a:Option Addr) (b:Int) (d:Int) (h:AH) (Q:Value->AH->Prop) (H:
 (0<=b->(b < 1024->zag a λe f=>(0<=b/\b < 1024/\
 (∃g,ld1 h e (f+b.toNat * 1)=some (.int .u8 g)/\
 ((g=d->Q (.bool true) h)/\
 (¬g=d->Q (.bool false) h)))))/\
 (¬b < 1024->Q (.bool false) h))/\
 (¬0<=b->Q (.bool false) h)):
 Wt K 178 [.pointer a,.int .i64 b,.int .u8 d] h Q:=
  zaj (hs:=[]) hk (Eq.mpr (by kernel_rfl) H)
theorem zfS {K:Xs} (hk:K 117=none) (a:Option Addr) (h:AH) (Q:Value->AH->Prop) (H:
 ∃b:Int->Nat->AH->Prop,(∃n,b 0 n h)/\
 ∀(d:Nat) (e:AH),∀(f:Int),b f d e->
 (f < 1024->Wt K 178 [.pointer a,.int .i64 f,.int .u8 3] e λg i=>
 (((g=(.bool true)/\
 (Wt K 62 [.pointer a,.int .i64 f,.int .u8 1] i λj k=>
 (wI (f+1) λl=>∃m,m < d/\b l m k)))\/(g=(.bool false)/\
 (wI (f+1) λo=>∃m,m < d/\b o m i)))))/\
 (¬f < 1024->Q (.tuple #[]) e)):
 Wt K 117 [.pointer a] h Q:=
  zaj (hs:=[(1,[(3,.int .i64 0)])]) hk (Eq.mpr (by kernel_rfl) H)
end Go.Am
