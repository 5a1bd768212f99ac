/-
  Texts of this proof, part 42. No condition.
-/
import Derived.Test.YtmnbboleclchcaaGreatFTcSv
set_option linter.unusedVariables false
set_option linter.unusedSimpArgs false
set_option maxRecDepth 100000
namespace Go.Am
open Go.Proofs
theorem zuD {P:Program} {h:AH} {t elem:TypeId} {sz by' : Nat} (E:za3 P t elem sz by') {b n c:Nat} {cs:List Value} {e:TypeId} (hb:h.get b=some (.cells cs e false)) {p:Option Addr} {m c' : Nat} {ns:List Value} (hs:zaz h p m sz ns) (hp:p=none\/∃b off,p=some ⟨b,off,none⟩) (hm:0 < m) (hmn:m<=n) (hle:n * sz<=cs.length) (st:TypeId):
 ∃h',zak P h .copy #[t,st] [.slice (some ⟨b,0,none⟩) n c,.slice p m c']=some (.int .i64 (m:Nat),h')/\zaZ b h h'/\h'.get b=some (.cells (ns ++ cs.drop ns.length) e false):=by
 obtain⟨hu,i,z,hi,hz,hzs,hpos,rfl,rfl⟩:=E
 have hmin:Nat.min m n=m:=Nat.min_eq_left hmn
 have hfc:firstC h i.size m (.slice p m c')=some ns:=hs.firstC hp
 have hnl:=hs.1
 show ∃h',(match zc4 P h t (.slice (some ⟨b,0,none⟩) n c) (.slice p m c') with | x=>x)=_/\_
 unfold zc4
 simp only[hu,hi,zjd,hmin,hfc]
 have hp' : 0 < m * i.size:=Nat.mul_pos hm hpos
 cases hns:ns with
 | nil=>grind
 | cons x xs=>
   have hle2:0+(x :: xs).length<=cs.length:=by
    rw[<-hns,hnl]
    have:m * i.size<=n * i.size:=Qt _ hmn
    omega
   grind[zap,zam,zaf]
theorem zyu (g:AH) (b:Nat):zay Tryz.prog g 212 (.pointer (some ⟨b,0,none⟩)) none none none=some (.slice (some ⟨b,0,none⟩) 8 8):=by kernel_rfl
theorem zyv (g:AH) (b:Nat):zay Tryz.prog g 41 (.pointer (some ⟨b,0,none⟩)) none none none=some (.slice (some ⟨b,0,none⟩) 128 128):=by kernel_rfl
def zN:List Value:=(List.replicate 8 [Value.int .i64 0,.int .u64 0,.int .u32 0]).flatten
theorem zwY {c:Nat} (h:c<=8):zN.drop (c * 3)=(List.replicate (8 - c) [Value.int .i64 0,.int .u64 0,.int .u32 0]).flatten:=by
 match c,h with
 | 0,_=>rfl
 | 1,_=>rfl
 | 2,_=>rfl
 | 3,_=>rfl
 | 4,_=>rfl
 | 5,_=>rfl
 | 6,_=>rfl
 | 7,_=>rfl
 | 8,_=>rfl
 | c+9,h=>omega
theorem zAh:cx0.fl 212=[3,62,94,3,62,94,3,62,94,3,62,94,3,62,94,3,62,94,3,62,94,3,62,94]:=by kernel_rfl
theorem zyw (i:Nat):zcO cx0 212 i=zaJ cx0 96 8 i:=by
 unfold zcO zaJ
 rw[zAh,zzi,zk2]
 by_cases h:i < 24
 ·rw[if_pos (by omega)]
  exact (by decide:∀i:Nat,i < 24->([3,62,94,3,62,94,3,62,94,3,62,94,3,62,94,3,62,94,3,62,94,3,62,94]:List Nat)[i]?= ([3,62,94]:List Nat)[i % 3]?) i h
 ·rw[if_neg (by omega),List.getElem?_eq_none (by simp_all)]
theorem zAi (v172:Vl 172 zxf) (v201:Vl 201 zA0):Vl 213 zzY:=zaY λρ g Q H S hp vs hw hg=>by
 obtain⟨_,(n:Nat),(m:Nat),_⟩:=ρ
 obtain⟨x,y,z,rfl,gx,gy,gz⟩:=zqd (a:=.hp 139) (b:=.sl false false false 96 n) (c:=.sl false false false 3 m) hg
 simp only[gam] at gx gy gz
 obtain⟨(hbn:n<=big),(hbm:m<=big),hgw,⟨hn1,hn2,hup⟩,H⟩:=H
 have H:∀j:Nat,∀e:Int,InR .i64 e->(e=0->(j:Int)=upF n 8)->(¬e=0->j=0)->∀g' : Int,g<=g'->g'<=g+600->Q (.tup [.sl false false false 96 j,.int .i64 e]) g':=H
 obtain⟨N,hN⟩:∃N,N=(n+8 - 1) / 8:=⟨_,rfl⟩
 have eN:upF n 8=(N:Int):=by grind[upN]
 rw[eN] at hup
 have hN6:N<=600:=by omega
 obtain⟨pb,_,rfl, -⟩:∃b c,x=ptr b 0/\True:=by
  obtain⟨b,c,rfl, -⟩:=gx
  exact⟨b,c,rfl,trivial⟩
 obtain⟨pa,ca,rfl⟩:=ziZ gz
 have gy0:=gy
 obtain⟨-,py,c,rfl,⟨-,rfl, -⟩ | ⟨tb,toff,ro,e,cc,rfl,k1,k2, -, -,k5⟩⟩:=gy
 ·omega
 refine zgz (xb rfl) _ _ _ _ _ _ _ hp _ λg0 e0 g1 e1 g2 e2 g3 e3 g4 e4=>zsK (xb rfl) _ _ _ _ g4 _ λg5 e5 g6 e6=>⟨_,zah (zae e6) rfl,by omega,λ_=>⟨259,[.pointer (some ⟨g4.next,0,none⟩),.pointer (some ⟨g5.next,0,none⟩)],rfl,?_⟩⟩
 have o0:=zab e0
 have n0:=zad e0
 have o1:=zab e1
 have n1:=zad e1
 have o2:=zab e2
 have n2:=zad e2
 have o3:=zab e3
 have n3:=zad e3
 have o4:=zab e4
 have n4:=zad e4
 have o5:=zab e5
 have n5:=zad e5
 have o6:=zab e6
 have n6:=zad e6
 have oh:Old hp g6:=(by grind[Old.trans])
 have c0:g6.get hp.next=some (.cells [ptr pb 0] 105 false):=by rw[o6.2 _ (by omega),o5.2 _ (by omega),o4.2 _ (by omega),o3.2 _ (by omega),o2.2 _ (by omega),o1.2 _ (by omega)]; exact zae e0
 have c1:g6.get g0.next=some (.cells [.slice pa m ca] 61 false):=by simp_all
 have c2:g6.get g1.next=some (.cells [.slice none 0 0] 97 false):=by simp_all
 have c3:g6.get g2.next=some (.cells [.int .i64 0] 30 false):=by simp_all
 have c4:g6.get g3.next=some (.cells [.slice none 0 0] 97 false):=by simp_all
 have c5:g6.get g4.next=_:=(o6.2 _ (by omega)).trans (zae e5)
 have c6:=zae e6
 have un:∀b,hp.next<=b->S.ty b=none/\¬S.dv b:=λb hb=>⟨by
  cases hq:S.ty b with
  | none=>rfl
  | some q=>have:=(hw.1 b q.1 q.2.1 q.2.2 hq).1; omega,λq=>by have:=hw.2.1 b q; omega⟩
 have P:Plc S g6.next g1.next g2.next g3.next:=⟨by omega,by grind⟩
 have hr:hp.next<=g1.next/\hp.next<=g2.next/\hp.next<=g3.next/\hp.next<=g6.next:=by omega
 refine⟨λk=>SvJ S g6.next g6 g1.next g2.next g3.next g k k,λx h=>x=.ret/\SvD S g6.next g6 g1.next g2.next g3.next g N h,N,λk=>[.slice (some ⟨tb,toff+k * 8 * 3,none⟩) (min 8 (n - k * 8)) (min 8 (n - k * 8))],λ_ _=>False,λ_ _=>True,
  ⟨rfl,rfl⟩,by simp,λh1 q1 q2=>?_,by grind[SvJ.near],by grind[SvD.near],by simp,by simp,by simp,?_,?_,λh64 J=>?_,λh74 D=>?_,λx h _ q=>by rw[q.1]; rfl⟩
 ·have o61:Old g6 h1:=⟨by omega,by grind⟩
  exact⟨S,g,none,0,[],⟨Xt.refl _ _,(hw.old oh).old o61,by omega,by grind⟩,Jd _,by omega,(by grind),(by grind),(by grind),zbB.nil _ _ _ _,by grind[zaS],λa e=>by grind⟩
 ·rintro k g14 hk J14 - p17 n18 c19 hit
  simp only[Q8,Value.slice.injEq,and_true] at hit
  obtain⟨rfl,rfl,rfl⟩:=hit
  refine⟨rfl,rfl,λg23 nr hL=>?_⟩
  have J23:=J14.near P nr
  have J23':=J23
  have hkm:k * 8 < n:=by omega
  obtain⟨cn,hcn⟩:∃cn,cn=min 8 (n - k * 8):=⟨_,rfl⟩
  rw[<-hcn]
  obtain⟨S1,g1',pp,cc',al,E,b1,b2,d1,d2,d3, -, -, -⟩:=J23'
  have hE:=E.n
  have chunk:SlV cx0 S1 0 false false false 96 cn (.slice (some ⟨tb,toff+k * 8 * 3,none⟩) cn cn):=by
   refine⟨by grind[zbT],_,_,rfl,.inr ⟨tb,_,ro,e,cc,rfl,E.x.ty _ _ k1,λj hj=>?_,(λz=>by grind),(λz=>by omega),by grind[zai]⟩⟩
   have:=k2 (k * 8+j) (by omega)
   grind[zk2]
  refine λh24 e24=>?_
  have o24:=zab e24
  have n24:=zad e24
  refine⟨_,_,_,zyu h24 g23.next,?_⟩
  obtain⟨_,_,ns,ec,hpc,shc,hcc⟩:=zjw (E.w.old o24) chunk (by grind[zk2])
  cases ec
  rw[zk2] at shc hcc
  obtain⟨h29,k29,nr29,w29⟩:=zuD zqb (n:=8) (c:=8) (c':=cn) (zae e24) shc (by simp) (by omega) (by omega) (by simp) 97
  have o29:Old g23 h29:=⟨by rw[nr29.1]; omega,λc hc=>by rw[nr29.2 c (by omega),o24.2 c hc]⟩
  have hns:=shc.1
  have T29:zau cx0 S1 (zaJ cx0 96 8) (ns ++ zN.drop ns.length):=by
   have:=zaL (X:=cx0) (S:=S1) (T:=96) (n:=cn) (m:=8 - cn) (by rw[zk2]; omega) (zaS (by rw[zk2]; omega)) (new:=(List.replicate (8 - cn) [Value.int .i64 0,.int .u64 0,.int .u32 0]).flatten) (zfD (X:=cx0) (T:=96) (by grind[zk2]) (zk3 ⟨⟨by decide,by decide⟩,⟨by decide,by decide⟩,⟨by decide,by decide⟩⟩))
   grind[zwY]
  have l29:(ns ++ zN.drop ns.length).length=24:=by rw[Qs,Q3,hns]; show cn * 3+(24 - cn * 3)=24; omega
  refine⟨_,h29,k29,_,zaw w29 l29,(zgD v201 rfl (ρ:=((),())) (E.w.old o29) (vs:=[_]) ⟨?_,trivial⟩ (Q:=λr g'=>∃e:Int,InR .i64 e/\r=.tup [.aggT 41,.int .i64 e]) λe he=>⟨e,he,rfl⟩).mono ?_⟩
  ·exact⟨_,rfl,l29.trans (by unfold sz; rfl),λi t hi=>T29 i t (by grind[zyw])⟩
  rintro v h32 ⟨o32,S32,r,g32, -, -,gm, -,e34,he34,rfl⟩
  obtain⟨_,_,rfl,gm1,gm2⟩:=zxj gm
  obtain⟨rfl, -⟩:=gm2
  obtain⟨l33,rfl,hl33,ht33⟩:=gm1
  obtain⟨hl33,hu33⟩:=zsu hl33 ht33
  refine⟨l33,e34,rfl,λh35 e35=>⟨hl33,?_⟩⟩
  obtain⟨h36,k36,n36,o36,v36⟩:=zbP e35 (vs:=l33) (by grind)
  have w36:=v36 [] λc hc=>by grind
  have o2936:=o32.trans o36
  have J29:=J23.old P o29
  have J36:=J29.old P o2936
  have o2336:=o29.trans o2936
  refine⟨h36,k36,λz34=>?_,λz34=>?_⟩
  rotate_left
  ·obtain⟨h54,k54,h55,k55,kl2,D⟩:=J36.err P he34 z34
   refine⟨h54,k54,h55,k55,by rw[kl2,o2336.2 _ (by omega)],⟨rfl,?_⟩,λ_ _=>trivial⟩
   obtain⟨S1,g1,e',E',q1,q2,q3⟩:=D
   exact⟨S1,g1,e',E',q1,by omega,q3⟩
  have E36:=E.old o2336
  have kk:∀b,hp.next<=b->b < g6.next+1->b≠g1.next->b≠g2.next->b≠g3.next->b≠g6.next->h36.get b=g6.get b:=by grind[Ew.k]
  obtain⟨_,_,ai,ez, -,sz',hlz,hbz⟩:=zn0 E36.w (gz.mono E.x.le) (by rfl) ck3
  cases ez
  obtain⟨b31,o32',rfl,l33'⟩:=sz'.get (i:=k) (by omega)
  rw[zgA (by omega)] at l33'
  have r33:InR .i64 ai[k]:=hbz _ (by simp)
  generalize ai[k]=i33 at l33' r33
  refine⟨_,zah ((kk hp.next (by omega) (by omega) (by omega) (by omega) (by omega) (by omega)).trans c0) rfl,_,_,_,zah ((kk g0.next (by omega) (by omega) (by omega) (by omega) (by omega) (by omega)).trans c1) rfl,pp,k,cc',zah ((o2336.2 _ (by omega)).trans d1) rfl,zaa ⟨by omega,by omega,i33,by grind[Qh],_,_,_,zyv h36 h32.next,?_⟩⟩
  have l2932:=o32.1
  refine (J29.putN P v172 (by omega) gx r33 o2936 (b:=h32.next) l2932 (by omega) w36.1 hu33 (n:=128) hl33 (by decide)).mono ?_
  rintro _ g35 ⟨a,b,c',ee,rfl,he,rp,kl,n35,J35⟩
  refine⟨a,b,c',ee,rfl,λg40 e40=>⟨rfl,?_⟩⟩
  obtain⟨g41,k41,n41,o41,v41⟩:=zbP e40 (vs:=ptC a b c') rfl
  have w41:=v41 [] λc hc=>by cases hc
  have J41:=J35.old P o41
  have l36:=o2336.1
  refine⟨g41,k41,λz=>?_,λz=>?_⟩
  ·obtain⟨p42,c44,l42,ap⟩:=J41.app P (by omega) rp
   refine⟨p42,k,c44,l42,_,_,_,w41.ld rfl,λh48 e48=>?_⟩
   obtain⟨p49,n50,c51,h52,k52,h53,k53,kl2,J53⟩:=ap h48 e48
   exact⟨p49,n50,c51,h52,k52,h53,k53,by rw[kl2,o41.2 _ (by omega),kl,o2336.2 _ (by omega)],J53,λ_ _=>trivial⟩
  ·obtain⟨h54,k54,h55,k55,kl2,D⟩:=J41.err P he z
   refine⟨h54,k54,h55,k55,by rw[kl2,o41.2 _ (by omega),kl,o2336.2 _ (by omega)],⟨rfl,?_⟩,λ_ _=>trivial⟩
   obtain⟨S1,g1,e',E',q1,q2,q3⟩:=D
   exact⟨S1,g1,e',E',q1,by omega,q3⟩
 ·intro JJ DD hJ hG hDG hround g60 hj0
  subst hN
  exact zyt (ya:=g6.next) (pb0:=g4.next) (pb1:=g5.next) (b:=tb) (off:=toff) (n:=n) (c:=c) (m:=8) (by omega) (by omega) (JJ:=JJ) (DD:=DD) (BB:=λ_ _=>True) (λi h1 j=>by
   obtain⟨S1,g1',pp,cc',al,E, -⟩:=hJ i h1 j
   have kk:∀b,hp.next<=b->b < g6.next+1->b≠g1.next->b≠g2.next->b≠g3.next->b≠g6.next->h1.get b=g6.get b:=by grind[Ew.k]
   refine⟨by grind,by grind,?_⟩
   rcases k5 with ⟨q1,q2, -⟩ | ⟨q1, -,q2⟩
   ·exact .inl ⟨q2,q1⟩
   ·obtain⟨-, -,cs,r,q3, -⟩:=E.w.1 tb _ _ _ (E.x.ty _ _ k1)
    exact .inr ⟨q1,cs,e,r,q3,q2.trans (by rw[zk2]; simp)⟩)
   (by omega) hj0
 ·refine J.ok P oh rfl hr (by omega) λg' h1 h2=>H N 0 ⟨by decide,by decide⟩ (λ_=>eN.symm) (by omega) g' h1 (by omega)
 ·exact D.2.ok P oh rfl hr λe he h0 g' h1 h2=>H 0 e he (λz=>absurd z h0) (λ_=>rfl) g' h1 (by omega)
theorem zn6:∀{f:Nat} {s:Int},0<=s->0<=zbS (zhc f s)
 | 0,s,_=>by grind[zhc,zbS]
 | f+1,s,h=>by
   unfold zhc
   split
   ·have h1:0<=upF s 8:=by grind[upF]
    have:=zn6 (f:=f) h1
    grind[zbS]
   grind[zbS]
theorem zsU {f:Nat} {s:Int} (h:1 < s):zbS (zhc (f+1) s)=upF s 8+zbS (zhc f (upF s 8)):=by
 rw[show zhc (f+1) s=upF s 8 :: zhc f (upF s 8) by grind[zhc]]
 rfl
theorem zDX (v165:Vl 165 zAS) (zAg:Vl 212 zzX) (zAi:Vl 213 zzY):Vl 168 zA1:=zaY λρ g Q H S hp vs hw hg=>by
 obtain⟨_,(n:Nat),(m:Nat),_⟩:=ρ
 obtain⟨x,y,z,rfl,gx,gy,gz⟩:=zqd (a:=.hp 139) (b:=.sl false false false 5 n) (c:=.sl false false false 3 m) hg
 simp only[gam] at gx gy gz
 obtain⟨(hbn:n<=big),(hbm:m<=big),hgw,hn,H⟩:=H
 have hbm' : m<=1048576:=hbm
 have H:∀e:Int,InR .i64 e->∀g' : Int,g<=g'->g'<=g+3000->Q (.tup [.aggT 96,.int .i64 e]) g':=H
 obtain⟨pb,rfl⟩:∃b,x=ptr b 0:=by grind[zbr]
 obtain⟨py,cy,rfl⟩:=ziZ gy
 obtain⟨pa,ca,rfl⟩:=ziZ gz
 refine zmE (xb rfl) _ _ _ _ _ _ _ hp _ λg0 e0=>?_
 have o0:=zab e0
 have n0:=zad e0
 have w0:=zae e0
 have un:S.ty hp.next=none/\¬S.dv hp.next:=⟨by
  cases hq:S.ty hp.next with
  | none=>rfl
  | some q=>have:=(hw.1 _ q.1 q.2.1 q.2.2 hq).1; omega,λq=>by have:=hw.2.1 _ q; omega⟩
 have bx:∀{S1 g1 h1},Ew S g0.next g0 (λ_=>False) S1 g1 h1->h1.get hp.next=some (.cells (ptC 0 0 0) 96 false):=λE=>(E.k _ (by omega) id un.1 un.2).trans w0
 have ret:∀{S1:TY} {g1:Int} {h1:AH} {a b c e:Int},Ew S g0.next g0 (λ_=>False) S1 g1 h1->g<=g1->g1<=g+3000->PtR a b c->InR .i64 e->
  (List.length (ptC a b c)=3)/\∃h4:AH,stN h1 hp.next 0 (ptC a b c)=some h4/\∃i5 i6 i7:Int,ldN h4 hp.next 0 3=some [.int .i64 i5,.int .u64 i6,.int .u32 i7]/\Fin S g hp false Q (.tuple #[.agg #[.int .i64 i5,.int .u64 i6,.int .u32 i7],.int .i64 e]) h4:=λ{S1 g1 h1 a b c e} E l1 l2 rp he=>by
  have hn:=E.n
  have nr:=zam hp.next h1 (.cells (ptC a b c) 96 false)
  refine⟨rfl,_,zaR (bx E) rfl,a,b,c,zaw (zaf _ _ _) rfl,S1,.tup [.aggT 96,.int .i64 e],g1,(Xt.refl hp.next S).trans2 (by omega) E.x,E.w.keep ziL (by simp) λd hd k=>nr.2 d λz=>?_,by rw[nr.1]; omega,λd hd q=>?_,ze8 (zo2 rp) (gi he),rfl,H e he _ l1 l2⟩
  ·subst z
   rcases k with ⟨q,k⟩ | k
   ·rw[E.x.old _ (by omega),un.1] at k; grind
   ·exact un.2 (E.x.dvo _ (by omega) k)
  ·rcases q with q | ⟨q1,q2⟩
   ·grind
   ·rw[nr.2 d (by omega),E.k d (by omega) id q1 q2,o0.2 d hd]
 have zp:PtR 0 0 0:=⟨⟨by decide,by decide⟩,⟨by decide,by decide⟩,⟨by decide,by decide⟩⟩
 have E0:Ew S g0.next g0 (λ_=>False) S g g0:=⟨Xt.refl _ _,hw.old o0,Qc _,by simp⟩
 refine (zc2 v165 rfl (ρ:=((n:Int),())) hw o0 (vs:=[_]) ⟨⟨rfl,by grind[kLo],by grind[kHi]⟩,trivial⟩ (Q':=λr=>r=.int .i64 (zcg n)) λc hc _ _=>by grind).mono ?_
 rintro v h2 ⟨o2,S2,r,gm,rfl⟩
 simp only[gam] at gm
 obtain⟨rfl, -⟩:=gm
 have E2:=E0.old o2
 refine⟨_,rfl,λ_=>ret E2 (Jd _) (by omega) zp ⟨by decide,by decide⟩,λz0=>⟨λzm=>?_,λ_=>ret E2 (Jd _) (by omega) zp ⟨by decide,by decide⟩⟩⟩
 have hn1:1<=(n:Int)/\(n:Int)<=65535:=by
  rcases Classical.em ((n:Int) < 1\/65535 < (n:Int)) with q | q
  ·exact absurd (by unfold zcg za0; rw[if_pos q]; rfl) z0
  omega
 have hlev:zcg n=upF n 128+zbS (zhc 10 (upF n 128)):=by
  unfold zcg za0
  rw[if_neg (by omega)]
  rfl
 have hu:1<=upF n 128/\upF n 128<=512:=by grind[upF]
 have nn:=zn6 (f:=10) (s:=upF n 128) (by omega)
 refine (E2.call zAg (ρ:=((),n,m,())) (vs:=[_,_,_]) ⟨gx,gy.wk (Le2.refl _),gz.wk (Le2.refl _),trivial⟩ (Q:=λr g'=>(∃(j:Nat) (e:Int),InR .i64 e/\(e=0->(j:Int)=upF n 128)/\(¬e=0->j=0)/\r=.tup [.sl false false false 96 j,.int .i64 e])/\g<=g'/\g'<=g+600) ⟨hbn,hbm,by omega,⟨by omega,by omega,by omega⟩,λj e he h1 h2 g' q1 q2=>⟨⟨j,e,he,h1,h2,rfl⟩,q1,q2⟩⟩).mono ?_
 rintro v h9 ⟨S9,r,g9,E9,X9,n9,fr9,gm,⟨n11,i13,he13,hj1,hj2,rfl⟩,q1,q2⟩
 obtain⟨p10,c12,rfl,s10⟩:=zeR gm
 obtain⟨p14,c16,k14,s14⟩:=zc1 E9.w (gz.mono E9.x.le) (show und cx0 61=some (.slice 3) by rfl) (by rfl) (lo:=some (.int .i64 (n11:Int))) (hi':=none) (l:=(n11:Int)) (u:=(m:Int)) (.inr ⟨_,rfl⟩) (.inl ⟨rfl,rfl⟩) (by omega) (by omega) (by omega)
 refine⟨_,_,_,_,rfl,_,_,_,k14,?_⟩
 refine⟨λp21 n22 c23 p24 n25 c26 i27 k h=>∃(S1:TY) (g1:Int) (f f' : Nat),Ew S g0.next g0 (λ_=>False) S1 g1 h/\g<=g1/\g1+600 * f'<=g+2400/\f'<=f/\SlV cx0 S1 0 false false false 3 n22 (.slice p21 n22 c23)/\SlV cx0 S1 0 false false false 96 n25 (.slice p24 n25 c26)/\InR .i64 i27/\n25=k/\n22<=1048576/\
  (i27=0->1<=n25/\n25<=600/\n25<=8 ^ f'/\(n22:Int)=zbS (zhc f n25)),
  ⟨_,S9,g9,10,3,E9,q1,by omega,by omega,s14.wk (Le2.refl _),s10.wk (Le2.refl _),he13,rfl,by omega,λq=>?_⟩,?_⟩
 ·grind
 rintro k h19 p21 n22 c23 p24 n25 c26 i27 ⟨S1,g1,f,f',E,b1,b2,hf,s21,s24,he27,rfl,hn22,hi⟩
 have err:¬i27=0->(List.length (ptC 0 0 0)=3)/\∃h4:AH,stN h19 hp.next 0 (ptC 0 0 0)=some h4/\∃i5 i6 i7:Int,ldN h4 hp.next 0 3=some [.int .i64 i5,.int .u64 i6,.int .u32 i7]/\Fin S g hp false Q (.tuple #[.agg #[.int .i64 i5,.int .u64 i6,.int .u32 i7],.int .i64 i27]) h4:=λ_=>ret E b1 (by omega) zp he27
 refine⟨λz=>⟨λz1=>?_,λz1=>⟨λ_=>?_,λq=>absurd z q⟩⟩,λz=>⟨λq=>absurd q z,err⟩⟩
 ·obtain⟨h1,h2,h3,h4⟩:=hi z
  obtain⟨d',rfl⟩:∃d,f'= d+1:=⟨f' - 1,by grind⟩
  obtain⟨d,rfl⟩:∃d,f=d+1:=⟨f - 1,by omega⟩
  rw[zsU (by omega)] at h4
  have hup:1<=upF n25 8/\upF n25 8 < n25/\upF n25 8<=8 ^ d':=by grind[upF]
  have nn:=zn6 (f:=d) (s:=upF n25 8) (by omega)
  refine (E.call zAi (ρ:=((),n25,n22,())) (vs:=[_,_,_]) ⟨gx.mono E.x.le,s24.wk (Le2.refl _),s21.wk (Le2.refl _),trivial⟩ (Q:=λr g'=>(∃(j:Nat) (e:Int),InR .i64 e/\(e=0->(j:Int)=upF n25 8)/\(¬e=0->j=0)/\r=.tup [.sl false false false 96 j,.int .i64 e])/\g1<=g'/\g'<=g1+600) ⟨show n25<=big by grind[big],hn22,by omega,⟨by omega,by omega,by omega⟩,λj e he h1 h2 g' q1 q2=>⟨⟨j,e,he,h1,h2,rfl⟩,q1,q2⟩⟩).mono ?_
  rintro v h29 ⟨S29,r,g29,E29,X29,n29,fr29,gm,⟨n31,i33,he33,hj1,hj2,rfl⟩,r1,r2⟩
  obtain⟨p30,c32,rfl,s30⟩:=zeR gm
  have hle:n31<=n22/\n31 < n25:=by omega
  obtain⟨p34,c36,k34,s34⟩:=zc1 E29.w (s21.mono X29.le) (show und cx0 61=some (.slice 3) by rfl) (by rfl) (lo:=some (.int .i64 (n31:Int))) (hi':=none) (l:=(n31:Int)) (u:=(n22:Int)) (.inr ⟨_,rfl⟩) (.inl ⟨rfl,rfl⟩) (by omega) (by omega) (by omega)
  refine⟨_,_,_,_,rfl,_,_,_,k34,n31,hle.2,S29,g29,d,d',E29,by omega,by omega,by omega,s34.wk (Le2.refl _),s30.wk (Le2.refl _),he33,rfl,by omega,λq=>?_⟩
  grind
 ·obtain⟨_,_,e,lat⟩:=zyg E.w s24
  cases e
  obtain⟨b,off,rfl,x,y,w,rp,ld⟩:=lat 0 (by omega)
  have:=ld _ (Old.refl _)
  exact zaa ⟨by omega,by omega,x,y,w,this,ret E b1 (by omega) rp ⟨by decide,by decide⟩⟩
theorem zsV:∀(f:Nat) (s:Int),1<=s->s<=512->s<=8 ^ f->∀p:Int,s<=p->let l:=s :: zhc f s
 l.getLast?= some 1/\l.length<=f+1/\(∀x∈l,1<=x/\x<=512)/\∀k,k+1 < l.length->l.getD k 0<=8 * l.getD (k+1) 0/\upF (l.getD k 0) 8=l.getD (k+1) 0/\1 < l.getD k 0
 | 0,s,h1,h2,h3,p,hp=>by grind[zhc]
 | f+1,s,h1,h2,h3,p,hp=>by
   simp only[zhc]
   split
   ·have b:1<=upF s 8/\upF s 8<=512/\upF s 8<=8 ^ f/\s<=8 * upF s 8:=by grind[upF]
    obtain⟨q1,q2,q3,q4⟩:=zsV f (upF s 8) b.1 b.2.1 b.2.2.1 _ (Jd _)
    refine⟨by grind,by grind,λx hx=>?_,λk hk=>?_⟩
    ·grind
    ·match k with
     | 0=>grind
     | k+1=>grind
   grind
theorem zvr {n:Int} (h1:1<=n) (h2:n<=65535):(za0 n).getLast?= some 1/\(za0 n).length<=11/\(∀x∈za0 n,1<=x/\x<=512)/\(∀k,k+1 < (za0 n).length->(za0 n).getD k 0<=8 * (za0 n).getD (k+1) 0/\upF ((za0 n).getD k 0) 8=(za0 n).getD (k+1) 0/\1 < (za0 n).getD k 0)/\(za0 n).getD 0 0=upF n 128/\1<=(za0 n).length/\n<=128 * upF n 128/\upF n 128<=512:=by
 have e:za0 n=upF n 128 :: zhc 10 (upF n 128):=if_neg (by omega)
 have b:1<=upF n 128/\upF n 128<=512/\n<=128 * upF n 128:=by grind[upF]
 obtain⟨q1,q2,q3,q4⟩:=zsV 10 (upF n 128) b.1 b.2.1 (by omega) _ (Jd _)
 grind
theorem zn7 {n:Int} (h:n < 1\/65535 < n):za0 n=[]:=if_pos h
theorem zo4:∀(f:Nat) (s:Int),1<=s->7 * zbS (zhc f s)<=(s - 1)+7 * f
 | 0,s,h=>by grind[zhc,zbS]
 | f+1,s,h=>by
   simp only[zhc]
   split
   ·have b:1<=upF s 8/\8 * upF s 8<=s+7:=by grind[upF]
    have:=zo4 f (upF s 8) b.1
    grind[zbS]
   grind[zbS]
theorem zsW:∀(l:List Int) (j:Nat),(∀x∈l,0<=x)->0<=zbS (l.take j)/\zbS (l.take j)<=zbS l/\(j < l.length->zbS (l.take (j+1))=zbS (l.take j)+l.getD j 0)
 | [],j,_=>by simp[zbS]
 | x :: l,0,h=>by
   have:=zsW l 0 λy hy=>h y (by grind)
   have:=h x (by simp)
   grind[zbS]
 | x :: l,j+1,h=>by
   have:=zsW l j λy hy=>h y (by grind)
   have:=h x (by simp)
   simp only[List.take_succ_cons,zbS,QF,List.getD_cons_succ] at *
   omega
theorem zzj (n:Int):∀x∈za0 n,0<=x/\x<=512:=by grind[zn7,zvr]
theorem zsX (n:Int):0<=zcg n/\zcg n<=700:=by
 refine⟨?_,?_⟩
 ·have:=zsW (za0 n) (za0 n).length λx hx=>(zzj n x hx).1
  grind[zcg]
 ·unfold zcg za0
  split
  ·decide
  ·have b:1<=upF n 128/\upF n 128<=512:=by grind[upF]
   have:=zo4 10 (upF n 128) b.1
   grind[zbS]
theorem zDY (n:Int):znX n 0=0:=by rfl
theorem zyx (n e:Int):0<=znX n e/\znX n e<=700:=by
 have:=zsW (za0 n) e.toNat λx hx=>(zzj n x hx).1
 have:=zsX n
 grind[zcg,znX]
theorem zwZ {n e:Int} (h:((za0 n).length:Int)<=e):znX n e=zcg n:=by grind[znX,zcg,QA]
theorem zuE {n e:Int} (h1:0<=e) (h2:e < (za0 n).length):znX n (e+1)=znX n e+zfT (za0 n) e/\0<=zfT (za0 n) e/\zfT (za0 n) e<=512:=by
 have q:=(zsW (za0 n) e.toNat λx hx=>(zzj n x hx).1).2.2 (by omega)
 unfold znX zfT
 rw[show (e+1).toNat=e.toNat+1 by omega]
 have hlt:e.toNat < (za0 n).length:=by omega
 refine⟨q,?_⟩
 rw[List.getD_eq_getElem?_getD,Qe hlt]
 exact zzj n _ (by simp)
theorem zyy {n:Int} (h1:1<=n) (h2:n<=65535):1<=(za0 n).length/\(za0 n).length<=11/\(∀j:Int,j+1=(za0 n).length->zfT (za0 n) j=1)/\(∀j:Int,0<=j->j+1 < (za0 n).length->zfT (za0 n) j<=8 * zfT (za0 n) (j+1))/\(∀j:Int,0<=j->j < (za0 n).length->1<=zfT (za0 n) j/\zfT (za0 n) j<=512)/\n<=128 * zfT (za0 n) 0:=by
 obtain⟨q1,q2,q3,q4,q5,q6,q7,q8⟩:=zvr h1 h2
 have at1:∀j:Int,0<=j->j < (za0 n).length->∃h:j.toNat < (za0 n).length,zfT (za0 n) j=(za0 n)[j.toNat]:=by grind[zfT]
 refine⟨q6,q2,λj hj=>?_,λj a b=>?_,λj a b=>?_,?_⟩
 ·obtain⟨h,e⟩:=at1 j (by omega) (by omega)
  grind
 ·grind[zfT]
 ·grind[Qj]
 ·show n<=128 * (za0 n).getD 0 0
  omega
def BG (n:Nat):Prop:=n<=1048576
def AM (b:Nat) (p:Nat->Prop):Prop:=∀n:Nat,n<=b->p n
def AB (p:Nat->Prop):Prop:=∀n:Nat,n<=1048576->p n
def AG (g w:Int) (p:Int->Prop):Prop:=∀x:Int,g<=x->x<=g+w->p x
def GW (g w:Int):Prop:=g+w<=1000000000
def N6 (x:Int):Prop:=0<=x/\x < 1000000
def I6 (p:Int->Prop):Prop:=AN .i64 p
def I3 (p:Int->Prop):Prop:=AN .i32 p
def U6 (p:Int->Prop):Prop:=AN .u64 p
def U3 (p:Int->Prop):Prop:=AN .u32 p
def U8n (p:Int->Prop):Prop:=AN .u8 p
def Ie (x:Int):TV:=.int .i64 x
def Ue (x:Int):TV:=.int .u64 x
def Sf (t n:Nat):TV:=.sl false false false t n
def P2 (a b:TV):TV:=.tup [a,b]
def P3 (a b c:TV):TV:=.tup [a,b,c]
mutual
def pk1:(p:AP)->AT p->Prop
 | .int k,x=>InR k x
 | .str,s=>ByteArray.size s<=za8
 | .sl _ _ _,n=>@LE.le Nat _ n zbT
 | .agg l,r=>pk l r
 | _,_=>True
def pk:(ps:List AP)->ATs ps->Prop
 | [],_=>True
 | p :: ps,(r,rs)=>pk1 p r/\pk ps rs
end
section
variable {X:Cx} {S:TY} {h:AH} {L:Loc} {base:Nat}
mutual
theorem zyz:∀(p:AP) (r:AT p) (v:Value),gam X S h L base (zce p r) v->pk1 p r
 | .int k,x,v,g=>by simp only[zce,gam] at g; simp only[pk1]; exact g.2
 | .str,s,v,g=>by simp only[zce,gam] at g; simp only[pk1]; exact g.2
 | .sl _ _ _,n,v,g=>by simp only[zce,gam] at g; simp only[pk1]; exact g.1
 | .agg l,r,v,g=>by
   simp only[zce,gam] at g
   obtain⟨vs,_,g,_⟩:=g
   simp only[pk1]
   exact pk_of l r vs g
 | .bool,_,v,g=>trivial
 | .fn,_,v,g=>trivial
 | .xs,_,v,g=>trivial
 | .np _,_,v,g=>trivial
 | .aggT _,_,v,g=>trivial
 | .st _,_,v,g=>trivial
 | .cl _ _ _,_,v,g=>trivial
theorem pk_of:∀(ps:List AP) (ρ:ATs ps) (vs:List Value),gams X S h L base (instAs ps ρ) vs->pk ps ρ
 | [],_,vs,g=>trivial
 | p :: ps,(r,rs),[],g=>by simp[instAs,gams] at g
 | p :: ps,(r,rs),v :: vs,g=>by
   simp only[instAs,gams] at g
   exact⟨zyz p r v g.1,pk_of ps rs vs g.2⟩
end
end
structure Cn (s:FS) (ρ:ATs s.ps) (g:Int) (Q:TV->Int->Prop) where
 c:Prop
 h:s.s ρ g Q->pk s.ps ρ->c:=by
  intro H K
  conv at H=>whnf
  conv at K=>whnf
  try dsimp only[BG,AM,AB,AG,GW,N6,I6,I3,U6,U3,U8n,Ie,Ue,Sf,P2,P3,pk,pk1,dfl,dfn,dfg,dfw,preA,zqc,znW,zqs,bk,wok,zbS,AI,AN,IT,AL,IX,RM,EI,EN,zoL,InR,kLo,kHi,big,za8,zbT,zaA] at H K ⊢
  try simp only[forall_and,imp_and] at H
  repeat' (first | (refine And.intro ?_ ?_) | intro _)
  all_goals first | (first | with_reducible assumption | omega | rfl | decide) | ((first | apply H | apply H.1 | apply H.2 | apply H.1.1 | apply H.1.2 | apply H.2.1 | apply H.2.2 | apply H.2.2.1 | apply H.2.2.2 | apply H.2.2.2.1 | apply H.2.2.2.2 | apply H.1.2.1 | apply H.1.2.2 | apply H.1.1.1 | apply H.1.1.2) <;> (first | with_reducible assumption | omega | rfl | decide))
theorem vt {f:FuncId} {s:FS} {l:List (FuncId×FS)} (hs:List LH) (t:VT cx0 l) (B:∀ρ g Q,Cn s ρ g Q) (e:∀ρ g Q,(B ρ g Q).c=tcF (zfG cx0 l) s.pu hs f s.rs (instAs s.ps ρ) g Q:=by intro _ _ _; kernel_rfl) (hk:cx0.K f=none:=by kernel_rfl):Vl f s:=
 λρ g Q H S hp vs hw hg=>
  vtX (s:=⟨s.pu,s.rs,s.ps,λρ' g' Q'=>ρ'= ρ/\g'= g/\Q'= Q⟩) zjW hs t hk (λρ' g' Q' E=>by
   obtain⟨e1,e2,e3⟩:=E
   rw[e1,e2,e3]
   exact (e _ _ _).mp ((B _ _ _).h H (pk_of s.ps _ vs hg))) ρ g Q ⟨rfl,rfl,rfl⟩ S hp vs hw hg
end Go.Am
