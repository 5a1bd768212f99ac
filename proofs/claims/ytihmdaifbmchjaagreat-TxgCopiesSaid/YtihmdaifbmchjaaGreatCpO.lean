/-
  A COPY GOES ITS OWN WAY: the law's text.
-/
import Derived.Test.YtihmdaifbmchjaaGreatCpM
import Derived.Test.YtihmdaifbmchjaaGreatCpN
import Derived.Test.YtihmdaifbmchjaaGreatVTxL
set_option linter.unusedVariables false
set_option linter.unusedSimpArgs false
set_option maxRecDepth 100000
namespace Go.Am
open Go.Proofs
theorem zuJ {a:Addr} {A B:Prop} (b:B):zrG (some a) A B:=b
theorem zuK:∀(l:Lit),zgW l l=true:=by
 intro l
 cases l <;> simp[zgW]
theorem zi5:∀(l:List Lit),zaC l l=true
 | []=>rfl
 | a :: l=>by simp[zaC,zuK,zi5 l]
theorem ze8:∀(A M:List Nat),M.count 1≤(zbj M A).count 1+A.length
 | [],M=>Nat.le_refl _
 | a :: A,M=>by
   have h1:=ze8 A (M.set a 2)
   show _≤(zbj (M.set a 2) A).count 1+_
   have h2:M.count 1≤(M.set a 2).count 1+1:=by
    by_cases ha:a < M.length
    ·have:=zj2 (M:=M) (i:=a) (a:=M[a]) (b:=2) (List.getElem?_eq_getElem ha) 1
     rw[if_neg (show ¬(2:Nat)=1 by decide)] at this
     split at this <;> omega
    ·rw[List.set_eq_of_length_le (by omega)]
     omega
   rw[List.length_cons]
   omega
section
variable {K:Xs} {h:AH}
theorem cvX (g:AH) (b n c:Nat) {cs:List Value} {e:TypeId} (hb:g.get b=some (.cells cs e false)):zaH Tryz.prog g 53 53 (.slice (some ⟨b,0,none⟩) n c)=some (.slice (some ⟨b,0,none⟩) n c,g.set b (.cells cs e false)):=by
 unfold zaH
 rw[Tryz.underlying53]
 simp only[Tryz.underlying5,hb,if_true]
theorem zCV {tx sx:Nat} {q:Tr3} {len n:Nat} (u:UOk tx sx q len n):∃la,zcp Tryz.prog 44 (uV tx sx q len n)=some la:=by
 obtain⟨u1,u2,u3, -,u5,u6⟩:=u
 have w:=u3.wf
 have w64:∀x:Nat,x≤281474976710655→(Lit.int .u64 (x:Nat)).wf=true:=fun x hx=>by
  simp[Lit.wf,IntKind.min,IntKind.max,IntKind.signed,IntKind.bits]
  omega
 have wi:∀x:Nat,x≤281474976710655→(Lit.int .i64 (x:Nat)).wf=true:=fun x hx=>by
  simp[Lit.wf,IntKind.min,IntKind.max,IntKind.signed,IntKind.bits]
  omega
 refine⟨[.int .u64 (tx:Nat),.int .u64 (sx:Nat),.int .i64 (q.1:Nat),.int .u64 (q.2.1:Nat),.int .u32 (q.2.2:Nat),.int .i64 (len:Nat),.int .i64 (n:Nat)],?_⟩
 unfold uV
 rw[zkV (by simp[Value.formed]),zcW Tryz.underlying44 (d:=39) rfl]
 have a1:=fun x=>zbD (P:=Tryz.prog) Tryz.underlying22 (m:=39) (d:=38) rfl x
 have a2:=fun x=>zbD (P:=Tryz.prog) Tryz.underlying3 (m:=39) (d:=38) rfl x
 have b1:=zbD (P:=Tryz.prog) Tryz.underlying3 (m:=38) (d:=37) rfl (q.1:Nat)
 have b2:=zbD (P:=Tryz.prog) Tryz.underlying22 (m:=38) (d:=37) rfl (q.2.1:Nat)
 have b3:=zbD (P:=Tryz.prog) Tryz.underlying40 (m:=38) (d:=37) rfl (q.2.2:Nat)
 rw[if_pos w.1] at b1
 rw[if_pos w.2.1] at b2
 rw[if_pos w.2.2] at b3
 have k:Tryz.prog.keyLits 39 42 [.int .i64 (q.1:Nat),.int .u64 (q.2.1:Nat),.int .u32 (q.2.2:Nat)]=some [.int .i64 (q.1:Nat),.int .u64 (q.2.1:Nat),.int .u32 (q.2.2:Nat)]:=by
  rw[zcW Tryz.underlying42 (d:=38) rfl]
  generalize Tryz.prog.keyLits 38=KL at b1 b2 b3 ⊢
  simp[b1,b2,b3]
 have c1:=a1 (tx:Nat)
 have c2:=a1 (sx:Nat)
 have c3:=a2 (len:Nat)
 have c4:=a2 (n:Nat)
 rw[if_pos (w64 _ (by omega))] at c1 c2
 rw[if_pos (wi _ (by omega))] at c3 c4
 clear a1 a2
 generalize Tryz.prog.keyLits 39=KL at c1 c2 c3 c4 k ⊢
 simp[c1,c2,c3,c4,k]
theorem zrB (hk:K 3=none) (ha:K 4=some (.sum zsv)) (kk:zfM K) (kr:zrM K) {p:Option Addr} {n c:Nat} {rs:List zhz} (T:zrL h p n rs) (x nx t:Int):
 Wf Tryz.prog K 3 [.int .i64 x,.agg #[.int .u64 nx,.slice p n c],.int .i64 t] h fun v _=>v=.bool true:=by
 refine zc3 hk _ _ _ _ _ _ h _ fun g0 e0=>zdS ha (v:=.bool true) (h':=g0) rfl (Nat.le_refl _) (.inl ⟨rfl,fun _=>rfl,fun h64=>⟨fun _=>rfl,fun h300=>?_⟩⟩)
 have o0:=zaa e0
 have n0:=zab e0
 have w0:=zac e0
 refine⟨_,zah w0 rfl,fun _=>rfl,fun _=>⟨_,zah w0 rfl,_,_,_,zah w0 rfl,(zwE kr (T.sets.old o0)).mono ?_⟩⟩
 rintro _ g9 ⟨⟨b,rfl⟩,o9⟩
 refine bb ⟨fun _=>rfl,fun ht=>?_⟩ rfl
 obtain⟨N,rfl⟩:∃N:Nat,x=N:=⟨x.toNat,by omega⟩
 obtain⟨tn,rfl⟩:∃tn:Nat,t=tn:=⟨t.toNat,by omega⟩
 have hN1:64≤N:=by omega
 have hN2:N≤300:=by omega
 have hneed:=(ziX hN1 (by omega:N≤1024)).2.2 hN2
 refine (zAn kk.vNew N (by omega) g9).mono ?_
 rintro _ g11 ⟨d,Fd,rfl,D11,o11,hFd⟩
 refine⟨_,rfl,(zrz kk D11 hN1 hN2).mono ?_⟩
 rintro _ g14 ⟨g,p1,m1,F1,A,q,sp,r1,r2,all1,all2,nw,bH,cs,nH,rfl,G14,SH,hnH,hbF,hbg,stand,hsp,hA,hlen,ring,⟨Fd1,P14⟩,f14⟩
 have hu:UOk 1 1 q 40 N:=⟨by decide,by decide,stand.kq.1,stand.kq.2,by decide,hN1,by omega⟩
 obtain⟨o14, -⟩:=f14.old o11 hFd
 refine⟨_,_,rfl,zuJ ⟨fun _=>(zcL kk G14).mono ?_,fun z=>absurd rfl z⟩⟩
 rintro _ _ ⟨rfl,rfl⟩
 refine⟨_,rfl,(ze4 kk.pMap P14).mono ?_⟩
 rintro _ _ ⟨rfl,rfl⟩
 refine⟨_,rfl,(ztQ kk.ku.ks.mTaken kk.ku.ks.mAll P14.map).mono ?_⟩
 rintro _ g24 ⟨⟨p25,n26,c27,sp',rfl,hp25,S25,gp25,hn25,mem25⟩,o24,new25⟩
 obtain rfl:sp'= sp:=zgx gp25 stand.sp.gap fun x=>(mem25 x).trans (hsp x).symm
 refine⟨_,_,_,rfl,(zi2 kk (G14.old o24)).mono ?_⟩
 rintro _ g29 ⟨rfl,o29⟩
 refine⟨_,_,_,_,_,_,_,rfl,fun g37 e37=>⟨rfl,?_⟩⟩
 obtain⟨g38,k38,n38,o38,m38⟩:=zaF e37 (vs:=uC 1 1 q 40 N) rfl
 have o38g:=(o24.trans o29).trans o38
 have P38:=P14.old o38g
 have G38:=G14.old o38g
 have U38:=m38 Fd1 fun c hc=>(P14.old (o24.trans o29)).mem_lt c (by rw[P14.F_eq]; simp[hc])
 have S38:=S25.old (o29.trans o38)
 have SH38:=SH.old o38g
 have hF1:=P38.mem_lt
 have nF25:∀a,p25=some a→a.block∉F1:=fun a ea z=>by
  have:=new25 _ _ _ rfl a ea
  have:=P14.mem_lt _ z
  omega
 have eF1:=P14.F_eq
 have o38h:=((o9.trans o14).trans o38g)
 refine⟨g38,k38,(zuF kk P38 G38 (zhA _ _ (.inl rfl)) SH38 hnH.2).mono ?_⟩
 rintro _ g40 ⟨g2,p2,m2,nx2,v1,v2,u2,rfl,C40,hu2,P40,o40,hg2,hp2,hm2⟩
 have T40:=T.old ((o0.trans o38h).trans o40)
 have w40:g40.get h.next=_:=((o38h.trans o40).2 _ (by omega)).trans w0
 refine⟨_,rfl,_,_,_,_,zao w40 rfl,(zwB kk C40 T40).mono ?_⟩
 rintro _ g47 ⟨⟨v1',C47⟩,n47,f47⟩
 have hg2F:=C40.2.2
 have P47:za2 g47 p2 (p2 :: m2 :: Fd1) d m2 Fd1 0 nw (zbj (zdC N) A) 2 1:=P40.keep n47 fun c hc=>f47 c (P40.mem_lt c hc) (fun z=>hg2F (z▸hc))
 have fr47:Fr Fd1 g38 g47 (g2 :: p2 :: m2 :: Fd1):=⟨Nat.le_trans o40.1 n47,fun c hc _=>by rw[f47 c (by have:=o40.1; omega) (by omega),o40.2 c hc],fun c hc=>by
  simp only[List.mem_cons] at hc
  rcases hc with rfl | rfl | rfl | hc
  ·exact .inr hg2
  ·exact .inr hp2
  ·exact .inr hm2
  ·exact .inl hc⟩
 refine (zcL kk C47).mono ?_
 rintro _ _ ⟨rfl,rfl⟩
 refine⟨_,rfl,(ze4 kk.pMap P47).mono ?_⟩
 rintro _ _ ⟨rfl,rfl⟩
 refine⟨_,rfl,fun i54 e54=>?_⟩
 obtain⟨kn,rfl,hkn⟩:∃kn:Nat,i54=kn∧kn≤20:=by
  split at e54
  ·exact⟨20,e54,by decide⟩
  ·exact⟨tn,e54,by omega⟩
 have hcnt:40≤(zbj (zdC N) A).count 1:=by
  have h1:=ze8 A (zdC N)
  rw[znr (by omega) (by omega)] at h1
  have h2:=stand.size
  omega
 refine (zqa kk.mMany kk.mCount kk.mAlloc kk.mIs kk.mSet ⟨Fd1,P47⟩ (by omega) (n:=kn) (by omega) (by omega)).mono ?_
 rintro _ g56 ⟨p57,c59,A',rfl, -,hA', -, -,B56,f56⟩
 have C56:=C47.fr f56
 refine⟨_,_,_,_,rfl,(zcL kk C56).mono ?_⟩
 rintro _ _ ⟨rfl,rfl⟩
 refine⟨_,rfl,fun g64 e64=>?_⟩
 have o64:=zaa e64
 have n64:=zab e64
 refine⟨_,_,_,_,cvX g64 g56.next 1 1 (zac e64),?_⟩
 have nr68:=zaj g56.next g64 (.cells [.int .u8 120] 5 false)
 have w68:=zag g56.next g64 (.cells [.int .u8 120] 5 false)
 have o68:=o64.near nr68 (Nat.le_refl _)
 have l68:(g64.set g56.next (.cells [.int .u8 120] 5 false)).next=g56.next+1:=by rw[nr68.1,n64]
 generalize g64.set g56.next (.cells [.int .u8 120] 5 false)=g68 at w68 o68 l68
 have hM1:1∈zbj (zbj (zdC N) A) A':=List.count_pos_iff.1 (by have:=ze8 A' (zbj (zdC N) A); omega)
 refine (zyB kk.pPut kk.mAlloc kk.mIs kk.mSet kk.ku.ks.pWrite kk.ku.ks.dWrite kk.ku.ks.dCount kk.ku.ks.dHas kk.ku.ks.dSpend kk.ku.ks.sOf kk.ku.ks.sMore (B56.old o68) (by decide) (data:=[120]) (za7 (l:=[120]) w68 (by omega) rfl) (.inr ⟨_,_,rfl⟩) (fun a ea z=>by
  cases ea
  have:=B56.lt _ z
  exact absurd this (Nat.lt_irrefl _)) (by simp) (by decide) hM1).mono ?_
 rintro _ g70 ⟨q',nw2,M2,F3,rfl,puts,⟨Fd3,P70⟩,f70⟩
 have C70:=(C56.old o68).fr f70
 refine⟨_,_,_,_,rfl,(zcL kk C70).mono ?_⟩
 rintro _ _ ⟨rfl,rfl⟩
 refine⟨_,rfl,(zwC kk.pNext P70 (by decide)).mono ?_⟩
 rintro _ g79 ⟨P79,f79⟩
 have fr79:Fr Fd1 g38 g79 (g2 :: F3):=fr47.trans ((((f56.trans (o68.fr _)).trans f70).trans f79).cons)
 obtain⟨nd1,nd2,nd3⟩:=P38.ndm
 have sub1:∀c,c∈Fd1→c∈F1:=fun c hc=>by rw[eF1]; simp[hc]
 have G79:zco g79 (g2 :: F3) g (znz p1 1 (.slice none 0 0) (.slice (some ⟨bH,0,none⟩) nH zak) (uC 1 1 q 40 N)) 77:=zco.fr ⟨G38.1,G38.2.1,fun z=>G38.2.2 (sub1 _ z)⟩ fr79
 have U79:=U38.fr fr79
 have p79:zco g79 (g2 :: F3) p1 _ _:=zco.fr ⟨P38.cell,P38.lt,nd2⟩ fr79
 have m79:zco g79 (g2 :: F3) m1 _ _:=zco.fr ⟨P38.map.2.2,P38.map.2.1,nd3⟩ fr79
 have hml:=P38.map.1
 have S79:=S38.fr fr79 (fun a ea z=>nF25 a ea (sub1 _ z))
 refine (zi3 kk G79 (zhA _ _ (.inl rfl))).mono ?_
 rintro _ g81 ⟨⟨b83,rfl⟩,o81⟩
 refine⟨_,_,_,_,rfl,fun z=>absurd z (by decide),fun _=>(zi3 kk (G79.old o81) (zhA _ _ (.inl rfl))).mono ?_⟩
 rintro _ g87 ⟨⟨b89,rfl⟩,o87⟩
 have o87h:=o81.trans o87
 refine⟨_,_,_,_,rfl,fun _=>(zi2 kk (G79.old o87h)).mono ?_,fun z=>absurd rfl z⟩
 rintro _ g93 ⟨rfl,o93⟩
 have o93h:=o87h.trans o93
 obtain⟨la,hla⟩:=zCV hu
 refine⟨_,_,_,_,_,_,_,rfl,_,_,_,_,_,_,_,(U79.old o93h).ld rfl,la,la,hla,hla,fun _=>(zcL kk (G79.old o93h)).mono ?_,fun z=>absurd (zi5 la) (by rw[z]; decide)⟩
 rintro _ _ ⟨rfl,rfl⟩
 refine⟨_,rfl,zcX kk.pStamp _ _ _ (zae ⟨_,zah (p79.old o93h).1 rfl,_,rfl,fun _=>(zcL kk (G79.old o93h)).mono ?_,fun z=>absurd rfl z⟩)⟩
 rintro _ _ ⟨rfl,rfl⟩
 refine⟨_,rfl,zdE kk.pMap _ _ _ (zae ⟨_,zah (p79.old o93h).1 rfl,_,rfl,?_⟩)⟩
 have M93:ze3 g93 m1 (zbj (zdC N) A):=⟨hml,(m79.old o93h).2.1,(m79.old o93h).1⟩
 refine (zhy kk.ku.ks.mTaken kk.ku.ks.mAll M93).mono ?_
 rintro _ g123 ⟨⟨p124,n125,c126,sp2,rfl,s1,s2,s3,s4,s5⟩,o123⟩
 have o123h:=o93h.trans o123
 have was:∀{g'},zaq g' p25 n26 2 (spC sp')→zhe g' (.slice p25 n26 c27) (fun x=>x∈exN sp'):=fun S=>⟨_,_,_,_,rfl,hp25,S,gp25,hn25,fun x=>Iff.rfl⟩
 refine⟨_,_,_,rfl,(znt kk.setSame (f1:=fun x=>(zbj (zdC N) A)[x]?= some 2) ⟨_,_,_,sp2,rfl,s1,s2,s3,s4,s5⟩ (was (S79.old o123h)) (fun x=>(hsp x).symm)).mono ?_⟩
 rintro _ _ ⟨rfl,rfl⟩
 have stay:=puts.ext
 have hl2:nw2.length=N:=by
  obtain⟨i, -, -, -, -,rfl, -⟩:=puts
  rw[List.length_set,hlen]
 have stand2:zi0 nw2 N q sp' r1 r2 all1 all2 A:=stand.stay fun a ha=>(stay a (zj8 _ _ _ (hA a ha))).1
 have ring2:∀i,i < 4→nw2[i]?= some (ziR 1 1 q 40 N i):=fun i hi=>by
  obtain⟨j, -,h4, -, -,rfl, -⟩:=puts
  rw[List.getElem?_set,if_neg (by omega)]
  exact ring i hi
 refine .inl ⟨rfl,(U79.old o87h).ld rfl,(U79.old o93h).ld rfl,(zrA kk (P79.dev.old o123h) hl2 hN1 (by omega) stand2 ring2).mono ?_⟩
 rintro _ g130 ⟨g5,p5,m5,F5,Fd5,b5,v5,rfl,G130,P130,f130⟩
 have sub3:∀c,c∈Fd3→c∈g2 :: F3:=fun c hc=>by rw[P79.F_eq]; simp[hc]
 have U130:zco g130 (g5 :: F5) _ _ _:=zco.fr ⟨(U79.old o123h).1,(U79.old o123h).2.1,fun z=>(U79.old o123h).2.2 (sub3 _ z)⟩ f130
 have S130:=(S79.old o123h).fr f130 (fun a ea z=>by
  rcases fr79.2.2 _ (sub3 _ z) with y | y
  ·exact nF25 a ea (sub1 _ y)
  ·have hn:n26=0∨a.block < g38.next:=by
    rcases S38.2 with w | ⟨b,off,al,e,ro,e1,e2, -⟩
    ·exact .inl w
    ·rw[ea] at e1; cases e1; exact .inr e2
   rcases hn with w | w
   ·have:=S38.1
    rw[w,zb1] at this
    exact stand.sp.ne (List.eq_nil_of_length_eq_zero (by omega))
   ·omega)
 refine⟨_,_,rfl,fun _=>zuJ ((zi3 kk G130 (zhA _ _ (.inr ⟨_,_,rfl⟩))).mono ?_),fun z=>absurd rfl z⟩
 rintro _ g134 ⟨⟨b136,rfl⟩,o134⟩
 refine⟨_,_,_,_,rfl,fun _=>(zi2 kk (G130.old o134)).mono ?_,fun z=>absurd rfl z⟩
 rintro _ g140 ⟨rfl,o140⟩
 have o140h:=o134.trans o140
 refine⟨_,_,_,_,_,_,_,rfl,_,_,_,_,_,_,_,(U130.old o140h).ld rfl,la,la,hla,hla,fun _=>(zcL kk (G130.old o140h)).mono ?_,fun z=>absurd (zi5 la) (by rw[z]; decide)⟩
 rintro _ _ ⟨rfl,rfl⟩
 refine⟨_,rfl,(ze4 kk.pMap (P130.old o140h)).mono ?_⟩
 rintro _ _ ⟨rfl,rfl⟩
 refine⟨_,rfl,(zhy kk.ku.ks.mTaken kk.ku.ks.mAll (P130.old o140h).map).mono ?_⟩
 rintro _ g164 ⟨⟨p165,n166,c167,sp3,rfl,t1,t2,t3,t4,t5⟩,o164⟩
 refine⟨_,_,_,rfl,(znt kk.setSame (f1:=fun x=>(zbj (zdC N) (exN sp'))[x]?= some 2) ⟨_,_,_,sp3,rfl,t1,t2,t3,t4,t5⟩ (was (S130.old (o140h.trans o164))) (fun x=>zuG stand.sp.inn (by omega) x)).mono ?_⟩
 rintro _ _ ⟨rfl,rfl⟩
 exact .inl ⟨rfl,(U130.old o134).ld rfl,(U130.old o140h).ld rfl,rfl⟩
theorem zqs {g:Nat} {a:Value} (r:RdV Tryz.prog h (g+1) 3 a):∃x:Int,a=.int .i64 x:=by
 unfold RdV at r
 rw[Tryz.underlying3] at r
 simp only at r
 unfold Rd at r
 rw[Tryz.underlying3] at r
 obtain⟨x,e, -⟩:=r
 exact⟨x,by simpa using e⟩
theorem zo5 {vs:List Value} (r:RdA Tryz.prog h 8 [3,25,3] vs):∃x nx p n c rs t,vs=[.int .i64 x,.agg #[.int .u64 nx,.slice p n c],.int .i64 t]∧zrL h p n rs:=by
 obtain⟨a,b,c,rfl,r1,r2,r3⟩:=zEb r
 obtain⟨x,rfl⟩:=zqs (g:=7) r1
 obtain⟨t,rfl⟩:=zqs (g:=7) r3
 unfold RdV at r2
 rw[Tryz.underlying25] at r2
 obtain⟨cs,rfl,r2⟩:=r2
 obtain⟨nx,p,n,c,rs,rfl, -,T⟩:=zyY (g:=2) r2
 exact⟨x,nx,p,n,c,rs,t,rfl,T⟩
end
end Go.Am
