/-
  Texts of this proof, part 36. No condition.
-/
import Derived.Test.YtmnbboleclchcaaGreatFTcK
set_option linter.unusedVariables false
set_option linter.unusedSimpArgs false
set_option maxRecDepth 100000
namespace Go.Am
open Go.Proofs
theorem zwQ {S:TY} {g:Int} {hp:AH} (w:WT cx0 S g hp) {base n T:Nat} {wr fr kc:Bool} {v:Value} (s:SlV cx0 S base wr fr kc T n v):
 ∃p c,v=.slice p n c/\∀j,j < n->∃b off,p=some ⟨b,off,none⟩/\∀i t,(cx0.fl T)[i]?= some t->∃x,okC cx0 S t x/\∀h',Old hp h'->ld1 h' b (off+j * sz cx0 T+i)=some x:=by
 obtain⟨hn,p,c,rfl,k⟩:=s
 rcases k with ⟨rfl,rfl,rfl⟩ | ⟨b,off,ro,e,cc,rfl,k1,k2,k3,k4,k5⟩
 ·simp
 ·obtain⟨m1,m2,al,r,m3,m4,m5⟩:=w.1 b _ _ _ k1
  exact⟨_,c,rfl,λj hj=>⟨b,off,rfl,λi t hi=>by
   obtain⟨x,e1,e2⟩:=m5 _ _ (k2 j hj i t hi)
   exact⟨x,e2,λh' o=>zah ((o.2 b m1).trans m3) e1⟩⟩⟩
theorem ztm:cx0.fl 99=[62,9,4,62,62,62,3,3,62,94,97]:=by kernel_rfl
theorem zlc:sz cx0 99=11:=by unfold sz; rfl
theorem zgB {S:TY} {x:Value} (h:okC cx0 S 62 x):∃i:Int,x=.int .u64 i:=by grind[okC,zsw]
theorem zye {S:TY} {x:Value} (h:okC cx0 S 4 x):∃b:Bool,x=.bool b:=by grind[okC,ck4]
def hangF (n:Nat) (prev:Nat->Int) (id:Int):List Nat:=(List.range n).filter λi=>decide (prev i=id)
def zxi (prev:Nat->Int) (id:Int) (j:Nat):Nat:=(hangF j prev id).length
theorem zsE (prev:Nat->Int) (id:Int) (j:Nat):zxi prev id (j+1)=zxi prev id j+(if prev j=id then 1 else 0):=by grind[zxi,hangF,List.range_succ]
theorem zuA {n:Nat} {prev:Nat->Int} {id:Int} {j:Nat} (hj:j < n) (h:prev j=id):(hangF n prev id)[zxi prev id j]?= some j:=by
 unfold zxi hangF
 obtain⟨d,rfl⟩:∃d,n=j+(d+1):=⟨n - j - 1,by omega⟩
 rw[List.range_add,List.filter_append,Qu (Qc _),Nat.sub_self,List.range_succ_eq_map]
 grind
theorem zn3 {n:Nat} {prev:Nat->Int} {id:Int}:∀x∈hangF n prev id,x < n:=λx hx=>List.mem_range.1 (List.mem_filter.1 hx).1
theorem zo1 {n:Nat} {prev:Nat->Int} {id:Int}:(hangF n prev id).length<=n:=by grind[hangF]
theorem zwR {h:AH} {p:Option Addr} {n c:Nat} {prev:Nat->Int} {id:Int} (hn:n<=281474976710656) {ya pb0 pb1:Nat} {JJ:Nat->AH->Prop} {DD:AH->Prop} {BB:AH->AH->Prop}
 (hs:∀i h1,JJ i h1->(∃t ro,h1.get pb0=some (.cells [.slice p n c] t ro))/\(∃t ro,h1.get pb1=some (.cells [.int .u64 id] t ro))/\∀j,j < n->∃b off,p=some ⟨b,off,none⟩/\ld1 h1 b (off+j * 11+4)=some (.int .u64 (prev j)))
 (hr:∀(k:Nat) (h1:AH),k < (hangF n prev id).length->JJ k h1->Wy Tryz.prog KB ya [.int .i64 ((hangF n prev id)[k]?.getD 0:Nat)] h1 λv h2=>((v=.bool true/\JJ (k+1) h2)\/(v=.bool false/\DD h2))/\BB h1 h2)
 (h0:JJ 0 h):Wf Tryz.prog KB 237 [Value.func (Fn.yield ya) #[] #[],.pointer (some ⟨pb0,0,none⟩),.pointer (some ⟨pb1,0,none⟩)] h λ_ h'=>JJ (hangF n prev id).length h'\/DD h':=by
 obtain⟨⟨t0,r0,c0⟩, -⟩:=hs 0 h h0
 refine ze7 (xb rfl) _ _ _ h _ (zaa ⟨_,_,_,zah c0 rfl,λi k g=>∃u:Nat,i=u/\u<=n/\n - u=k/\JJ (zxi prev id u) g,⟨_,0,rfl,Qg _,rfl,h0⟩,?_⟩)
 rintro k6 g7 i9 ⟨u,rfl,hu,rfl,J7⟩
 refine⟨λz=>?_,λz=>.inl (by rw[show u=n by omega] at J7; exact J7)⟩
 obtain⟨⟨t1,r1,c1⟩,⟨t2,r2,c2⟩,T7⟩:=hs _ _ J7
 obtain⟨b,off,rfl,l4⟩:=T7 u (by omega)
 have hu' : u < n:=by omega
 have ps:=zsE prev id u
 refine zaa ⟨_,_,_,zah c1 rfl,zaa ⟨by omega,z,_,by rw[Qh]; omega,zaa ⟨_,zah c2 rfl,λe=>?_,λe i25 e25=>?_⟩⟩⟩
 ·have hg:=zuA hu' e
  have hw:=hr _ g7 (Qo.1 hg).1 J7
  rw[hg] at hw
  refine hw.mono' ?_
  rintro v g22 ⟨⟨rfl,J22⟩ | ⟨rfl,D22⟩, -⟩
  ·refine⟨true,rfl,λi24 e24=>?_⟩
   have e24:=zaT e24 (by omega) (by omega)
   exact⟨n - (u+1),by omega,u+1,by omega,hu',rfl,by grind⟩
  grind
 ·have e25:=zaT e25 (by omega) (by omega)
  exact⟨n - (u+1),by omega,u+1,by omega,hu',rfl,by grind⟩
theorem zz9 {S:TY} {g:Int} {hp:AH} (w:WT cx0 S g hp) {base T:Nat} {wr fr:Bool} {v:Value} (s:gam cx0 S hp L0 base (.cp wr fr T) v):
 ∃b off,v=.pointer (some ⟨b,off,none⟩)/\∀i t,(cx0.fl T)[i]?= some t->∃x,okC cx0 S t x/\∀h',Old hp h'->ld1 h' b (off+i)=some x:=by
 obtain⟨b,off,ro,e,c,rfl,k1,k2,k3⟩:=s
 obtain⟨m1,m2,al,r,m3,m4,m5⟩:=w.1 b _ _ _ k1
 exact⟨b,off,rfl,λi t hi=>by
  obtain⟨x,e1,e2⟩:=m5 _ _ (k2 i t hi)
  exact⟨x,e2,λh' o=>zah ((o.2 b m1).trans m3) e1⟩⟩
theorem zqi {S:TY} {i:Int} (h:okC cx0 S 62 (.int .u64 i)):InR .u64 i:=by
 unfold okC at h
 obtain⟨j,e,h1,h2⟩:=h
 cases e
 exact⟨h1,h2⟩
theorem zsF (v59:Vl 59 s59) {S:TY} {g:Int} {hp h1:AH} (hw:WT cx0 S g hp) (o:Old hp h1) {n:Nat} {v:Value} (gx:SlV cx0 S hp.next false false false 99 n v) (hn:n<=big) {i:Int} (hi:InR .u64 i):
 Wf Tryz.prog KB 59 [v,.int .u64 i] h1 λr h'=>Old h1 h'/\∃c:Int,r=.int .i64 c/\c < n:=by
 refine (v59 (n,(i,())) g (λr g'=>∃c:Int,r=.int .i64 c/\c < n) ?_ S h1 _ (hw.old o) ?_).mono ?_
 ·exact⟨hn,λc h1 h2=>⟨c,rfl,h2⟩⟩
 ·exact⟨gx.weak (λq=>by omega) (λq=>by grind) (λq=>by omega),⟨rfl,hi⟩,trivial⟩
 ·rintro v h' ⟨S2,r,g2,xx,wt2,nx,fr,gm, -,c,rfl,hc⟩
  exact⟨⟨nx,λb hb=>fr b hb (.inl rfl)⟩,c,gm.1,hc⟩
theorem zAa (v59:Vl 59 s59):Vl 192 zzZ:=zaY λρ g Q H S hp vs hw hg=>by
 obtain⟨(n:Nat),_,_⟩:=ρ
 obtain⟨x,y,rfl,gx,gy⟩:=zec (a:=.sl false false false 99 n) (b:=.cp false false 99) hg
 obtain⟨b0,off0,rfl,pat⟩:=zz9 hw gy
 have hn:n<=281474976710656:=gx.1
 obtain⟨p,c,rfl,lat⟩:=zwQ hw gx
 obtain⟨hbig,H⟩:=H
 have bl:∀(b:Bool) (h' : AH),Old hp h'->Fin S g hp true Q (.bool b) h':=λb h' o=>za5 hw o (zit _) rfl (zdB (q:=λv=>Q v g) H b)
 refine zez (xb rfl) _ _ _ _ hp _ λg0 e0 g1 e1=>?_
 have o0:=zab e0
 have n0:=zad e0
 have o1:=zab e1
 have n1:=zad e1
 have o01:=o0.trans o1
 have w0:g1.get hp.next=some (.cells [.slice p n c] 89 false):=(by simp_all)
 have w1:=zae e1
 obtain⟨x2,t2,l2⟩:=pat 2 4 rfl
 obtain⟨sb,rfl⟩:=zye t2
 refine⟨_,zah w1 rfl,zaa ?_⟩
 cases sb
 ·exact .inr ⟨l2 _ o01,bl _ _ o01⟩
 refine .inl ⟨l2 _ o01,_,_,_,zah w0 rfl,_,zah w1 rfl,zaa ?_⟩
 obtain⟨x3,t3,l3⟩:=pat 3 62 rfl
 obtain⟨ow,rfl⟩:=zgB t3
 refine⟨ow,l3 _ o01,(zsF v59 hw o01 gx hbig (zqi t3)).mono ?_⟩
 rintro _ g13 ⟨o13,pl,rfl,hpl⟩
 have o113:=o01.trans o13
 refine⟨_,rfl,λ_=>bl _ _ o113,λz=>?_⟩
 have w13:g13.get hp.next=_:=(o13.2 _ (by omega)).trans w0
 refine⟨_,_,_,zah w13 rfl,?_⟩
 obtain⟨b1,off1,rfl,lat1⟩:=lat pl.toNat (by omega)
 obtain⟨x4,t4,l4⟩:=lat1 2 4 rfl
 obtain⟨sb,rfl⟩:=zye t4
 refine zaa ⟨by omega,hpl,?_⟩
 cases sb
 rotate_left
 ·exact .inl ⟨l4 _ o113,bl _ _ o113⟩
 refine .inr ⟨l4 _ o113,λg20 e20=>?_⟩
 have o20:=zab e20
 have n20:=zad e20
 have k21:=zam g13.next g20 (.cells ([Value.int .i64 0].set 0 (.int .i64 0)) 3 false)
 refine⟨_,zaN (zae e20) (by simp),?_⟩
 generalize e21:g20.set g13.next (.cells ([Value.int .i64 0].set 0 (.int .i64 0)) 3 false)=g21 at k21 ⊢
 have n21:=k21.1
 have o21:Old g13 g21:=⟨by omega,λc hc=>by rw[k21.2 c (by omega),o20.2 c hc]⟩
 have m21:g21.get g13.next=some (.cells [.int .i64 ((0:Nat):Int)] 3 false):=by grind[zaf]
 have ox:Old hp g21:=o113.trans o21
 have w21:g21.get hp.next=_:=(o21.2 _ (by have:=o13.1; omega)).trans w13
 have w21' : g21.get g0.next=some (.cells [.pointer (some ⟨b0,off0,none⟩)] 93 false):=(o21.2 _ (by have:=o13.1; omega)).trans ((o13.2 _ (by omega)).trans w1)
 obtain⟨x5,t5,l5⟩:=pat 0 62 rfl
 obtain⟨id,rfl⟩:=zgB t5
 refine⟨_,_,_,zah w21 rfl,_,zah w21' rfl,zaa ⟨id,l5 _ ox,zb5 (xb rfl) _ _ _ _ g21 _ λg2 e2 g3 e3=>⟨237,[.pointer (some ⟨g21.next,0,none⟩),.pointer (some ⟨g2.next,0,none⟩)],rfl,?_⟩⟩⟩
 have o2:=zab e2
 have n2:=zad e2
 have o3:=zab e3
 have n3:=zad e3
 have l13:=o13.1
 have c2:g3.get g21.next=some (.cells [.slice (some ⟨b1,off1,none⟩) n c] 89 false):=(by simp_all)
 have c3:=zae e3
 have o23:=o2.trans o3
 have v0:g3.get hp.next=_:=(o23.2 _ (by omega)).trans w21
 have v1:g3.get g0.next=_:=(o23.2 _ (by omega)).trans w21'
 have v2:g3.get g13.next=_:=(o23.2 _ (by omega)).trans m21
 have o03:Old hp g3:=ox.trans o23
 have hprev:∀j,∃i:Int,j < n->∀h',Old hp h'->ld1 h' b1 (off1+j * 11+4)=some (.int .u64 i):=λj=>by
  rcases QK j n with hj | hj
  ·obtain⟨b2,off2,q,lat2⟩:=lat j hj
   cases q
   obtain⟨x,t,l⟩:=lat2 4 62 rfl
   obtain⟨i,rfl⟩:=zgB t
   exact⟨i,λ_=>l⟩
  ·exact⟨0,by omega⟩
 obtain⟨prev,hprev⟩:=Q4 hprev
 have fo:∀{g:AH},Fm g3 (·= g13.next) g->Old hp g:=λq=>⟨by have:=q.1; omega,λc hc=>by rw[q.2 c (by omega) (by omega),o03.2 c hc]⟩
 have fd:∀{g:AH},Fm g3 (·= g13.next) g->Old hp (g.del g3.next):=λq=>⟨(fo q).1,λc hc=>by rw[zaU _ (by omega),(fo q).2 c hc]⟩
 have hlen:=zo1 (n:=n) (prev:=prev) (id:=id)
 have sI:∀i:Nat,zqg g3 ((λi g=>(∃m:Nat,m<=i/\g.get g13.next=some (.cells [.int .i64 (m:Int)] 3 false))/\g13.next < g.next:Nat->AH->Prop) i):=λi h1 h2 q hn k=>by grind
 refine⟨Jr g3 (·= g13.next) _,Dr g3 (·= g13.next) λ_ _=>False,(hangF n prev id).length,λi=>[.int .i64 ((hangF n prev id)[i]?.getD 0:Nat)],Gr g3,Br g3,⟨rfl,rfl⟩,by simp,jr0 λg f k=>⟨by grind,by have:=f.1; omega⟩,jrN sI,drN λ_ _ _ q=>q.elim,jrG sI,drG λ_ _ _ q=>q.elim,gr1,?_,?_,?_,?_⟩
 ·rintro k g11 hk q - i14 ei
  refine⟨rfl,rfl,λg16 nr hL=>?_⟩
  obtain⟨⟨m,hm,w⟩,hlt⟩:=q.2
  have d16:g16.get g13.next=some (.cells [.int .i64 (m:Int)] 3 false):=by rw[nr.2 _ (by omega)]; omega
  have u0:g16.get hp.next=_:=(nr.2 _ (by omega)).trans ((q.1.2 _ (by omega) (by omega)).trans v0)
  have u1:g16.get g0.next=_:=(nr.2 _ (by omega)).trans ((q.1.2 _ (by omega) (by omega)).trans v1)
  have f2:=nr.1
  have o16:Old hp g16:=⟨by omega,λc hc=>by rw[nr.2 c (by omega),(fo q.1).2 c hc]⟩
  dsimp only at ei
  rw[Qe hk] at ei
  simp only[QV,Q8,Value.int.injEq,true_and,and_true] at ei
  have hx:=zn3 _ (Qj hk)
  subst ei
  generalize (hangF n prev id)[k]=j at hx
  obtain⟨b2,off2,qq,lat2⟩:=lat j hx
  cases qq
  obtain⟨x6,t6,l6⟩:=lat2 3 62 rfl
  obtain⟨i6,rfl⟩:=zgB t6
  refine⟨_,_,_,zah u0 rfl,zaa ⟨by omega,by omega,_,by exact l6 _ o16,_,zah u1 rfl,zaa ⟨ow,l3 _ o16,λ_=>⟨_,zah d16 rfl,λi55 e55=>?_⟩,λ_=>?_⟩⟩⟩
  ·have e55:=zaT e55 (by omega) (by omega)
   obtain⟨r1,r2,r3⟩:=zeg q.1 nr (b:=g13.next) (by omega) rfl (.cells ([Value.int .i64 (m:Int)].set 0 (.int .i64 i55)) 3 false)
   exact⟨_,by grind[zaN],r1,⟨r2,⟨m+1,by omega,by grind[zaf]⟩,Nat.lt_trans (by omega) r2.1⟩,r3⟩
  ·obtain⟨r2,r3⟩:=zev q.1 nr
   exact⟨rfl,⟨r2,by grind,by omega⟩,r3⟩
 ·intro JJ DD h1 h2 h3 hr h25 h0
  exact zwR (BB:=Br g3) hn (λi a q=>⟨⟨_,_,((h1 _ _ q).1.2 _ (by omega) (by omega)).trans c2⟩,⟨_,_,((h1 _ _ q).1.2 _ (by omega) (by omega)).trans c3⟩,λj hj=>⟨b1,off1,rfl,hprev j hj _ (fo (h1 _ _ q).1)⟩⟩) hr h0
 ·rintro h ⟨f,⟨m,hm,w⟩,hlt⟩
  have d:(h.del g3.next).get g13.next=_:=(zaU _ (by omega)).trans w
  exact⟨_,zah d rfl,λ_=>bl _ _ (fd f),λ_=>bl _ _ (fd f)⟩
 ·rintro x h - ⟨-,q⟩
  grind
theorem zDB (v59:Vl 59 s59):Vl 155 zBo:=zaY λρ g Q H S hp vs hw hg=>by
 obtain⟨(n:Nat),(id:Int),_⟩:=ρ
 obtain⟨x,y,rfl,gx,gy⟩:=zec (a:=.sl false false false 99 n) (b:=.int .u64 id) hg
 obtain⟨rfl,gy⟩:=gy
 have hn:n<=281474976710656:=gx.1
 obtain⟨p,c,rfl,lat⟩:=zwQ hw gx
 rw[zlc,ztm] at lat
 obtain⟨hbig,H⟩:=H
 have bl:∀(i:Int) (h' : AH),InR .u64 i->Old hp h'->Fin S g hp true Q (.int .u64 i) h':=λi h' r o=>za5 hw o (zwz r) rfl (H i r)
 have z0:InR .u64 0:=⟨by decide,by decide⟩
 refine zjv (xb rfl) _ _ _ _ hp _ λg0 e0 g1 e1=>?_
 have o0:=zab e0
 have n0:=zad e0
 have o1:=zab e1
 have n1:=zad e1
 have o01:=o0.trans o1
 have w0:g1.get hp.next=some (.cells [.slice p n c] 89 false):=(by simp_all)
 have w1:=zae e1
 refine⟨_,_,_,zah w0 rfl,(zsF v59 hw o01 gx hbig gy).mono ?_⟩
 rintro _ g6 ⟨o6,pl,rfl,hpl⟩
 refine⟨_,rfl,λg8 e8=>?_⟩
 have o8:=zab e8
 have n8:=zad e8
 have l6:=o6.1
 have k9:=zam g6.next g8 (.cells ([Value.int .i64 0].set 0 (.int .i64 pl)) 3 false)
 refine⟨_,zaN (zae e8) (by simp),?_⟩
 generalize e9:g8.set g6.next (.cells ([Value.int .i64 0].set 0 (.int .i64 pl)) 3 false)=g9 at k9 ⊢
 have n9:=k9.1
 have o9:Old g6 g9:=⟨by omega,λc hc=>by rw[k9.2 c (by omega),o8.2 c hc]⟩
 have w6:g9.get g6.next=some (.cells [.int .i64 pl] 3 false):=by grind[zaf]
 have w9:g9.get hp.next=_:=(o9.2 _ (by omega)).trans ((o6.2 _ (by omega)).trans w0)
 have w9' : g9.get g0.next=some (.cells [.int .u64 0] 62 false):=(o9.2 _ (by omega)).trans ((o6.2 _ (by omega)).trans w1)
 have ox:Old hp g9:=(by grind[Old.trans])
 have ret0:∀{h:AH} {i:Int},Old hp h->InR .u64 i->(∃j:Int,h.get g0.next=some (.cells [.int .u64 j] 62 false))->∃h11:AH,st1 h g0.next 0 (.int .u64 i)=some h11/\(∃i12:Int,ld1 h11 g0.next 0=some (.int .u64 i12)/\Fin S g hp true Q (.int .u64 i12) h11):=λ{h i} o r w=>by
  obtain⟨j,w⟩:=w
  have ns:=zam g0.next h (.cells ([Value.int .u64 j].set 0 (.int .u64 i)) 62 false)
  exact⟨_,zaN w (by simp),i,by grind[zah,zaf],bl _ _ r ⟨by rw[ns.1]; grind,λc hc=>by rw[ns.2 c (by omega),o.2 c hc]⟩⟩
 refine⟨_,zah w6 rfl,λ_=>ret0 ox z0 ⟨_,w9'⟩,λz=>⟨_,_,_,zah w9 rfl,_,zah w6 rfl,?_⟩⟩
 obtain⟨b1,off1,rfl,lat1⟩:=lat pl.toNat (by omega)
 obtain⟨x4,t4,l4⟩:=lat1 2 4 rfl
 obtain⟨sb,rfl⟩:=zye t4
 refine zaa ⟨by omega,hpl,?_⟩
 cases sb
 ·exact .inr ⟨l4 _ ox,ret0 ox z0 ⟨_,w9'⟩⟩
 refine .inl ⟨l4 _ ox,_,_,_,zah w9 rfl,zb5 (xb rfl) _ _ _ _ g9 _ λg2 e2 g3 e3=>⟨237,[.pointer (some ⟨g9.next,0,none⟩),.pointer (some ⟨g2.next,0,none⟩)],rfl,?_⟩⟩
 have o2:=zab e2
 have n2:=zad e2
 have o3:=zab e3
 have n3:=zad e3
 have c2:g3.get g9.next=some (.cells [.slice (some ⟨b1,off1,none⟩) n c] 89 false):=(by simp_all)
 have c3:=zae e3
 have o23:=o2.trans o3
 have v0:g3.get hp.next=_:=(o23.2 _ (by omega)).trans w9
 have v1:g3.get g0.next=_:=(o23.2 _ (by omega)).trans w9'
 have v2:g3.get g6.next=_:=(o23.2 _ (by omega)).trans w6
 have o03:Old hp g3:=ox.trans o23
 have hprev:∀j,∃i:Int,j < n->∀h',Old hp h'->ld1 h' b1 (off1+j * 11+4)=some (.int .u64 i):=λj=>by
  rcases QK j n with hj | hj
  ·obtain⟨b2,off2,q,lat2⟩:=lat j hj
   cases q
   obtain⟨x,t,l⟩:=lat2 4 62 rfl
   obtain⟨i,rfl⟩:=zgB t
   exact⟨i,λ_=>l⟩
  ·exact⟨0,by omega⟩
 obtain⟨prev,hprev⟩:=Q4 hprev
 have fo:∀{g:AH},Fm g3 (·= g0.next) g->Old hp g:=λq=>⟨by have:=q.1; omega,λc hc=>by rw[q.2 c (by omega) (by omega),o03.2 c hc]⟩
 have fd:∀{g:AH},Fm g3 (·= g0.next) g->Old hp (g.del g3.next):=λq=>⟨(fo q).1,by grind[zaU]⟩
 have sI:∀i:Nat,zqg g3 ((λ_ g=>g.get g0.next=some (.cells [.int .u64 0] 62 false)/\g0.next < g.next:Nat->AH->Prop) i):=λi h1 h2 q hn k=>by grind
 have sE:∀x:AX,zqg g3 ((λx g=>x=.ret/\(∃i:Int,InR .u64 i/\g.get g0.next=some (.cells [.int .u64 i] 62 false))/\g0.next < g.next:AX->AH->Prop) x):=λx h1 h2 q hn k=>by grind
 refine⟨Jr g3 (·= g0.next) _,Dr g3 (·= g0.next) _,(hangF n prev id).length,λi=>[.int .i64 ((hangF n prev id)[i]?.getD 0:Nat)],Gr g3,Br g3,⟨rfl,rfl⟩,by simp,jr0 λg f k=>⟨(by grind),by have:=f.1; omega⟩,jrN sI,drN sE,jrG sI,drG sE,gr1,?_,?_,?_,?_,?_⟩
 ·rintro k g11 hk q - i14 ei
  refine⟨rfl,rfl,λg16 nr hL=>?_⟩
  have d16:g16.get g0.next=some (.cells [.int .u64 0] 62 false):=by rw[nr.2 _ (by omega)]; exact q.2.1
  have u0:g16.get hp.next=_:=(nr.2 _ (by omega)).trans ((q.1.2 _ (by omega) (by omega)).trans v0)
  have u2:g16.get g6.next=_:=(nr.2 _ (by omega)).trans ((q.1.2 _ (by omega) (by omega)).trans v2)
  have f1:=(fo q.1).1
  have f2:=nr.1
  have o16:Old hp g16:=⟨by omega,λc hc=>by rw[nr.2 c (by omega),(fo q.1).2 c hc]⟩
  dsimp only at ei
  rw[Qe hk] at ei
  simp only[QV,Q8,Value.int.injEq,true_and,and_true] at ei
  have hx:=zn3 _ (Qj hk)
  subst ei
  generalize (hangF n prev id)[k]=j at hx
  obtain⟨b2,off2,qq,lat2⟩:=lat j hx
  cases qq
  obtain⟨x6,t6,l6⟩:=lat2 3 62 rfl
  obtain⟨i6,rfl⟩:=zgB t6
  obtain⟨x7,t7,l7⟩:=lat1 3 62 rfl
  obtain⟨i7,rfl⟩:=zgB t7
  obtain⟨x8,t8,l8⟩:=lat2 0 62 rfl
  obtain⟨i8,rfl⟩:=zgB t8
  refine⟨_,_,_,zah u0 rfl,zaa ⟨by omega,by omega,_,by exact l6 _ o16,_,_,_,zah u0 rfl,_,zah u2 rfl,zaa ⟨by omega,hpl,_,l7 _ o16,λ_=>⟨_,_,_,zah u0 rfl,zaa ⟨by omega,by omega,i8,by grind[Qh],?_⟩⟩,λ_=>?_⟩⟩⟩
  ·obtain⟨r1,r2,r3⟩:=zeg q.1 nr (b:=g0.next) (by omega) rfl (.cells ([Value.int .u64 0].set 0 (.int .u64 i8)) 62 false)
   exact⟨_,by grind[zaN],r1,⟨r2,rfl,by grind[zqi,zaf],Nat.lt_trans (by omega) r2.1⟩,r3⟩
  ·obtain⟨r2,r3⟩:=zev q.1 nr
   exact⟨rfl,⟨r2,d16,Nat.lt_trans (by omega) r2.1⟩,r3⟩
 ·intro JJ DD h1 h2 h3 hr h25 h0
  exact zwR (BB:=Br g3) hn (λi a q=>⟨⟨_,_,((h1 _ _ q).1.2 _ (by omega) (by omega)).trans c2⟩,⟨_,_,((h1 _ _ q).1.2 _ (by omega) (by omega)).trans c3⟩,λj hj=>⟨b1,off1,rfl,hprev j hj _ (fo (h1 _ _ q).1)⟩⟩) hr h0
 ·intro h q
  exact ret0 (fd q.1) z0 ⟨_,(zaU _ (by omega)).trans q.2.1⟩
 ·rintro h ⟨f, -,⟨i,r,w⟩, -⟩
  exact⟨_,zah ((zaU _ (by omega)).trans w) rfl,bl _ _ r (fd f)⟩
 ·rintro x h - ⟨-,rfl, -⟩
  rfl
theorem zbB.stay {lim:Nat} {h h' : AH} {elem:TypeId} {sz n c:Nat} {p:Option Addr} {cs:List Value} (g:zbB lim h elem sz p n c cs) (hn:h.next<=h'.next) (k:∀b,lim<=b->b < h.next->h'.get b=h.get b):zbB lim h' elem sz p n c cs:=by
 refine⟨g.1,g.2.imp id ?_⟩
 grind
theorem zDC (v59:Vl 59 s59):Vl 154 zBn:=zaY λρ g Q H S hp vs hw hg=>by
 obtain⟨(n:Nat),(id:Int),_⟩:=ρ
 obtain⟨x,y,rfl,gx,gy⟩:=zec (a:=.sl false false false 99 n) (b:=.int .u64 id) hg
 obtain⟨rfl,gy⟩:=gy
 have hn:n<=281474976710656:=gx.1
 obtain⟨p,c,rfl,lat⟩:=zwQ hw gx
 rw[zlc,ztm] at lat
 obtain⟨(hbig:n<=big),H⟩:=H
 have hbig' : n<=1048576:=hbig
 have nl:∀{h' : AH},Old hp h'->Fin S g hp true Q (.slice none 0 0) h':=λo=>za5 hw o (r:=.sl false false false 62 0) (by exact⟨Qg _,none,0,rfl,by simp⟩) rfl (H 0 (Qg _))
 refine zhd (xb rfl) _ _ _ _ hp _ λg0 e0=>?_
 have o01:=zab e0
 have n0:=zad e0
 have w0:=zae e0
 refine⟨_,_,_,zah w0 rfl,(zsF v59 hw o01 gx hbig gy).mono ?_⟩
 rintro _ g6 ⟨o6,pl,rfl,hpl⟩
 refine⟨_,rfl,λg8 e8=>?_⟩
 have o8:=zab e8
 have n8:=zad e8
 have l6:=o6.1
 have k9:=zam g6.next g8 (.cells ([Value.int .i64 0].set 0 (.int .i64 pl)) 3 false)
 refine⟨_,zaN (zae e8) (by simp),?_⟩
 generalize e9:g8.set g6.next (.cells ([Value.int .i64 0].set 0 (.int .i64 pl)) 3 false)=g9 at k9 ⊢
 have n9:=k9.1
 have o9:Old g6 g9:=⟨by omega,λc hc=>by rw[k9.2 c (by omega),o8.2 c hc]⟩
 have w6:g9.get g6.next=some (.cells [.int .i64 pl] 3 false):=by grind[zaf]
 have w9:g9.get hp.next=_:=(o9.2 _ (by omega)).trans ((o6.2 _ (by omega)).trans w0)
 have ox:Old hp g9:=(by grind[Old.trans])
 refine⟨_,zah w6 rfl,λ_=>nl ox,λz=>⟨_,_,_,zah w9 rfl,_,zah w6 rfl,?_⟩⟩
 obtain⟨b1,off1,rfl,lat1⟩:=lat pl.toNat (by omega)
 obtain⟨x4,t4,l4⟩:=lat1 2 4 rfl
 obtain⟨sb,rfl⟩:=zye t4
 refine zaa ⟨by omega,hpl,?_⟩
 cases sb
 ·exact .inr ⟨l4 _ ox,nl ox⟩
 refine .inl ⟨l4 _ ox,λg16 e16=>?_⟩
 have o16:=zab e16
 have n16:=zad e16
 have w16:g16.get hp.next=_:=(o16.2 _ (by omega)).trans w9
 refine⟨_,_,_,zah w16 rfl,zb5 (xb rfl) _ _ _ _ g16 _ λg2 e2 g3 e3=>⟨237,[.pointer (some ⟨g16.next,0,none⟩),.pointer (some ⟨g2.next,0,none⟩)],rfl,?_⟩⟩
 have o2:=zab e2
 have n2:=zad e2
 have o3:=zab e3
 have n3:=zad e3
 have c2:g3.get g16.next=some (.cells [.slice (some ⟨b1,off1,none⟩) n c] 89 false):=(by simp_all)
 have c3:=zae e3
 have o23:=o2.trans o3
 have v0:g3.get hp.next=_:=(o23.2 _ (by omega)).trans w16
 have v1:g3.get g9.next=some (.cells [.slice none 0 0] 70 false):=(by simp_all)
 have v2:g3.get g6.next=_:=(o23.2 _ (by omega)).trans ((o16.2 _ (by omega)).trans w6)
 have o03:Old hp g3:=(by grind[Old.trans])
 have hprev:∀j,∃i:Int,j < n->∀h',Old hp h'->ld1 h' b1 (off1+j * 11+4)=some (.int .u64 i):=λj=>by
  rcases QK j n with hj | hj
  ·obtain⟨b2,off2,q,lat2⟩:=lat j hj
   cases q
   obtain⟨x,t,l⟩:=lat2 4 62 rfl
   obtain⟨i,rfl⟩:=zgB t
   exact⟨i,λ_=>l⟩
  ·exact⟨0,by omega⟩
 obtain⟨prev,hprev⟩:=Q4 hprev
 have fo:∀{g:AH},Fm g3 (·= g9.next) g->Old hp g:=λq=>⟨by have:=q.1; omega,λc hc=>by rw[q.2 c (by omega) (by omega),o03.2 c hc]⟩
 have fd:∀{g:AH},Fm g3 (·= g9.next) g->Old hp (g.del g3.next):=λq=>⟨(fo q).1,by grind[zaU]⟩
 have hlen:=zo1 (n:=n) (prev:=prev) (id:=id)
 have sI:∀i:Nat,zqg g3 ((λi g=>(∃p m c al,m<=i/\g.get g9.next=some (.cells [.slice p m c] 70 false)/\zbB (g3.next+1) g 62 1 p m c al/\zau cx0 S (zaJ cx0 62 m) al)/\g9.next < g.next:Nat->AH->Prop) i):=λi h1 h2 q hn k=>by
  obtain⟨⟨p,m,c,al,q1,q2,q3,q4⟩,q5⟩:=q
  exact⟨⟨p,m,c,al,q1,by grind,by grind[zbB.stay],q4⟩,by omega⟩
 refine⟨Jr g3 (·= g9.next) _,Dr g3 (·= g9.next) λ_ _=>False,(hangF n prev id).length,λi=>[.int .i64 ((hangF n prev id)[i]?.getD 0:Nat)],λ_ _=>False,λ_ _=>True,⟨rfl,rfl⟩,by simp,jr0 λg f k=>⟨⟨none,0,0,[],Qg _,(by grind),zbB.nil _ _ _ _,by grind[zaS]⟩,by have:=f.1; omega⟩,jrN sI,drN λ_ _ _ q=>q.elim,by simp,by simp,λ_ _ q=>q.elim,?_,?_,?_,?_⟩
 ·rintro k g11 hk q - i14 ei
  refine⟨rfl,rfl,λg34 nr hL=>?_⟩
  obtain⟨⟨p3,m,c4,al,q1,q2,q3,q4⟩,q5⟩:=q.2
  have f2:=nr.1
  have f3:=q.1.1
  have d34:g34.get g9.next=some (.cells [.slice p3 m c4] 70 false):=by rw[nr.2 _ (by omega)]; omega
  have G34:=q3.stay (by omega) λb hb _=>nr.2 b (by omega)
  have u0:g34.get hp.next=_:=(nr.2 _ (by omega)).trans ((q.1.2 _ (by omega) (by omega)).trans v0)
  have u2:g34.get g6.next=_:=(nr.2 _ (by omega)).trans ((q.1.2 _ (by omega) (by omega)).trans v2)
  have o34:Old hp g34:=⟨by omega,λc hc=>by rw[nr.2 c (by omega),(fo q.1).2 c hc]⟩
  dsimp only at ei
  rw[Qe hk] at ei
  simp only[QV,Q8,Value.int.injEq,true_and,and_true] at ei
  have hx:=zn3 _ (Qj hk)
  subst ei
  generalize (hangF n prev id)[k]=j at hx
  obtain⟨b2,off2,qq,lat2⟩:=lat j hx
  cases qq
  obtain⟨x6,t6,l6'⟩:=lat2 3 62 rfl
  obtain⟨i6,rfl⟩:=zgB t6
  obtain⟨x7,t7,l7⟩:=lat1 3 62 rfl
  obtain⟨i7,rfl⟩:=zgB t7
  obtain⟨x8,t8,l8⟩:=lat2 0 62 rfl
  obtain⟨i8,rfl⟩:=zgB t8
  refine⟨_,_,_,zah u0 rfl,zaa ⟨by omega,by omega,_,by exact l6' _ o34,_,_,_,zah u0 rfl,_,zah u2 rfl,zaa ⟨by omega,hpl,_,l7 _ o34,λ_=>?_,λ_=>⟨_,_,_,zah d34 rfl,_,_,_,zah u0 rfl,zaa ⟨by omega,by omega,i8,by grind[Qh],λg57 e57=>?_⟩⟩⟩⟩⟩
  ·exact⟨rfl,⟨(zev q.1 nr).1,by grind,by omega⟩,λ_ _=>trivial⟩
  ·obtain⟨p5,c5,g61,k61,G61,ob61,f61, -⟩:=G34.push zzh (by omega) e57 (m:=1) rfl (by grind[zaA]) (by omega)
   have n61:=ob61.1
   have d61:g61.get g9.next=some (.cells [.slice p3 m c4] 70 false):=by rw[ob61.2 _ (by omega)]; omega
   refine⟨_,_,_,g61,k61,_,zaN d61 (by simp),?_⟩
   have ns:=zam g9.next g61 (.cells ([Value.slice p3 m c4].set 0 (.slice p5 (m+1) c5)) 70 false)
   refine⟨by rw[ns.2 _ (by omega),ob61.2 _ (by omega)],⟨⟨by rw[ns.1]; omega,λc hc ho=>by rw[ns.2 c ho,ob61.2 c (by omega),nr.2 c (by omega),q.1.2 c hc ho]⟩,⟨p5,m+1,c5,_,by omega,zaf _ _ _,G61.stay (by simp) λb hb _=>ns.2 b (by omega),zaL (X:=cx0) (T:=62) (by exact q3.1) q4 (ziP zxg t8)⟩,by rw[ns.1]; omega⟩,λ_ _=>trivial⟩
 ·intro JJ DD h1 h2 h3 hr h25 h0
  exact zwR (BB:=λ_ _=>True) hn (λi a q=>⟨⟨_,_,((h1 _ _ q).1.2 _ (by omega) (by omega)).trans c2⟩,⟨_,_,((h1 _ _ q).1.2 _ (by omega) (by omega)).trans c3⟩,λj hj=>⟨b1,off1,rfl,hprev j hj _ (fo (h1 _ _ q).1)⟩⟩) hr h0
 ·rintro h ⟨f,⟨p3,m,c4,al,q1,q2,q3,q4⟩,q5⟩
  have d:(h.del g3.next).get g9.next=_:=(zaU _ (by omega)).trans q2
  refine⟨_,_,_,zah d rfl,?_⟩
  have G:=q3.stay (h':=h.del g3.next) (Qc _) λb hb _=>zaU _ (by omega)
  have hm:m<=big:=by omega
  rcases G.2 with ⟨rfl,rfl,rfl⟩ | ⟨b,rfl,r1,r2,r3,r4⟩
  ·grind
  ·refine zc0 hw (fd f) (by omega) r2 r3 q4 (r:=.sl false false false 62 m) ?_ rfl (H m hm)
   refine⟨by grind[zbT],_,c4,rfl,.inr ⟨b,0,false,62,zaJ cx0 62 m,rfl,if_pos rfl,by grind[zbh],(λq=>by rfl),(λq=>by omega),?_⟩⟩
   rcases r4 with rfl | rfl
   ·exact .inr ⟨rfl,rfl,by rfl⟩
   grind[zai]
 ·rintro x h - ⟨-,q⟩
  grind
end Go.Am
