/-
  GROUPS: formatted, copied; what they tell.
-/
import Derived.Test.YtihmdaifbmchjaaGreatCpL
import Derived.Test.YtihmdaifbmchjaaGreatCpI
import Derived.Test.YtihmdaifbmchjaaGreatCpD
import Derived.Test.YtihmdaifbmchjaaGreatVTxg
set_option linter.unusedVariables false
set_option linter.unusedSimpArgs false
set_option maxRecDepth 100000
namespace Go.Am
open Go.Proofs
section
variable {K:Xs} {h:AH} {p:Nat} {F:List Nat} {d m:Nat} {W:Nat} {nw:List (List Nat)} {M:List Nat} {st:Nat} {ba:Int}
theorem zhA (h:AH) (q:Option Addr) (hq:q=none∨∃b off,q=some ⟨b,off,none⟩):zrL h q 0 []:=⟨⟨rfl,by decide,[],⟨rfl,.inl rfl⟩,fun i hi=>absurd hi (Nat.not_lt_zero _)⟩,by decide,hq⟩
theorem zrz (kk:zfM K) {Fd:List Nat} {n:Nat} (D:zcN h d Fd 0 (List.replicate n (List.replicate 128 0))) (h1:64≤n) (h2:n≤300):
 Wf Tryz.prog K 7 [.pointer (some ⟨d,0,none⟩)] h fun v h'=>∃(g p m:Nat) (F A:List Nat) (q:Tr3) (sp:List (Nat×Nat)) (r1 r2:Tr3) (all1 all2:List Tr3) (nw:List (List Nat)) (bH:Nat) (cs:List Value) (nH:Nat),v=.tuple #[.pointer (some ⟨g,0,none⟩),.int .i64 0]∧zco h' F g (znz p 1 (.slice none 0 0) (.slice (some ⟨bH,0,none⟩) nH zak) (uC 1 1 q 40 n)) 77∧zaq h' (some ⟨bH,0,none⟩) nH 3 cs∧(1≤nH∧nH≤1000)∧bH∉F∧bH≠g∧zi0 nw n q sp r1 r2 all1 all2 A∧(∀x,x∈exN sp↔(zbj (zdC n) A)[x]?= some 2)∧(∀a∈A,(zbj (zdC n) A)[a]?= some 2)∧nw.length=n∧(∀i,i < 4→nw[i]?= some (ziR 1 1 q 40 n i))∧PO h' p F d m 0 nw (zbj (zdC n) A) 2 1∧Fr Fd h h' (g :: F):=by
 have hlen:(List.replicate n (List.replicate 128 0)).length=n:=List.length_replicate
 have hdl:=D.lt
 refine zlb kk.xFormat _ h _ ((zgU kk.ku.dLen D).mono ?_)
 rintro _ _ ⟨rfl,rfl⟩
 rw[hlen]
 refine⟨_,rfl,fun z=>absurd z (by omega),fun _=>(zgU kk.ku.dLen D).mono ?_⟩
 rintro _ _ ⟨rfl,rfl⟩
 rw[hlen]
 refine⟨_,rfl,(zxa kk.mNew kk.mSet n (by omega) h).mono ?_⟩
 rintro _ g7 ⟨rfl,M7,n7,o7'⟩
 have o7:Old h g7:=⟨by omega,o7'⟩
 refine⟨_,rfl,(zqp kk.pNew (st:=1) (ba:=0) (D.old o7) M7 (fun z=>by have:=hdl _ z; omega) (fun i x hi hx=>by rw[hlen]; exact zgA i x hi hx) rfl).mono ?_⟩
 rintro _ g10 ⟨rfl,P10,o10⟩
 refine⟨_,rfl,fun g12 e12=>?_⟩
 have o12:=zaa e12
 have n12:=zab e12
 have hg:zco g12 (g7.next :: h.next :: Fd) g10.next (znz g7.next 1 (.slice none 0 0) (.slice none 0 0) uZ) 77:=zeZ e12 P10.mem_lt
 have hnd:=ziX h1 (by omega:n≤1024)
 refine (zry kk ⟨Fd,P10.old o12⟩ (by decide) (by rw[hlen]; exact h1) (by rw[hlen]; omega) (by rw[hlen,znr (by omega) (by omega)]; omega) (zuC n) hg).mono ?_
 rw[hlen]
 rintro _ g14 ⟨A,q,sp,r1,r2,all1,all2,nw',F',bH,cs,nH,rfl,hg14,SH,hnH,hbF,hbg,stand,hsp,hA,hout,hl,P14,f14⟩
 have oh:=(o7.trans o10).trans o12
 refine⟨_,rfl,fun _=>⟨_,g7.next,h.next,F',A,q,sp,r1,r2,all1,all2,_,bH,cs,nH,rfl,hg14,SH,hnH,hbF,hbg,stand,hsp,fun a ha=>(hA a ha).1,by rw[List.length_set]; exact hl,?_,P14,?_⟩,fun z=>absurd rfl z⟩
 ·intro i hi
  rw[List.getElem?_set,hl]
  by_cases e:i=1
  ·subst e
   rw[if_pos rfl,if_pos (by omega)]
   rfl
  ·rw[if_neg (fun z=>e z.symm),hout i (fun z=>by have:=(hA i z).2; omega),List.getElem?_replicate,if_pos (by omega)]
   unfold ziR
   rw[if_neg e]
 ·refine⟨Nat.le_trans oh.1 f14.1,fun c hc hn=>?_,fun c hc=>?_⟩
  ·have l7:=o7.1
   have l10:=o10.1
   rw[f14.2.1 c (by omega) (by simp only[List.mem_cons,not_or]; exact⟨by omega,by omega,by omega,hn⟩),oh.2 c hc]
  ·rcases f14.2.2 c hc with z | z
   ·have l7:=o7.1
    have l10:=o10.1
    simp only[List.mem_cons] at z
    rcases z with z | z | z | z
    ·exact .inr (by omega)
    ·exact .inr (by omega)
    ·exact .inr (by omega)
    ·exact .inl z
   ·exact .inr (by have:=oh.1; omega)
theorem zuF (kk:zfM K) {Fd:List Nat} (P:za2 h p F d m Fd W nw M st ba) {g:Nat} {nx:Int} {q:Option Addr} {n c:Nat} {rs:List zhz} {bH nH cH:Nat} {cs:List Value} {tx sx:Nat} {qx:Tr3} {lx kx:Nat} (hg:zco h F g (znz p nx (.slice q n c) (.slice (some ⟨bH,0,none⟩) nH cH) (uC tx sx qx lx kx)) 77) (T:zrL h q n rs) (SH:zaq h (some ⟨bH,0,none⟩) nH 3 cs) (hn:nH≤1000):
 Wf Tryz.prog K 12 [.pointer (some ⟨g,0,none⟩)] h fun v h'=>∃g2 p2 m2 nx2 v1 v2 u2,v=.pointer (some ⟨g2,0,none⟩)∧zco h' (p2 :: m2 :: Fd) g2 (znz p2 nx2 v1 v2 u2) 77∧u2.length=7∧za2 h' p2 (p2 :: m2 :: Fd) d m2 Fd W nw M st ba∧Old h h'∧h.next≤g2∧h.next≤p2∧h.next≤m2:=by
 have hw:=P.within
 refine zgn kk.xCopy _ h _ (zae ⟨_,zah hg.1 rfl,(ziD kk.pDev P).mono ?_⟩)
 rintro _ _ ⟨rfl,rfl⟩
 refine⟨_,rfl,(ze4 kk.pMap P).mono ?_⟩
 rintro _ _ ⟨rfl,rfl⟩
 refine⟨_,rfl,(zwy kk.mCopy P.map).mono ?_⟩
 rintro _ g10 ⟨rfl,M10,o10,n10⟩
 refine⟨_,rfl,(zm9 kk.pStamp (P.old o10)).mono ?_⟩
 rintro _ _ ⟨rfl,rfl⟩
 refine⟨_,rfl,(zv1 kk.pBase (P.old o10)).mono ?_⟩
 rintro _ _ ⟨rfl,rfl⟩
 have hdl:=P.dev.lt
 refine⟨_,rfl,(zqp kk.pNew (st:=st) (ba:=ba) (P.dev.old o10) M10 (fun z=>by have:=hdl _ z; omega) hw rfl).mono ?_⟩
 rintro _ g19 ⟨rfl,P19,o19⟩
 have o19h:=o10.trans o19
 have G:∀{g'},Old h g'→zco g' F g (znz p nx (.slice q n c) (.slice (some ⟨bH,0,none⟩) nH cH) (uC tx sx qx lx kx)) 77:=fun o=>hg.old o
 refine⟨_,rfl,zae ⟨_,_,_,_,(G o19h).ldp (off:=1) (Nat.le_of_ble_eq_true rfl),(zgB kk (T.old o19h)).mono ?_⟩⟩
 rintro _ g28 ⟨⟨b30,rfl,hb30⟩,o28⟩
 have o28h:=o19h.trans o28
 refine⟨_,_,_,_,rfl,zae ⟨_,_,_,zah (G o28h).1 rfl,(zuy kk (SH.old o28h) hn).mono ?_⟩⟩
 rintro _ g39 ⟨⟨p40,n41,c42,rfl⟩,o39⟩
 have o39h:=o28h.trans o39
 have A1:∀{g'},Old h g'→ldN g' g (0+1) 2=some [.int .u64 nx,.slice q n c]:=fun o=>(G o).ldp (off:=1) (Nat.le_of_ble_eq_true rfl)
 have A2:∀{g'},Old h g'→ld1 g' g (0+3)=some (.slice (some ⟨bH,0,none⟩) nH cH):=fun o=>zah (G o).1 rfl
 have A3:∀{g'},Old h g'→ldN g' g (0+4) 7=some (uC tx sx qx lx kx):=fun o=>(G o).ldp (off:=4) (Nat.le_of_ble_eq_true rfl)
 have r:=Old.refl h
 refine⟨_,_,_,rfl,zae ⟨_,_,_,_,_,_,_,A3 o39h,fun g52 e52=>⟨A1 r,A1 r,A2 r,A2 r,A3 r,A3 r,A1 r,A1 r,A2 r,A2 r,A3 r,A3 r,A1 r,A1 o10,A2 r,A2 o10,A3 r,A3 o10,A1 o10,A1 o10,A2 o10,A2 o10,A3 o10,A3 o10,A1 o10,A1 o10,A2 o10,A2 o10,A3 o10,A3 o10,A1 o10,A1 o19h,A2 o10,A2 o19h,A3 o10,A3 o19h,A2 o19h,A2 o28h,A3 o19h,A3 o28h,A3 o28h,A3 o39h,?_⟩⟩⟩
 have P39:=(P19.old o28).old o39
 exact⟨g39.next,g10.next,h.next,_,_,_,uC tx sx qx lx kx,rfl,zeZ e52 P39.mem_lt,rfl,P39.old (zaa e52),o39h.trans (zaa e52),o39h.1,o10.1,Nat.le_refl _⟩
theorem zcL {g:Nat} {nx:Int} {v1 v2:Value} {u:List Value} (kk:zfM K) (hg:zco h F g (znz p nx v1 v2 u) 77):Wf Tryz.prog K 8 [.pointer (some ⟨g,0,none⟩)] h fun v h'=>v=.pointer (some ⟨p,0,none⟩)∧h=h':=
 zgo kk.xPile _ h _ (zae ⟨_,zah hg.1 rfl,rfl,rfl⟩)
theorem zi2 {g:Nat} {nx:Int} {v1 v2:Value} {tx sx:Nat} {qx:Tr3} {lx kx:Nat} (kk:zfM K) (hg:zco h F g (znz p nx v1 v2 (uC tx sx qx lx kx)) 77):Wf Tryz.prog K 11 [.pointer (some ⟨g,0,none⟩)] h fun v h'=>v=uV tx sx qx lx kx∧Old h h':=by
 refine zgq kk.xUber _ h _ fun g0 e0=>zae ⟨_,_,_,_,_,_,_,(hg.old (zaa e0)).ldp (off:=4) (Nat.le_of_ble_eq_true rfl),rfl,?_⟩
 obtain⟨g2,k2,n2,o2,m2⟩:=zaF e0 (vs:=uC tx sx qx lx kx) rfl
 exact⟨g2,k2,_,_,_,_,_,_,_,(m2 [] (fun c hc=>by cases hc)).ld rfl,rfl,o2⟩
theorem zi3 {g:Nat} {nx:Int} {q:Option Addr} {n c:Nat} {rs:List zhz} {v2:Value} {u:List Value} (kk:zfM K) (hg:zco h F g (znz p nx (.slice q n c) v2 u) 77) (T:zrL h q n rs):Wf Tryz.prog K 17 [.pointer (some ⟨g,0,none⟩)] h fun v h'=>(∃b,v=.agg #[.int .u64 nx,.slice (some ⟨b,0,none⟩) n n])∧Old h h':=by
 refine zgp kk.xBook _ h _ fun g0 e0=>?_
 have o0:=zaa e0
 have n0:=zab e0
 have hg0:=hg.old o0
 refine zae ⟨_,_,_,_,by
  have:=hg0.ldp (off:=1) (n:=2) (by simp[znz])
  exact this,(zgB kk (T.old o0)).mono ?_⟩
 rintro _ g8 ⟨⟨b,rfl,hb⟩,o8⟩
 have w8:=(o8.2 _ (by omega)).trans (zac e0)
 exact⟨_,_,_,_,rfl,rfl,_,zaB w8 rfl,_,_,_,_,zao (zag _ _ _) rfl,⟨b,rfl⟩,(o0.trans o8).near (zaj _ _ _) (Nat.le_refl _)⟩
theorem zwB {g:Nat} {nx ny:Int} {q:Option Addr} {n c:Nat} {rs:List zhz} {v1 v2:Value} {u:List Value} (kk:zfM K) (hg:zco h F g (znz p nx v1 v2 u) 77) (T:zrL h q n rs):Wf Tryz.prog K 13 [.pointer (some ⟨g,0,none⟩),.agg #[.int .u64 ny,.slice q n c]] h fun v h'=>(∃v1,zco h' F g (znz p ny v1 v2 u) 77)∧h.next≤h'.next∧∀c,c < h.next→c≠g→h'.get c=h.get c:=by
 refine zhd kk.xPut _ _ _ _ _ h _ fun g0 e0=>⟨_,_,_,_,zao (zac e0) rfl,?_⟩
 have o0:=zaa e0
 refine (zgB kk (T.old o0)).mono ?_
 rintro _ g6 ⟨⟨b,rfl,hb⟩,o6⟩
 have o6h:=o0.trans o6
 obtain⟨g13,k13,nr13,m13⟩:=(hg.old o6h).part (off:=1) (vs:=[.int .u64 ny,.slice (some ⟨b,0,none⟩) n n]) (by simp[znz])
 exact⟨_,_,_,_,rfl,zae ⟨rfl,g13,k13,⟨_,m13⟩,by rw[nr13.1]; exact o6h.1,fun c hc hne=>by rw[nr13.2 c hne,o6h.2 c hc]⟩⟩
end
section
variable {K:Xs} {h:AH} {p:Nat} {F:List Nat} {d m:Nat} {W:Nat} {nw:List (List Nat)} {M:List Nat} {st:Nat} {ba:Int}
theorem zwC (hk:K 16=none) {Fd:List Nat} (P:za2 h p F d m Fd W nw M st ba) (hs:st≤1000000):
 Wf Tryz.prog K 16 [.pointer (some ⟨p,0,none⟩)] h fun v h'=>za2 h' p F d m Fd W nw M (st+1:Nat) ba∧Fr F h h' F:=by
 refine zge hk _ h _ (zae ⟨_,zah P.cell rfl,fun i3 e3=>?_⟩)
 have e3:i3=((st+1:Nat):Int):=by rw[zoz e3 (by omega) (by omega)]; omega
 subst e3
 refine zae ⟨_,zbm P.cell (by simp),P.onCell (zag _ _ _) (zaj _ _ _)⟩
theorem zwD {n x:Nat} (h1:4≤x) (h2:x < n) (h3:n≤1024):(zdC n)[x]?= some 1:=by
 simp only[zdC,List.getElem?_map,List.getElem?_range (show x < 1024 by omega),Option.map_some]
 rw[if_pos ⟨h1,h2⟩]
theorem zo4 {n:Nat} {A:List Nat} (hA:∀x∈A,4≤x∧x < n) (i x:Nat) (hi:(zbj (zdC n) A)[i]?= some x) (hx:x≠0):4≤i∧i < n:=by
 by_cases e:i∈A
 ·exact hA i e
 ·rw[zcK _ _ _ e] at hi
  exact zgA i x hi hx
theorem zuG {n:Nat} {A:List Nat} (hA:∀x∈A,4≤x∧x < n) (h3:n≤1024) (x:Nat):(zbj (zdC n) A)[x]?= some 2↔x∈A:=by
 refine⟨fun h=>Classical.byContradiction fun z=>?_,fun h=>zqr _ _ _ h (by rw[zcV]; have:=hA x h; omega)⟩
 rw[zcK _ _ _ z] at h
 have:=new_two x h
 exact this
where
 new_two (x:Nat) (h:(zdC n)[x]?= some 2):False:=by
  have:=List.mem_of_getElem? h
  simp only[zdC,List.mem_map] at this
  obtain⟨i, -,e⟩:=this
  split at e <;> cases e
theorem zrA (kk:zfM K) {Fd:List Nat} {n:Nat} (D:zcN h d Fd W nw) (hn:nw.length=n) (h1:64≤n) (h2:n≤1024) {q r1 r2:Tr3} {sp:List (Nat×Nat)} {all1 all2:List Tr3} {A:List Nat} (s:zi0 nw n q sp r1 r2 all1 all2 A) (hr:∀i,i < 4→nw[i]?= some (ziR 1 1 q 40 n i)):
 Wf Tryz.prog K 20 [.pointer (some ⟨d,0,none⟩)] h fun v h'=>∃g p m F Fd' b1 v2,v=.tuple #[.pointer (some ⟨g,0,none⟩),.int .i64 0]∧zco h' F g (znz p 1 (.slice (some ⟨b1,0,none⟩) 0 0) v2 (uC 1 1 q 40 n)) 77∧za2 h' p F d m Fd' W nw (zbj (zdC n) (exN sp)) 2 1∧Fr Fd h h' (g :: F):=by
 have hu:UOk 1 1 q 40 n:=⟨by decide,by decide,s.kq.1,s.kq.2,by decide,h1,h2⟩
 have hdl:=D.lt
 have hx:=zgy s.sp.gap
 refine zlc kk.xImport _ h _ ((zyM kk.ku.dDead D).mono ?_)
 rintro _ _ ⟨rfl,rfl⟩
 refine .inr ⟨rfl,(zwk kk.ku D hu (by decide) hr).mono ?_⟩
 rintro _ g3 ⟨rfl,D3,f3⟩
 have d3l:=D3.lt
 refine⟨_,_,_,_,_,_,_,.inl ⟨rfl,fun g11 e11=>⟨rfl,?_⟩⟩⟩
 obtain⟨g12,k12,n12,o12,m12⟩:=zaF e11 (vs:=uC 1 1 q 40 n) rfl
 have m12:=m12 Fd d3l
 have D12:=D3.old o12
 refine⟨g12,k12,(zgU kk.ku.dLen D12).mono ?_⟩
 rintro _ _ ⟨rfl,rfl⟩
 rw[hn]
 refine⟨_,rfl,_,zah m12.1 rfl,fun _=>⟨_,zah m12.1 rfl,fun _=>⟨zah m12.1 rfl,zah m12.1 rfl,(zgU kk.ku.dLen D12).mono ?_⟩,fun z=>absurd rfl z⟩,fun z=>absurd rfl z⟩
 rintro _ _ ⟨rfl,rfl⟩
 rw[hn]
 refine⟨_,rfl,(zxa kk.mNew kk.mSet n h2 g12).mono ?_⟩
 rintro _ g22 ⟨rfl,M22,n22,o22'⟩
 have o22:Old g12 g22:=⟨by omega,o22'⟩
 have D22:=D12.old o22
 refine⟨_,rfl,(zqp kk.pNew (st:=0) (ba:=0) D22 M22 (fun z=>by have:=D12.lt _ z; omega) (fun i x hi hx=>by rw[hn]; exact zgA i x hi hx) rfl).mono ?_⟩
 rintro _ g25 ⟨rfl,P25,o25⟩
 have m22:=m12.old o22
 have m25:=m22.old o25
 have m25' : zco g25 (g22.next :: g12.next :: Fd) g3.next (uC 1 1 q 40 n) 44:=⟨m25.1,m25.2.1,by
  simp only[List.mem_cons,not_or]
  have:=o22.1
  exact⟨by omega,by omega,m25.2.2⟩⟩
 refine⟨_,rfl,_,_,_,m25.ldp (off:=2) (Nat.le_of_ble_eq_true rfl),(zwu kk ⟨Fd,P25⟩ hn h1 h2 s).mono ?_⟩
 rintro _ g31 ⟨⟨b1,p3,n3,c3,p4,n4,c4,rfl,hp3,S3⟩,⟨Fd',P31⟩,f31⟩
 have m31:=m25'.fr f31
 refine⟨_,_,_,_,_,_,_,_,_,_,_,rfl,fun g43 e43=>⟨rfl,?_⟩⟩
 obtain⟨g44,k44,n44,o44,m44⟩:=zaF e43 (vs:=[.int .u64 1,.slice (some ⟨b1,0,none⟩) 0 0]) rfl
 have m44:=m44 _ P31.mem_lt
 have u44:=m31.old o44
 have P44:=P31.old o44
 have hS3:n3≤1000000:=by
  have:=S3.1
  rw[zb1] at this
  have:=ziG s.sp.gap
  omega
 refine⟨g44,k44,m22.ldp (off:=2) (Nat.le_of_ble_eq_true rfl),m25.ldp (off:=2) (Nat.le_of_ble_eq_true rfl),fun _=>⟨_,zah u44.1 rfl,fun z=>absurd z (by decide),fun _=>⟨_,zah m44.1 rfl,fun z=>absurd z (by decide),fun _=>⟨_,zah u44.1 rfl,fun z=>absurd z (by decide),fun _=>(zwA kk P44.map (S3.old o44) s.sp.gap hS3 (fun x hx=>zwD (s.sp.inn x hx).1 (s.sp.inn x hx).2 h2)).mono ?_⟩⟩⟩,fun z=>absurd rfl z⟩
 rintro _ g49 ⟨M49,n49,f49⟩
 have hF31:=P31.F_eq
 have nd:=P31.nodup
 rw[hF31] at nd
 simp only[List.nodup_cons,List.mem_cons,not_or] at nd
 have hmF:g12.next∉Fd':=nd.2.1
 have D49:zcN g49 d Fd' W nw:=P44.dev.keep n49 fun c hc=>f49 c (P44.dev.lt c hc) (fun z=>hmF (z▸hc))
 have hm44:g31.next≠g12.next:=by have:=P31.map.2.1; omega
 have m49:zco g49 Fd' g31.next [.int .u64 1,.slice (some ⟨b1,0,none⟩) 0 0] 25:=⟨(f49 _ m44.2.1 hm44).trans m44.1,Nat.lt_of_lt_of_le m44.2.1 n49,fun z=>m44.2.2 (by rw[hF31]; simp[z])⟩
 have hu44:g3.next≠g12.next:=by omega
 have u49:zco g49 Fd' g3.next (uC 1 1 q 40 n) 44:=⟨(f49 _ u44.2.1 hu44).trans u44.1,Nat.lt_of_lt_of_le u44.2.1 n49,fun z=>u44.2.2 (by rw[hF31]; simp[z])⟩
 refine⟨_,zah u49.1 rfl,fun i51 e51=>⟨_,zah u49.1 rfl,?_⟩⟩
 have e51:i51=((2:Nat):Int):=by rw[zoz e51 (by decide) (by decide)]; decide
 refine (zqp kk.pNew (st:=2) (ba:=((1:Nat):Int)) D49 M49 hmF (fun i x hi hx=>by rw[hn]; exact zo4 s.sp.inn i x hi hx) e51).mono ?_
 rintro _ g54 ⟨rfl,P54,o54⟩
 refine⟨_,rfl,_,_,_,_,(m49.old o54).ld rfl,_,_,_,_,_,_,_,(u49.old o54).ld rfl,fun g67 e67=>⟨m49.ld rfl,(m49.old o54).ld rfl,u49.ld rfl,(u49.old o54).ld rfl,?_⟩⟩
 have o67:=zaa e67
 have n67:=zab e67
 refine⟨g54.next,g49.next,g12.next,_,Fd',b1,_,rfl,zeZ e67 P54.mem_lt,P54.old o67,?_⟩
 have l12:=o12.1
 have l22:=o22.1
 have l25:=o25.1
 have l31:=f31.1
 have l44:=o44.1
 have l3:=f3.1
 have l54:=o54.1
 refine⟨by omega,fun c hc hne=>?_,fun c hc=>?_⟩
 ·rw[o67.2 c (by omega),o54.2 c (by omega),f49 c (by omega) (by omega),o44.2 c (by omega),f31.2.1 c (by omega) (by simp only[List.mem_cons,not_or]; exact⟨by omega,by omega,hne⟩),o25.2 c (by omega),o22.2 c (by omega),o12.2 c (by omega),f3.2.1 c hc hne]
 ·simp only[List.mem_cons] at hc
  rcases hc with z | z | z | z
  ·exact .inr (by omega)
  ·exact .inr (by omega)
  ·exact .inr (by omega)
  ·rcases f31.2.2 c (by rw[hF31]; simp[z]) with y | y
   ·simp only[List.mem_cons] at y
    rcases y with y | y | y
    ·exact .inr (by omega)
    ·exact .inr (by omega)
    ·exact .inl y
   ·exact .inr (by omega)
end
section
variable {K:Xs} {h:AH}
theorem zCN {x y:Int} (hx:(Lit.int .i64 x).wf=true) (hy:(Lit.int .i64 y).wf=true):zcp Tryz.prog 90 (.agg #[.int .i64 x,.int .i64 y])=some [.int .i64 x,.int .i64 y]:=by
 rw[zkV (by simp[Value.formed]),zcW Tryz.underlying90 (d:=39) rfl]
 have k3:=zbD (P:=Tryz.prog) Tryz.underlying3 (m:=39) (d:=38) rfl x
 have k4:=zbD (P:=Tryz.prog) Tryz.underlying3 (m:=39) (d:=38) rfl y
 rw[if_pos hx] at k3
 rw[if_pos hy] at k4
 generalize Tryz.prog.keyLits 39=KL at k3 k4 ⊢
 simp[k3,k4]
theorem zCO {a b x y:Int}:zaC [.int .i64 a,.int .i64 b] [.int .i64 x,.int .i64 y]=decide (a=x∧b=y):=by
 by_cases h1:a=x <;> by_cases h2:b=y <;> simp[zaC,zgW,h1,h2]
theorem zxp {x:Nat} (h:x≤4096):(Lit.int .i64 (x:Nat)).wf=true:=by
 simp[Lit.wf,IntKind.min,IntKind.max,IntKind.signed,IntKind.bits]
 omega
theorem znt (hk:K 19=none) {v1 v2:Value} {f1 f2:Nat→Prop} (s1:zhe h v1 f1) (s2:zhe h v2 f2) (hs:∀x,f1 x↔f2 x):
 Wf Tryz.prog K 19 [v1,v2] h fun v h'=>v=.bool true∧h=h':=by
 obtain⟨p,n,c,sp,rfl, -,S1,G1,hn1,m1⟩:=s1
 obtain⟨q,k,e,sq,rfl, -,S2,G2,hn2,m2⟩:=s2
 obtain rfl:sp=sq:=zgx G1 G2 fun x=>(m1 x).trans ((hs x).trans (m2 x).symm)
 have h1:n=sp.length:=by have:=S1.1; rw[zb1] at this; omega
 have h2:k=sp.length:=by have:=S2.1; rw[zb1] at this; omega
 subst h1
 subst h2
 refine zew hk _ _ _ _ _ _ h _ ⟨fun _=>?_,fun z=>absurd rfl z⟩
 refine⟨fun i k g=>∃j:Nat,i=j∧j≤sp.length∧sp.length - j=k∧h=g,⟨_,0,rfl,Nat.zero_le _,rfl,rfl⟩,?_⟩
 rintro k g i ⟨j,rfl,hj,rfl,rfl⟩
 refine⟨fun z=>?_,fun z=>⟨rfl,rfl⟩⟩
 have hj' : j < sp.length:=by omega
 obtain⟨b1,off1,rfl,hld1, -⟩:=S1.getN hj'
 obtain⟨b2,off2,rfl,hld2, -⟩:=S2.getN hj'
 rw[zd8 sp j hj'] at hld1 hld2
 have ga:=G1.at j hj'
 have kk:=zCN (zxp (x:=sp[j].1) (by omega)) (zxp (x:=sp[j].2) (by omega))
 refine zae ⟨by omega,z,_,_,by rw[Int.toNat_natCast]; exact hld1,zae ⟨by omega,z,_,_,by rw[Int.toNat_natCast]; exact hld2,_,_,kk,kk,fun y i15 e15=>?_,fun y=>?_⟩⟩
 ·have e15:=zaJ e15 (by omega) (by omega)
  exact⟨_,by omega,j+1,by rw[e15]; rfl,hj',rfl,rfl⟩
 ·rw[zCO] at y
  simp at y
end
end Go.Am
