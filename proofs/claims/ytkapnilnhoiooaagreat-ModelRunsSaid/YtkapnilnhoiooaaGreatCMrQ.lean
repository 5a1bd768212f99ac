/-
  THE DOCUMENT'S MODEL: a block put (put).
-/
import Derived.Test.YtkapnilnhoiooaaGreatCMrP
set_option linter.unusedVariables false
set_option linter.unusedSimpArgs false
set_option maxRecDepth 100000
namespace Go.Am
open Go.Proofs
noncomputable def zju (rs:List zaj) (f:ByteArray) (kd i:Int) (ds:List Nat):Int:=if (zei rs (spl f) i).2≠0 then (zei rs (spl f) i).2 else if kd=1∧128 < ds.length then 92 else 0
noncomputable def zsm (rs:List zaj) (f:ByteArray) (kd i:Int) (ds:List Nat) (md:Int):Int:=if zju rs f kd i ds≠0 then md else if kd=1 then md+1 else md
noncomputable def zpb (rs:List zaj) (f:ByteArray) (kd i:Int) (ds:List Nat) (md:Int) (xs:List (Int×List Value)):List (Int×List Value):=
 if zju rs f kd i ds≠0 then xs else zcD xs (zei rs (spl f) i).1.id (setBlk (zbj xs (zei rs (spl f) i).1.id) i.toNat (if kd=1 then zp8 ds (md+1) else zjO))
theorem zft {xs:List (Int×List Value)} (h:∀x∈xs,zaZ x.2∧(Lit.int .u64 x.1).wf=true) (id:Int):zaZ (zbj xs id):=zrK (fun p hp=>⟨(h p hp).2,(h p hp).1⟩) id
theorem ztU {ds:List Nat} (hl:ds.length≤128) (v:Int):zlB (zlv (ds.take 128)) ++ [Value.int .u64 v]=zp8 ds v:=by
 rw[List.take_of_length_le hl]
 rfl
section
variable {K:Xs} {h:AH} {p pt:Option Addr} {n c nt ct:Nat} {rs:List zaj} {nx st md:Int} {xs:List (Int×List Value)}
theorem zwh (kk:zeo K) (B:zbw nx rs nx p n h) (T:TxS h pt nt xs) (R:zam nx rs) (hn:nt≤1000) (hmd:0≤md∧md≤1000000) (kd:Int) (f t:ByteArray) (hf:f.size≤9223372036854775806) (i:Int) {pd pk:Option Addr} {nd cd nk ck:Nat} {ds:List Nat} (S:zaR h pd nd 1 (zbY .u8 ds)) (hd:∀x∈ds,x < 256):
 Wf Tryz.prog K 30 [.agg #[.int .u64 nx,.slice p n c,.slice pt nt ct,.int .u64 st,.int .i64 md],.agg #[.int .i64 kd,.string f,.string t,.int .i64 i,.slice pd nd cd,.slice pk nk ck]] h fun v h'=>
  Old h h'∧∃w,v=.tuple #[w,.int .i64 (zju rs f kd i ds)]∧zog h' nx st (zsm rs f kd i ds md) rs (zpb rs f kd i ds md xs) w:=by
 obtain⟨-,form,rs',Ts,hx⟩:=id B
 have R' : zam nx rs':=R.cor hx.symm
 obtain⟨q2,q1⟩:=zjk hx (spl f) i
 have hnd:nd=ds.length:=by have:=S.1; rw[za7] at this; omega
 refine zgh kk.put _ _ _ _ _ _ _ _ _ _ _ _ _ _ _ _ _ _ _ h _ fun g0 e0 g1 e1 g2 e2=>?_
 have o0:=zab e0
 have o1:=zab e1
 have o2:=zab e2
 have n0:=zaa e0
 have n1:=zaa e1
 have n2:=zaa e2
 have oh2:=o0.trans (o1.trans o2)
 have w0:g2.get h.next=some (.cells (mC nx p n c pt nt ct st md) 32 false):=(o2.2 _ (by omega)).trans ((o1.2 _ (by omega)).trans (zaf e0))
 have w1:=(o2.2 _ (by omega)).trans (zaf e1)
 have w2:=zaf e2
 have bad:∀{g' : AH} (e:Int),Old h g'→zju rs f kd i ds=e→e≠0→Old h g'∧∃w,Value.tuple #[.agg #[.int .u64 nx,.slice p n c,.slice pt nt ct,.int .u64 st,.int .i64 md],.int .i64 e]=.tuple #[w,.int .i64 (zju rs f kd i ds)]∧zog g' nx st (zsm rs f kd i ds md) rs (zpb rs f kd i ds md xs) w:=fun {g'} e o he hne=>by
  have h1:zju rs f kd i ds≠0:=by rw[he]; exact hne
  unfold zsm zpb
  rw[if_pos h1,if_pos h1,he]
  exact⟨o,_,rfl,p,n,c,pt,nt,ct,rfl,B.old o,T.old o⟩
 have key:∀v,((∃a b,zaX f a b∧v=Value.tuple #[.string a,.string b,.int .i64 0])∨((∀a b,¬zaX f a b)∧v=.tuple #[.string noB,.string noB,.int .i64 141]))→∃a b e,v=.tuple #[.string a,.string b,.int .i64 e]∧(b=noB→zei rs (spl f) i=findM rs (spl f) i)∧(b≠noB→(zei rs (spl f) i).2=141):=by
  rintro v (⟨a,b,hs,rfl⟩ | ⟨hs,rfl⟩)
  ·refine⟨a,b,0,rfl,fun hb=>?_,fun hb=>?_⟩
   ·unfold zei
    rw[zaH hs]
    simp only[volOf,if_pos hb]
   ·unfold zei
    rw[zaH hs]
    simp only[volOf,if_neg hb]
  ·refine⟨noB,noB,141,rfl,fun _=>?_,fun y=>absurd rfl y⟩
   unfold zei findM
   rw[zbB hs]
   rfl
 refine⟨_,zae w1 rfl,(zgj kk.r17.r16.r15.r1 f hf).mono ?_⟩
 rintro _ g5 ⟨hsp,rfl⟩
 obtain⟨a,b,e,rfl,hv,hv2⟩:=key _ hsp
 refine⟨_,_,_,rfl,fun y=>?_,fun y=>ztT w0 w2 rfl fun g' nr=>bad 141 (zao oh2 nr (by omega)) ?_ (by decide)⟩
 rotate_left
 ·unfold zju
  rw[if_pos (by rw[hv2 y]; decide),hv2 y]
 have hv:=hv y
 refine⟨_,_,_,_,_,_,_,_,_,zah w0 rfl,_,zae w1 rfl,_,zae w1 rfl,(zun kk (Ts.old oh2) R' f hf i nx).mono ?_⟩
 rintro _ g21 ⟨rfl,o21⟩
 have hok:=fun (z:(findM rs (spl f) i).2=0)=>zgT z
 rw[←q2] at hok
 have hE0:(findM rs' (spl f) i).2≠0→zju rs f kd i ds=(findM rs' (spl f) i).2:=fun z=>by
  unfold zju
  rw[hv,←q2,if_pos z]
 have hE1:(findM rs' (spl f) i).2=0→zju rs f kd i ds=if kd=1∧128 < ds.length then 92 else 0:=fun z=>by
  unfold zju
  rw[hv,←q2,if_neg (by rw[z]; decide)]
 have hid:(zei rs (spl f) i).1.id=(findM rs' (spl f) i).1.id:=by rw[hv]; exact (congrArg zaj.id q1).symm
 have hidw:(findM rs' (spl f) i).2=0→(Lit.int .u64 (findM rs' (spl f) i).1.id).wf=true:=fun z=>by
  obtain⟨j,r,hl,hr,e1, -, -⟩:=zgT z
  rw[e1]
  exact zkj Ts r (List.mem_of_getElem? hr)
 generalize findM rs' (spl f) i=F at hok hE0 hE1 hid hidw ⊢
 obtain⟨r,er⟩:=F
 simp only at hok hE0 hE1 hid hidw
 have l21:=o21.1
 refine⟨_,_,_,_,_,_,_,_,_,_,_,_,_,_,rfl,fun g36 e36=>?_⟩
 obtain⟨g37,k37,n37,o37,v37⟩:=zap e36 (vs:=setC r) rfl
 have w37:=(v37 [] (fun c hc=>by cases hc)).1
 have w0_37:=(o37.2 _ (by omega)).trans ((o21.2 _ (by omega)).trans w0)
 have w1_37:=(o37.2 _ (by omega)).trans ((o21.2 _ (by omega)).trans w1)
 have w2_37:=(o37.2 _ (by omega)).trans ((o21.2 _ (by omega)).trans w2)
 have oh37:=oh2.trans (o21.trans o37)
 refine⟨rfl,g37,k37,fun he=>?_,fun he=>ztT w0_37 w2_37 rfl fun g' nr=>bad er (zao oh37 nr (by omega)) (hE0 he) he⟩
 obtain⟨j,r0,hl,hr0, -,hi0,hib⟩:=hok he
 have hib2:=(R.ent (List.mem_of_getElem? hr0)).2.2.2.1
 have hi64:i.toNat < 64:=by omega
 refine⟨_,_,_,_,_,_,_,_,_,zah w0_37 rfl,_,zae w37 rfl,(zvu kk (T.old oh37) hn r.id nx p n c).mono ?_⟩
 rintro _ g49 ⟨rfl,o49⟩
 have l49:=o49.1
 have tx:=zft T.ok r.id
 have ltx:(txtC (r.id,zbj xs r.id)).length=8257:=zaT tx.len
 have hz:(txtC (0,za0)).length=8257:=zaT zbq.len
 refine⟨_,rfl,_,zdw,fun g52 e52=>?_⟩
 obtain⟨g53,k53,n53,o53,v53⟩:=zap e52 (vs:=txtC (r.id,zbj xs r.id)) (by rw[ltx,hz])
 have w53:=(v53 [] (fun c hc=>by cases hc)).1
 have w0_53:=(o53.2 _ (by omega)).trans ((o49.2 _ (by omega)).trans w0_37)
 have w1_53:=(o53.2 _ (by omega)).trans ((o49.2 _ (by omega)).trans w1_37)
 have w2_53:=(o53.2 _ (by omega)).trans ((o49.2 _ (by omega)).trans w2_37)
 have oh53:=oh37.trans (o49.trans o53)
 obtain⟨g56,g58,k56,nr56,k58,nr58,w58⟩:=zuo w53 tx.len hi64 za8 0
 have w0_56:=(nr56.2 _ (by omega)).trans w0_53
 have w1_56:=(nr56.2 _ (by omega)).trans w1_53
 have w2_56:=(nr56.2 _ (by omega)).trans w2_53
 have w0_58:=(nr58.2 _ (by omega)).trans w0_56
 have w1_58:=(nr58.2 _ (by omega)).trans w1_56
 have w2_58:=(nr58.2 _ (by omega)).trans w2_56
 have oh58:=zao (zao oh53 nr56 (by omega)) nr58 (by omega)
 have n58:g58.next=g53.next:=nr58.1.trans nr56.1
 refine⟨ltx,g53,k53,_,zae w1_53 rfl,_,zdY,hi0,by omega,za8,g56,k56,_,zae w1_56 rfl,hi0,by omega,g58,k58,_,zae w1_58 rfl,fun hk1=>?_,fun hk1=>?_⟩
 ·refine⟨_,_,_,zae w1_58 rfl,fun y2=>ztT w0_58 w2_58 rfl fun g' nr=>bad 92 (zao oh58 nr (by omega)) ?_ (by decide),fun y2=>⟨_,zae w0_58 rfl,fun i83 e83=>⟨_,zbi w0_58 (by simp[mC]),?_⟩⟩⟩
  ·rw[hE1 he,if_pos ⟨hk1,by omega⟩]
  have hE:zju rs f kd i ds=0:=by rw[hE1 he,if_neg fun z=>y2 (by omega)]
  have e83:=zcj e83 (by omega) (by omega)
  have nr84:=zak h.next g58 (.cells ((mC nx p n c pt nt ct st md).set 4 (.int .i64 i83)) 32 false)
  have w0_84:=zad h.next g58 (.cells ((mC nx p n c pt nt ct st md).set 4 (.int .i64 i83)) 32 false)
  generalize g58.set h.next (.cells ((mC nx p n c pt nt ct st md).set 4 (.int .i64 i83)) 32 false)=g84 at nr84 w0_84 ⊢
  have w1_84:=(nr84.2 _ (by omega)).trans w1_58
  have w2_84:=(nr84.2 _ (by omega)).trans w2_58
  have w84:=(nr84.2 _ (by omega)).trans w58
  have oh84:=zao oh58 nr84 (by omega)
  have n84:=nr84.1
  refine⟨_,_,_,zae w1_84 rfl,(ztQ kk.block (S.old oh84)).mono ?_⟩
  rintro _ g89 ⟨rfl,o89⟩
  have l89:=o89.1
  have w0_89:=(o89.2 _ (by omega)).trans w0_84
  have w1_89:=(o89.2 _ (by omega)).trans w1_84
  have w2_89:=(o89.2 _ (by omega)).trans w2_84
  have w89:=(o89.2 _ (by omega)).trans w84
  have oh89:=oh84.trans o89
  have hds:ds.length≤128:=by omega
  have hsl:(zlB (zlv (ds.take 128))).length=128:=by simp[zlB,zbY,zlv]; omega
  have hzb:(zeroS ++ [Value.int .u64 0]).length=129:=rfl
  obtain⟨g92,g95,k92,nr92,k95,nr95,w95⟩:=zuo w89 (zkk tx.len hzb hi64) hi64 hsl (md+1)
  rw[zm8 tx.len hzb (by rw[List.length_append,hsl]; rfl) hi64,ztU hds] at w95
  have w0_92:=(nr92.2 _ (by omega)).trans w0_89
  have w1_92:=(nr92.2 _ (by omega)).trans w1_89
  have w2_92:=(nr92.2 _ (by omega)).trans w2_89
  have w0_95:=(nr95.2 _ (by omega)).trans w0_92
  have w1_95:=(nr95.2 _ (by omega)).trans w1_92
  have w2_95:=(nr95.2 _ (by omega)).trans w2_92
  have oh95:=zao (zao oh89 nr92 (by omega)) nr95 (by omega)
  have n95:g95.next=g89.next:=nr95.1.trans nr92.1
  have wv:(Lit.int .u64 (md+1)).wf=true:=by
   simp[Lit.wf,IntKind.min,IntKind.max,IntKind.signed,IntKind.bits]
   omega
  have txb:zaZ (setBlk (zbj xs r.id) i.toNat (zp8 ds (md+1))):=tx.set (zob hds hd wv) hi64
  have ltb:=zaT (x:=(r.id,setBlk (zbj xs r.id) i.toNat (zp8 ds (md+1)))) txb.len
  subst e83
  refine⟨_,rfl,_,zae w1_89 rfl,hi0,by omega,hsl,g92,k92,zae w1_84 rfl,zae w1_89 rfl,_,zae w1_92 rfl,_,zae w0_92 rfl,hi0,by omega,g95,k95,_,_,_,zae w0_95 rfl,_,zah w95 ltb,(zr7 kk (T.old oh95) hn txb (hidw he)).mono ?_⟩
  rintro _ g101 ⟨p',n',c',rfl,hn',G,T101,o101⟩
  have l101:=o101.1
  have w0_101:=(o101.2 _ (by omega)).trans w0_95
  have w2_101:=(o101.2 _ (by omega)).trans w2_95
  have nr105:=zak h.next g101 (.cells (mC nx p n c p' n' c' st (md+1)) 32 false)
  have oh105:=zao (oh95.trans o101) nr105 (by omega)
  refine⟨_,_,_,rfl,_,zbi w0_101 (by simp[mC]),ztT (zad h.next g101 (.cells (mC nx p n c p' n' c' st (md+1)) 32 false)) ((nr105.2 _ (by omega)).trans w2_101) rfl fun g' nr=>⟨zao oh105 nr (by omega),_,?_,p,n,c,p',n',c',rfl,B.old (zao oh105 nr (by omega)),?_⟩⟩
  ·unfold zsm
   rw[hE,if_neg (fun z:(0:Int)≠0=>z rfl),if_pos hk1]
  ·have G2:=(G.near nr105 (by omega) (Nat.le_refl _)).near nr (by omega) (Nat.le_refl _)
   unfold zpb
   rw[hE,if_neg (fun z:(0:Int)≠0=>z rfl),if_pos hk1,hid]
   exact⟨G2.shows,T101.n,T101.ok⟩
 ·have hE:zju rs f kd i ds=0:=by rw[hE1 he,if_neg fun z=>hk1 z.1]
  have txb:zaZ (setBlk (zbj xs r.id) i.toNat zjO):=tx.set zh4 hi64
  have ltb:=zaT (x:=(r.id,setBlk (zbj xs r.id) i.toNat zjO)) txb.len
  refine⟨_,_,_,zae w0_58 rfl,_,zah w58 ltb,(zr7 kk (T.old oh58) hn txb (hidw he)).mono ?_⟩
  rintro _ g101 ⟨p',n',c',rfl,hn',G,T101,o101⟩
  have l101:=o101.1
  have w0_101:=(o101.2 _ (by omega)).trans w0_58
  have w2_101:=(o101.2 _ (by omega)).trans w2_58
  have nr105:=zak h.next g101 (.cells (mC nx p n c p' n' c' st md) 32 false)
  have oh105:=zao (oh58.trans o101) nr105 (by omega)
  refine⟨_,_,_,rfl,_,zbi w0_101 (by simp[mC]),ztT (zad h.next g101 (.cells (mC nx p n c p' n' c' st md) 32 false)) ((nr105.2 _ (by omega)).trans w2_101) rfl fun g' nr=>⟨zao oh105 nr (by omega),_,?_,p,n,c,p',n',c',rfl,B.old (zao oh105 nr (by omega)),?_⟩⟩
  ·unfold zsm
   rw[hE,if_neg (fun z:(0:Int)≠0=>z rfl),if_neg hk1]
  ·have G2:=(G.near nr105 (by omega) (Nat.le_refl _)).near nr (by omega) (Nat.le_refl _)
   unfold zpb
   rw[hE,if_neg (fun z:(0:Int)≠0=>z rfl),if_neg hk1,hid]
   exact⟨G2.shows,T101.n,T101.ok⟩
end
noncomputable def zpc (rs:List zaj) (xs:List (Int×List Value)) (f:ByteArray):List Value:=if f=noB then za0 else match lookOf rs (spl f) with
 | none=>za0
 | some j=>match rs[j]? with | none=>za0 | some r=>zbj xs r.id
theorem ztV {xs ys:List zaj} (h:xs.map cor=ys.map cor) (ts:List (Int×List Value)) (f:ByteArray):zpc xs ts f=zpc ys ts f:=by
 unfold zpc
 rw[zaP h]
 split
 ·rfl
 ·split
  ·rfl
  ·rename_i j _
   rcases getc h j with ⟨h1,h2⟩ | ⟨a,b,h1,h2,h3⟩
   ·rw[h1,h2]
   ·rw[h1,h2]
    simp only
    rw[show a.id=b.id from (congrArg zaj.id h3:(cor a).id=(cor b).id)]
section
variable {K:Xs} {h:AH} {p pt:Option Addr} {n c nt ct:Nat} {rs:List zaj} {nx st md:Int} {xs:List (Int×List Value)}
theorem zh8 (kk:zeo K) {g:AH} {a b l:Nat} {nx2:Int} {p2:Option Addr} {n2 c2:Nat} {x:List Value} {id:Int} (wa:g.get a=some (.cells (mC nx p n c pt nt ct st md) 32 false)) (wb:g.get b=some (.cells [.int .u64 nx2,.slice p2 n2 c2] 29 false))
 (wl:g.get l=some (.cells (txtC (id,x)) 87 false)) (hx:zaZ x) (hid:(Lit.int .u64 id).wf=true) (T:TxS g pt nt xs) (hn:nt≤1000) (hab:a≠b) (ha:a < g.next) (hb:b < g.next)
 {C:AH→Prop} (HC:∀p' n' c' g',n'≤nt+1→g.next≤g'.next→(∀y,y < g.next→y≠a→g'.get y=g.get y)→g'.get a=some (.cells (mC nx2 p2 n2 c2 p' n' c' st md) 32 false)→(∀g2,g'.next≤g2.next→(∀y,g.next≤y→g2.get y=g'.get y)→TxS g2 p' n' (zcD xs id x))→C g'):
 ∃(p30:Option Addr) (n31 c32:Nat),ld1 g a 2=some (.slice p30 n31 c32)∧∃l33:List Value,ldN g l 0 8257=some l33∧Wf Tryz.prog K 37 [.slice p30 n31 c32,.agg l33.toArray] g fun r34 h35=>
  ∃(p36:Option Addr) (n37 c38:Nat),r34=.slice p36 n37 c38∧∃h39:AH,st1 h35 a 2 (.slice p36 n37 c38)=some h39∧∃i40:Int,∃(p41:Option Addr) (n42 c43:Nat),ldN h39 b 0 2=some [.int .u64 i40,.slice p41 n42 c43]∧
  ((List.length [Value.int .u64 i40,.slice p41 n42 c43]=2)∧∃h44:AH,stN h39 a 0 [.int .u64 i40,.slice p41 n42 c43]=some h44∧C h44):=by
 refine⟨_,_,_,zae wa rfl,_,zah wl (zaT hx.len),(zr7 kk T hn hx hid).mono ?_⟩
 rintro _ g35 ⟨p',n',c',rfl,hn',G,T35,o35⟩
 have l35:=o35.1
 have wa35:=(o35.2 _ ha).trans wa
 have wb35:=(o35.2 _ hb).trans wb
 have nr39:=zak a g35 (.cells (mC nx p n c p' n' c' st md) 32 false)
 have wa39:=zad a g35 (.cells (mC nx p n c p' n' c' st md) 32 false)
 have k39:st1 g35 a 2 (.slice p' n' c')=some (g35.set a (.cells (mC nx p n c p' n' c' st md) 32 false)):=zbi wa35 (by simp[mC])
 generalize g35.set a (.cells (mC nx p n c p' n' c' st md) 32 false)=g39 at nr39 wa39 k39
 obtain⟨g44,k44,nr44,w44⟩:=zrw wa39 (k:=0) (vs:=[.int .u64 nx2,.slice p2 n2 c2]) (by simp[mC])
 refine⟨_,_,_,rfl,g39,k39,_,_,_,_,zah ((nr39.2 _ (Ne.symm hab)).trans wb35) rfl,rfl,g44,k44,HC p' n' c' g44 hn' (by rw[nr44.1,nr39.1]; exact l35) (fun y hy hne=>(nr44.2 y hne).trans ((nr39.2 y hne).trans (o35.2 y hy))) w44 fun g2 h1 h2=>⟨?_,T35.n,T35.ok⟩⟩
 have G2:=(G.near nr39 (by omega) (Nat.le_refl _)).near nr44 (by omega) (Nat.le_refl _)
 refine (G2.keep h1 fun q hq=>?_).shows
 exact h2 _ (G2.block hq).1
theorem zr9 (kk:zeo K) (B:zbw nx rs nx p n h) (T:TxS h pt nt xs) (R:zam nx rs) (hn:nt≤1000) (hnx:(Lit.int .u64 nx).wf=true) {nx2:Int} {rs2:List zaj} {p2:Option Addr} {n2 c2:Nat} (B2:zbw nx2 rs2 nx2 p2 n2 h) (e:Int) (f:ByteArray) (hf:f.size≤9223372036854775806):
 Wf Tryz.prog K 29 [.agg #[.int .u64 nx,.slice p n c,.slice pt nt ct,.int .u64 st,.int .i64 md],.agg #[.int .u64 nx2,.slice p2 n2 c2],.int .i64 e,.string f] h fun v h'=>
  Old h h'∧∃w,v=.tuple #[w,.int .i64 e]∧zog h' (if e=0 then nx2 else nx) st md (if e=0 then rs2 else rs) (if e=0 then zcD xs nx (zpc rs xs f) else xs) w:=by
 obtain⟨-,form,rs',Ts,hx⟩:=id B
 have R' : zam nx rs':=R.cor hx.symm
 rw[←ztV hx]
 refine zfF kk.born _ _ _ _ _ _ _ _ _ _ _ _ _ _ _ h _ fun g0 e0 g1 e1 g2 e2=>?_
 have o0:=zab e0
 have o1:=zab e1
 have o2:=zab e2
 have n0:=zaa e0
 have n1:=zaa e1
 have n2':=zaa e2
 have oh2:=o0.trans (o1.trans o2)
 have w0:g2.get h.next=some (.cells (mC nx p n c pt nt ct st md) 32 false):=(o2.2 _ (by omega)).trans ((o1.2 _ (by omega)).trans (zaf e0))
 have w1:=(o2.2 _ (by omega)).trans (zaf e1)
 have w2:=zaf e2
 refine⟨fun he=>?_,fun he=>ztT w0 w2 rfl fun g' nr=>⟨zao oh2 nr (by omega),_,rfl,?_⟩⟩
 rotate_left
 ·rw[if_neg he,if_neg he,if_neg he]
  exact⟨p,n,c,pt,nt,ct,rfl,B.old (zao oh2 nr (by omega)),T.old (zao oh2 nr (by omega))⟩
 subst he
 have hz:(txtC (0,za0)).length=8257:=zaT zbq.len
 refine⟨_,zr4,_,zdw,fun g5 e5=>?_⟩
 obtain⟨g6,k6,n6,o6,v6⟩:=zap e5 (vs:=txtC (0,za0)) rfl
 have w6:=(v6 [] (fun c hc=>by cases hc)).1
 have w0_6:=(o6.2 _ (by omega)).trans w0
 refine⟨hz,g6,k6,_,_,_,zae w0_6 rfl,(zds kk.r17.r16 (c:=c) (Ts.old (oh2.trans o6)) R' f hf).mono ?_⟩
 rintro v11 g11 ⟨q,o11⟩
 have l11:=o11.1
 have fnd:∃r er,v11=.tuple #[.agg (setC r).toArray,.int .i64 er]∧zpc rs' xs f=if f=noB then za0 else if er=0 then zbj xs r.id else za0:=by
  rcases namedD q with ⟨i,r,hl,hr,hv⟩ | ⟨hl,er,he,hv⟩
  ·refine⟨r,0,hv,?_⟩
   unfold zpc
   rw[hl,if_pos rfl]
   simp only[hr]
  ·refine⟨zaq,er,hv,?_⟩
   unfold zpc
   rw[hl,if_neg he]
 obtain⟨r,er,rfl,hsrc⟩:=fnd
 rw[hsrc]
 refine⟨_,_,_,_,_,_,_,_,_,_,_,_,_,_,rfl,fun g26 e26=>?_⟩
 obtain⟨g27,k27,n27,o27,v27⟩:=zap e26 (vs:=setC r) rfl
 have w27:=(v27 [] (fun c hc=>by cases hc)).1
 have o6_27:=o11.trans o27
 have l27:=o6_27.1
 have w6_27:=(o6_27.2 _ (by omega)).trans w6
 have w0_27:=(o6_27.2 _ (by omega)).trans w0_6
 have w1_27:=(o6_27.2 _ (by omega)).trans ((o6.2 _ (by omega)).trans w1)
 have w2_27:=(o6_27.2 _ (by omega)).trans ((o6.2 _ (by omega)).trans w2)
 have oh27:=oh2.trans (o6.trans o6_27)
 have fin:∀{g:AH} {L:List Value},(L=if f=noB then za0 else if er=0 then zbj xs r.id else za0)→zaZ L→Old h g→g2.next < g.next→g.get h.next=some (.cells (mC nx p n c pt nt ct st md) 32 false)→g.get g0.next=some (.cells [.int .u64 nx2,.slice p2 n2 c2] 29 false)→g.get g1.next=some (.cells [.int .u64 0,.slice none 0 0,.slice none 0 0,.int .u64 0,.int .i64 0] 32 false)→
  ∀{g' : AH} {p' : Option Addr} {n' c' : Nat},g.next≤g'.next→(∀y,y < g.next→y≠h.next→g'.get y=g.get y)→(∀g2,g'.next≤g2.next→(∀y,g.next≤y→g2.get y=g'.get y)→TxS g2 p' n' (zcD xs nx L))→
  ∀g'',zbR g1.next g' g''→(Old h g''∧∃w,Value.tuple #[.agg #[.int .u64 nx2,.slice p2 n2 c2,.slice p' n' c',.int .u64 st,.int .i64 md],.int .i64 0]=.tuple #[w,.int .i64 0]∧zog g'' (if (0:Int)=0 then nx2 else nx) st md (if (0:Int)=0 then rs2 else rs) (if (0:Int)=0 then zcD xs nx (if f=noB then za0 else if er=0 then zbj xs r.id else za0) else xs) w):=by
  intro g L hL hLo ohg lg wg wg1 wg2 g' p' n' c' q1 q2 q3 g'' nr
  have oh:Old h g'':=⟨by have:=ohg.1; rw[nr.1]; omega,fun y hy=>(nr.2 y (by omega)).trans ((q2 y (by have:=ohg.1; omega) (by omega)).trans (ohg.2 y hy))⟩
  rw[if_pos rfl,if_pos rfl,if_pos rfl,←hL]
  exact⟨oh,_,rfl,p2,n2,c2,p',n',c',rfl,B2.old oh,q3 g'' (by rw[nr.1]; exact Nat.le_refl _) fun y hy=>nr.2 y (by omega)⟩
 refine⟨rfl,g27,k27,fun (hf0:f=noB)=>?_,fun (hf0:¬f=noB)=>⟨fun he=>?_,fun he=>?_⟩⟩
 ·refine⟨_,zae w0_27 rfl,_,zbi w6_27 (by omega),?_⟩
  have nr29:=zak g2.next g27 (.cells (txtC (nx,za0)) 87 false)
  have w29:=zad g2.next g27 (.cells (txtC (nx,za0)) 87 false)
  rw[zh6]
  generalize g27.set g2.next (.cells (txtC (nx,za0)) 87 false)=g29 at nr29 w29 ⊢
  have oh29:=zao oh27 nr29 (by omega)
  have wa:=(nr29.2 _ (by omega)).trans w0_27
  have wb:=(nr29.2 _ (by omega)).trans w1_27
  have wc:=(nr29.2 _ (by omega)).trans w2_27
  refine zh8 kk wa wb w29 zbq hnx (T.old oh29) hn (by omega) (by rw[nr29.1]; omega) (by rw[nr29.1]; omega) fun p' n' c' g' h1 h2 h3 h4 h5=>?_
  exact ztT h4 ((h3 _ (by rw[nr29.1]; omega) (by omega)).trans wc) rfl (fin (g:=g29) (by rw[if_pos hf0]) zbq oh29 (by rw[nr29.1]; omega) wa wb wc h2 h3 h5)
 ·refine⟨_,_,_,_,_,_,_,_,_,zah w0_27 rfl,_,zae w27 rfl,(zvu kk (T.old oh27) hn r.id nx p n c).mono ?_⟩
  rintro _ g75 ⟨rfl,o75⟩
  have l75:=o75.1
  have tx:=zft T.ok r.id
  have ltx:(txtC (r.id,zbj xs r.id)).length=8257:=zaT tx.len
  have w6_75:=(o75.2 _ (by omega)).trans w6_27
  have w0_75:=(o75.2 _ (by omega)).trans w0_27
  have w1_75:=(o75.2 _ (by omega)).trans w1_27
  have w2_75:=(o75.2 _ (by omega)).trans w2_27
  obtain⟨g77,k77,nr77,w77⟩:=zrw w6_75 (k:=0) (vs:=txtC (r.id,zbj xs r.id)) (by omega)
  rw[List.take_zero,List.nil_append,Nat.zero_add,List.drop_of_length_le (by omega),List.append_nil] at w77
  have w0_77:=(nr77.2 _ (by omega)).trans w0_75
  have oh77:=zao (oh27.trans o75) nr77 (by omega)
  refine⟨_,rfl,ltx,g77,k77,_,zae w0_77 rfl,_,zbi w77 (by omega),?_⟩
  have nr29:=zak g2.next g77 (.cells (txtC (nx,zbj xs r.id)) 87 false)
  have w29:=zad g2.next g77 (.cells (txtC (nx,zbj xs r.id)) 87 false)
  rw[zh6]
  generalize g77.set g2.next (.cells (txtC (nx,zbj xs r.id)) 87 false)=g29 at nr29 w29 ⊢
  have oh29:=zao oh77 nr29 (by omega)
  have n29:g29.next=g75.next:=nr29.1.trans nr77.1
  have wa:=(nr29.2 _ (by omega)).trans w0_77
  have wb:=(nr29.2 _ (by omega)).trans ((nr77.2 _ (by omega)).trans w1_75)
  have wc:=(nr29.2 _ (by omega)).trans ((nr77.2 _ (by omega)).trans w2_75)
  refine zh8 kk wa wb w29 tx hnx (T.old oh29) hn (by omega) (by omega) (by omega) fun p' n' c' g' h1 h2 h3 h4 h5=>?_
  exact ztT h4 ((h3 _ (by omega) (by omega)).trans wc) rfl (fin (g:=g29) (by rw[if_neg hf0,if_pos he]) tx oh29 (by omega) wa wb wc h2 h3 h5)
 ·refine⟨_,zae w0_27 rfl,_,zbi w6_27 (by omega),?_⟩
  have nr29:=zak g2.next g27 (.cells (txtC (nx,za0)) 87 false)
  have w29:=zad g2.next g27 (.cells (txtC (nx,za0)) 87 false)
  rw[zh6]
  generalize g27.set g2.next (.cells (txtC (nx,za0)) 87 false)=g29 at nr29 w29 ⊢
  have oh29:=zao oh27 nr29 (by omega)
  have wa:=(nr29.2 _ (by omega)).trans w0_27
  have wb:=(nr29.2 _ (by omega)).trans w1_27
  have wc:=(nr29.2 _ (by omega)).trans w2_27
  refine zh8 kk wa wb w29 zbq hnx (T.old oh29) hn (by omega) (by rw[nr29.1]; omega) (by rw[nr29.1]; omega) fun p' n' c' g' h1 h2 h3 h4 h5=>?_
  exact ztT h4 ((h3 _ (by rw[nr29.1]; omega) (by omega)).trans wc) rfl (fin (g:=g29) (by rw[if_neg hf0,if_neg he]) zbq oh29 (by rw[nr29.1]; omega) wa wb wc h2 h3 h5)
end
def zM:List Value:=[.int .u64 0,.slice none 0 0,.slice none 0 0,.int .u64 0,.int .i64 0]
theorem zp9 {g:AH} {a r s:Nat} {nx:Int} {p pt:Option Addr} {n c nt ct:Nat} {st md:Int} (wa:g.get a=some (.cells (mC nx p n c pt nt ct st md) 32 false)) (wr:g.get r=some (.cells zM 32 false)) (ws:g.get s=some (.cells zeroS 39 false)) (hrs:r≠s)
 {C:Int→Option Addr→Nat→Nat→Option Addr→Nat→Nat→Int→Int→List Value→AH→Prop} (HC:∀g',g'.next=g.next→(∀y,y≠r→y≠s→g'.get y=g.get y)→C nx p n c pt nt ct st md zeroS g'):
 ∃i9:Int,∃(p10:Option Addr) (n11 c12:Nat),∃(p13:Option Addr) (n14 c15:Nat),∃i16:Int,∃i17:Int,ldN g a 0 5=some [(.int .u64 i9),(.slice p10 n11 c12),(.slice p13 n14 c15),(.int .u64 i16),(.int .i64 i17)]∧
  (∃l61:List Value,zaE Tryz.prog 39 #[]=some (.agg l61.toArray)∧
  ((List.length [(Value.int .u64 i9),(.slice p10 n11 c12),(.slice p13 n14 c15),(.int .u64 i16),(.int .i64 i17)]=5)∧∃h18:AH,stN g r 0 [(.int .u64 i9),(.slice p10 n11 c12),(.slice p13 n14 c15),(.int .u64 i16),(.int .i64 i17)]=some h18∧
  ((List.length l61=128)∧∃h63:AH,stN h18 s 0 l61=some h63∧
  (∃i19:Int,∃(p20:Option Addr) (n21 c22:Nat),∃(p23:Option Addr) (n24 c25:Nat),∃i26:Int,∃i27:Int,ldN h63 r 0 5=some [(.int .u64 i19),(.slice p20 n21 c22),(.slice p23 n24 c25),(.int .u64 i26),(.int .i64 i27)]∧
  (∃l73:List Value,ldN h63 s 0 128=some l73∧
  C i19 p20 n21 c22 p23 n24 c25 i26 i27 l73 h63))))):=by
 have n1:=zak r g (.cells (mC nx p n c pt nt ct st md) 32 false)
 have w1:=zad r g (.cells (mC nx p n c pt nt ct st md) 32 false)
 have k1:stN g r 0 (mC nx p n c pt nt ct st md)=some (g.set r (.cells (mC nx p n c pt nt ct st md) 32 false)):=zat wr rfl
 generalize g.set r (.cells (mC nx p n c pt nt ct st md) 32 false)=g1 at n1 w1 k1
 have ws1:=(n1.2 _ (Ne.symm hrs)).trans ws
 have n2:=zak s g1 (.cells zeroS 39 false)
 have w2:=zad s g1 (.cells zeroS 39 false)
 have k2:stN g1 s 0 zeroS=some (g1.set s (.cells zeroS 39 false)):=zat ws1 rfl
 generalize g1.set s (.cells zeroS 39 false)=g2 at n2 w2 k2
 exact⟨_,_,_,_,_,_,_,_,_,zah wa rfl,_,zdY,rfl,g1,k1,za8,g2,k2,_,_,_,_,_,_,_,_,_,zah ((n2.2 _ hrs).trans w1) rfl,_,zah w2 za8,HC g2 (n2.1.trans n1.1) fun y h1 h2=>(n2.2 y h2).trans (n1.2 y h1)⟩
section
variable {K:Xs} {h:AH} {p pt:Option Addr} {n c nt ct:Nat} {xs:List (Int×List Value)} {s:MSt}
abbrev zjv (s:MSt) (xs:List (Int×List Value)):Prop:=zlt (zgt s.rs) s.nx s.md s.T xs
def zxx (h:AH) (s:MSt) (xs:List (Int×List Value)) (s' : MSt) (l:List Value) (e:Int) (v:Value) (h' : AH):Prop:=
 Old h h'∧∃w xs',v=.tuple #[w,.agg l.toArray,.int .i64 e]∧zog h' s'.nx s'.st s'.md s'.rs xs' w∧zjv s' xs'∧xs'.length≤xs.length+1
theorem zbw.corE {nx nx' i:Int} {R R' : List zaj} {g:AH} (b:zbw nx R i p n g) (e:nx=nx') (h:R.map Am.cor=R'.map Am.cor):zbw nx' R' i p n g:=by
 obtain⟨h1,h2,rs',h3,h4⟩:=b
 exact⟨h1.trans e,h2,rs',h3,h4.trans h⟩
end
section
variable {s:MSt} {xs:List (Int×List Value)}
theorem zlt.zeroId (rep:zjv s xs) (R:zam s.nx s.rs):s.T 0=za0:=by
 refine rep.gone 0 fun h=>?_
 obtain⟨r,hr,he⟩:=List.mem_map.1 h
 obtain⟨i,hi⟩:=List.getElem?_of_mem hr
 have:=R.uniq hi
 rw[he,R.zero] at this
 cases this
theorem zd1 (rep:zjv s xs) {j:Nat} {r:zaj} (h:s.rs[j]?= some r):zbj xs r.id=s.T r.id:=rep.here _ (zlu h)
theorem zlt.grow (rep:zjv s xs) {s1:MSt} (h1:s1.T=s.T) (h2:s1.nx=s.nx) (h3:s1.md=s.md) {rs' : List zaj} {r:zaj} (R' : zam (s.nx+1) (rs' ++ [r])) (hids:zgt rs'= zgt s.rs) (hr:r.id=s.nx) {l:List Value} (hl:l=s.T (zgq r)) (hlo:zaZ l) (hid:(Lit.int .u64 s.nx).wf=true):
 zjv (zdu s1 (s.nx+1) (rs' ++ [r]) 0) (zcD xs s.nx l):=by
 have hf:zgU (rs' ++ [r]) s.nx=r:=by
  have:=zr0 R' (i:=rs'.length) (r:=r) (by simp)
  rw[hr] at this
  exact this
 unfold zdu
 rw[if_pos rfl,h2,hf,hr]
 have:=rep.copy (ids':=zgt (rs' ++ [r])) (nx':=s.nx+1) (id:=s.nx) (src:=zgq r) hl hlo hid fun j=>by rw[zvl,hids,hr]
 unfold zew zmU
 rw[h1]
 simp only
 rw[h3]
 exact this
theorem zjr {s:MSt} {nx:Int} {rs:List zaj} {e:Int} (h:e≠0):zdu s nx rs e=s:=if_neg h
theorem zsa {rs:List zaj} {f:ByteArray} {j:Nat} {r:zaj} (hf:f≠noB) (hl:lookOf rs (spl f)=some j) (hr:rs[j]?= some r):zpc rs xs f=zbj xs r.id:=by
 unfold zpc
 rw[if_neg hf,hl]
 simp only[hr]
theorem zvm {a:ByteArray} (h:zbf a):a≠noB:=fun e=>by
 have:=h.1
 rw[e] at this
 exact absurd this (by decide)
theorem zp3 {o:Option (ByteArray×ByteArray)} {k:Int} (rep:zjv s xs) (R:zam s.nx s.rs) (R' : zam (zax s.nx s.rs o k).1 (zax s.nx s.rs o k).2.1) (hid:(Lit.int .u64 s.nx).wf=true):
 zjv (zdu s (zax s.nx s.rs o k).1 (zax s.nx s.rs o k).2.1 (zax s.nx s.rs o k).2.2)
  (if (zax s.nx s.rs o k).2.2=0 then zcD xs s.nx (zpc s.rs xs noB) else xs):=by
 by_cases he:(zax s.nx s.rs o k).2.2=0
 ·obtain⟨r,e1,h1,h2,h3⟩:=zp1 he
  rw[e1] at R' ⊢
  simp only at R' ⊢
  rw[if_pos trivial]
  have hs:zpc s.rs xs noB=za0:=if_pos rfl
  rw[hs]
  refine rep.grow rfl rfl rfl R' rfl h1 ?_ zbq hid
  unfold zgq
  rw[h2,if_neg (by decide),h3,rep.zeroId R]
 ·rw[if_neg he,zjr he]
  exact rep
theorem zsb {f:ByteArray} {o2:Option (ByteArray×ByteArray)} (rep:zjv s xs) (R:zam s.nx s.rs) (hT:∀id,zaZ (s.T id)) (R' : zam (zaK s.nx s.rs (spl f) o2).1 (zaK s.nx s.rs (spl f) o2).2.1) (hid:(Lit.int .u64 s.nx).wf=true):
 zjv (zdu s (zaK s.nx s.rs (spl f) o2).1 (zaK s.nx s.rs (spl f) o2).2.1 (zaK s.nx s.rs (spl f) o2).2.2)
  (if (zaK s.nx s.rs (spl f) o2).2.2=0 then zcD xs s.nx (zpc s.rs xs f) else xs):=by
 by_cases he:(zaK s.nx s.rs (spl f) o2).2.2=0
 ·obtain⟨r,j,v,e1,h1,h2,h3,h4,h5⟩:=zr1 R he
  have hf:f≠noB:=fun e=>by
   obtain⟨q,hq⟩:∃q,snapOf (spl f)=some q:=by
    unfold zaK at he
    split at he
    ·cases he
    ·exact⟨_,by assumption⟩
   obtain⟨a,b⟩:=q
   obtain⟨-, -, -, -,h6⟩:=zgO hq
   rw[e] at h6
   have:=congrArg ByteArray.size h6
   simp only[ByteArray.size_append] at this
   have h7:noB.size=0:=rfl
   have h8:atB.size=1:=rfl
   omega
  rw[e1] at R' ⊢
  simp only at R' ⊢
  rw[if_pos trivial,zsa hf h4 h5,zd1 rep h5]
  refine rep.grow rfl rfl rfl R' rfl h1 ?_ (hT _) hid
  unfold zgq
  rw[h2,if_neg (by decide),h3]
 ·rw[if_neg he,zjr he]
  exact rep
theorem zpd {f a:ByteArray} (rep:zjv s xs) (R:zam s.nx s.rs) (hT:∀id,zaZ (s.T id)) (R' : zam (snapA s.nx s.rs (spl f) s.st).1 (snapA s.nx s.rs (spl f) s.st).2.1) (hid:(Lit.int .u64 s.nx).wf=true) {s1:MSt} (q1:s1.T=s.T) (q2:s1.nx=s.nx) (q3:s1.md=s.md) (q4:s1.rs=s.rs)
 (ha:∀x y,spl f=some (x,y)→a=x):
 zjv (zdu s1 (snapA s.nx s.rs (spl f) s.st).1 (snapA s.nx s.rs (spl f) s.st).2.1 (snapA s.nx s.rs (spl f) s.st).2.2)
  (if (snapA s.nx s.rs (spl f) s.st).2.2=0 then zcD xs s.nx (zpc s.rs xs a) else xs):=by
 by_cases he:(snapA s.nx s.rs (spl f) s.st).2.2=0
 ·obtain⟨r,x,y,j,v,e1,h1,h2,h3,h4,h5,h6⟩:=ztI he
  obtain⟨h7, -,hx, -, -⟩:=zgO h4
  obtain rfl:=ha _ _ h7
  have hlk:lookOf s.rs (spl a)=some j:=by
   rw[zaH (.inl ⟨hx,rfl,rfl⟩:zaX a a noB)]
   exact h5
  rw[e1] at R' ⊢
  simp only at R' ⊢
  rw[if_pos trivial,zsa (zvm hx) hlk h6,zd1 rep h6]
  refine rep.grow q1 q2 q3 R' (zel (fun r=>(zbc s.nx v r).1) s.rs) h1 ?_ (hT _) hid
  unfold zgq
  rw[if_pos h2,h3]
 ·rw[if_neg he,zjr he]
  show zlt (zgt s1.rs) s1.nx s1.md s1.T xs
  rw[q1,q2,q3,q4]
  exact rep
theorem ztW {f:ByteArray} (rep:zjv s xs) (R:zam s.nx s.rs) (hT:∀id,zaZ (s.T id)) {rs' : List zaj} {p:Option Addr} {n:Nat} {g:AH} (Ts:zbL g p n rs') (hx:rs'.map cor=s.rs.map cor) (h0:(zaW s.nx s.rs (spl f)).2.2.2=0):
 zlt (zgt (zej s f).1.rs) (zej s f).1.nx (zej s f).1.md (zej s f).1.T (zcD xs (zaW s.nx s.rs (spl f)).2.2.1.id (zbj xs (zaW s.nx s.rs (spl f)).2.2.1.prev)):=by
 obtain⟨j,v,k,x,e1,h1,h2,h3,h4⟩:=ztJ h0
 unfold zej
 rw[if_pos h0,e1]
 simp only
 unfold zew zmU
 simp only
 have hp:x.id=v.prev:=by
  obtain⟨q1,q2, -⟩:=List.findIdx?_eq_some_iff_getElem.1 h3
  rw[List.getElem?_eq_getElem q1] at h4
  cases h4
  simpa using q2
 have hl:zbj xs v.prev=s.T v.prev:=by rw[←hp]; exact zd1 rep h4
 have hid:(Lit.int .u64 v.id).wf=true:=by
  rcases getc hx j with ⟨q1,q2⟩ | ⟨a,b,q1,q2,q3⟩
  ·rw[h2] at q2; cases q2
  ·rw[h2] at q2
   cases q2
   have:=zkj Ts a (List.mem_of_getElem? q1)
   rwa [show a.id=v.id from (congrArg zaj.id q3:(cor a).id=(cor v).id)] at this
 refine rep.copy hl (by rw[hl]; exact hT _) hid fun i=>?_
 rw[zel (ztK v x.root)]
 exact⟨.inl,fun z=>z.elim id fun z=>by rw[z]; exact zlu h2⟩
theorem zoh {f:ByteArray} (rep:zjv s xs) (hmd:0≤s.md):zlt (zgt (zaA s f).1.rs) (zaA s f).1.nx (zaA s f).1.md (zaA s f).1.T xs:=by
 unfold zaA
 split
 ·rename_i h0
  exact rep.del (fun j=>zr3 h0 j) hmd
 ·exact rep
theorem zsc {f:ByteArray} {kd i:Int} {ds:List Nat} (rep:zjv s xs) (R:zam s.nx s.rs) (hT:∀id,zaZ (s.T id)) (hmd:0≤s.md∧s.md≤1000000) (hd:∀x∈ds,x < 256) (hids:∀r∈s.rs,(Lit.int .u64 r.id).wf=true) (hk:kd=1∨kd=2):
 ∃s' : MSt,(if kd=1 then zfS s f i ds else zlp s f i)=(s',zju s.rs f kd i ds)∧s'.nx=s.nx∧s'.st=s.st∧s'.rs=s.rs∧s'.md=zsm s.rs f kd i ds s.md∧zjv s' (zpb s.rs f kd i ds s.md xs):=by
 have ok:∀{b:List Value} {md' : Int},(zei s.rs (spl f) i).2=0→zhO b→s.md≤md'→0≤zoe b→zoe b≤md'→
  zlt (zgt s.rs) s.nx md' (fun j=>if j=(zei s.rs (spl f) i).1.id then setBlk (s.T (zei s.rs (spl f) i).1.id) i.toNat b else s.T j) (zcD xs (zei s.rs (spl f) i).1.id (setBlk (zbj xs (zei s.rs (spl f) i).1.id) i.toNat b)):=fun {b md'} h0 hb h1 h2 h3=>by
  obtain⟨e1,e2, -⟩:=zoa h0
  obtain⟨j,r,hl,hr,e3,hi0,hib⟩:=zgT e2
  have hib2:=(R.ent (List.mem_of_getElem? hr)).2.2.2.1
  rw[e1,e3,zd1 rep hr]
  exact rep.put hT (by omega) hb (hids r (List.mem_of_getElem? hr)) (zlu hr) h1 ⟨h2,h3⟩
 by_cases h0:(zei s.rs (spl f) i).2=0
 ·rcases hk with rfl | rfl
  ·rw[if_pos rfl]
   unfold zfS
   rw[if_neg (fun z=>z h0)]
   by_cases h128:128 < ds.length
   ·have hE:zju s.rs f 1 i ds=92:=by unfold zju; rw[if_neg (fun z=>z h0),if_pos ⟨rfl,h128⟩]
    rw[if_pos h128]
    refine⟨s,by rw[hE],rfl,rfl,rfl,?_,?_⟩
    ·unfold zsm; rw[hE]; rfl
    ·unfold zpb; rw[hE]; exact rep
   ·have hE:zju s.rs f 1 i ds=0:=by unfold zju; rw[if_neg (fun z=>z h0),if_neg fun z=>h128 z.2]
    rw[if_neg h128]
    have hds:ds.length≤128:=by omega
    have wv:(Lit.int .u64 (s.md+1)).wf=true:=by
     simp[Lit.wf,IntKind.min,IntKind.max,IntKind.signed,IntKind.bits]
     omega
    have hv:zoe (zp8 ds (s.md+1))=s.md+1:=by
     unfold zoe zp8
     have e:(ds ++ List.replicate (128 - ds.length) 0).length=128:=by simp; omega
     rw[List.getElem?_append_right (by rw[za7,e]; exact Nat.le_refl _),za7,e]
     rfl
    refine⟨zv6 { s with md:=s.md+1 } (zei s.rs (spl f) i).1.id i.toNat (zp8 ds (s.md+1)),by rw[hE],rfl,rfl,rfl,?_,?_⟩
    ·unfold zsm; rw[hE]; rfl
    ·unfold zpb
     rw[hE]
     exact ok h0 (zob hds hd wv) (by show s.md≤s.md+1; omega) (by rw[hv]; omega) (by rw[hv]; exact Int.le_refl _)
  ·rw[if_neg (by decide)]
   have hE:zju s.rs f 2 i ds=0:=by unfold zju; rw[if_neg (fun z=>z h0),if_neg fun z=>absurd z.1 (by decide)]
   unfold zlp
   rw[if_neg (fun z=>z h0)]
   refine⟨zv6 s (zei s.rs (spl f) i).1.id i.toNat zjO,by rw[hE],rfl,rfl,rfl,?_,?_⟩
   ·unfold zsm; rw[hE]; rfl
   ·unfold zpb
    rw[hE]
    exact ok h0 zh4 (Int.le_refl _) (by rw[zjm]; exact Int.le_refl _) (by rw[zjm]; exact hmd.1)
 ·have hE:zju s.rs f kd i ds=(zei s.rs (spl f) i).2:=by unfold zju; rw[if_pos h0]
  refine⟨s,?_,rfl,rfl,rfl,?_,?_⟩
  ·unfold zfS zlp
   rw[if_pos h0,if_pos h0,hE]
   split <;> rfl
  ·unfold zsm
   rw[hE,if_pos h0]
  ·unfold zpb
   rw[hE,if_pos h0]
   exact rep
end
end Go.Am
