/-
  THE DOCUMENT'S MODEL: something is done (Do), as the model does it.
-/
import Derived.Test.YtkapnilnhoiooaaGreatCMrQ
import Derived.Test.YtkapnilnhoiooaaGreatCMoD
set_option linter.unusedVariables false
set_option linter.unusedSimpArgs false
set_option maxRecDepth 100000
namespace Go.Am
open Go.Proofs
theorem zgY (nx:Int) (p:Option Addr) (n c:Nat) (pt:Option Addr) (nt ct:Nat) (st md:Int) (ro:Bool):ze7 (.cells (mC nx p n c pt nt ct st md) 32 ro):=fun cs t ro' e=>by
 cases e
 refine⟨by simp,fun off q hl=>?_,fun off r hl=>?_⟩
 ·have hl' : off+3≤5:=hl
  have:off=0∨off=1∨off=2:=by omega
  rcases this with rfl | rfl | rfl <;> (intro h; simp[mC,qC] at h)
 ·have hl' : off+11≤5:=hl
  omega
theorem zm9 (ro:Bool):ze7 (.cells zeroS 39 ro):=zhD (fun v hv=>⟨0,List.eq_of_mem_replicate hv⟩) (by simp)
theorem zog.keep {g g' : AH} {nx st md:Int} {rs:List zaj} {xs:List (Int×List Value)} {v:Value} (M:zog g nx st md rs xs v) (hn:g.next≤g'.next) {F:List Nat} (k:∀y,y < g.next→y∉F→g'.get y=g.get y)
 (hF:∀y∈F,∃cs ty ro,g.get y=some (.cells cs ty ro)∧cs.length < 8257∧ze7 (.cells cs ty ro)):zog g' nx st md rs xs v:=by
 obtain⟨p,n,c,pt,nt,ct,rfl,⟨h1,h2,rs',h3,h4⟩,T⟩:=M
 have S:zhN g g':=⟨hn,fun y hy=>by
  by_cases hy2:y∈F
  ·obtain⟨cs,ty,ro,q1, -,q3⟩:=hF y hy2
   exact .inr ⟨_,q1,q3⟩
  ·exact .inl (k y hy hy2)⟩
 refine⟨p,n,c,pt,nt,ct,rfl,⟨h1,h2,rs',h3.stayM S,h4⟩,⟨T.sh.1,?_⟩,T.n,T.ok⟩
 rcases T.sh.2 with h0 | ⟨b,off,al,e,ro,hp,hb,hg,hl,hc⟩
 ·exact .inl h0
 ·by_cases hnt:nt=0
  ·exact .inl hnt
  refine .inr ⟨b,off,al,e,ro,hp,by omega,(k b hb fun hbF=>?_).trans hg,hl,hc⟩
  obtain⟨cs,ty,ro2,q1,q2, -⟩:=hF b hbF
  rw[hg] at q1
  cases q1
  have:1 * 8257≤nt * 8257:=Nat.mul_le_mul_right _ (by omega)
  omega
theorem zwu {g:AH} {a r s:Nat} {z5:List Value} {nx:Int} {p pt:Option Addr} {n c nt ct:Nat} {st md:Int} (wa:g.get a=some (.cells z5 32 false)) (hz:z5.length=5) (wr:g.get r=some (.cells zM 32 false)) (ws:g.get s=some (.cells zeroS 39 false)) (har:r≠a) (has:s≠a) (hrs:r≠s)
 {C:Int→Option Addr→Nat→Nat→Option Addr→Nat→Nat→Int→Int→List Value→AH→Prop} (HC:∀g',g'.next=g.next→(∀y,y≠a→y≠r→y≠s→g'.get y=g.get y)→C nx p n c pt nt ct st md zeroS g'):
 (List.length [(Value.int .u64 nx),(.slice p n c),(.slice pt nt ct),(.int .u64 st),(.int .i64 md)]=5)∧∃h51:AH,stN g a 0 [(.int .u64 nx),(.slice p n c),(.slice pt nt ct),(.int .u64 st),(.int .i64 md)]=some h51∧
 (∃i9:Int,∃(p10:Option Addr) (n11 c12:Nat),∃(p13:Option Addr) (n14 c15:Nat),∃i16:Int,∃i17:Int,ldN h51 a 0 5=some [(.int .u64 i9),(.slice p10 n11 c12),(.slice p13 n14 c15),(.int .u64 i16),(.int .i64 i17)]∧
   (∃l61:List Value,zaE Tryz.prog 39 #[]=some (.agg l61.toArray)∧
   ((List.length [(Value.int .u64 i9),(.slice p10 n11 c12),(.slice p13 n14 c15),(.int .u64 i16),(.int .i64 i17)]=5)∧∃h18:AH,stN h51 r 0 [(.int .u64 i9),(.slice p10 n11 c12),(.slice p13 n14 c15),(.int .u64 i16),(.int .i64 i17)]=some h18∧
   ((List.length l61=128)∧∃h63:AH,stN h18 s 0 l61=some h63∧
   (∃i19:Int,∃(p20:Option Addr) (n21 c22:Nat),∃(p23:Option Addr) (n24 c25:Nat),∃i26:Int,∃i27:Int,ldN h63 r 0 5=some [(.int .u64 i19),(.slice p20 n21 c22),(.slice p23 n24 c25),(.int .u64 i26),(.int .i64 i27)]∧
   (∃l73:List Value,ldN h63 s 0 128=some l73∧
   C i19 p20 n21 c22 p23 n24 c25 i26 i27 l73 h63)))))):=by
 have n1:=zak a g (.cells (mC nx p n c pt nt ct st md) 32 false)
 have w1:=zad a g (.cells (mC nx p n c pt nt ct st md) 32 false)
 have k1:stN g a 0 (mC nx p n c pt nt ct st md)=some (g.set a (.cells (mC nx p n c pt nt ct st md) 32 false)):=zat wa (by rw[hz]; rfl)
 generalize g.set a (.cells (mC nx p n c pt nt ct st md) 32 false)=g1 at n1 w1 k1
 exact⟨rfl,g1,k1,zp9 w1 ((n1.2 _ har).trans wr) ((n1.2 _ has).trans ws) hrs fun g' q1 q2=>HC g' (q1.trans n1.1) fun y h1 h2 h3=>(q2 y h2 h3).trans (n1.2 y h1)⟩
theorem zlw {g:AH} {s:MSt} {nx2 e:Int} {rs2:List zaj} {xs:List (Int×List Value)} {v:Value} (M:zog g (if e=0 then nx2 else s.nx) s.st s.md (if e=0 then rs2 else s.rs) xs v):zog g (zdu s nx2 rs2 e).nx (zdu s nx2 rs2 e).st (zdu s nx2 rs2 e).md (zdu s nx2 rs2 e).rs xs v:=by
 unfold zdu
 by_cases he:e=0
 ·rw[if_pos he] at M ⊢
  rw[if_pos he] at M
  exact M
 ·rw[if_neg he] at M ⊢
  rw[if_neg he] at M
  exact M
theorem zlx {e:Int} {xs:List (Int×List Value)} {id:Int} {l:List Value}:(if e=0 then zcD xs id l else xs).length≤xs.length+1:=by
 split
 ·exact zh7 ..
 ·exact Nat.le_succ _
theorem zsd {nx:Int} {rs:List zaj} {o:Option (ByteArray×ByteArray)} (h:(zba nx rs o).2.2≠0):(zba nx rs o).2.1=rs:=by
 unfold zba at h ⊢
 split at h
 ·rfl
 ·split at h
  ·rfl
  ·split at h
   ·rfl
   ·split at h
    ·rfl
    ·split at h
     ·rfl
     ·split at h
      ·rename_i hc
       rw[if_pos hc]
      ·exact absurd rfl h
theorem zna {nx:Int} {rs:List zaj} {o:Option (ByteArray×ByteArray)} (h:(zav nx rs o).2.2.2≠0):(zav nx rs o).2.1=rs:=by
 unfold zav at h ⊢
 split at h
 ·rfl
 ·split at h
  ·rfl
  ·split at h
   ·rfl
   ·split at h
    ·rename_i hc
     rw[if_pos hc]
    ·exact absurd rfl h
theorem zly {nx:Int} {rs:List zaj} {o:Option Nat} {ok:Bool} (h:(zaw nx rs o ok).2.2.2≠0):(zaw nx rs o ok).2.1=rs:=by
 unfold zaw at h ⊢
 split at h
 ·rename_i hc
  rw[if_pos hc]
 ·rename_i hc
  rw[if_neg hc]
  split at h
  ·rfl
  ·split at h
   ·rfl
   ·split at h
    ·rename_i hc
     rw[if_pos hc]
    ·rename_i hc
     rw[if_neg hc]
     split at h
     ·rfl
     ·split at h
      ·rfl
      ·split at h
       ·rfl
       ·split at h
        ·rename_i hc
         rw[if_pos hc]
        ·exact absurd rfl h
section
variable {K:Xs} {h:AH} {p pt:Option Addr} {n c nt ct:Nat} {xs:List (Int×List Value)} {s:MSt}
theorem zxI (kk:zeo K) (B:zbw s.nx s.rs s.nx p n h) (T:TxS h pt nt xs) (R:zam s.nx s.rs) (rep:zjv s xs) (hT:∀id,zaZ (s.T id)) (hn:nt≤900) (hnx:1≤s.nx∧s.nx≤1000000) (hst:0≤s.st∧s.st≤1000000) (hmd:0≤s.md∧s.md≤1000000) (k:Int) (f t:ByteArray) (hf:f.size≤9223372036854775806) (hft:t.size≤9223372036854775806) (i:Int)
 {pd pk:Option Addr} {nd cd nk ck:Nat} {ds:List Nat} (S:zaR h pd nd 1 (zbY .u8 ds)) (hd:∀x∈ds,x < 256):
 Wf Tryz.prog K 8 [.agg #[.int .u64 s.nx,.slice p n c,.slice pt nt ct,.int .u64 s.st,.int .i64 s.md],.agg #[.int .i64 k,.string f,.string t,.int .i64 i,.slice pd nd cd,.slice pk nk ck]] h fun v h'=>
  zxx h s xs (doM s k f t i ds).1 (doM s k f t i ds).2.1 (doM s k f t i ds).2.2 v h':=by
 obtain⟨-,form,rs',Ts,hx⟩:=id B
 have R' : zam s.nx rs':=R.cor hx.symm
 have hnn:=Ts.1
 have hn32:=R'.2.1
 have hbn:0≤s.nx∧s.nx < 1000000000000000:=by omega
 have hidnx:(Lit.int .u64 s.nx).wf=true:=zlg ⟨by omega,by omega⟩
 have hidst:(Lit.int .u64 s.st).wf=true:=zlg ⟨by omega,by omega⟩
 have hids:∀r∈s.rs,(Lit.int .u64 r.id).wf=true:=fun r hr=>by
  obtain⟨j,hj⟩:=List.getElem?_of_mem hr
  rcases getc hx j with ⟨q1,q2⟩ | ⟨a,b,q1,q2,q3⟩
  ·rw[hj] at q2; cases q2
  ·rw[hj] at q2
   cases q2
   have:=zkj Ts a (List.mem_of_getElem? q1)
   rwa [show a.id=r.id from (congrArg zaj.id q3:(cor a).id=(cor r).id)] at this
 refine zgI kk.do_ _ _ _ _ _ _ _ _ _ _ _ _ _ _ _ _ _ _ _ h _ fun g0 e0 g1 e1 g2 e2 g3 e3=>?_
 have o0:=zab e0
 have o1:=zab e1
 have o2:=zab e2
 have o3:=zab e3
 have n0:=zaa e0
 have n1:=zaa e1
 have n2:=zaa e2
 have n3:=zaa e3
 have oh3:=o0.trans (o1.trans (o2.trans o3))
 have w0:g3.get h.next=some (.cells (mC s.nx p n c pt nt ct s.st s.md) 32 false):=(o3.2 _ (by omega)).trans ((o2.2 _ (by omega)).trans ((o1.2 _ (by omega)).trans (zaf e0)))
 have w1:=(o3.2 _ (by omega)).trans ((o2.2 _ (by omega)).trans (zaf e1))
 have wr:g3.get g1.next=some (.cells zM 32 false):=(o3.2 _ (by omega)).trans (zaf e2)
 have ws:g3.get g2.next=some (.cells zeroS 39 false):=zaf e3
 have hars:g1.next≠g2.next:=by omega
 have fin:∀{g:AH} {s' : MSt} {e:Int} {l:List Value} {xs' : List (Int×List Value)} {w:Value},Old h g→g3.next≤g.next→zog g s'.nx s'.st s'.md s'.rs xs' w→zjv s' xs'→xs'.length≤xs.length+1→doM s k f t i ds=(s',l,e)→
  (∃nx p n c pt nt ct st md,g.get h.next=some (.cells (mC nx p n c pt nt ct st md) 32 false))→g.get g1.next=some (.cells zM 32 false)→g.get g2.next=some (.cells zeroS 39 false)→
  ∀{g' : AH},g'.next=g.next→(∀y,y≠h.next→y≠g1.next→y≠g2.next→g'.get y=g.get y)→zxx h s xs (doM s k f t i ds).1 (doM s k f t i ds).2.1 (doM s k f t i ds).2.2 (.tuple #[w,.agg l.toArray,.int .i64 e]) g':=by
  intro g s' e l xs' w og lg M rp hl hdo ⟨nx0,p0,n0',c0,pt0,nt0,ct0,st0,md0,q0⟩ qr qs g' hgn hk
  rw[hdo]
  refine⟨⟨by rw[hgn]; exact og.1,fun y hy=>(hk y (by omega) (by omega) (by omega)).trans (og.2 y hy)⟩,w,xs',rfl,M.keep (F:=[h.next,g1.next,g2.next]) (by rw[hgn]; exact Nat.le_refl _) (fun y _ hy=>by
   simp only[List.mem_cons,List.not_mem_nil,or_false,not_or] at hy
   exact hk y hy.1 hy.2.1 hy.2.2) (fun y hy=>?_),rp,hl⟩
  simp only[List.mem_cons,List.not_mem_nil,or_false] at hy
  rcases hy with rfl | rfl | rfl
  ·exact⟨_,_,_,q0,by show 5 < 8257; decide,zgY nx0 p0 n0' c0 pt0 nt0 ct0 st0 md0 false⟩
  ·exact⟨_,_,_,qr,by decide,zgY 0 none 0 0 none 0 0 0 0 false⟩
  ·exact⟨_,_,_,qs,by decide,zm9 _⟩
 have M3:∀{g:AH},Old h g→zog g s.nx s.st s.md s.rs xs (.agg #[.int .u64 s.nx,.slice p n c,.slice pt nt ct,.int .u64 s.st,.int .i64 s.md]):=fun {g} o=>⟨p,n,c,pt,nt,ct,rfl,B.old o,T.old o⟩
 have hld2:ldN g3 h.next 0 2=some [.int .u64 s.nx,.slice p n c]:=zj6 w0 (by show 0+2≤5; decide)
 have key:∀v,((∃a b,zaX f a b∧v=Value.tuple #[.string a,.string b,.int .i64 0])∨((∀a b,¬zaX f a b)∧v=.tuple #[.string noB,.string noB,.int .i64 141]))→∃a b e,v=.tuple #[.string a,.string b,.int .i64 e]∧((e=0∧spl f=some (a,b))∨(e≠0∧spl f=none))∧a.size≤9223372036854775806:=by
  rintro v (⟨a,b,hs,rfl⟩ | ⟨hs,rfl⟩)
  ·refine⟨a,b,0,rfl,.inl ⟨rfl,zaH hs⟩,?_⟩
   rcases hs with ⟨-,rfl, -⟩ | ⟨-, -,e⟩
   ·exact hf
   ·have:=congrArg ByteArray.size e
    simp only[ByteArray.size_append] at this
    omega
  ·exact⟨noB,noB,141,rfl,.inr ⟨by decide,zbB hs⟩,by decide⟩
 refine⟨_,zae w1 rfl,(zgj kk.r17.r16.r15.r1 f hf).mono ?_⟩
 rintro _ g6 ⟨hsp,rfl⟩
 obtain⟨sa,sb,se,rfl,hsp,hsa⟩:=key _ hsp
 refine⟨_,_,_,rfl,k,zae w1 rfl,fun y0=>?_,fun y0=>⟨fun y1=>?_,fun y1=>⟨fun y2=>?_,fun y2=>⟨fun y3=>?_,fun y3=>⟨fun y4=>?_,fun y4=>⟨fun y5=>?_,fun y5=>⟨fun y6=>?_,fun y6=>⟨fun y7=>?_,fun y7=>⟨fun y8=>?_,fun y8=>⟨fun y9=>?_,fun y9=>?_⟩⟩⟩⟩⟩⟩⟩⟩⟩⟩
 ·
  refine⟨_,_,_,_,hld2,_,zae w1 rfl,_,zae w1 rfl,(ztn kk.r17 (Ts.old oh3) form R' (by omega) hbn f hf i).mono ?_⟩
  rintro _ g18 ⟨⟨i',p',n',c',rfl,Bk⟩,o18⟩
  obtain⟨E1,E2,E3⟩:=zje (nx:=s.nx) hx (spl f) i
  have Bk2:=Bk.corE E1 E2
  rw[E3]
  refine⟨_,_,_,_,_,rfl,fun g24 e24=>?_⟩
  obtain⟨g25,k25,n25,o25,v25⟩:=zap e24 (vs:=[.int .u64 i',.slice p' n' c']) rfl
  have w25:=(v25 [] (fun c hc=>by cases hc)).1
  have o325:=o18.trans o25
  refine⟨rfl,g25,k25,_,_,_,_,_,_,_,_,_,zah ((o325.2 _ (by omega)).trans w0) rfl,_,_,_,_,zah w25 rfl,(zr9 kk (B.old (oh3.trans o325)) (T.old (oh3.trans o325)) R (by omega) hidnx (zbw.old ⟨rfl,Bk2.2⟩ o25) (zax s.nx s.rs (spl f) i).2.2 noB (by decide)).mono ?_⟩
  rintro _ g40 ⟨o40,w,rfl,MV⟩
  rw[Bk2.1] at MV
  have o340:=o325.trans o40
  obtain⟨p2,n2',c2,pt2,nt2,ct2,rfl, -, -⟩:=id MV
  exact⟨_,_,_,_,_,_,_,_,_,_,rfl,zwu ((o340.2 _ (by omega)).trans w0) rfl ((o340.2 _ (by omega)).trans wr) ((o340.2 _ (by omega)).trans ws) (by omega) (by omega) hars fun g' q1 q2=>fin (oh3.trans o340) o340.1 (zlw MV) (zp3 rep R (zgP R hnx.1 (by omega) f i) hidnx) zlx (by unfold doM; rw[if_pos y0]) ⟨_,_,_,_,_,_,_,_,_,(o340.2 _ (by omega)).trans w0⟩ ((o340.2 _ (by omega)).trans wr) ((o340.2 _ (by omega)).trans ws) q1 q2⟩
 ·
  refine⟨_,_,_,_,_,_,_,_,_,zah w0 rfl,_,_,_,_,_,_,_,_,_,_,zah w1 rfl,(zwh kk (B.old oh3) (T.old oh3) R (by omega) hmd k f t hf i (S.old oh3) hd).mono ?_⟩
  rintro _ g40 ⟨o40,w,rfl,MV⟩
  obtain⟨s',q1',q2',q3',q4',q5',q6'⟩:=zsc (f:=f) (kd:=k) (i:=i) (ds:=ds) rep R hT hmd hd hids (.inl y1)
  rw[if_pos y1] at q1'
  replace MV:zog g40 s'.nx s'.st s'.md s'.rs (zpb s.rs f k i ds s.md xs) w:=by rw[q2',q3',q4',q5']; exact MV
  obtain⟨p2,n2',c2,pt2,nt2,ct2,rfl, -, -⟩:=id MV
  refine⟨_,_,_,_,_,_,_,_,_,_,rfl,zwu ((o40.2 _ (by omega)).trans w0) rfl ((o40.2 _ (by omega)).trans wr) ((o40.2 _ (by omega)).trans ws) (by omega) (by omega) hars fun g' z1 z2=>fin (oh3.trans o40) o40.1 MV q6' ?_ (by unfold doM; rw[if_neg y0,if_pos y1,q1']) ⟨_,_,_,_,_,_,_,_,_,(o40.2 _ (by omega)).trans w0⟩ ((o40.2 _ (by omega)).trans wr) ((o40.2 _ (by omega)).trans ws) z1 z2⟩
  unfold zpb
  split
  ·exact Nat.le_succ _
  ·exact zh7 ..
 ·
  refine⟨_,_,_,_,_,_,_,_,_,zah w0 rfl,_,_,_,_,_,_,_,_,_,_,zah w1 rfl,(zwh kk (B.old oh3) (T.old oh3) R (by omega) hmd k f t hf i (S.old oh3) hd).mono ?_⟩
  rintro _ g40 ⟨o40,w,rfl,MV⟩
  obtain⟨s',q1',q2',q3',q4',q5',q6'⟩:=zsc (f:=f) (kd:=k) (i:=i) (ds:=ds) rep R hT hmd hd hids (.inr y2)
  rw[if_neg y1] at q1'
  replace MV:zog g40 s'.nx s'.st s'.md s'.rs (zpb s.rs f k i ds s.md xs) w:=by rw[q2',q3',q4',q5']; exact MV
  obtain⟨p2,n2',c2,pt2,nt2,ct2,rfl, -, -⟩:=id MV
  refine⟨_,_,_,_,_,_,_,_,_,_,rfl,zwu ((o40.2 _ (by omega)).trans w0) rfl ((o40.2 _ (by omega)).trans wr) ((o40.2 _ (by omega)).trans ws) (by omega) (by omega) hars fun g' z1 z2=>fin (oh3.trans o40) o40.1 MV q6' ?_ (by unfold doM; rw[if_neg y0,if_neg y1,if_pos y2,q1']) ⟨_,_,_,_,_,_,_,_,_,(o40.2 _ (by omega)).trans w0⟩ ((o40.2 _ (by omega)).trans wr) ((o40.2 _ (by omega)).trans ws) z1 z2⟩
  unfold zpb
  split
  ·exact Nat.le_succ _
  ·exact zh7 ..
 ·
  refine⟨_,_,_,_,_,_,_,_,_,zah w0 rfl,_,zae w1 rfl,_,zae w1 rfl,(zun kk (Ts.old oh3) R' f hf i s.nx).mono ?_⟩
  rintro _ g194 ⟨rfl,o194⟩
  obtain⟨q2,q1⟩:=zjk hx (spl f) i
  have hok:=fun (z:(findM s.rs (spl f) i).2=0)=>zgT z
  have hdo:doM s k f t i ds=(s,(readM s f i).1,(readM s f i).2):=by unfold doM; rw[if_neg y0,if_neg y1,if_neg y2,if_pos y3]
  have hrd:(findM rs' (spl f) i).2≠0→readM s f i=(zeroS,(findM rs' (spl f) i).2):=fun z=>by unfold readM; rw[←q2,if_pos z]
  have hrd2:(findM rs' (spl f) i).2=0→readM s f i=((zdt (s.T (findM rs' (spl f) i).1.id) i.toNat).take 128,0):=fun z=>by
   unfold readM
   rw[←q2,if_neg (fun y=>y z),show (findM s.rs (spl f) i).1.id=(findM rs' (spl f) i).1.id from (congrArg zaj.id q1.symm:(cor (findM s.rs (spl f) i).1).id=(cor (findM rs' (spl f) i).1).id)]
  rw[←q2] at hok
  have hid:(findM s.rs (spl f) i).1.id=(findM rs' (spl f) i).1.id:=(congrArg zaj.id q1.symm:(cor (findM s.rs (spl f) i).1).id=(cor (findM rs' (spl f) i).1).id)
  generalize findM rs' (spl f) i=F at hok hrd hrd2 hid ⊢
  obtain⟨r,er⟩:=F
  simp only at hok hrd hrd2 hid
  refine⟨_,_,_,_,_,_,_,_,_,_,_,_,_,_,rfl,fun g209 e209=>?_⟩
  obtain⟨g210,k210,n210,o210,v210⟩:=zap e209 (vs:=setC r) rfl
  have w210:=(v210 [] (fun c hc=>by cases hc)).1
  have o3210:=o194.trans o210
  refine⟨rfl,g210,k210,fun he=>?_,fun he=>?_⟩
  ·subst he
   obtain⟨j,r0,hl,hr0,e0',hi0,hib⟩:=hok rfl
   have hib2:=(R.ent (List.mem_of_getElem? hr0)).2.2.2.1
   have hi64:i.toNat < 64:=by omega
   refine⟨_,_,_,_,_,_,_,_,_,zah ((o3210.2 _ (by omega)).trans w0) rfl,_,zae w210 rfl,(zvu kk (T.old (oh3.trans o3210)) (by omega) r.id s.nx p n c).mono ?_⟩
   rintro _ g222 ⟨rfl,o222⟩
   have o3222:=o3210.trans o222
   have w0_222:=(o3222.2 _ (by omega)).trans w0
   have w1_222:=(o3222.2 _ (by omega)).trans w1
   have wr_222:=(o3222.2 _ (by omega)).trans wr
   have ws_222:=(o3222.2 _ (by omega)).trans ws
   have w0_210:=(o3210.2 _ (by omega)).trans w0
   have w1_210:=(o3210.2 _ (by omega)).trans w1
   have tx:=zft T.ok r.id
   have n233:=zak g1.next g222 (.cells (mC s.nx p n c pt nt ct s.st s.md) 32 false)
   have w233:=zad g1.next g222 (.cells (mC s.nx p n c pt nt ct s.st s.md) 32 false)
   have k233:stN g222 g1.next 0 (mC s.nx p n c pt nt ct s.st s.md)=some (g222.set g1.next (.cells (mC s.nx p n c pt nt ct s.st s.md) 32 false)):=zat wr_222 rfl
   generalize g222.set g1.next (.cells (mC s.nx p n c pt nt ct s.st s.md) 32 false)=g233 at n233 w233 k233
   have w1_233:=(n233.2 _ (by omega)).trans w1_222
   have ws_233:=(n233.2 _ (by omega)).trans ws_222
   have hlk:zbj xs r.id=s.T r.id:=by
    rw[←hid,e0']
    exact zd1 rep hr0
   have hdat:List.take 128 (List.drop (Int.toNat i * 128) (List.take 8192 (List.drop 1 (txtC (r.id,zbj xs r.id)))))=(readM s f i).1:=by
    rw[hrd2 rfl,←hlk]
    have hdl:=zde tx.len (n:=64) (by omega)
    have e:List.take 8192 (List.drop 1 (txtC (r.id,zbj xs r.id)))=zdf (zbj xs r.id) 64:=by
     show List.take 8192 (zdf (zbj xs r.id) 64 ++ zhm (zbj xs r.id) 64)=_
     rw[List.take_append_of_le_length (by omega),List.take_of_length_le (by omega)]
    rw[e]
    exact zo9 tx.len (by omega) hi64
   have hl128:(readM s f i).1.length=128:=by
    rw[hrd2 rfl,List.length_take,zjo (hT _).len hi64]
    rfl
   have n237:=zak g2.next g233 (.cells (readM s f i).1 39 false)
   have w237:=zad g2.next g233 (.cells (readM s f i).1 39 false)
   have k237:stN g233 g2.next 0 (readM s f i).1=some (g233.set g2.next (.cells (readM s f i).1 39 false)):=zat ws_233 (by rw[hl128]; rfl)
   generalize g233.set g2.next (.cells (readM s f i).1 39 false)=g237 at n237 w237 k237
   refine⟨_,rfl,_,_,_,_,_,_,_,_,_,zah w0_222 rfl,rfl,g233,k233,_,rfl,_,zae w1_233 rfl,hi0,by omega,_,hdat,hl128,g237,k237,zah w0_210 rfl,zah w0_222 rfl,zae w1_210 rfl,zae w1_222 rfl,zae w1_222 rfl,zae w1_233 rfl,_,_,_,_,_,_,_,_,_,zah ((n237.2 _ hars).trans w233) rfl,_,zah w237 hl128,?_⟩
   have:=fin (l:=(readM s f i).1) (e:=0) (g':=g237) (oh3.trans o3222) o3222.1 (M3 (oh3.trans o3222)) rep (Nat.le_succ _) (by rw[hdo,hrd2 rfl]) ⟨_,_,_,_,_,_,_,_,_,w0_222⟩ wr_222 ws_222 (n237.1.trans n233.1) fun y _ h2 h3=>(n237.2 y h3).trans (n233.2 y h2)
   exact this
  ·have w0_210:=(o3210.2 _ (by omega)).trans w0
   have wr_210:=(o3210.2 _ (by omega)).trans wr
   have ws_210:=(o3210.2 _ (by omega)).trans ws
   exact zp9 w0_210 wr_210 ws_210 hars fun g' z1 z2=>fin (oh3.trans o3210) o3210.1 (M3 (oh3.trans o3210)) rep (Nat.le_succ _) (by rw[hdo,hrd he]) ⟨_,_,_,_,_,_,_,_,_,w0_210⟩ wr_210 ws_210 z1 fun y _ h2 h3=>z2 y h2 h3
 ·
  refine⟨_,_,_,_,hld2,_,zae w1 rfl,_,zae w0 rfl,(zva kk.r17 (Ts.old oh3) form R' (by omega) hbn f hf s.st hidst).mono ?_⟩
  rintro _ g18 ⟨⟨i',p',n',c',rfl,Bk⟩,o18⟩
  obtain⟨E1,E2,E3⟩:=zmO (nx:=s.nx) hx (spl f) s.st
  have Bk2:=Bk.corE E1 E2
  rw[E3]
  refine⟨_,_,_,_,_,rfl,fun g24 e24=>?_⟩
  obtain⟨g25,k25,n25,o25,v25⟩:=zap e24 (vs:=[.int .u64 i',.slice p' n' c']) rfl
  have w25:=(v25 [] (fun c hc=>by cases hc)).1
  have o325:=o18.trans o25
  refine⟨rfl,g25,k25,_,_,_,_,_,_,_,_,_,zah ((o325.2 _ (by omega)).trans w0) rfl,_,_,_,_,zah w25 rfl,(zr9 kk (B.old (oh3.trans o325)) (T.old (oh3.trans o325)) R (by omega) hidnx (zbw.old ⟨rfl,Bk2.2⟩ o25) (snapA s.nx s.rs (spl f) s.st).2.2 sa hsa).mono ?_⟩
  rintro _ g40 ⟨o40,w,rfl,MV⟩
  rw[Bk2.1] at MV
  have o340:=o325.trans o40
  have w0_40:=(o340.2 _ (by omega)).trans w0
  have wr_40:=(o340.2 _ (by omega)).trans wr
  have ws_40:=(o340.2 _ (by omega)).trans ws
  have ha:∀x y,spl f=some (x,y)→sa=x:=fun x y z=>by
   rcases hsp with ⟨-,q⟩ | ⟨-,q⟩
   ·rw[q] at z; cases z; rfl
   ·rw[q] at z; cases z
  have hR2:=zjc R hnx.1 (by omega) f s.st
  have hdo:doM s k f t i ds=(zdu (if (snapA s.nx s.rs (spl f) s.st).2.2=0 then ze9 s else s) (snapA s.nx s.rs (spl f) s.st).1 (snapA s.nx s.rs (spl f) s.st).2.1 (snapA s.nx s.rs (spl f) s.st).2.2,zeroS,(snapA s.nx s.rs (spl f) s.st).2.2):=by unfold doM; rw[if_neg y0,if_neg y1,if_neg y2,if_neg y3,if_pos y4]
  obtain⟨p2,n2',c2,pt2,nt2,ct2,rfl,B2,T2⟩:=id MV
  have n51:=zak h.next g40 (.cells (mC (if (snapA s.nx s.rs (spl f) s.st).2.2=0 then (snapA s.nx s.rs (spl f) s.st).1 else s.nx) p2 n2' c2 pt2 nt2 ct2 s.st s.md) 32 false)
  have w51:=zad h.next g40 (.cells (mC (if (snapA s.nx s.rs (spl f) s.st).2.2=0 then (snapA s.nx s.rs (spl f) s.st).1 else s.nx) p2 n2' c2 pt2 nt2 ct2 s.st s.md) 32 false)
  have k51:stN g40 h.next 0 (mC (if (snapA s.nx s.rs (spl f) s.st).2.2=0 then (snapA s.nx s.rs (spl f) s.st).1 else s.nx) p2 n2' c2 pt2 nt2 ct2 s.st s.md)=some (g40.set h.next (.cells (mC (if (snapA s.nx s.rs (spl f) s.st).2.2=0 then (snapA s.nx s.rs (spl f) s.st).1 else s.nx) p2 n2' c2 pt2 nt2 ct2 s.st s.md) 32 false)):=zat w0_40 rfl
  generalize g40.set h.next (.cells (mC (if (snapA s.nx s.rs (spl f) s.st).2.2=0 then (snapA s.nx s.rs (spl f) s.st).1 else s.nx) p2 n2' c2 pt2 nt2 ct2 s.st s.md) 32 false)=g51 at n51 w51 k51
  have wr_51:=(n51.2 _ (by omega)).trans wr_40
  have ws_51:=(n51.2 _ (by omega)).trans ws_40
  refine⟨_,_,_,_,_,_,_,_,_,_,rfl,rfl,g51,k51,fun he=>⟨_,zae w51 rfl,fun i312 e312=>⟨_,zbi w51 (by show 3 < 5; decide),?_⟩⟩,fun he=>?_⟩
  ·have e312:=zuV e312 (by omega) (by omega)
   subst e312
   have n313:=zak h.next g51 (.cells (mC (if (snapA s.nx s.rs (spl f) s.st).2.2=0 then (snapA s.nx s.rs (spl f) s.st).1 else s.nx) p2 n2' c2 pt2 nt2 ct2 (s.st+1) s.md) 32 false)
   refine zp9 (zad h.next g51 (.cells (mC (if (snapA s.nx s.rs (spl f) s.st).2.2=0 then (snapA s.nx s.rs (spl f) s.st).1 else s.nx) p2 n2' c2 pt2 nt2 ct2 (s.st+1) s.md) 32 false)) ((n313.2 _ (by omega)).trans wr_51) ((n313.2 _ (by omega)).trans ws_51) hars fun g' z1 z2=>?_
   rw[if_pos he] at hdo
   have MV2:zog g40 (if (snapA s.nx s.rs (spl f) s.st).2.2=0 then (snapA s.nx s.rs (spl f) s.st).1 else (ze9 s).nx) (ze9 s).st (ze9 s).md (if (snapA s.nx s.rs (spl f) s.st).2.2=0 then (snapA s.nx s.rs (spl f) s.st).2.1 else (ze9 s).rs) (if (snapA s.nx s.rs (spl f) s.st).2.2=0 then zcD xs s.nx (zpc s.rs xs sa) else xs) (.agg #[.int .u64 (if (snapA s.nx s.rs (spl f) s.st).2.2=0 then (snapA s.nx s.rs (spl f) s.st).1 else s.nx),.slice p2 n2' c2,.slice pt2 nt2 ct2,.int .u64 (s.st+1),.int .i64 s.md]):=⟨p2,n2',c2,pt2,nt2,ct2,rfl,B2,T2⟩
   exact fin (oh3.trans o340) o340.1 (zlw MV2) (zpd rep R hT hR2 hidnx (s1:=ze9 s) rfl rfl rfl rfl ha) zlx hdo ⟨_,_,_,_,_,_,_,_,_,w0_40⟩ wr_40 ws_40 (z1.trans (n313.1.trans n51.1)) fun y h1 h2 h3=>(z2 y h2 h3).trans ((n313.2 y h1).trans (n51.2 y h1))
  ·rw[if_neg he] at hdo
   exact zp9 w51 wr_51 ws_51 hars fun g' z1 z2=>fin (oh3.trans o340) o340.1 (zlw MV) (zpd rep R hT hR2 hidnx (s1:=s) rfl rfl rfl rfl ha) zlx hdo ⟨_,_,_,_,_,_,_,_,_,w0_40⟩ wr_40 ws_40 (z1.trans n51.1) fun y h1 h2 h3=>(z2 y h2 h3).trans (n51.2 y h1)
 ·
  refine⟨_,_,_,_,hld2,_,zae w1 rfl,_,zae w1 rfl,(zu9 kk.r17 (Ts.old oh3) form R' (by omega) hbn f hf t hft).mono ?_⟩
  rintro _ g18 ⟨⟨i',p',n',c',rfl,Bk⟩,o18⟩
  obtain⟨E1,E2,E3⟩:=zkh (nx:=s.nx) hx (spl f) (spl t)
  have Bk2:=Bk.corE E1 E2
  rw[E3]
  refine⟨_,_,_,_,_,rfl,fun g24 e24=>?_⟩
  obtain⟨g25,k25,n25,o25,v25⟩:=zap e24 (vs:=[.int .u64 i',.slice p' n' c']) rfl
  have w25:=(v25 [] (fun c hc=>by cases hc)).1
  have o325:=o18.trans o25
  refine⟨rfl,g25,k25,_,_,_,_,_,_,_,_,_,zah ((o325.2 _ (by omega)).trans w0) rfl,_,_,_,_,zah w25 rfl,_,zae ((o325.2 _ (by omega)).trans w1) rfl,(zr9 kk (B.old (oh3.trans o325)) (T.old (oh3.trans o325)) R (by omega) hidnx (zbw.old ⟨rfl,Bk2.2⟩ o25) (zaK s.nx s.rs (spl f) (spl t)).2.2 f hf).mono ?_⟩
  rintro _ g40 ⟨o40,w,rfl,MV⟩
  rw[Bk2.1] at MV
  have o340:=o325.trans o40
  obtain⟨p2,n2',c2,pt2,nt2,ct2,rfl, -, -⟩:=id MV
  exact⟨_,_,_,_,_,_,_,_,_,_,rfl,zwu ((o340.2 _ (by omega)).trans w0) rfl ((o340.2 _ (by omega)).trans wr) ((o340.2 _ (by omega)).trans ws) (by omega) (by omega) hars fun g' q1 q2=>fin (oh3.trans o340) o340.1 (zlw MV) (zsb rep R hT (zhB R hnx.1 (by omega) f t) hidnx) zlx (by unfold doM; rw[if_neg y0,if_neg y1,if_neg y2,if_neg y3,if_neg y4,if_pos y5]) ⟨_,_,_,_,_,_,_,_,_,(o340.2 _ (by omega)).trans w0⟩ ((o340.2 _ (by omega)).trans wr) ((o340.2 _ (by omega)).trans ws) q1 q2⟩
 ·
  refine⟨_,_,_,_,hld2,_,zae w1 rfl,(zrz kk.r17 (Ts.old oh3) form R' (by omega) f hf).mono ?_⟩
  rintro _ g18 ⟨⟨i',p',n',c',rfl,Bk⟩,o18⟩
  obtain⟨E1,E2,E3⟩:=zmQ (nx:=s.nx) hx (spl f)
  have Bk2:=Bk.corE E1 E2
  rw[E3]
  have w0_18:=(o18.2 _ (by omega)).trans w0
  have wr_18:=(o18.2 _ (by omega)).trans wr
  have ws_18:=(o18.2 _ (by omega)).trans ws
  have hi:i'= s.nx:=Bk2.1.trans (zlr ..)
  subst hi
  obtain⟨g51,k51,n51,w51⟩:=zrw w0_18 (k:=0) (vs:=[.int .u64 s.nx,.slice p' n' c']) (by show 0+2≤5; decide)
  have wr_51:=(n51.2 _ (by omega)).trans wr_18
  have ws_51:=(n51.2 _ (by omega)).trans ws_18
  refine⟨_,_,_,_,_,rfl,rfl,g51,k51,zp9 (p:=p') (n:=n') (c:=c') (pt:=pt) (nt:=nt) (ct:=ct) w51 wr_51 ws_51 hars fun g' z1 z2=>?_⟩
  have hdo:doM s k f t i ds=(if (zba s.nx s.rs (spl f)).2.2=0 then zew s (zba s.nx s.rs (spl f)).1 (zba s.nx s.rs (spl f)).2.1 else s,zeroS,(zba s.nx s.rs (spl f)).2.2):=by unfold doM; rw[if_neg y0,if_neg y1,if_neg y2,if_neg y3,if_neg y4,if_neg y5,if_pos y6]
  have T18:=T.old (oh3.trans o18)
  by_cases he:(zba s.nx s.rs (spl f)).2.2=0
  ·rw[if_pos he,zlr] at hdo
   exact fin (s':=zew s s.nx (zba s.nx s.rs (spl f)).2.1) (oh3.trans o18) o18.1 ⟨p',n',c',pt,nt,ct,rfl,⟨rfl,Bk2.2⟩,T18⟩ (rep.same fun j=>by show j∈zgt (zba s.nx s.rs (spl f)).2.1↔_; rw[zr2]) (Nat.le_succ _) hdo ⟨_,_,_,_,_,_,_,_,_,w0_18⟩ wr_18 ws_18 (z1.trans n51.1) fun y h1 h2 h3=>(z2 y h2 h3).trans (n51.2 y h1)
  ·rw[if_neg he] at hdo
   have hb:=zsd he
   rw[hb] at Bk2
   exact fin (s':=s) (oh3.trans o18) o18.1 ⟨p',n',c',pt,nt,ct,rfl,⟨rfl,Bk2.2⟩,T18⟩ rep (Nat.le_succ _) hdo ⟨_,_,_,_,_,_,_,_,_,w0_18⟩ wr_18 ws_18 (z1.trans n51.1) fun y h1 h2 h3=>(z2 y h2 h3).trans (n51.2 y h1)
 ·
  refine⟨_,_,_,_,hld2,_,zae w1 rfl,(zv4 kk.r17 (Ts.old oh3) form R' (by omega) f hf).mono ?_⟩
  rintro _ g18 ⟨⟨i',p',n',c',sb',rfl,Bk,Sk,Ck⟩,o18⟩
  obtain⟨E1,E2,E4,E3⟩:=zmR (nx:=s.nx) hx (spl f)
  have Bk2:=Bk.corE E1 E2
  rw[E3]
  have hi:i'= s.nx:=Bk2.1.trans (zh5 ..)
  subst hi
  have hcor:=Ck.trans E4
  have hsid:sb'.id=(zaW s.nx s.rs (spl f)).2.2.1.id:=(congrArg zaj.id hcor:(cor sb').id=(cor (zaW s.nx s.rs (spl f)).2.2.1).id)
  have hspr:sb'.prev=(zaW s.nx s.rs (spl f)).2.2.1.prev:=(congrArg zaj.prev hcor:(cor sb').prev=(cor (zaW s.nx s.rs (spl f)).2.2.1).prev)
  refine⟨_,_,_,_,_,_,_,_,_,_,_,_,_,_,_,_,_,_,rfl,fun g482 e482 g483 e483=>?_⟩
  have o482:=zab e482
  have o483:=zab e483
  have n482:=zaa e482
  have n483:=zaa e483
  obtain⟨g484,g485,k484,k485,oo,l1,l2,wb,wsx⟩:=zxw e482 e483 (i:=s.nx) (p':=p') (n':=n') (c':=c') (s:=sb')
  have o385:=o18.trans oo
  have w0_485:=(o385.2 _ (by omega)).trans w0
  have wr_485:=(o385.2 _ (by omega)).trans wr
  have ws_485:=(o385.2 _ (by omega)).trans ws
  have oh485:=oh3.trans o385
  have l18:=o18.1
  refine⟨rfl,g484,k484,rfl,g485,k485,fun he=>?_,fun he=>?_⟩
  ·refine⟨_,_,_,_,_,_,_,_,_,zah w0_485 rfl,_,zae wsx rfl,(zvu kk (T.old oh485) (by omega) sb'.prev s.nx p n c).mono ?_⟩
   rintro _ g497 ⟨rfl,o497⟩
   have tx:=zft T.ok sb'.prev
   have ltx:(txtC (sb'.prev,zbj xs sb'.prev)).length=8257:=zaT tx.len
   have hz:(txtC (0,za0)).length=8257:=zaT zbq.len
   refine⟨_,rfl,_,zdw,fun g500 e500=>?_⟩
   obtain⟨g501,k501,n501,o501,v501⟩:=zap e500 (vs:=txtC (sb'.prev,zbj xs sb'.prev)) (by rw[ltx,hz])
   have w501:=(v501 [] (fun c hc=>by cases hc)).1
   have o3501:=o385.trans (o497.trans o501)
   have o485501:=o497.trans o501
   refine⟨ltx,g501,k501,_,zae ((o485501.2 _ (by omega)).trans wsx) rfl,_,zbi w501 (by omega),?_⟩
   have n503:=zak g497.next g501 (.cells (txtC (sb'.id,zbj xs sb'.prev)) 87 false)
   have w503:=zad g497.next g501 (.cells (txtC (sb'.id,zbj xs sb'.prev)) 87 false)
   rw[zh6]
   generalize g501.set g497.next (.cells (txtC (sb'.id,zbj xs sb'.prev)) 87 false)=g503 at n503 w503 ⊢
   have l497:=o497.1
   have oh503:=zao (oh3.trans o3501) n503 (by omega)
   have wa:=(n503.2 _ (by omega)).trans ((o3501.2 _ (by omega)).trans w0)
   have wr_503:=(n503.2 _ (by omega)).trans ((o3501.2 _ (by omega)).trans wr)
   have ws_503:=(n503.2 _ (by omega)).trans ((o3501.2 _ (by omega)).trans ws)
   have wb_503:=(n503.2 _ (by omega)).trans ((o485501.2 _ (by omega)).trans wb)
   refine zh8 kk wa wb_503 w503 tx Sk.id (T.old oh503) (by omega) (by omega) (by rw[n503.1]; omega) (by rw[n503.1]; omega) fun p2 n2' c2 g518 h1 h2 h3 h4 h5=>?_
   have wr_518:=(h3 _ (by rw[n503.1]; omega) (by omega)).trans wr_503
   have ws_518:=(h3 _ (by rw[n503.1]; omega) (by omega)).trans ws_503
   refine zp9 h4 wr_518 ws_518 hars fun g' z1 z2=>?_
   have hdo:doM s k f t i ds=((zej s f).1,zeroS,(zaW s.nx s.rs (spl f)).2.2.2):=by
    unfold doM
    rw[if_neg y0,if_neg y1,if_neg y2,if_neg y3,if_neg y4,if_neg y5,if_neg y6,if_pos y7]
    unfold zej
    rw[if_pos he,he]
   have hrp:=ztW rep R hT Ts hx he
   have o518:Old h g518:=⟨by have:=oh503.1; omega,fun y hy=>(h3 y (by have:=oh503.1; omega) (by omega)).trans (oh503.2 y hy)⟩
   have hbm:(zej s f).1=zew (zmU s (zaW s.nx s.rs (spl f)).2.2.1.id (zaW s.nx s.rs (spl f)).2.2.1.prev) (zaW s.nx s.rs (spl f)).1 (zaW s.nx s.rs (spl f)).2.1:=by unfold zej; rw[if_pos he]
   refine fin (s':=(zej s f).1) (xs':=zcD xs (zaW s.nx s.rs (spl f)).2.2.1.id (zbj xs (zaW s.nx s.rs (spl f)).2.2.1.prev)) o518 (by have:=o3501.1; rw[←n503.1] at this; omega) ?_ hrp (zh7 ..) hdo ⟨_,_,_,_,_,_,_,_,_,h4⟩ wr_518 ws_518 z1 fun y _ q2 q3=>z2 y q2 q3
   rw[hbm,←hsid,←hspr]
   refine⟨p',n',c',p2,n2',c2,by rw[show (zew (zmU s sb'.id sb'.prev) (zaW s.nx s.rs (spl f)).1 (zaW s.nx s.rs (spl f)).2.1).nx=s.nx from zh5 ..]; rfl,?_,h5 g518 (Nat.le_refl _) fun _ _=>rfl⟩
   obtain⟨-,fm,rs2,S2,c2'⟩:=Bk2
   refine⟨rfl,fm,rs2,?_,c2'⟩
   have S503:zbL g503 p' n' rs2:=S2.old ⟨by rw[n503.1]; have:=o485501.1; have:=oo.1; omega,fun y hy=>(n503.2 y (by have:=oo.1; omega)).trans ((o485501.2 y (by have:=oo.1; omega)).trans (oo.2 y hy))⟩
   exact S503.stayM ⟨h2,fun y hy=>by
    by_cases hy2:y=h.next
    ·subst hy2
     exact .inr ⟨_,wa,zgY s.nx p n c pt nt ct s.st s.md false⟩
    ·exact .inl (h3 y hy hy2)⟩
  ·have hdo:doM s k f t i ds=(s,zeroS,(zaW s.nx s.rs (spl f)).2.2.2):=by
    unfold doM
    rw[if_neg y0,if_neg y1,if_neg y2,if_neg y3,if_neg y4,if_neg y5,if_neg y6,if_pos y7]
    unfold zej
    rw[if_neg he]
   exact zp9 w0_485 wr_485 ws_485 hars fun g' z1 z2=>fin oh485 o385.1 (M3 oh485) rep (Nat.le_succ _) hdo ⟨_,_,_,_,_,_,_,_,_,w0_485⟩ wr_485 ws_485 z1 fun y _ q2 q3=>z2 y q2 q3
 ·
  have hdo:doM s k f t i ds=((zaA s f).1,zeroS,(zaA s f).2):=by unfold doM; rw[if_neg y0,if_neg y1,if_neg y2,if_neg y3,if_neg y4,if_neg y5,if_neg y6,if_neg y7,if_pos y8]
  have hrp:=zoh (f:=f) rep hmd.1
  refine⟨fun hse=>⟨fun hsb=>?_,fun hsb=>?_⟩,fun hse=>?_⟩
  ·have hspl:spl f=some (sa,sb):=hsp.elim (·.2) fun q=>absurd hse q.1
   have hsb' : sb=noB:=hsb
   refine⟨_,_,_,_,hld2,_,zae w1 rfl,(zrx kk.r17 (Ts.old oh3) form R' (by omega) f hf).mono ?_⟩
   rintro _ g18 ⟨⟨i',p',n',c',sb2,rfl,Bk, -, -⟩,o18⟩
   obtain⟨E1,E2, -,E3⟩:=zhC (nx:=s.nx) hx (spl f)
   have Bk2:=Bk.corE E1 E2
   rw[E3]
   have hi:i'= s.nx:=Bk2.1.trans (zgr ..)
   subst hi
   have w0_18:=(o18.2 _ (by omega)).trans w0
   have wr_18:=(o18.2 _ (by omega)).trans wr
   have ws_18:=(o18.2 _ (by omega)).trans ws
   have T18:=T.old (oh3.trans o18)
   obtain⟨g51,k51,n51,w51⟩:=zrw w0_18 (k:=0) (vs:=[.int .u64 s.nx,.slice p' n' c']) (by show 0+2≤5; decide)
   have wr_51:=(n51.2 _ (by omega)).trans wr_18
   have ws_51:=(n51.2 _ (by omega)).trans ws_18
   refine⟨_,_,_,_,_,_,_,_,_,_,_,_,_,_,_,_,_,_,rfl,rfl,g51,k51,zp9 (p:=p') (n:=n') (c:=c') (pt:=pt) (nt:=nt) (ct:=ct) w51 wr_51 ws_51 hars fun g' z1 z2=>?_⟩
   have hdrop:zfJ s.nx s.rs (spl f)=((zav s.nx s.rs (spl f)).1,(zav s.nx s.rs (spl f)).2.1,(zav s.nx s.rs (spl f)).2.2.2):=by
    unfold zfJ
    rw[hspl]
    simp only
    rw[if_pos hsb']
   by_cases he:(zav s.nx s.rs (spl f)).2.2.2=0
   ·have hde:zaA s f=(zew (zve s (zdZ s.rs (spl f)).id) s.nx (zav s.nx s.rs (spl f)).2.1,0):=by
     unfold zaA
     rw[hdrop]
     simp only
     rw[if_pos he,zgr]
    rw[hde] at hdo hrp
    rw[he]
    exact fin (oh3.trans o18) o18.1 ⟨p',n',c',pt,nt,ct,rfl,⟨rfl,Bk2.2⟩,T18⟩ hrp (Nat.le_succ _) hdo ⟨_,_,_,_,_,_,_,_,_,w0_18⟩ wr_18 ws_18 (z1.trans n51.1) fun y h1 h2 h3=>(z2 y h2 h3).trans (n51.2 y h1)
   ·have hde:zaA s f=(s,(zav s.nx s.rs (spl f)).2.2.2):=by
     unfold zaA
     rw[hdrop]
     simp only
     rw[if_neg he]
    rw[hde] at hdo
    have hb:=zna he
    rw[hb] at Bk2
    exact fin (oh3.trans o18) o18.1 ⟨p',n',c',pt,nt,ct,rfl,⟨rfl,Bk2.2⟩,T18⟩ rep (Nat.le_succ _) hdo ⟨_,_,_,_,_,_,_,_,_,w0_18⟩ wr_18 ws_18 (z1.trans n51.1) fun y h1 h2 h3=>(z2 y h2 h3).trans (n51.2 y h1)
  ·have hspl:spl f=some (sa,sb):=hsp.elim (·.2) fun q=>absurd hse q.1
   have hsb' : ¬sb=noB:=hsb
   refine⟨_,_,_,_,hld2,_,zae w1 rfl,(zpU kk.r17 (Ts.old oh3) form R' (by omega) f hf rfl).mono ?_⟩
   rintro _ g18 ⟨⟨i',p',n',c',pl,nl,cl,rfl,Bk, -⟩,o18⟩
   obtain⟨E1,E2,E3⟩:=zgR (nx:=s.nx) hx (lookOf rs' (spl f)) (snapOf (spl f)).isSome
   have Bk2:=Bk.corE E1 E2
   rw[E3]
   rw[zaP hx] at Bk2 ⊢
   have hi:i'= s.nx:=Bk2.1.trans (ze8 ..)
   subst hi
   have w0_18:=(o18.2 _ (by omega)).trans w0
   have wr_18:=(o18.2 _ (by omega)).trans wr
   have ws_18:=(o18.2 _ (by omega)).trans ws
   have T18:=T.old (oh3.trans o18)
   obtain⟨g51,k51,n51,w51⟩:=zrw w0_18 (k:=0) (vs:=[.int .u64 s.nx,.slice p' n' c']) (by show 0+2≤5; decide)
   have wr_51:=(n51.2 _ (by omega)).trans wr_18
   have ws_51:=(n51.2 _ (by omega)).trans ws_18
   refine⟨_,_,_,_,_,_,_,_,rfl,rfl,g51,k51,zp9 (p:=p') (n:=n') (c:=c') (pt:=pt) (nt:=nt) (ct:=ct) w51 wr_51 ws_51 hars fun g' z1 z2=>?_⟩
   have hdrop:zfJ s.nx s.rs (spl f)=((zaw s.nx s.rs (lookOf s.rs (spl f)) (snapOf (spl f)).isSome).1,(zaw s.nx s.rs (lookOf s.rs (spl f)) (snapOf (spl f)).isSome).2.1,(zaw s.nx s.rs (lookOf s.rs (spl f)) (snapOf (spl f)).isSome).2.2.2):=by
    unfold zfJ
    rw[hspl]
    simp only
    rw[if_neg hsb']
   by_cases he:(zaw s.nx s.rs (lookOf s.rs (spl f)) (snapOf (spl f)).isSome).2.2.2=0
   ·have hde:zaA s f=(zew (zve s (zdZ s.rs (spl f)).id) s.nx (zaw s.nx s.rs (lookOf s.rs (spl f)) (snapOf (spl f)).isSome).2.1,0):=by
     unfold zaA
     rw[hdrop]
     simp only
     rw[if_pos he,ze8]
    rw[hde] at hdo hrp
    rw[he]
    exact fin (oh3.trans o18) o18.1 ⟨p',n',c',pt,nt,ct,rfl,⟨rfl,Bk2.2⟩,T18⟩ hrp (Nat.le_succ _) hdo ⟨_,_,_,_,_,_,_,_,_,w0_18⟩ wr_18 ws_18 (z1.trans n51.1) fun y h1 h2 h3=>(z2 y h2 h3).trans (n51.2 y h1)
   ·have hde:zaA s f=(s,(zaw s.nx s.rs (lookOf s.rs (spl f)) (snapOf (spl f)).isSome).2.2.2):=by
     unfold zaA
     rw[hdrop]
     simp only
     rw[if_neg he]
    rw[hde] at hdo
    have hb:=zly he
    rw[hb] at Bk2
    exact fin (oh3.trans o18) o18.1 ⟨p',n',c',pt,nt,ct,rfl,⟨rfl,Bk2.2⟩,T18⟩ rep (Nat.le_succ _) hdo ⟨_,_,_,_,_,_,_,_,_,w0_18⟩ wr_18 ws_18 (z1.trans n51.1) fun y h1 h2 h3=>(z2 y h2 h3).trans (n51.2 y h1)
  ·have hspl:spl f=none:=hsp.elim (fun q=>absurd q.1 hse) (·.2)
   have hde:zaA s f=(s,141):=by
    unfold zaA zfJ
    rw[hspl]
    rfl
   rw[hde] at hdo
   exact zp9 w0 wr ws hars fun g' z1 z2=>fin oh3 (Nat.le_refl _) (M3 oh3) rep (Nat.le_succ _) hdo ⟨_,_,_,_,_,_,_,_,_,w0⟩ wr ws z1 fun y _ q2 q3=>z2 y q2 q3
 ·
  refine⟨_,zae w0 rfl,fun i672 e672=>⟨_,zbi w0 (by show 3 < 5; decide),?_⟩⟩
  have e672:=zuV e672 (by omega) (by omega)
  subst e672
  have n313:=zak h.next g3 (.cells (mC s.nx p n c pt nt ct (s.st+1) s.md) 32 false)
  have hdo:doM s k f t i ds=(ze9 s,zeroS,0):=by unfold doM; rw[if_neg y0,if_neg y1,if_neg y2,if_neg y3,if_neg y4,if_neg y5,if_neg y6,if_neg y7,if_neg y8,if_pos y9]
  exact zp9 (zad h.next g3 (.cells (mC s.nx p n c pt nt ct (s.st+1) s.md) 32 false)) ((n313.2 _ (by omega)).trans wr) ((n313.2 _ (by omega)).trans ws) hars fun g' z1 z2=>fin (s':=ze9 s) oh3 (Nat.le_refl _) ⟨p,n,c,pt,nt,ct,rfl,B.old oh3,T.old oh3⟩ rep (Nat.le_succ _) hdo ⟨_,_,_,_,_,_,_,_,_,w0⟩ wr ws (z1.trans n313.1) fun y h1 h2 h3=>(z2 y h2 h3).trans (n313.2 y h1)
 ·
  have hdo:doM s k f t i ds=(s,zeroS,0):=by unfold doM; rw[if_neg y0,if_neg y1,if_neg y2,if_neg y3,if_neg y4,if_neg y5,if_neg y6,if_neg y7,if_neg y8,if_neg y9]
  exact zp9 w0 wr ws hars fun g' z1 z2=>fin oh3 (Nat.le_refl _) (M3 oh3) rep (Nat.le_succ _) hdo ⟨_,_,_,_,_,_,_,_,_,w0⟩ wr ws z1 fun y _ q2 q3=>z2 y q2 q3
end
theorem ztX {nx:Int} {rs:List zaj} (R:zam nx rs) {t:Nat} {r:zaj} (hr:rs[t]?= some r):zcd rs (zhf rs r.id).2=(zd0 rs r).frm:=by
 unfold zd0
 simp only
 cases hs:r.snap with
 | true=>
   rw[if_pos rfl]
   have:zhf rs r.id=([],0):=by
    unfold zhf
    rw[R.uniq hr]
    simp only[hr]
    rw[if_pos hs]
   rw[this]
   unfold zcd
   rw[R.zero]
 | false=>
   rw[if_neg (by decide),R.back]
def zhP (S:List Int) (m:Nat):List Value:=(List.range m).map fun (j:Nat)=>.bool (S.contains (j:Int))
theorem zgZ (S:List Int) (m:Nat):(zhP S m).length=m:=by simp[zhP]
theorem zjs (S:List Int) {m j:Nat} (h:j < m):(zhP S m)[j]?= some (.bool (S.contains (j:Int))):=by simp[zhP,h]
theorem zse (S:List Int) {m j:Nat} (h:j < m):(zhP S m).set j (.bool true)=zhP (S ++ [(j:Int)]) m:=by
 apply List.ext_getElem?
 intro i
 rw[List.getElem?_set]
 by_cases hi:i < m
 ·rw[zjs _ hi,zjs _ hi]
  by_cases e:j=i
  ·subst e
   rw[if_pos rfl,if_pos (by rw[zgZ]; exact h)]
   simp
  ·rw[if_neg e]
   have:¬(i:Int)=(j:Int):=by omega
   simp[this]
 ·rw[if_neg (by omega),List.getElem?_eq_none (by rw[zgZ]; omega),List.getElem?_eq_none (by rw[zgZ]; omega)]
theorem zsf (m:Nat):(List.replicate m [Value.bool false]).flatten=zhP [] m:=by
 unfold zhP
 induction m with
 | zero=>rfl
 | succ m ih=>
   rw[List.replicate_succ',List.flatten_append,ih,List.range_succ,List.map_append]
   rfl
section
variable {K:Xs} {h:AH} {p pt:Option Addr} {n c nt ct:Nat} {rs:List zaj} {nx st md:Int} {xs:List (Int×List Value)} {s:MSt}
theorem zxf (kk:zeo K):Wf Tryz.prog K 6 [] h fun v h'=>v=.agg #[.int .u64 1,.slice none 0 0,.slice none 0 0,.int .u64 2,.int .i64 0]∧Old h h':=by
 refine zgg kk.new h _ fun g0 e0=>?_
 have o0:=zab e0
 have nr:=zak h.next g0 (.cells (mC 1 none 0 0 none 0 0 2 0) 32 false)
 exact⟨rfl,_,zat (vs:=mC 1 none 0 0 none 0 0 2 0) (zaf e0) rfl,_,_,_,_,_,_,_,_,_,zah (zad _ _ _) rfl,rfl,zao o0 nr (Nat.le_refl _)⟩
theorem zwi (kk:zeo K) (T:zbL h p n rs) (R:zam nx rs):
 Wf Tryz.prog K 11 [.agg #[.int .u64 nx,.slice p n c,.slice pt nt ct,.int .u64 st,.int .i64 md]] h fun v h'=>∃p2 n2 c2,v=.slice p2 n2 c2∧zaR h' p2 n2 4 (zcC (zdv rs))∧Old h h':=by
 have hnn:=T.1
 have hn:=R.2.1
 have hlen:(zdv rs).length=n:=by rw[hnn]; simp[zdv]
 refine zfI kk.list _ _ _ _ _ _ _ _ _ h _ fun g0 e0 g1 e1=>?_
 have o0:=zab e0
 have o1:=zab e1
 have n0:=zaa e0
 have w0:=(o1.2 _ (by omega)).trans (zaf e0)
 refine⟨_,_,_,zae w0 rfl,fun pp nn cc i k g=>∃u:Nat,i=u∧u≤n∧n - u=k∧u=nn∧zaY h.next g 98 4 pp nn cc (zcC ((zdv rs).take u))∧Old h g,⟨_,0,rfl,Nat.zero_le _,rfl,rfl,(zaY.lit e1 rfl (Nat.le_refl _)).weak (by omega),o0.trans o1⟩,?_⟩
 rintro k6 g7 p9 n10 c11 i12 ⟨u,rfl,hu,rfl,rfl,G,o⟩
 refine⟨fun z=>?_,fun z=>?_⟩
 rotate_left
 ·obtain rfl:u=n:=by omega
  rw[List.take_of_length_le (by omega)] at G
  exact⟨_,_,_,rfl,G.shows,o⟩
 have htn:u < n:=by omega
 obtain⟨bb,off,rfl,hi',hld, -,ok⟩:=(T.old o).at htn
 have hri:=List.getElem?_eq_getElem hi'
 have hinf:(zdv rs)[u]?= some (zd0 rs rs[u]):=by unfold zdv; rw[List.getElem?_map,hri]; rfl
 have hfrm:=ztX R hri
 generalize rs[u]=r at hri ok hinf hfrm hld
 refine zag ⟨by omega,z,_,_,_,_,_,_,_,_,_,_,_,_,_,by rw[Int.toNat_natCast]; exact hld,fun g28 e28=>?_⟩
 obtain⟨g29,k29,n29,o29,v29⟩:=zap e28 (vs:=setC r) rfl
 have w29:=(v29 [] (fun c hc=>by cases hc)).1
 have o29':=o.trans o29
 refine⟨rfl,g29,k29,_,zae w29 rfl,(zuc kk.r17.r16 (T.old o29') R.zero (by omega) r.id).mono ?_⟩
 rintro _ g32 ⟨p1,n1,c1,rfl, -,o32⟩
 have w32:=(o32.2 _ (by omega)).trans w29
 refine⟨_,_,_,_,rfl,_,zae w32 rfl,(zud kk.r17.r16 (T.old (o29'.trans o32)) R r.id).mono ?_⟩
 rintro _ g39 ⟨rfl,o39⟩
 have w39:=(o39.2 _ (by have:=o32.1; omega)).trans w32
 refine⟨_,rfl,(zud kk.r17.r16 (T.old (o29'.trans (o32.trans o39))) R _).mono ?_⟩
 rintro _ g42 ⟨rfl,o42⟩
 have w42:=(o42.2 _ (by have:=o32.1; have:=o39.1; omega)).trans w39
 have o742:=o29.trans (o32.trans (o39.trans o42))
 rw[hfrm]
 refine⟨_,rfl,_,zae w42 rfl,fun g45 e45=>?_⟩
 obtain⟨p46,c48,g49,ha,hg,hob, -, -⟩:=(G.old o742).push zwa (Nat.le_trans o.1 o742.1) e45 (m:=1) rfl (by have:zaU=140737488355328:=rfl; omega) (by omega)
 refine⟨p46,_,c48,g49,ha,zae w32 rfl,zae w39 rfl,zae w39 rfl,zae w42 rfl,fun i50 e50=>?_⟩
 have e50:=zcj e50 (by omega) (by omega)
 refine⟨n - (u+1),by omega,u+1,by omega,by omega,rfl,rfl,?_,zha.toOld (((o.trans o742).toB (Nat.le_refl _)).trans hob)⟩
 have ht1:(zdv rs).take (u+1)=(zdv rs).take u ++ [zd0 rs r]:=by
  rw[List.take_add_one,hinf]
  rfl
 rw[ht1,zkm]
 exact hg
theorem znb (kk:zeo K) (B:zbw s.nx s.rs s.nx p n h) (T:TxS h pt nt xs) (R:zam s.nx s.rs) (rep:zjv s xs) (hn:nt≤900) (f:ByteArray) (hf:f.size≤9223372036854775806):
 Wf Tryz.prog K 16 [.agg #[.int .u64 s.nx,.slice p n c,.slice pt nt ct,.int .u64 s.st,.int .i64 s.md],.string f] h fun v h'=>∃p2 n2 c2,v=.slice p2 n2 c2∧zaR h' p2 n2 1 (zbY .i64 (zrY s f))∧n2≤64∧Old h h':=by
 obtain⟨-,form,rs',Ts,hx⟩:=id B
 have R' : zam s.nx rs':=R.cor hx.symm
 refine zed kk.written _ _ _ _ _ _ _ _ _ _ h _ fun g0 e0 g1 e1=>?_
 have o0:=zab e0
 have o1:=zab e1
 have n0:=zaa e0
 have n1:=zaa e1
 have o01:=o0.trans o1
 have w0:g1.get h.next=some (.cells (mC s.nx p n c pt nt ct s.st s.md) 32 false):=(o1.2 _ (by omega)).trans (zaf e0)
 refine⟨_,_,_,zae w0 rfl,(zds kk.r17.r16 (c:=c) (Ts.old o01) R' f hf).mono ?_⟩
 rintro v5 g6 ⟨q,o6⟩
 obtain⟨r,e,rfl,hq⟩:∃r e,v5=Value.tuple #[.agg (setC r).toArray,.int .i64 e]∧((e=0∧zrY s f=za2 (zbj xs r.id) 64)∨(e≠0∧zrY s f=[])):=by
  rcases namedD q with ⟨j,r,hl,hr,hv⟩ | ⟨hl,er,he,hv⟩
  ·refine⟨_,_,hv,.inl ⟨rfl,?_⟩⟩
   rcases getc hx j with ⟨h1,h2⟩ | ⟨a1,a2,h1,h2,h3⟩
   ·rw[hr] at h1; cases h1
   ·rw[hr] at h1
    cases h1
    unfold zrY
    rw[←zaP hx,hl]
    simp only
    rw[h2]
    simp only
    rw[(zaL h3).1,zd1 rep h2]
  ·refine⟨_,_,hv,.inr ⟨he,?_⟩⟩
   unfold zrY
   rw[←zaP hx,hl]
 refine⟨_,_,_,_,_,_,_,_,_,_,_,_,_,_,rfl,fun g21 e21=>?_⟩
 obtain⟨g22,k22,n22,o22,v22⟩:=zap e21 (vs:=setC r) rfl
 have w22:=(v22 [] (fun c hc=>by cases hc)).1
 have o122:=o6.trans o22
 have oh:=o01.trans o122
 have G1:=(zaY.lit (lim:=h.next) (sz:=1) (n:=0) e1 rfl (by omega)).old o122
 refine⟨rfl,g22,k22,fun y=>?_,fun y=>?_⟩
 rotate_left
 ·rcases hq with ⟨h0, -⟩ | ⟨-,hw⟩
  ·exact absurd h0 y
  ·rw[hw]
   exact⟨_,_,_,rfl,⟨rfl,.inl rfl⟩,by omega,oh⟩
 rcases hq with ⟨-,hw⟩ | ⟨h0, -⟩
 rotate_left
 ·exact absurd y h0
 have w0_22:=(o122.2 _ (by omega)).trans w0
 refine⟨_,_,_,_,_,_,_,_,_,zah w0_22 rfl,_,zae w22 rfl,(zvu kk (T.old oh) (by omega) r.id s.nx p n c).mono ?_⟩
 rintro _ g34 ⟨rfl,o34⟩
 have tx:=zft T.ok r.id
 have ltx:(txtC (r.id,zbj xs r.id)).length=8257:=zaT tx.len
 have hz:(txtC (0,za0)).length=8257:=zaT zbq.len
 refine⟨_,rfl,_,zdw,fun g37 e37=>?_⟩
 obtain⟨g38,k38,n38,o38,v38⟩:=zap e37 (vs:=txtC (r.id,zbj xs r.id)) (by rw[ltx,hz])
 have w38:=(v38 [] (fun c hc=>by cases hc)).1
 have o2238:=o34.trans o38
 have hpos:∀i,i < 64→0≤zbr (zbj xs r.id) i:=fun i hi=>by
  by_cases hm:r.id∈zgt s.rs
  ·rw[rep.here _ hm]
   exact (rep.vers _ i hi).1
  ·exfalso
   rcases namedD q with ⟨j,r2,hl,hr,hv⟩ | ⟨hl,er,he,hv⟩
   ·have he:=congrArg (fun v=>match v with | Value.tuple a=>a[0]? | _=>none) hv
    simp only[List.getElem?_toArray,List.getElem?_cons_zero,Option.some.injEq,Value.agg.injEq] at he
    have he2:=congrArg (fun a:Array Value=>a.toList[0]?) he
    simp[setC] at he2
    rcases getc hx j with ⟨h1,h2⟩ | ⟨a1,a2,h1,h2,h3⟩
    ·rw[hr] at h1; cases h1
    ·rw[hr] at h1
     cases h1
     exact hm (by rw[he2,(zaL h3).1]; exact zlu h2)
   ·have he:=congrArg (fun v=>match v with | Value.tuple a=>a[1]? | _=>none) hv
    simp at he
    omega
 refine⟨ltx,g38,k38,fun pp nn cc i k g=>∃u:Nat,i=u∧u≤64∧64 - u=k∧nn≤u∧zaY h.next g 3 1 pp nn cc (zbY .i64 (za2 (zbj xs r.id) u))∧Old h g∧g34.next < g.next∧g.get g34.next=some (.cells (txtC (r.id,zbj xs r.id)) 87 false),⟨_,0,rfl,by omega,rfl,Nat.le_refl _,G1.old o2238,oh.trans o2238,by omega,w38⟩,?_⟩
 rintro k40 g41 p43 n44 c45 i46 ⟨u,rfl,hu,rfl,hnu,G,o41,l41,w41⟩
 refine⟨fun z=>?_,fun z=>?_⟩
 rotate_left
 ·obtain rfl:u=64:=by omega
  rw[hw]
  exact⟨_,_,_,rfl,G.shows,hnu,o41⟩
 have htl:u < 64:=by omega
 have ht1:za2 (zbj xs r.id) (u+1)=if zbr (zbj xs r.id) u=0 then za2 (zbj xs r.id) u else za2 (zbj xs r.id) u ++ [u]:=by
  unfold za2
  rw[List.range_succ,List.filter_append]
  by_cases h0:zbr (zbj xs r.id) u=0
  ·rw[if_pos h0]; simp[h0]
  ·rw[if_neg h0]; simp[h0]
 have hp:=hpos u htl
 refine⟨by omega,z,_,zae w41 (by rw[Int.toNat_natCast,Nat.mul_one]; exact zpa tx.len htl),fun h0 g48 e48=>?_,fun h0 i54 e54=>?_⟩
 ·obtain⟨p49,c51,g52,ha,hg,hob,hfr, -⟩:=G.push zwg o41.1 e48 (m:=1) rfl (by have:zaU=140737488355328:=rfl; omega) (by omega)
  refine⟨p49,_,c51,g52,ha,fun i53 e53=>?_⟩
  have e53:=zcj e53 (by omega) (by omega)
  refine⟨64 - (u+1),by omega,u+1,by omega,by omega,rfl,by omega,?_,zha.toOld ((o41.toB (Nat.le_refl _)).trans hob),by have:=hob.1; omega,?_⟩
  ·rw[ht1,if_neg (by omega),show zbY .i64 (za2 (zbj xs r.id) u ++ [u])=zbY .i64 (za2 (zbj xs r.id) u) ++ [.int .i64 (u:Int)] by simp[zbY]]
   exact hg
  ·refine (hfr _ l41 ?_).trans w41
   rcases G.2 with ⟨rfl, -, -⟩ | ⟨b,rfl, -, -,hgb, -⟩
   ·exact trivial
   ·intro hb
    have hb2:b=g34.next:=hb
    rw[hb2,w41] at hgb
    have h1:=congrArg (fun o=>match o with | some (AObj.cells cs _ _)=>cs.length | _=>0) hgb
    simp only[ltx,za7] at h1
    have:(za2 (zbj xs r.id) u).length≤u:=by
     unfold za2
     exact Nat.le_trans (List.length_filter_le _ _) (by simp)
    omega
 ·have e54:=zcj e54 (by omega) (by omega)
  refine⟨64 - (u+1),by omega,u+1,by omega,by omega,rfl,by omega,?_,o41,l41,w41⟩
  rw[ht1,if_pos (by omega)]
  exact G
end
section
variable {K:Xs} {h:AH} {p pt:Option Addr} {n c nt ct:Nat} {xs:List (Int×List Value)} {s:MSt}
theorem zvn {rs' : List zaj} (hx:rs'.map cor=s.rs.map cor) (rep:zjv s xs) (x:Int):(x≠0∧∃r∈rs',∃j,j < 64∧zbr (zbj xs r.id) j=x)↔InV s.T x:=by
 constructor
 ·rintro⟨h0,r,hr,j,hj,hv⟩
  refine⟨h0,r.id,j,hj,?_⟩
  have:r.id∈zgt s.rs:=by rw[←zjq hx]; exact List.mem_map.2 ⟨r,hr,rfl⟩
  rw[←rep.here _ this]
  exact hv
 ·rintro⟨h0,id,j,hj,hv⟩
  refine⟨h0,?_⟩
  by_cases hm:id∈zgt s.rs
  ·rw[←zjq hx] at hm
   obtain⟨r,hr,rfl⟩:=List.mem_map.1 hm
   refine⟨r,hr,j,hj,?_⟩
   rw[rep.here _ (by rw[←zjq hx]; exact hm)]
   exact hv
  ·rw[rep.gone _ hm,zfr hj] at hv
   exact absurd hv.symm h0
theorem zp4 (kk:zeo K) (B:zbw s.nx s.rs s.nx p n h) (T:TxS h pt nt xs) (R:zam s.nx s.rs) (rep:zjv s xs) (hn:nt≤900) (hmd:0≤s.md∧s.md≤1000000):
 Wf Tryz.prog K 13 [.agg #[.int .u64 s.nx,.slice p n c,.slice pt nt ct,.int .u64 s.st,.int .i64 s.md]] h fun v h'=>∃S:List Int,v=.int .i64 (S.length:Int)∧S.Nodup∧(∀x,x∈S↔InV s.T x)∧Old h h':=by
 obtain⟨-,form,rs',Ts,hx⟩:=id B
 have R' : zam s.nx rs':=R.cor hx.symm
 have hnn:=Ts.1
 have hn32:=R'.2.1
 obtain⟨M,hM⟩:∃M:Nat,s.md+1=M:=⟨(s.md+1).toNat,by omega⟩
 refine zdN kk.versions _ _ _ _ _ _ _ _ _ h _ fun g0 e0=>?_
 have o0:=zab e0
 have n0:=zaa e0
 have w0:=zaf e0
 refine⟨_,zae w0 rfl,fun i2 e2=>?_⟩
 have e2:=zcj e2 (by omega) (by omega)
 rw[hM] at e2
 subst e2
 refine⟨⟨by omega,by omega,by omega,by omega⟩,fun g3 e3=>?_⟩
 rw[Int.toNat_natCast,zsf] at e3
 rw[Int.toNat_natCast]
 have o3:=zab e3
 have n3:=zaa e3
 have w0_3:g3.get h.next=some (.cells (mC s.nx p n c pt nt ct s.st s.md) 32 false):=(o3.2 _ (by omega)).trans w0
 refine⟨_,_,_,zae w0_3 rfl,fun cnt i k g=>∃(u:Nat) (S:List Int),i=u∧u≤n∧n - u=k∧cnt=S.length∧S.Nodup∧(∀x,x∈S↔x≠0∧∃r∈rs'.take u,∃j,j < 64∧zbr (zbj xs r.id) j=x)∧Old h g∧g0.next < g.next∧
  g.get h.next=some (.cells (mC s.nx p n c pt nt ct s.st s.md) 32 false)∧g.get g0.next=some (.cells (zhP S M) 4 false),⟨n,0,[],rfl,Nat.zero_le _,rfl,rfl,List.nodup_nil,fun x=>⟨fun q=>(by cases q),fun ⟨_,r,hr,_⟩=>(by cases hr)⟩,o0.trans o3,by omega,w0_3,zaf e3⟩,?_⟩
 rintro k8 g9 i11 i12 ⟨u,S,rfl,hu,rfl,rfl,hS,hmem,o9,l9,w9,m9⟩
 refine⟨fun z=>?_,fun z=>?_⟩
 rotate_left
 ·obtain rfl:u=n:=by omega
  rw[List.take_of_length_le (by omega)] at hmem
  exact⟨S,rfl,hS,fun x=>(hmem x).trans (zvn hx rep x),o9⟩
 have htn:u < n:=by omega
 obtain⟨bb,off,rfl,hi',hld, -,ok⟩:=(Ts.old o9).at htn
 have htk:rs'.take (u+1)=rs'.take u ++ [rs'[u]]:=List.take_succ_eq_append_getElem hi'
 have hidm:rs'[u].id∈zgt s.rs:=by rw[←zjq hx]; exact List.mem_map.2 ⟨_,List.getElem_mem hi',rfl⟩
 generalize rs'[u]=r at hld ok htk hidm
 have hvb:∀j,j < 64→0≤zbr (zbj xs r.id) j∧zbr (zbj xs r.id) j < M:=fun j hj=>by
  rw[rep.here _ hidm]
  have:=rep.vers r.id j hj
  omega
 refine zag ⟨by omega,z,_,_,_,_,_,_,_,_,_,_,_,_,_,by rw[Int.toNat_natCast]; exact hld,fun g28 e28=>?_⟩
 obtain⟨g29,k29,n29,o29,v29⟩:=zap e28 (vs:=setC r) rfl
 have w29:=(v29 [] (fun c hc=>by cases hc)).1
 have o29':=o9.trans o29
 refine⟨rfl,g29,k29,_,_,_,_,_,_,_,_,_,zah ((o29.2 _ (by omega)).trans w9) rfl,_,zae w29 rfl,(zvu kk (T.old o29') (by omega) r.id s.nx _ n c).mono ?_⟩
 rintro _ g41 ⟨rfl,o41⟩
 have tx:=zft T.ok r.id
 have ltx:(txtC (r.id,zbj xs r.id)).length=8257:=zaT tx.len
 have hz:(txtC (0,za0)).length=8257:=zaT zbq.len
 refine⟨_,rfl,_,zdw,fun g44 e44=>?_⟩
 obtain⟨g45,k45,n45,o45,v45⟩:=zap e44 (vs:=txtC (r.id,zbj xs r.id)) (by rw[ltx,hz])
 have w45:=(v45 [] (fun c hc=>by cases hc)).1
 have o945:=o29.trans (o41.trans o45)
 have l41:=o41.1
 generalize hL:zbj xs r.id=L at tx ltx w45 hvb k45
 refine⟨ltx,g45,k45,fun cnt i k g=>∃(j:Nat) (S2:List Int),i=j∧j≤64∧64 - j=k∧cnt=S2.length∧S2.Nodup∧(∀x,x∈S2↔x∈S∨(x≠0∧∃m,m < j∧zbr L m=x))∧Old h g∧g41.next < g.next∧
  g.get h.next=some (.cells (mC s.nx _ n c pt nt ct s.st s.md) 32 false)∧g.get g0.next=some (.cells (zhP S2 M) 4 false)∧g.get g41.next=some (.cells (txtC (r.id,L)) 87 false),
  ⟨64,0,S,rfl,Nat.zero_le _,rfl,rfl,hS,fun x=>⟨.inl,fun q=>q.elim id fun ⟨_,m,hm,_⟩=>absurd hm (Nat.not_lt_zero _)⟩,o9.trans o945,by omega,(o945.2 _ (by omega)).trans w9,(o945.2 _ l9).trans m9,w45⟩,?_⟩
 rintro k47 g48 i50 i51 ⟨j,S2,rfl,hj,rfl,rfl,hS2,hm2,o48,l48,w48,m48,t48⟩
 refine⟨fun z2=>?_,fun z2 i60 e60=>?_⟩
 rotate_left
 ·obtain rfl:j=64:=by omega
  have e60:=zcj e60 (by omega) (by omega)
  refine⟨n - (u+1),by omega,u+1,S2,by omega,by omega,rfl,rfl,hS2,fun x=>?_,o48,by omega,w48,m48⟩
  rw[hm2,hmem,htk]
  constructor
  ·rintro (⟨q1,r2,q2,q3⟩ | ⟨q1,m,q2,q3⟩)
   ·exact⟨q1,r2,List.mem_append_left _ q2,q3⟩
   ·exact⟨q1,r,List.mem_append_right _ (List.mem_singleton.2 rfl),m,q2,by rw[hL]; exact q3⟩
  ·rintro⟨q1,r2,q2,q3⟩
   rcases List.mem_append.1 q2 with q2 | q2
   ·exact .inl ⟨q1,r2,q2,q3⟩
   ·rw[List.mem_singleton.1 q2,hL] at q3
    exact .inr ⟨q1,q3⟩
 have htl:j < 64:=by omega
 obtain⟨hv1,hv2⟩:=hvb j htl
 have hmj:∀x,(x∈S∨(x≠0∧∃m,m < j+1∧zbr L m=x))↔x∈S2∨(x≠0∧zbr L j=x):=fun x=>by
  rw[hm2]
  constructor
  ·rintro (q | ⟨q1,m,q2,q3⟩)
   ·exact .inl (.inl q)
   ·by_cases e:m=j
    ·subst e; exact .inr ⟨q1,q3⟩
    ·exact .inl (.inr ⟨q1,m,by omega,q3⟩)
  ·rintro ((q | ⟨q1,m,q2,q3⟩) | ⟨q1,q2⟩)
   ·exact .inl q
   ·exact .inr ⟨q1,m,by omega,q3⟩
   ·exact .inr ⟨q1,j,by omega,q2⟩
 have ldv:ld1 g48 g41.next (8193+Int.toNat (j:Int) * 1)=some (.int .i64 (zbr L j)):=zae t48 (by rw[Int.toNat_natCast,Nat.mul_one]; exact zpa tx.len htl)
 obtain⟨V,hV⟩:∃V:Nat,zbr L j=V:=⟨(zbr L j).toNat,by omega⟩
 rw[hV] at ldv hmj hv2
 refine⟨by omega,z2,_,ldv,fun h0=>⟨by omega,z2,_,ldv,by omega,by omega,?_⟩,fun h0 i59 e59=>?_⟩
 ·have hVM:V < M:=by omega
  have ldm:ld1 g48 g0.next (0+Int.toNat (V:Int) * 1)=some (.bool (S2.contains (V:Int))):=zae m48 (by rw[Int.toNat_natCast,Nat.zero_add,Nat.mul_one]; exact zjs _ hVM)
  cases hc:S2.contains (V:Int) with
  | true=>
    rw[hc] at ldm
    refine .inl ⟨ldm,fun i54 e54=>?_⟩
    have e54:=zcj e54 (by omega) (by omega)
    refine⟨64 - (j+1),by omega,j+1,S2,by omega,by omega,rfl,rfl,hS2,fun x=>?_,o48,l48,w48,m48,t48⟩
    rw[hmj]
    refine⟨.inl,fun q=>q.elim id fun q=>?_⟩
    rw[←q.2]
    exact List.contains_iff_mem.1 hc
  | false=>
    rw[hc] at ldm
    have hni:(V:Int)∉S2:=fun q=>by rw[List.contains_iff_mem.2 q] at hc; cases hc
    have st:st1 g48 g0.next (0+Int.toNat (V:Int) * 1) (.bool true)=some (g48.set g0.next (.cells (zhP (S2 ++ [(V:Int)]) M) 4 false)):=by
     rw[zbi m48 (by rw[Int.toNat_natCast,zgZ]; omega),Int.toNat_natCast,Nat.zero_add,Nat.mul_one,zse _ hVM]
    refine .inr ⟨ldm,by omega,z2,_,ldv,by omega,by omega,_,st,fun i57 e57 i58 e58=>?_⟩
    have e58:=zcj e58 (by omega) (by omega)
    have ns:=zak g0.next g48 (.cells (zhP (S2 ++ [(V:Int)]) M) 4 false)
    have hlen:S2.length≤100000000:=by
     have h1:∀x∈S2,x∈(List.range (1000001)).map fun (q:Nat)=>(q:Int):=fun x q=>by
      have:=(hm2 x).1 q
      have hb:0≤x∧x≤1000000:=by
       rcases this with q | ⟨-,m,hm,rfl⟩
       ·obtain⟨-,r2,hr2,m,hm,rfl⟩:=(hmem x).1 q
        have hid2:r2.id∈zgt s.rs:=by rw[←zjq hx]; exact List.mem_map.2 ⟨_,List.mem_of_mem_take hr2,rfl⟩
        rw[rep.here _ hid2]
        have:=rep.vers r2.id m hm
        omega
       ·have:=hvb m (by omega)
        omega
      exact List.mem_map.2 ⟨x.toNat,List.mem_range.2 (by omega),by omega⟩
     have:=zgV hS2 h1
     simp at this
     omega
    have e57:=zcj e57 (by omega) (by omega)
    refine⟨64 - (j+1),by omega,j+1,S2 ++ [(V:Int)],by omega,by omega,rfl,by rw[e57]; simp,?_,fun x=>?_,zao o48 ns (by omega),by rw[ns.1]; exact l48,(ns.2 _ (by omega)).trans w48,zad _ _ _,(ns.2 _ (by omega)).trans t48⟩
    ·exact List.nodup_append.2 ⟨hS2,by simp,fun a ha b hb=>by rw[List.mem_singleton.1 hb]; exact fun e=>hni (e▸ha)⟩
    ·rw[hmj,List.mem_append,List.mem_singleton]
     refine or_congr Iff.rfl ⟨fun q=>⟨by rw[q]; omega,q.symm⟩,fun q=>q.2.symm⟩
 ·have e59:=zcj e59 (by omega) (by omega)
  refine⟨64 - (j+1),by omega,j+1,S2,by omega,by omega,rfl,rfl,hS2,fun x=>?_,o48,l48,w48,m48,t48⟩
  rw[hmj]
  refine⟨.inl,fun q=>q.elim id fun q=>absurd q.2 (fun e=>q.1 (by omega))⟩
end
section
variable {b:Int} {h h' : AH} {mb bm:Nat} {s:MSt} {xs:List (Int×List Value)}
theorem zwj (M:zaD b h mb bm s) (k:Int) (f t:ByteArray) (i:Int) (ds:List Nat):∃bs,(doM s k f t i ds).2.1=zbY .u8 bs∧zvt bs:=by
 have hz:∃bs,zeroS=zbY .u8 bs∧zvt bs:=⟨List.replicate 128 0,(zh3 128).symm,by simp,fun x hx=>by rw[List.eq_of_mem_replicate hx]; decide⟩
 unfold doM
 split
 ·exact hz
 ·split
  ·exact hz
  ·split
   ·exact hz
   ·split
    ·exact zrW M f i
    ·repeat' split
     all_goals exact hz
theorem zaD.stay2 (k:zaD b h mb bm s) (st:zhN h h') (h1:h'.get mb=h.get mb) (h2:h'.get bm=h.get bm):zaD b h' mb bm s where
 cells:=by
  obtain⟨p,n,c,hc,B⟩:=k.cells
  exact⟨p,n,c,h1.trans hc,B.stayM st⟩
 map:=k.map.near h2
 lt:=Nat.lt_of_lt_of_le k.lt st.1
 lb:=Nat.lt_of_lt_of_le k.lb st.1
 right:=k.right
 nx:=k.nx
 st:=k.st
 md:=k.md
 bd:=k.bd
def zoi (g:AH) (wb:Nat) (s:MSt) (xs:List (Int×List Value)):Prop:=∃p n c pt nt ct,g.get wb=some (.cells (mC s.nx p n c pt nt ct s.st s.md) 32 false)∧zbw s.nx s.rs s.nx p n g∧TxS g pt nt xs
theorem TxS.keepF {g g' : AH} {pt:Option Addr} {nt:Nat} (T:TxS g pt nt xs) (hn:g.next≤g'.next) {F:List Nat} (k:∀y,y < g.next→y∉F→g'.get y=g.get y)
 (hF:∀y∈F,∃o,g.get y=some o∧∀cs ty ro,o=.cells cs ty ro→cs.length < 8257):TxS g' pt nt xs:=by
 refine⟨⟨T.sh.1,?_⟩,T.n,T.ok⟩
 rcases T.sh.2 with h0 | ⟨b,off,al,e,ro,hp,hb,hg,hl,hc⟩
 ·exact .inl h0
 ·by_cases hnt:nt=0
  ·exact .inl hnt
  refine .inr ⟨b,off,al,e,ro,hp,by omega,(k b hb fun hbF=>?_).trans hg,hl,hc⟩
  obtain⟨o,q1,q2⟩:=hF b hbF
  rw[hg] at q1
  have:=q2 _ _ _ (Option.some.inj q1).symm
  have:1 * 8257≤nt * 8257:=Nat.mul_le_mul_right _ (by omega)
  omega
theorem zbw.stayM {nx:Int} {R:List zaj} {i:Int} {p:Option Addr} {n:Nat} {g g' : AH} (b:zbw nx R i p n g) (k:zhN g g'):zbw nx R i p n g':=by
 obtain⟨h1,h2,rs',h3,h4⟩:=b
 exact⟨h1,h2,rs',h3.stayM k,h4⟩
theorem zoi.old {g g' : AH} {wb:Nat} (r:zoi g wb s xs) (o:Old g g') (hw:wb < g.next):zoi g' wb s xs:=by
 obtain⟨p,n,c,pt,nt,ct,h1,h2,h3⟩:=r
 exact⟨p,n,c,pt,nt,ct,(o.2 _ hw).trans h1,h2.old o,h3.old o⟩
theorem zoi.oldM {g g' : AH} {wb:Nat} {s2:MSt} (r:zoi g wb s xs) (M:zaD b g mb bm s2) (o:zbx mb bm g g') (hw:wb < g.next) (h1:wb≠mb) (h2:wb≠bm):zoi g' wb s xs:=by
 obtain⟨p,n,c,pt,nt,ct,q1,q2,q3⟩:=r
 refine⟨p,n,c,pt,nt,ct,(o.2 _ hw h1 h2).trans q1,q2.stayM (M.stay o),q3.keepF o.1 (F:=[mb,bm]) (fun y hy hf=>?_) fun y hy=>?_⟩
 ·simp only[List.mem_cons,List.not_mem_nil,or_false,not_or] at hf
  exact o.2 y hy hf.1 hf.2
 ·simp only[List.mem_cons,List.not_mem_nil,or_false] at hy
  rcases hy with rfl | rfl
  ·obtain⟨p,n,c,hc, -⟩:=M.cells
   exact⟨_,hc,fun cs ty ro e=>by cases e; show 5 < 8257; decide⟩
  ·obtain⟨es,cl,hc, -⟩:=M.map.get
   exact⟨_,hc,fun cs ty ro e=>by cases e⟩
end
structure zxg (K:Xs):Prop where
 m:znd K
 l:zws K
 w:zxe K
 r:zeo K
 vers:K 12=some (.sum (zc1 64))
theorem zsg (h:AH):zbw s0M.nx s0M.rs s0M.nx none 0 h∧TxS h none 0 []∧zjv s0M []:=
 ⟨⟨rfl,.inl rfl,[],(zrS h).sets,rfl⟩,⟨⟨rfl,.inl rfl⟩,rfl,fun x hx=>by cases hx⟩,⟨fun x hx=>(by cases hx),fun id hi=>(by cases hi),fun _ _=>rfl,fun id i hi=>by
   show 0≤zbr za0 i∧zbr za0 i≤0
   rw[zfr hi]
   exact⟨Int.le_refl _,Int.le_refl _⟩⟩⟩
theorem zsh {K:Xs} {h:AH} (hk:K 3=none) (ha:K 4=some (.sum zsT)) (kk:zxg K) {p:Option Addr} {n c:Nat} {os:List OpP} (A:Ops h p n os) {full:ByteArray} (hfull:full.size≤reachBytes):
 Wf Tryz.prog K 3 [.slice p n c,.string full] h fun v _=>v=.bool true:=by
 have hre:reachBytes=140737488351232:=rfl
 refine zdr hk _ _ _ _ h _ (zt1 ha (v:=.bool true) (h':=h) rfl (Nat.le_refl _) (.inl ⟨rfl,fun _=>rfl,fun h80=>?_⟩))
 refine (ztA kk.m).mono ?_
 rintro _ g3 ⟨mb,bm,rfl,M3,o3,lmb,lbm⟩
 refine⟨_,rfl,(zxf kk.r).mono ?_⟩
 rintro _ g6 ⟨rfl,o6⟩
 have lt3:=M3.lt
 have lb3:=M3.lb
 have hl3:=o3.1
 have hl6:=o6.1
 refine⟨_,_,_,_,_,_,_,_,_,rfl,fun g16 e16=>?_⟩
 obtain⟨g17,k17,n17,o17,v17⟩:=zap e16 (vs:=mC 1 none 0 0 none 0 0 2 0) rfl
 have w17:=(v17 [] (fun c hc=>by cases hc)).1
 have o317:=o6.trans o17
 refine⟨rfl,g17,k17,fun i k g=>∃(j:Nat) (s:MSt) (xs:List (Int×List Value)),i=j∧j≤n∧n - j=k∧zaD (2+j) g mb bm s∧zoi g g6.next s xs∧zjv s xs∧xs.length≤j∧Old h g∧g6.next < g.next,
  ⟨n,0,s0M,[],rfl,Nat.zero_le _,rfl,(M3.old o317).mono (by omega) (by omega),⟨none,0,0,none,0,0,w17,(zsg g17).1,(zsg g17).2.1⟩,(zsg g17).2.2,Nat.le_refl _,o3.trans o317,by omega⟩,?_⟩
 rintro k19 g20 i22 ⟨j,s,xs,rfl,hj,rfl,M20,RA,rep,hxs,oh20,l20⟩
 have lt20:=M20.lt
 have lb20:=M20.lb
 have hmb6:g6.next≠mb:=by omega
 have hbm6:g6.next≠bm:=by omega
 have h80' : n≤80:=by omega
 refine⟨fun z=>?_,fun z=>?_⟩
 rotate_left
 ·
  refine (zjn kk.m kk.w M20 full (by omega)).mono ?_
  rintro _ g164 ⟨pa,na,ca,rfl,Sa,hna,o164⟩
  obtain⟨p1,n1,c1,pt1,nt1,ct1,w20,B20,T20⟩:=RA
  have w164:=(o164.2 _ l20).trans w20
  refine⟨_,_,_,rfl,_,_,_,_,_,_,_,_,_,zah w164 rfl,(znb kk.r (B20.old o164) (T20.old o164) M20.right rep (by rw[T20.n]; omega) full (by omega)).mono ?_⟩
  rintro _ g178 ⟨pb,nb,cb,rfl,Sb,hnb,o178⟩
  refine⟨_,_,_,rfl,(zo8 kk.w (Sa.old o178) Sb (by omega)).mono ?_⟩
  rintro _ _ ⟨rfl | ⟨rfl,hne⟩,rfl⟩
  ·exact .inl ⟨rfl,zah w20 rfl,zah w164 rfl,rfl⟩
  ·exact absurd rfl hne
 obtain⟨bb,off,rfl,hi',pd1,nd1,cd1,pk1,nk1,ck1,hld0, -, -, -, -, -, -,Td1,Bk1,sz1,sz2,hb⟩:=A.at (i:=j) (by omega)
 generalize os[j]=x at hld0 Td1 Bk1 sz1 sz2
 have hld:ldN g20 bb (off+j * 6) 6=some [.int .i64 x.kind,.string x.name,.string x.to,.int .i64 x.n,.slice pd1 nd1 cd1,.slice pk1 nk1 ck1]:=by
  unfold ldN at hld0 ⊢
  rw[oh20.2 bb hb]
  exact hld0
 refine zag ⟨by omega,z,_,_,_,_,_,_,_,_,_,_,by rw[Int.toNat_natCast]; exact hld,fun g35 e35=>?_⟩
 obtain⟨g36,k36,n36,o36,v36⟩:=zap e35 (vs:=[.int .i64 x.kind,.string x.name,.string x.to,.int .i64 x.n,.slice pd1 nd1 cd1,.slice pk1 nk1 ck1]) rfl
 have w36:=(v36 [] (fun c hc=>by cases hc)).1
 have M36:=M20.old o36
 refine⟨rfl,g36,k36,_,_,_,_,_,_,_,_,_,_,zah w36 rfl,(zvg kk.m M36 (by omega) x.kind x.name x.to (by omega) (by omega) x.n (Td1.old (oh20.trans o36)).2.2.2.1 Td1.1 Td1.2.2.2.2).mono ?_⟩
 rintro _ g48 ⟨rfl,M48,om48⟩
 obtain⟨bs,hbs,sbs⟩:=zwj M36 x.kind x.name x.to x.n x.data
 have l48:=om48.1
 refine⟨_,_,rfl,fun g51 e51=>?_⟩
 obtain⟨g52,k52,n52,o52,v52⟩:=zap e51 (vs:=(doM s x.kind x.name x.to x.n x.data).2.1) (by rw[hbs,sbs.len]; rfl)
 have w52:=(v52 [] (fun c hc=>by cases hc)).1
 have M52:=M48.old o52
 have RA52:=((RA.old o36 l20).oldM M36 om48 (by omega) hmb6 hbm6).old o52 (by omega)
 have wo52:=(o52.2 _ (by omega)).trans ((om48.2 _ (by omega) (by omega) (by omega)).trans w36)
 have oh52:Old h g52:=⟨by have:=oh20.1; have:=o36.1; have:=o52.1; omega,fun y hy=>(o52.2 y (by have:=oh20.1; have:=o36.1; omega)).trans ((om48.2 y (by have:=oh20.1; have:=o36.1; omega) (by omega) (by omega)).trans ((o36.2 y (by have:=oh20.1; omega)).trans (oh20.2 y hy)))⟩
 obtain⟨p1,n1,c1,pt1,nt1,ct1,w6_52,B52,T52⟩:=RA52
 have hnx:=M36.nx
 have hst:=M36.st
 have hmd:=M36.md
 have hlx:=T52.n
 refine⟨hbs▸(sbs.len:(zbY .u8 bs).length=128),g52,k52,_,_,_,_,_,_,_,_,_,zah w6_52 rfl,_,_,_,_,_,_,_,_,_,_,zah wo52 rfl,(zxI kk.r B52 T52 M36.right rep (fun id=>M36.map.ok id) (by omega) (by omega) (by omega) (by omega) x.kind x.name x.to (by omega) (by omega) x.n (Td1.old oh52).2.2.2.1 Td1.2.2.2.2).mono ?_⟩
 rintro _ g73 ⟨o73,w,xs2,rfl,MV,rep2,hxs2⟩
 generalize doM s x.kind x.name x.to x.n x.data=D at M48 M52 hbs w52 MV rep2 ⊢
 obtain⟨s2,l2,e2⟩:=D
 simp only at M48 M52 hbs w52 MV rep2
 obtain⟨p2,n2,c2,pt2,nt2,ct2,rfl,B73,T73⟩:=MV
 have l73:=o73.1
 refine⟨_,_,_,_,_,_,_,_,_,_,_,rfl,fun g85 e85 g86 e86=>?_⟩
 have o85:=zab e85
 have o86:=zab e86
 have n85:=zaa e85
 have n86:=zaa e86
 have hl2:l2.length=128:=hbs▸(sbs.len:(zbY .u8 bs).length=128)
 obtain⟨g87,k87,nr87,w87⟩:=zrw ((o86.2 _ (by omega)).trans (zaf e85)) (k:=0) (vs:=mC s2.nx p2 n2 c2 pt2 nt2 ct2 s2.st s2.md) (by show 0+5≤5; decide)
 obtain⟨g88,k88,nr88,w88⟩:=zrw ((nr87.2 _ (by omega)).trans (zaf e86)) (k:=0) (vs:=l2) (by rw[hl2]; decide)
 have w87' : g88.get g73.next=some (.cells (mC s2.nx p2 n2 c2 pt2 nt2 ct2 s2.st s2.md) 32 false):=(nr88.2 _ (by omega)).trans w87
 have w88' : g88.get g85.next=some (.cells l2 39 false):=by
  rw[List.take_zero,List.nil_append,Nat.zero_add,List.drop_of_length_le (by rw[hl2]; decide),List.append_nil] at w88
  exact w88
 have o7388:Old g73 g88:=zao (zao (o85.trans o86) nr87 (Nat.le_refl _)) nr88 (by omega)
 have o5288:=o73.trans o7388
 have w6_88:=(o5288.2 _ (by omega)).trans w6_52
 have nr98:=zak g6.next g88 (.cells (mC s2.nx p2 n2 c2 pt2 nt2 ct2 s2.st s2.md) 32 false)
 have w6_98:=zad g6.next g88 (.cells (mC s2.nx p2 n2 c2 pt2 nt2 ct2 s2.st s2.md) 32 false)
 have k98:stN g88 g6.next 0 (mC s2.nx p2 n2 c2 pt2 nt2 ct2 s2.st s2.md)=some (g88.set g6.next (.cells (mC s2.nx p2 n2 c2 pt2 nt2 ct2 s2.st s2.md) 32 false)):=zat w6_88 rfl
 generalize g88.set g6.next (.cells (mC s2.nx p2 n2 c2 pt2 nt2 ct2 s2.st s2.md) 32 false)=g98 at nr98 w6_98 k98
 have st98:zhN g88 g98:=⟨by rw[nr98.1]; exact Nat.le_refl _,fun y hy=>by
  by_cases e:y=g6.next
  ·subst e
   exact .inr ⟨_,w6_88,zgY s.nx p1 n1 c1 pt1 nt1 ct1 s.st s.md false⟩
  ·exact .inl (nr98.2 y e)⟩
 have M98:zaD (2+j+1) g98 mb bm s2:=(M52.old o5288).stay2 st98 (nr98.2 _ (Ne.symm hmb6)) (nr98.2 _ (Ne.symm hbm6))
 have B98:zbw s2.nx s2.rs s2.nx p2 n2 g98:=(B73.old o7388).stayM st98
 have T98:TxS g98 pt2 nt2 xs2:=(T73.old o7388).keepF (by rw[nr98.1]; exact Nat.le_refl _) (F:=[g6.next]) (fun y hy hf=>nr98.2 y (by simpa using hf)) fun y hy=>by
  rw[List.mem_singleton.1 hy]
  exact⟨_,w6_88,fun cs ty ro e=>by cases e; show 5 < 8257; decide⟩
 have l5288:=o5288.1
 have w52_98:=(nr98.2 _ (by omega)).trans ((o5288.2 _ (by omega)).trans w52)
 have w88_98:=(nr98.2 _ (by omega)).trans w88'
 have wo_98:=(nr98.2 _ (by omega)).trans ((o5288.2 _ (by omega)).trans wo52)
 have oh98:Old h g98:=zao (oh52.trans o5288) nr98 (by omega)
 have n98:=nr98.1
 refine⟨rfl,g87,k87,hl2,g88,k88,_,_,_,_,_,_,_,_,_,zah w87' rfl,rfl,g98,k98,_,zah w52_98 hl2,_,zah w88_98 hl2,_,_,by rw[hbs]; exact zwf sbs,by rw[hbs]; exact zwf sbs,fun _=>⟨fun _=>?_,fun y=>absurd rfl y⟩,fun y=>?_⟩
 rotate_left
 ·rw[zjl] at y
  cases y
 obtain⟨-,fm98,rs98,S98,hx98⟩:=id B98
 have R98:zam s2.nx rs98:=M98.right.cor hx98.symm
 refine (ztB kk.m kk.l M98).mono ?_
 rintro _ g104 ⟨pa,na,ca,rfl,hna,Sa,o104, -⟩
 have w6_104:=(o104.2 _ (by omega)).trans w6_98
 refine⟨_,_,_,rfl,_,_,_,_,_,_,_,_,_,zah w6_104 rfl,(zwi kk.r (S98.old o104) R98).mono ?_⟩
 rintro _ g118 ⟨pb,nb,cb,rfl,Sb,o118⟩
 rw[zmV hx98] at Sb
 have o98118:=o104.trans o118
 have h32:=M98.right.2.1
 refine⟨_,_,_,rfl,(zmW kk.l (Sa.old o118) Sb (ztz M98.right) (by omega)).mono ?_⟩
 rintro _ _ ⟨rfl,rfl⟩
 refine .inl ⟨rfl,(ztF kk.vers (M98.old o98118)).mono ?_⟩
 rintro _ g125 ⟨V1,rfl,nd1',mem1,o125⟩
 have o98125:=o98118.trans o125
 have w6_118:=(o98118.2 _ (by omega)).trans w6_98
 have w6_125:=(o98125.2 _ (by omega)).trans w6_98
 have hmd2:=M98.md
 refine⟨_,rfl,_,_,_,_,_,_,_,_,_,zah w6_125 rfl,(zp4 kk.r (B98.old o98125) (T98.old o98125) M98.right rep2 (by rw[T98.n]; omega) (by omega)).mono ?_⟩
 rintro _ g137 ⟨V2,rfl,nd2',mem2,o137⟩
 have hVV:V1.length=V2.length:=Nat.le_antisymm (zgV nd1' fun x hx=>(mem2 x).2 ((mem1 x).1 hx)) (zgV nd2' fun x hx=>(mem1 x).2 ((mem2 x).1 hx))
 have o98137:=o98125.trans o137
 have wo_137:=(o98137.2 _ (by omega)).trans wo_98
 have w6_137:=(o98137.2 _ (by omega)).trans w6_98
 refine⟨_,rfl,fun _=>?_,fun y=>absurd (by rw[hVV]) y⟩
 refine⟨zah w6_98 rfl,zah w6_104 rfl,zah w6_118 rfl,zah w6_125 rfl,_,zae wo_137 rfl,(zjn kk.m kk.w (M98.old o98137) x.name (by omega)).mono ?_⟩
 rintro _ g141 ⟨pc,nc,cc,rfl,Sc,hnc,o141⟩
 have o98141:=o98137.trans o141
 have w6_141:=(o98141.2 _ (by omega)).trans w6_98
 have wo_141:=(o98141.2 _ (by omega)).trans wo_98
 refine⟨_,_,_,rfl,_,_,_,_,_,_,_,_,_,zah w6_141 rfl,_,zae wo_141 rfl,(znb kk.r (B98.old o98141) (T98.old o98141) M98.right rep2 (by rw[T98.n]; omega) x.name (by omega)).mono ?_⟩
 rintro _ g156 ⟨pd,nd,cd,rfl,Sd,hnd,o156⟩
 refine⟨_,_,_,rfl,(zo8 kk.w (Sc.old o156) Sd (by omega)).mono ?_⟩
 rintro _ _ ⟨rfl | ⟨rfl,hne⟩,rfl⟩
 ·have o98156:=o98141.trans o156
  refine .inl ⟨rfl,zah w6_137 rfl,zah w6_141 rfl,zae wo_137 rfl,zae wo_141 rfl,fun i162 e162=>?_⟩
  have e162:=zcj e162 (by omega) (by omega)
  refine⟨n - (j+1),by omega,j+1,s2,xs2,by omega,by omega,rfl,(M98.old o98156).mono (by omega) (by omega),⟨p2,n2,c2,pt2,nt2,ct2,(o98156.2 _ (by omega)).trans w6_98,B98.old o98156,T98.old o98156⟩,rep2,by omega,oh98.trans o98156,by have:=o98156.1; omega⟩
 ·exact absurd rfl hne
theorem zvo {h:AH} {g:Nat} {a:Value} (r:RdV Tryz.prog h (g+1) 9 a):∃f:ByteArray,a=.string f∧f.size≤reachBytes:=by
 unfold RdV at r
 rw[Tryz.underlying9] at r
 have r4:Rd Tryz.prog h (g+1) 9 [a]:=r
 unfold Rd at r4
 rw[Tryz.underlying9] at r4
 obtain⟨s,e, -,hw⟩:=r4
 exact⟨s,by simpa using e,hw⟩
theorem zp5 {h:AH} {vs:List Value} (r:RdA Tryz.prog h 9 [22,9] vs):∃p n c os f,vs=[.slice p n c,.string f]∧Ops h p n os∧f.size≤reachBytes:=by
 obtain⟨a,b,rfl,r1,r2⟩:=zxy r
 obtain⟨p,n,cc,os,rfl,A⟩:=zwd (g:=5) (zvk r1)
 obtain⟨f,rfl,hf⟩:=zvo (g:=8) r2
 exact⟨p,n,cc,os,f,rfl,A,hf⟩
end Go.Am
