/-
  A MODEL: it goes back; a name goes.
-/
import Derived.Test.YtkapnilnhoiooaaGreatCMoB
import Derived.Test.YtkapnilnhoiooaaGreatVClone
set_option linter.unusedVariables false
set_option linter.unusedSimpArgs false
set_option maxRecDepth 100000
namespace Go.Am
open Go.Proofs
theorem zpZ (nx:Int) (rs:List zaj) (o:Option (ByteArray×ByteArray)) (k:Int):(zax nx rs o k).1=nx∨(zax nx rs o k).1=nx+1:=by
 unfold zax
 repeat' split
 all_goals first | exact .inl rfl | exact .inr rfl
theorem zo6 (nx:Int) (rs:List zaj) (o:Option (ByteArray×ByteArray)) (k:Int):(snapA nx rs o k).1=nx∨(snapA nx rs o k).1=nx+1:=by
 unfold snapA
 repeat' split
 all_goals first | exact .inl rfl | exact .inr rfl
theorem zrQ (nx:Int) (rs:List zaj) (o o2:Option (ByteArray×ByteArray)):(zaK nx rs o o2).1=nx∨(zaK nx rs o o2).1=nx+1:=by
 unfold zaK
 repeat' split
 all_goals first | exact .inl rfl | exact .inr rfl
theorem zlr (nx:Int) (rs:List zaj) (o:Option (ByteArray×ByteArray)):(zba nx rs o).1=nx:=by
 unfold zba
 repeat' split
 all_goals rfl
theorem zh5 (nx:Int) (rs:List zaj) (o:Option (ByteArray×ByteArray)):(zaW nx rs o).1=nx:=by
 unfold zaW
 repeat' split
 all_goals rfl
theorem zgr (nx:Int) (rs:List zaj) (o:Option (ByteArray×ByteArray)):(zav nx rs o).1=nx:=by
 unfold zav
 repeat' split
 all_goals rfl
theorem ze8 (nx:Int) (rs:List zaj) (lo:Option Nat) (ok:Bool):(zaw nx rs lo ok).1=nx:=by
 unfold zaw
 repeat' split
 all_goals rfl
theorem zxw {g g1 g2:AH} {i:Int} {p' : Option Addr} {n' c' : Nat} {s:zaj} (e1:g1=g.alloc (.cells [.int .u64 0,.slice none 0 0] 29 false)) (e2:g2=g1.alloc (.cells (setC zaq) 81 false)):
 ∃g3 g4,stN g2 g.next 0 [.int .u64 i,.slice p' n' c']=some g3∧stN g3 g1.next 0 (setC s)=some g4∧Old g g4∧g.next < g4.next∧g1.next < g4.next∧g4.get g.next=some (.cells [.int .u64 i,.slice p' n' c'] 29 false)∧g4.get g1.next=some (.cells (setC s) 81 false):=by
 have o1:=zab e1
 have o2:=zab e2
 have n1:=zaa e1
 have n2:=zaa e2
 have w1:=(o2.2 g.next (by omega)).trans (zaf e1)
 have s1:=zak g.next g2 (.cells [.int .u64 i,.slice p' n' c'] 29 false)
 have w2:=(s1.2 g1.next (by omega)).trans (zaf e2)
 have s2:=zak g1.next (g2.set g.next (.cells [.int .u64 i,.slice p' n' c'] 29 false)) (.cells (setC s) 81 false)
 have hx:((g2.set g.next (.cells [.int .u64 i,.slice p' n' c'] 29 false)).set g1.next (.cells (setC s) 81 false)).next=g2.next:=rfl
 exact⟨_,_,zat w1 rfl,zat w2 rfl,zao (zao (o1.trans o2) s1 (Nat.le_refl _)) s2 (by omega),by rw[hx]; omega,by rw[hx]; omega,(s2.2 _ (by omega)).trans (zad _ _ _),zad _ _ _⟩
section
variable {K:Xs} {b:Int} {h:AH} {mb bm:Nat} {s:MSt}
theorem zaD.setBookI (M:zaD b h mb bm s) {b' nx' i:Int} {rs' : List zaj} {p' : Option Addr} {n' c' : Nat} (B:zb2 nx' rs' i p' n' h) (R' : zam nx' rs') (h1:1≤nx') (h2:nx'≤b') (hb:b≤b') (hb2:b'≤1000000):
 ∃h',stN h mb 0 [.int .u64 i,.slice p' n' c']=some h'∧zbR mb h h'∧zaD b' h' mb bm (zew s nx' rs'):=by
 have hi:=B.1
 subst hi
 exact M.setBook B R' h1 h2 hb hb2
theorem zrR (kk:znd K) (M:zaD b h mb bm s) (f:ByteArray) (hf:f.size≤9223372036854775806):
 Wf Tryz.prog K 25 [.pointer (some ⟨mb,0,none⟩),.string f] h fun v h'=>v=.int .i64 (zej s f).2∧zaD b h' mb bm (zej s f).1∧zbx mb bm h h':=by
 obtain⟨p,n,c,hc,hbk⟩:=M.cells
 obtain⟨-,xs,B,hx⟩:=id hbk
 have R' : zam s.nx xs:=M.right.cor hx.symm
 have hn:=R'.2.1
 have hnn:=B.1.1
 have hld:∀{g:AH},g.get mb=some (.cells (modC s.nx p n c (some bm) s.st s.md) 58 false)→ldN g mb 0 2=some [.int .u64 s.nx,.slice p n c]:=fun hg=>zj6 hg (by show 0+2≤5; decide)
 refine zge kk.back _ _ h _ (zag ⟨_,_,_,_,hld hc,(ztl kk.acts.a5.a4.a3.a2 B R' (by omega) f hf).mono ?_⟩)
 rintro _ g7 ⟨⟨i,p',n',c',r,rfl,bk,ok,hcr⟩,o7⟩
 obtain⟨E1,E2,E3,E4⟩:=zmR (nx:=s.nx) hx (spl f)
 refine⟨_,_,_,_,_,_,_,_,_,_,_,_,_,_,_,_,_,_,rfl,fun g26 e26 g27 e27=>?_⟩
 obtain⟨g28,g29,k28,k29,o29,l7,l26,wb,wr⟩:=zxw (i:=i) (p':=p') (n':=n') (c':=c') (s:=r) e26 e27
 have oh:=o7.trans o29
 have M29:=M.old oh
 refine⟨rfl,g28,k28,rfl,g29,k29,fun y=>?_,fun y=>?_⟩
 ·have hcc:=zaL (hcr.trans E3)
  have hid:=hcc.1
  obtain⟨g39,k39,nr39,M39⟩:=M29.copyTo (id:=r.id) (src:=r.prev) ok.id
  have bk29:=(bk.old o29).corE E1 E2
  obtain⟨g46,k46,nr46,M46⟩:=M39.setBookI (b':=b) (bk29.stayM (M29.stay (zbx.near2 nr39))) (zn9 M.right f) (by rw[zh5]; exact M.nx.1) (by rw[zh5]; exact M.nx.2) (Int.le_refl _) M.bd (c':=c')
  refine zag ⟨_,zae ((oh.2 _ M.lt).trans hc) rfl,_,zae wr rfl,zag ⟨_,zae ((oh.2 _ M.lt).trans hc) rfl,_,zae wr rfl,_,M29.map.lookup ok.prev,g39,k39,_,_,_,_,zah ((nr39.2 _ (by have:=M.lb; have:=o7.1; omega)).trans wb) rfl,zag ⟨rfl,g46,k46,?_⟩⟩⟩
  have hM:zej s f=(zew (zmU s r.id r.prev) (zaW s.nx s.rs (spl f)).1 (zaW s.nx s.rs (spl f)).2.1,0):=by
   unfold zej
   rw[if_pos (by rw[←E4]; exact y),←hid,←hcc.2.2.2.2.1]
  rw[hM]
  exact⟨rfl,M46,(zbx.of_old oh).trans ((zbx.near2 nr39).trans (zbx.near1 nr46))⟩
 ·have hM:zej s f=(s,(zaW s.nx xs (spl f)).2.2.2):=by
   unfold zej
   rw[if_neg (by rw[←E4]; exact y),E4]
  rw[hM]
  exact⟨rfl,M29,zbx.of_old oh⟩
theorem zoc (kk:znd K) (M:zaD b h mb bm s) (f:ByteArray) (hf:f.size≤9223372036854775806):
 Wf Tryz.prog K 26 [.pointer (some ⟨mb,0,none⟩),.string f] h fun v h'=>v=.int .i64 (zaA s f).2∧zaD b h' mb bm (zaA s f).1∧zbx mb bm h h':=by
 obtain⟨p,n,c,hc,hbk⟩:=M.cells
 obtain⟨-,xs,B,hx⟩:=id hbk
 have R' : zam s.nx xs:=M.right.cor hx.symm
 have hn:=R'.2.1
 have hnn:=B.1.1
 have hld:∀{g:AH},g.get mb=some (.cells (modC s.nx p n c (some bm) s.st s.md) 58 false)→ldN g mb 0 2=some [.int .u64 s.nx,.slice p n c]:=fun hg=>zj6 hg (by show 0+2≤5; decide)
 refine zer kk.destroy _ _ h _ ((zeY kk.named.name f hf).mono ?_)
 rintro _ g1 ⟨⟨a,b',hsp,rfl⟩ | ⟨hno,rfl⟩,o1⟩
 rotate_left
 ·have hM:zaA s f=(s,141):=by
   unfold zaA
   rw[zbB hno]
   rfl
  rw[hM]
  exact⟨_,_,_,rfl,fun y=>absurd y (by decide),fun _=>⟨rfl,M.old o1,zbx.of_old o1⟩⟩
 have hs:=zaH hsp
 refine⟨_,_,_,rfl,fun _=>zag ⟨_,_,_,zae ((o1.2 _ M.lt).trans hc) rfl,(zgK kk.named (B.1.old o1) R'.calOk (zkj B.1) f hf).mono ?_⟩,fun y=>absurd rfl y⟩
 rintro v11 g11 ⟨q,o11⟩
 obtain⟨r,e,rfl,hcr,hidw⟩:∃r e,v11=Value.tuple #[.agg (setC r).toArray,.int .i64 e]∧cor r=cor (zdZ s.rs (spl f))∧(Lit.int .u64 r.id).wf=true:=by
  have hnc:=zpY hx (spl f)
  rcases q with ⟨a2,b2,hsp2,⟨j,r,p',c',hl,hr,rfl,ok⟩ | ⟨hl,rfl⟩⟩ | ⟨hno,rfl⟩
  ·refine⟨_,_,rfl,?_,ok.id⟩
   rw[←hnc]
   unfold zdZ
   rw[zaH hsp2,show lookOf xs (some (a2,b2))=some j from hl]
   simp only
   rw[hr]
   rfl
  ·refine⟨_,_,rfl,?_,zlq.1⟩
   rw[←hnc]
   unfold zdZ
   rw[zaH hsp2,show lookOf xs (some (a2,b2))=none from hl]
  ·exact absurd hsp (hno _ _)
 refine⟨_,_,_,_,_,_,_,_,_,_,_,_,_,_,rfl,fun g26 e26=>?_⟩
 obtain⟨g27,k27,n27,o27,v27⟩:=zap e26 (vs:=setC r) rfl
 have wr:=(v27 [] (fun c hc=>by cases hc)).1
 have o1b:=o1.trans (o11.trans o27)
 refine⟨rfl,g27,k27,fun g28 e28=>?_⟩
 have o28:=zab e28
 have n28:=zaa e28
 have wb:=zaf e28
 have oh:=o1b.trans o28
 have wr28:=(o28.2 _ (by omega)).trans wr
 have M28:=M.old oh
 have hid:r.id=(zdZ s.rs (spl f)).id:=(zaL hcr).1
 have hlt:=M.lt
 have hlb:=M.lb
 have hh1:=o1.1
 have hh11:=o11.1
 have tail:∀{g36:AH} {nx' : Int} {rs' : List zaj} {i:Int} {p' : Option Addr} {n' c' : Nat},Old g28 g36→zb2 nx' rs' i p' n' g36→nx'= s.nx→zam nx' rs'→
  ∃g55,stN g36 g27.next 0 [.int .u64 i,.slice p' n' c']=some g55∧ld1 g55 mb (0+2)=some (.map (some bm))∧ld1 g55 g11.next 0=some (.int .u64 r.id)∧zaD b g55 mb bm s∧zbx mb bm h g55∧
   ∃g60,zan Tryz.prog g55 .delete #[56,26] [.map (some bm),.int .u64 r.id]=some (undef,g60)∧ldN g60 g27.next 0 2=some [.int .u64 i,.slice p' n' c']∧
   ∃g67,stN g60 mb 0 [.int .u64 i,.slice p' n' c']=some g67∧zaD b g67 mb bm (zew (zve s r.id) nx' rs')∧zbx mb bm h g67:=by
  intro g36 nx' rs' i p' n' c' o36 bk hnx Rr
  have wb36:=(o36.2 _ (by omega)).trans wb
  have s55:=zak g27.next g36 (.cells [.int .u64 i,.slice p' n' c'] 29 false)
  have c55:=zad g27.next g36 (.cells [.int .u64 i,.slice p' n' c'] 29 false)
  have k55:stN g36 g27.next 0 [.int .u64 i,.slice p' n' c']=some _:=zat wb36 rfl
  generalize g36.set g27.next (.cells [.int .u64 i,.slice p' n' c'] 29 false)=g55 at s55 c55 k55
  have o55:Old g27 g55:=zao (o28.trans o36) s55 (Nat.le_refl _)
  have oh55:=o1b.trans o55
  have M55:=M.old oh55
  have hbk0:ze7 (.cells [.int .u64 0,.slice none 0 0] 29 false):=fun cs t ro e=>by
   cases e
   refine⟨by simp,fun off q hl=>?_,fun off r hl=>?_⟩
   ·have hl' : off+3≤2:=hl
    omega
   ·have hl' : off+11≤2:=hl
    omega
  have st55:zhN g36 g55:=⟨Nat.le_of_eq s55.1.symm,fun y hy=>by
   by_cases hy2:y=g27.next
   ·subst hy2
    exact .inr ⟨_,wb36,hbk0⟩
   ·exact .inl (s55.2 y hy2)⟩
  obtain⟨g60,k60,nr60,M60⟩:=M55.delTo hidw
  have bk60:=(bk.stayM st55).stayM (M55.stay (zbx.near2 nr60))
  obtain⟨g67,k67,nr67,M67⟩:=M60.setBookI (b':=b) bk60 Rr (by rw[hnx]; exact M.nx.1) (by rw[hnx]; exact M.nx.2) (Int.le_refl _) M.bd (c':=c')
  exact⟨g55,k55,zae ((oh55.2 _ hlt).trans hc) rfl,zae ((o55.2 _ (by omega)).trans wr) rfl,M55,zbx.of_old oh55,g60,k60,zah ((nr60.2 _ (by omega)).trans c55) rfl,g67,k67,M67,(zbx.of_old oh55).trans ((zbx.near2 nr60).trans (zbx.near1 nr67))⟩
 refine⟨fun y=>?_,fun y=>?_⟩
 ·have y' : b'= noB:=y
  refine zag ⟨_,_,_,_,hld ((oh.2 _ hlt).trans hc),(zn4 kk.acts.a5.a4.a3 (B.old oh) R' (by omega) f hf).mono ?_⟩
  rintro _ g36 ⟨⟨i,p',n',c',r2,rfl,bk,ok2,hcr2⟩,o36⟩
  obtain⟨E1,E2,E3,E4⟩:=zhC (nx:=s.nx) hx (spl f)
  obtain⟨g55,k55,l55,li55,M55,om55,g60,k60,l60,g67,k67,M67,om67⟩:=tail (c':=c') o36 (bk.corE E1 E2) (zgr _ _ _) (zjN M.right f)
  have hD:zfJ s.nx s.rs (spl f)=((zav s.nx s.rs (spl f)).1,(zav s.nx s.rs (spl f)).2.1,(zav s.nx s.rs (spl f)).2.2.2):=by
   rw[hs]
   unfold zfJ
   simp only
   rw[if_pos y']
  refine⟨_,_,_,_,_,_,_,_,_,_,_,_,_,_,_,_,_,_,rfl,rfl,g55,k55,fun z=>?_,fun z=>?_⟩
  ·refine zag ⟨_,l55,_,li55,g60,k60,_,_,_,_,l60,zag ⟨rfl,g67,k67,?_⟩⟩
   have hM:zaA s f=(zew (zve s r.id) (zav s.nx s.rs (spl f)).1 (zav s.nx s.rs (spl f)).2.1,0):=by
    unfold zaA
    rw[hD,if_pos (by rw[←E4]; exact z),hid]
   rw[hM]
   exact⟨rfl,M67,om67⟩
  ·have hM:zaA s f=(s,(zav s.nx xs (spl f)).2.2.2):=by
    unfold zaA
    rw[hD,if_neg (by rw[←E4]; exact z),E4]
   rw[hM]
   exact⟨rfl,M55,om55⟩
 ·have y' : ¬b'= noB:=y
  refine zag ⟨_,_,_,_,hld ((oh.2 _ hlt).trans hc),(zmL kk.acts.a5.a4 (B.old oh) R' (by omega) f hf rfl).mono ?_⟩
  rintro _ g36 ⟨⟨i,p',n',c',pl,nl,cl,rfl,bk,dl⟩,o36⟩
  obtain⟨E1,E2,E4⟩:=zgR (nx:=s.nx) hx (lookOf xs (spl f)) (snapOf (spl f)).isSome
  rw[zaP hx] at bk dl E1 E2 E4
  rw[zaP hx]
  obtain⟨g55,k55,l55,li55,M55,om55,g60,k60,l60,g67,k67,M67,om67⟩:=tail (c':=c') o36 (bk.corE E1 E2) (ze8 _ _ _ _) (zjd M.right f)
  have hD:zfJ s.nx s.rs (spl f)=((zaw s.nx s.rs (lookOf s.rs (spl f)) (snapOf (spl f)).isSome).1,(zaw s.nx s.rs (lookOf s.rs (spl f)) (snapOf (spl f)).isSome).2.1,(zaw s.nx s.rs (lookOf s.rs (spl f)) (snapOf (spl f)).isSome).2.2.2):=by
   rw[hs]
   unfold zfJ
   simp only
   rw[if_neg y']
  have E4':=congrArg Prod.snd E4
  refine⟨_,_,_,_,_,_,_,_,rfl,rfl,g55,k55,fun z=>?_,fun z=>?_⟩
  ·refine zag ⟨_,l55,_,li55,g60,k60,_,_,_,_,l60,zag ⟨rfl,g67,k67,?_⟩⟩
   have hM:zaA s f=(zew (zve s r.id) (zaw s.nx s.rs (lookOf s.rs (spl f)) (snapOf (spl f)).isSome).1 (zaw s.nx s.rs (lookOf s.rs (spl f)) (snapOf (spl f)).isSome).2.1,0):=by
    unfold zaA
    rw[hD,if_pos (by rw[←E4']; exact z),hid]
   rw[hM]
   exact⟨rfl,M67,om67⟩
  ·have hM:zaA s f=(s,(zaw s.nx xs (lookOf s.rs (spl f)) (snapOf (spl f)).isSome).2.2.2):=by
    unfold zaA
    rw[hD,if_neg (by rw[←E4']; exact z),E4']
   rw[hM]
   exact⟨rfl,M55,om55⟩
end
def ze9 (s:MSt):MSt:={ s with st:=s.st+1 }
noncomputable def doM (s:MSt) (k:Int) (f t:ByteArray) (i:Int) (ds:List Nat):MSt×List Value×Int:=
 if k=0 then (zdu s (zax s.nx s.rs (spl f) i).1 (zax s.nx s.rs (spl f) i).2.1 (zax s.nx s.rs (spl f) i).2.2,zeroS,(zax s.nx s.rs (spl f) i).2.2)
 else if k=1 then ((zfS s f i ds).1,zeroS,(zfS s f i ds).2)
 else if k=2 then ((zlp s f i).1,zeroS,(zlp s f i).2)
 else if k=3 then (s,(readM s f i).1,(readM s f i).2)
 else if k=4 then (zdu (if (snapA s.nx s.rs (spl f) s.st).2.2=0 then ze9 s else s) (snapA s.nx s.rs (spl f) s.st).1 (snapA s.nx s.rs (spl f) s.st).2.1 (snapA s.nx s.rs (spl f) s.st).2.2,zeroS,(snapA s.nx s.rs (spl f) s.st).2.2)
 else if k=5 then (zdu s (zaK s.nx s.rs (spl f) (spl t)).1 (zaK s.nx s.rs (spl f) (spl t)).2.1 (zaK s.nx s.rs (spl f) (spl t)).2.2,zeroS,(zaK s.nx s.rs (spl f) (spl t)).2.2)
 else if k=6 then (if (zba s.nx s.rs (spl f)).2.2=0 then zew s (zba s.nx s.rs (spl f)).1 (zba s.nx s.rs (spl f)).2.1 else s,zeroS,(zba s.nx s.rs (spl f)).2.2)
 else if k=7 then ((zej s f).1,zeroS,(zej s f).2)
 else if k=8 then ((zaA s f).1,zeroS,(zaA s f).2)
 else if k=9 then (ze9 s,zeroS,0)
 else (s,zeroS,0)
section
variable {K:Xs} {b b' : Int} {h:AH} {mb bm:Nat} {s:MSt}
theorem zaD.stampTo (M:zaD b h mb bm s) (hb1:b+1≤1000000):∃h',st1 h mb (0+3) (.int .u64 (s.st+1))=some h'∧zbR mb h h'∧zaD (b+1) h' mb bm (ze9 s):=by
 obtain⟨p,n,c,hc,hbk⟩:=M.cells
 have nr:=zak mb h (.cells (modC s.nx p n c (some bm) (s.st+1) s.md) 58 false)
 have h1:=M.nx
 have h2:=M.st
 have h3:=M.md
 exact⟨_,zbi hc (by show 0+3 < 5; decide),nr,{ cells:=⟨p,n,c,zad _ _ _,hbk.stayM (M.stay (zbx.near1 nr))⟩,map:=M.map.near (nr.2 _ (Ne.symm M.ne)),lt:=M.lt,lb:=M.lb,right:=M.right,nx:=⟨h1.1,by show s.nx≤b+1; omega⟩,st:=⟨by show 1≤s.st+1; omega,by show s.st+1≤b+1; omega⟩,md:=⟨h3.1,by show s.md≤b+1; omega⟩,bd:=hb1 }⟩
theorem za8:zeroS.length=128:=by simp[zeroS]
theorem zum {g:AH} {x:Nat} {l:List Value} {e:Int} {Q:Value→AH→Prop} (hx:h.next≤x) (w:g.get x=some (.cells (List.replicate 128 (.int .u8 0)) 39 false)) (hxl:x < g.next) (M' : zaD b' g mb bm s) (om:zbx mb bm h g) (hmb:mb < h.next) (hbm:bm < h.next) (hl:l.length=128)
 (HQ:∀g',zaD b' g' mb bm s→zbx mb bm h g'→Q (.tuple #[.agg l.toArray,.int .i64 e]) g'):l.length=128∧∃h28,stN g x 0 l=some h28∧∃l29:List Value,ldN h28 x 0 128=some l29∧Q (.tuple #[.agg l29.toArray,.int .i64 e]) h28:=by
 have s1:=zak x g (.cells l 39 false)
 obtain⟨p,n,c,hc,hbk⟩:=M'.cells
 have st:zhN g (g.set x (.cells l 39 false)):=⟨Nat.le_of_eq s1.1.symm,fun y hy=>by
  by_cases hy2:y=x
  ·subst hy2
   exact .inr ⟨_,w,zhD (fun v hv=>⟨0,List.eq_of_mem_replicate hv⟩) (by simp)⟩
  ·exact .inl (s1.2 y hy2)⟩
 refine⟨hl,_,zat w (by simp[hl]),l,zah (zad _ _ _) hl,HQ _ ?_ ⟨om.1,fun y hy q1 q2=>(s1.2 y (by omega)).trans (om.2 y hy q1 q2)⟩⟩
 exact { M' with cells:=⟨p,n,c,(s1.2 _ (by omega)).trans hc,hbk.stayM st⟩,map:=M'.map.near (s1.2 _ (by omega)),lt:=M'.lt,lb:=M'.lb }
theorem zvf (kk:znd K) {g:AH} {x y:Nat} {nx' i:Int} {rs' : List zaj} {p' : Option Addr} {n' c' : Nat} {e:Int} {Q:Value→AH→Prop} (hx:h.next≤x) (w:g.get x=some (.cells (List.replicate 128 (.int .u8 0)) 39 false)) (hxl:x < g.next) (M' : zaD b g mb bm s) (om:zbx mb bm h g) (hmb:mb < h.next) (hbm:bm < h.next)
 (wy:g.get y=some (.cells [.int .u64 i,.slice p' n' c'] 29 false)) (B:zb2 nx' rs' i p' n' g) (R' : zam nx' rs') (h1:1≤nx') (h2:nx'≤b') (hb:b≤b') (hb2:b'≤1000000)
 (HQ:∀g',zaD b' g' mb bm (zdu s nx' rs' e)→zbx mb bm h g'→Q (.tuple #[.agg zeroS.toArray,.int .i64 e]) g'):
 ∃l20:List Value,zaE Tryz.prog 39 #[]=some (.agg l20.toArray)∧∃i21:Int,∃(p22:Option Addr) (n23 c24:Nat),ldN g y 0 2=some ([(.int .u64 i21),(.slice p22 n23 c24)]:List Value)∧
  Wf Tryz.prog K 18 [.pointer (some ⟨mb,0,none⟩),.agg #[.int .u64 i21,.slice p22 n23 c24],.int .i64 e] g fun r25 h26=>
   ∃i27:Int,r25=.int .i64 i27∧(l20.length=128∧∃h28,stN h26 x 0 l20=some h28∧∃l29:List Value,ldN h28 x 0 128=some l29∧Q (.tuple #[.agg l29.toArray,.int .i64 i27]) h28):=by
 have hi:=B.1
 subst hi
 refine⟨zeroS,zdY,_,_,_,_,zah wy rfl,(ztx kk M' B R' h1 h2 hb hb2 e).mono ?_⟩
 rintro _ g26 ⟨rfl,M26,o26⟩
 exact⟨_,rfl,zum hx ((o26.2 _ hxl (by omega) (by omega)).trans w) (Nat.lt_of_lt_of_le hxl o26.1) M26 (om.trans o26) hmb hbm za8 HQ⟩
theorem zvg (kk:znd K) (M:zaD b h mb bm s) (hb1:b+1≤1000000) (k:Int) (f t:ByteArray) (hf:f.size≤9223372036854775806) (hft:t.size≤9223372036854775806) (i:Int) {pd pk:Option Addr} {nd cd nk ck:Nat} {ds:List Nat} (S:zaR h pd nd 1 (zbY .u8 ds)) (fm:pd=none∨∃b off,pd=some ⟨b,off,none⟩) (hd:∀x∈ds,x < 256):
 Wf Tryz.prog K 7 [.pointer (some ⟨mb,0,none⟩),.agg #[.int .i64 k,.string f,.string t,.int .i64 i,.slice pd nd cd,.slice pk nk ck]] h fun v h'=>
  v=.tuple #[.agg (doM s k f t i ds).2.1.toArray,.int .i64 (doM s k f t i ds).2.2]∧zaD (b+1) h' mb bm (doM s k f t i ds).1∧zbx mb bm h h':=by
 refine zhe kk.do_ _ _ _ _ _ _ _ _ _ _ _ h _ fun g0 e0 g1 e1=>?_
 have o0:=zab e0
 have n0:=zaa e0
 have o1:=zab e1
 have n1:=zaa e1
 have w0:=zaf e0
 have wx:=zaf e1
 have wop:=(o1.2 _ (by omega)).trans w0
 have oh:=o0.trans o1
 have omh:zbx mb bm h g1:=zbx.of_old oh
 have hlt:=M.lt
 have hlb:=M.lb
 have M1:=M.old oh
 have M1':=M1.mono (b':=b+1) (by omega) hb1
 obtain⟨p,n,c,hc,hbk⟩:=M1.cells
 obtain⟨-,xs,B,hx⟩:=id hbk
 have R' : zam s.nx xs:=M.right.cor hx.symm
 have hn:=R'.2.1
 have hnn:=B.1.1
 have hnx:=M.nx
 have hst:=M.st
 have hbd:=M.bd
 have hbn:0≤s.nx∧s.nx < 1000000000000000:=by omega
 have hxn:h.next≤g0.next:=o0.1
 have hxl:g0.next < g1.next:=by omega
 have hld:ldN g1 mb 0 2=some [.int .u64 s.nx,.slice p n c]:=zj6 hc (by show 0+2≤5; decide)
 have fin:∀{g:AH} {s' : MSt} {l:List Value} {e:Int},zaD (b+1) g mb bm s'→zbx mb bm g1 g→l.length=128→doM s k f t i ds=(s',l,e)→l.length=128∧∃h28,stN g g0.next 0 l=some h28∧∃l29:List Value,ldN h28 g0.next 0 128=some l29∧
  ((Value.tuple #[.agg l29.toArray,.int .i64 e]=.tuple #[.agg (doM s k f t i ds).2.1.toArray,.int .i64 (doM s k f t i ds).2.2])∧zaD (b+1) h28 mb bm (doM s k f t i ds).1∧zbx mb bm h h28):=fun {g s' l e} M' om hl he=>
  zum (Q:=fun v h'=>v=.tuple #[.agg (doM s k f t i ds).2.1.toArray,.int .i64 (doM s k f t i ds).2.2]∧zaD (b+1) h' mb bm (doM s k f t i ds).1∧zbx mb bm h h') hxn ((om.2 _ hxl (by omega) (by omega)).trans wx) (Nat.lt_of_lt_of_le hxl om.1) M' (omh.trans om) hlt hlb hl fun g' M2 om2=>by rw[he]; exact⟨rfl,M2,om2⟩
 have grown:∀{g12:AH} {r:Int×List zaj×Int} {i' : Int} {p' : Option Addr} {n' c' : Nat} {e:Int} {s' : MSt} {b1:Int},zaD b1 g12 mb bm s'→b1≤b+1→zbx mb bm g1 g12→zb2 r.1 r.2.1 i' p' n' g12→zam r.1 r.2.1→(r.1=s.nx∨r.1=s.nx+1)→r.2.2=e→doM s k f t i ds=(zdu s' r.1 r.2.1 r.2.2,zeroS,r.2.2)→
  ∀{y:Nat},g12.get y=some (.cells [.int .u64 i',.slice p' n' c'] 29 false)→
  ∃l20:List Value,zaE Tryz.prog 39 #[]=some (.agg l20.toArray)∧∃i21:Int,∃(p22:Option Addr) (n23 c24:Nat),ldN g12 y 0 2=some ([(.int .u64 i21),(.slice p22 n23 c24)]:List Value)∧
  Wf Tryz.prog K 18 [.pointer (some ⟨mb,0,none⟩),.agg #[.int .u64 i21,.slice p22 n23 c24],.int .i64 e] g12 fun r25 h26=>
   ∃i27:Int,r25=.int .i64 i27∧(l20.length=128∧∃h28,stN h26 g0.next 0 l20=some h28∧∃l29:List Value,ldN h28 g0.next 0 128=some l29∧
    ((Value.tuple #[.agg l29.toArray,.int .i64 i27]=.tuple #[.agg (doM s k f t i ds).2.1.toArray,.int .i64 (doM s k f t i ds).2.2])∧zaD (b+1) h28 mb bm (doM s k f t i ds).1∧zbx mb bm h h28)):=fun {g12 r i' p' n' c' e s' b1} M' hb1' om bk Rr hr he hd y wy=>
  zvf (Q:=fun v h'=>v=.tuple #[.agg (doM s k f t i ds).2.1.toArray,.int .i64 (doM s k f t i ds).2.2]∧zaD (b+1) h' mb bm (doM s k f t i ds).1∧zbx mb bm h h') kk hxn ((om.2 _ hxl (by omega) (by omega)).trans wx) (Nat.lt_of_lt_of_le hxl om.1) M' (omh.trans om) hlt hlb wy bk Rr (by omega) (by omega) hb1' hb1 fun g' M2 om2=>by rw[hd]; exact⟨by rw[he],by rw[he]; exact M2,om2⟩
 refine⟨k,zae wop rfl,fun y0=>?_,fun y0=>⟨fun y1=>?_,fun y1=>⟨fun y2=>?_,fun y2=>⟨fun y3=>?_,fun y3=>⟨fun y4=>?_,fun y4=>⟨fun y5=>?_,fun y5=>⟨fun y6=>?_,fun y6=>⟨fun y7=>?_,fun y7=>⟨fun y8=>?_,fun y8=>⟨fun y9=>?_,fun y9=>?_⟩⟩⟩⟩⟩⟩⟩⟩⟩⟩
 ·refine zag ⟨_,_,_,_,hld,_,zae wop rfl,_,zae wop rfl,(zpT kk.acts.a5.a4.a3.a2.a B R' (by omega) hbn f hf i).mono ?_⟩
  rintro _ g12 ⟨⟨i',p',n',c',rfl,bk⟩,o12⟩
  obtain⟨E1,E2,E3⟩:=zje (nx:=s.nx) hx (spl f) i
  refine⟨_,_,_,_,_,rfl,fun g18 e18=>?_⟩
  obtain⟨g19,k19,n19,o19,v19⟩:=zap e18 (vs:=[.int .u64 i',.slice p' n' c']) rfl
  refine⟨rfl,g19,k19,grown (M1.old (o12.trans o19)) (by omega) (zbx.of_old (o12.trans o19)) ((bk.old o19).corE E1 E2) (zgP M.right hnx.1 (by omega) f i) (zpZ _ _ _ _) E3.symm ?_ (v19 [] (fun c hc=>by cases hc)).1⟩
  unfold doM
  rw[if_pos y0]
 ·refine⟨zeroS,zdY,_,zae wop rfl,_,zae wop rfl,_,_,_,zae wop rfl,(zrO kk M1 hb1 f hf i (S.old oh) fm hd).mono ?_⟩
  rintro _ g12 ⟨rfl,M12,o12⟩
  exact⟨_,rfl,fin M12 o12 za8 (by unfold doM; rw[if_neg y0,if_pos y1])⟩
 ·refine⟨zeroS,zdY,_,zae wop rfl,_,zae wop rfl,(ztv kk M1 f hf i).mono ?_⟩
  rintro _ g12 ⟨rfl,M12,o12⟩
  exact⟨_,rfl,fin (M12.mono (by omega) hb1) o12 za8 (by unfold doM; rw[if_neg y0,if_neg y1,if_pos y2])⟩
 ·refine⟨_,zae wop rfl,_,zae wop rfl,(ztw kk M1 f hf i).mono ?_⟩
  rintro _ g12 ⟨rfl,o12⟩
  have hl:(readM s f i).1.length=128:=by
   unfold readM
   split
   ·exact za8
   ·rename_i hz
    obtain⟨q1,q2⟩:=M.block (o:=spl f) (i:=i) (by simpa using hz)
    have hbl:=((M.map.ok (findM s.rs (spl f) i).1.id).2 i.toNat (by omega)).len
    rw[List.length_take,hbl]
    rfl
  exact⟨_,_,rfl,fin (M1'.old o12) (zbx.of_old o12) hl (by unfold doM; rw[if_neg y0,if_neg y1,if_neg y2,if_pos y3])⟩
 ·refine zag ⟨_,_,_,_,hld,_,zae wop rfl,zag ⟨_,zae hc rfl,(zrn kk.acts.a5.a4.a3.a2.a B R' (by omega) hbn f hf s.st (zlg ⟨by omega,by omega⟩)).mono ?_⟩⟩
  rintro _ g12 ⟨⟨i',p',n',c',rfl,bk⟩,o12⟩
  obtain⟨E1,E2,E3⟩:=zmO (nx:=s.nx) hx (spl f) s.st
  refine⟨_,_,_,_,_,rfl,fun g18 e18=>?_⟩
  obtain⟨g19,k19,n19,o19,v19⟩:=zap e18 (vs:=[.int .u64 i',.slice p' n' c']) rfl
  have w19:=(v19 [] (fun c hc=>by cases hc)).1
  have o119:=o12.trans o19
  have M19:=M1.old o119
  have bk19:=(bk.old o19).corE E1 E2
  have Rr:=zjc M.right hnx.1 (by omega) f s.st
  refine⟨rfl,g19,k19,fun z=>?_,fun z=>?_⟩
  ·obtain⟨g82,k82,nr82,M82⟩:=M19.stampTo hb1
   obtain⟨pp,nn,cc,hc19, -⟩:=M19.cells
   refine zag ⟨_,zae hc19 rfl,fun i79 e79=>?_⟩
   have e79:=zuV e79 (by omega) (by omega)
   subst e79
   have om82:=zbx.near1 (bm:=bm) nr82
   refine zag ⟨g82,k82,grown M82 (Int.le_refl _) ((zbx.of_old o119).trans om82) (bk19.stayM (M19.stay om82)) Rr (zo6 _ _ _ _) E3.symm ?_ ((nr82.2 _ (by have:=o12.1; omega)).trans w19)⟩
   unfold doM
   rw[if_neg y0,if_neg y1,if_neg y2,if_neg y3,if_pos y4,if_pos (by rw[←E3]; exact z)]
  ·refine grown M19 (by omega) (zbx.of_old o119) bk19 Rr (zo6 _ _ _ _) E3.symm ?_ w19
   unfold doM
   rw[if_neg y0,if_neg y1,if_neg y2,if_neg y3,if_pos y4,if_neg (by rw[←E3]; exact z)]
 ·refine zag ⟨_,_,_,_,hld,_,zae wop rfl,_,zae wop rfl,(zrm kk.acts.a5.a4.a3.a2.a B R' (by omega) hbn f hf t hft).mono ?_⟩
  rintro _ g12 ⟨⟨i',p',n',c',rfl,bk⟩,o12⟩
  obtain⟨E1,E2,E3⟩:=zkh (nx:=s.nx) hx (spl f) (spl t)
  refine⟨_,_,_,_,_,rfl,fun g18 e18=>?_⟩
  obtain⟨g19,k19,n19,o19,v19⟩:=zap e18 (vs:=[.int .u64 i',.slice p' n' c']) rfl
  refine⟨rfl,g19,k19,grown (M1.old (o12.trans o19)) (by omega) (zbx.of_old (o12.trans o19)) ((bk.old o19).corE E1 E2) (zhB M.right hnx.1 (by omega) f t) (zrQ _ _ _ _) E3.symm ?_ (v19 [] (fun c hc=>by cases hc)).1⟩
  unfold doM
  rw[if_neg y0,if_neg y1,if_neg y2,if_neg y3,if_neg y4,if_pos y5]
 ·refine zag ⟨_,_,_,_,hld,_,zae wop rfl,(zn5 kk.acts B R' (by omega) f hf).mono ?_⟩
  rintro _ g12 ⟨⟨i',p',n',c',rfl,bk⟩,o12⟩
  obtain⟨E1,E2,E3⟩:=zmQ (nx:=s.nx) hx (spl f)
  refine⟨_,_,_,_,_,rfl,fun g18 e18=>?_⟩
  obtain⟨g19,k19,n19,o19,v19⟩:=zap e18 (vs:=[.int .u64 i',.slice p' n' c']) rfl
  have w19:=(v19 [] (fun c hc=>by cases hc)).1
  have o119:=o12.trans o19
  have M19:=M1.old o119
  have bk19:=(bk.old o19).corE E1 E2
  have hp:=zlr s.nx s.rs (spl f)
  refine⟨rfl,g19,k19,fun z=>?_,fun z=>?_⟩
  ·obtain⟨g52,k52,nr52,M52⟩:=M19.setBookI (b':=b+1) bk19 (zn8 M.right f) (by omega) (by omega) (by omega) hb1 (c':=c')
   refine⟨_,_,_,_,zah w19 rfl,zag ⟨rfl,g52,k52,zeroS,zdY,fin M52 ((zbx.of_old o119).trans (zbx.near1 nr52)) za8 ?_⟩⟩
   unfold doM
   rw[if_neg y0,if_neg y1,if_neg y2,if_neg y3,if_neg y4,if_neg y5,if_pos y6,if_pos (by rw[←E3]; exact z),E3]
  ·refine⟨zeroS,zdY,fin (M1'.old o119) (zbx.of_old o119) za8 ?_⟩
   unfold doM
   rw[if_neg y0,if_neg y1,if_neg y2,if_neg y3,if_neg y4,if_neg y5,if_pos y6,if_neg (by rw[←E3]; exact z),E3]
 ·refine⟨zeroS,zdY,_,zae wop rfl,(zrR kk M1 f hf).mono ?_⟩
  rintro _ g12 ⟨rfl,M12,o12⟩
  exact⟨_,rfl,fin (M12.mono (by omega) hb1) o12 za8 (by unfold doM; rw[if_neg y0,if_neg y1,if_neg y2,if_neg y3,if_neg y4,if_neg y5,if_neg y6,if_pos y7])⟩
 ·refine⟨zeroS,zdY,_,zae wop rfl,(zoc kk M1 f hf).mono ?_⟩
  rintro _ g12 ⟨rfl,M12,o12⟩
  exact⟨_,rfl,fin (M12.mono (by omega) hb1) o12 za8 (by unfold doM; rw[if_neg y0,if_neg y1,if_neg y2,if_neg y3,if_neg y4,if_neg y5,if_neg y6,if_neg y7,if_pos y8])⟩
 ·obtain⟨g82,k82,nr82,M82⟩:=M1.stampTo hb1
  refine zag ⟨_,zae hc rfl,fun i79 e79=>?_⟩
  have e79:=zuV e79 (by omega) (by omega)
  subst e79
  refine zag ⟨g82,k82,zeroS,zdY,fin M82 (zbx.near1 nr82) za8 ?_⟩
  unfold doM
  rw[if_neg y0,if_neg y1,if_neg y2,if_neg y3,if_neg y4,if_neg y5,if_neg y6,if_neg y7,if_neg y8,if_pos y9]
 ·refine⟨zeroS,zdY,fin M1' ⟨Nat.le_refl _,fun _ _ _ _=>rfl⟩ za8 ?_⟩
  unfold doM
  rw[if_neg y0,if_neg y1,if_neg y2,if_neg y3,if_neg y4,if_neg y5,if_neg y6,if_neg y7,if_neg y8,if_neg y9]
end
theorem zty:zam 1 []:=⟨by decide,Nat.zero_le _,fun i r h=>by simp at h,List.nodup_nil,fun r h=>by cases h⟩
theorem zrS (h:AH):zb0 h none 0 []:=⟨⟨rfl,Nat.zero_le _,[],⟨rfl,.inl rfl⟩,fun i hi=>absurd hi (Nat.not_lt_zero _)⟩,fun r hr=>(by cases hr),.inl rfl⟩
def s0M:MSt:=⟨1,[],fun _=>za0,2,0⟩
structure zhl where
 name:ByteArray
 blocks:Int
 dead:Int
 frm:ByteArray
def zen (x:zhl):List Value:=[.string x.name,.int .i64 x.blocks,.int .i64 x.dead,.string x.frm]
def zcC (l:List zhl):List Value:=(l.map zen).flatten
theorem zp0 (l:List zhl):(zcC l).length=l.length * 4:=by
 induction l with
 | nil=>rfl
 | cons x l ih=>
   have:zcC (x :: l)=zen x ++ zcC l:=rfl
   rw[this,List.length_append,ih]
   simp[zen]
   omega
theorem zkm (a b:List zhl):zcC (a ++ b)=zcC a ++ zcC b:=by simp[zcC]
theorem zkn:∀(l:List zhl) (i:Nat) (h:i < l.length),((zcC l).drop (i * 4)).take 4=zen l[i]
 | x :: l,0,h=>rfl
 | x :: l,i+1,h=>by
   have e:zcC (x :: l)=zen x ++ zcC l:=rfl
   rw[e,List.drop_append,List.drop_of_length_le (by simp[zen]; omega),List.nil_append,show (i+1) * 4 - (zen x).length=i * 4 by simp[zen]; omega]
   exact zkn l i (by simpa using h)
def zd0 (rs:List zaj) (r:zaj):zhl:=⟨zcd rs r.id,r.blocks,0,if r.snap=true then noB else zcd rs (wayR rs r.id).2⟩
def zdv (rs:List zaj):List zhl:=rs.map (zd0 rs)
theorem zmV {xs ys:List zaj} (h:xs.map cor=ys.map cor):zdv xs=zdv ys:=by
 unfold zdv
 have:∀r:zaj,zd0 xs r=zd0 ys r:=fun r=>by
  unfold zd0
  rw[zmB h,zmB h,zoU h]
 rw[show zd0 xs=zd0 ys from funext this]
 have hc:∀r:zaj,zd0 ys r=zd0 ys (cor r):=fun r=>rfl
 calc xs.map (zd0 ys)=(xs.map cor).map (zd0 ys):=by rw[List.map_map]; exact List.map_congr_left fun r _=>hc r
  _=(ys.map cor).map (zd0 ys):=by rw[h]
  _=ys.map (zd0 ys):=by rw[List.map_map]; exact List.map_congr_left fun r _=>(hc r).symm
theorem zko {nx:Int} {rs:List zaj} (R:zam nx rs) (id:Int):(zcd rs id).size≤60:=by
 unfold zcd
 have nm:∀{i:Nat} {r:zaj},rs[i]?= some r→r.name.size≤24:=fun h=>(R.names _ (List.mem_of_getElem? h)).2.1
 have h0:noB.size=0:=rfl
 cases plcN rs id with
 | none=>simp only; omega
 | some i=>
   simp only
   cases hr:rs[i]? with
   | none=>simp only; omega
   | some r=>
     simp only
     have:=nm hr
     split
     ·cases plcN rs r.own with
      | none=>simp only; omega
      | some j=>
        simp only
        cases hv:rs[j]? with
        | none=>simp only; omega
        | some v=>
          simp only
          have:=nm hv
          rw[ByteArray.size_append,ByteArray.size_append]
          have:atB.size=1:=rfl
          omega
     ·omega
def zrT (x:zhl):Prop:=x.name.size≤maxLen∧(Lit.int .i64 x.blocks).wf=true∧(Lit.int .i64 x.dead).wf=true∧x.frm.size≤maxLen
theorem wfI {x:Int} (h:0≤x∧x≤1000):(Lit.int .i64 x).wf=true:=by
 simp[Lit.wf,IntKind.min,IntKind.max,IntKind.signed,IntKind.bits]
 omega
theorem ztz {nx:Int} {rs:List zaj} (R:zam nx rs):∀x∈zdv rs,zrT x:=by
 intro x hx
 obtain⟨r,hr,rfl⟩:=List.mem_map.1 hx
 have e:=R.ent hr
 have hm:maxLen=9223372036854775807:=rfl
 have h1:=zko R r.id
 have h2:=zko R (wayR rs r.id).2
 have h3:noB.size=0:=rfl
 refine⟨by show (zcd rs r.id).size≤_; omega,wfI ⟨by have:=e.2.2.2.1.1; show 0≤r.blocks; omega,by have:=e.2.2.2.1.2; show r.blocks≤1000; omega⟩,wfI (x:=0) (by decide),?_⟩
 show (if r.snap=true then noB else zcd rs (wayR rs r.id).2).size≤_
 split <;> omega
def zv9 (x:zhl):List Lit:=[.string x.name.data.toList,.int .i64 x.blocks,.int .i64 x.dead,.string x.frm.data.toList]
theorem zw7 (x:zhl):(Value.agg (zen x).toArray).formed Tryz.prog 98=true:=by
 simp[zen,Value.formed]
theorem zw8 {x:zhl} (k:zrT x):zdx Tryz.prog 98 (.agg (zen x).toArray)=some (zv9 x):=by
 have hf:=zw7 x
 unfold zen at hf ⊢
 rw[zkS hf,zeH Tryz.underlying98 (d:=39) rfl]
 have k1:=zeI (P:=Tryz.prog) Tryz.underlying9 (m:=39) (d:=38) rfl x.name
 have k2:=zcv (P:=Tryz.prog) Tryz.underlying3 (m:=39) (d:=38) rfl x.blocks
 have k3:=zcv (P:=Tryz.prog) Tryz.underlying3 (m:=39) (d:=38) rfl x.dead
 have k4:=zeI (P:=Tryz.prog) Tryz.underlying9 (m:=39) (d:=38) rfl x.frm
 rw[if_pos k.1] at k1
 rw[if_pos k.2.1] at k2
 rw[if_pos k.2.2.1] at k3
 rw[if_pos k.2.2.2] at k4
 generalize Tryz.prog.keyLits 39=KL at k1 k2 k3 k4 ⊢
 simp[k1,k2,k3,k4,zv9]
theorem zjl (l:List Lit):zaN l l=true:=by
 induction l with
 | nil=>rfl
 | cons x l ih=>
   show (zie x x && zaN l l)=true
   rw[ih]
   cases x <;> simp[zie]
theorem zwa:zcZ Tryz.prog 46 98 4 48:=zc0 (by kernel_rfl)
structure zws (K:Xs):Prop where
 list:K 10=none
 full:K 40=none
 same:K 9=none
section
variable {K:Xs} {b:Int} {h:AH} {mb bm:Nat} {s:MSt}
theorem ztA (kk:znd K):Wf Tryz.prog K 5 [] h fun v h'=>∃mb bm,v=.pointer (some ⟨mb,0,none⟩)∧zaD 2 h' mb bm s0M∧Old h h'∧h.next≤mb∧h.next≤bm:=by
 refine zmv kk.new h _ fun g0 e0 g1 e1=>?_
 have o0:=zab e0
 have n0:=zaa e0
 have o1:=zab e1
 have n1:=zaa e1
 exact⟨g0.next,h.next,rfl,{ cells:=⟨none,0,0,zaf e1,rfl,[],zrS _,rfl⟩,map:=(zlA.new e0).near (o1.2 _ (by omega)),lt:=by omega,lb:=by omega,right:=zty,nx:=⟨by decide,by decide⟩,st:=⟨by decide,by decide⟩,md:=⟨by decide,by decide⟩,bd:=by decide },o0.trans o1,by omega,Nat.le_refl _⟩
theorem ztB (kk:znd K) (kl:zws K) (M:zaD b h mb bm s):
 Wf Tryz.prog K 10 [.pointer (some ⟨mb,0,none⟩)] h fun v h'=>∃p n c,v=.slice p n c∧n=s.rs.length∧zaR h' p n 4 (zcC (zdv s.rs))∧Old h h'∧∀a,p=some a→h.next≤a.block:=by
 obtain⟨p,n,c,hc,hbk⟩:=M.cells
 obtain⟨-,xs,B,hx⟩:=id hbk
 have R' : zam s.nx xs:=M.right.cor hx.symm
 have hn:=R'.2.1
 have hnn:=B.1.1
 have hlen:(zdv xs).length=n:=by rw[hnn]; simp[zdv]
 have hxl:xs.length=s.rs.length:=by have:=congrArg List.length hx; simpa using this
 refine zgf kl.list _ h _ (zag ⟨_,_,_,zae hc rfl,fun pp nn cc i k g=>∃t:Nat,i=t∧t≤n∧n - t=k∧t=nn∧zaY h.next g 98 4 pp nn cc (zcC ((zdv xs).take t))∧Old h g,⟨_,0,rfl,Nat.zero_le _,rfl,rfl,zaY.nil _ _ _ _,Old.refl _⟩,?_⟩)
 rintro k6 g7 p9 n10 c11 i12 ⟨t,rfl,ht,rfl,rfl,G,o⟩
 refine⟨fun z=>?_,fun z=>?_⟩
 rotate_left
 ·obtain rfl:t=n:=by omega
  rw[List.take_of_length_le (by omega),zmV hx] at G
  exact⟨_,_,_,rfl,by omega,G.shows,o,fun a ha=>(G.block ha).1⟩
 have htn:t < n:=by omega
 obtain⟨bb,off,rfl,hi',hld,h1,ok⟩:=(B.1.old o).at htn
 have hri:=List.getElem?_eq_getElem hi'
 have hinf:(zdv xs)[t]?= some (zd0 xs xs[t]):=by unfold zdv; rw[List.getElem?_map,hri]; rfl
 generalize xs[t]=r at h1 hri ok hinf
 have hlt:=M.lt
 have push:∀{g21 g26:AH} {x:zhl},Old g7 g21→x=zd0 xs r→g26=g21.alloc (.cells [.string x.name,.int .i64 x.blocks,.int .i64 x.dead,.string x.frm] 98 false)→
  ∃(p27:Option Addr) (n28 c29:Nat) (g30:AH),zan Tryz.prog g26 .append #[46,46] [.slice p9 t c11,.slice (some ⟨g21.next,0,none⟩) 1 1]=some (.slice p27 n28 c29,g30)∧
   ∀i31:Int,i31=IntKind.wrap .i64 ((t:Int)+1)→∃j8,j8 < n - t∧∃u:Nat,i31=u∧u≤n∧n - u=j8∧u=n28∧zaY h.next g30 98 4 p27 n28 c29 (zcC ((zdv xs).take u))∧Old h g30:=fun {g21 g26 x} o21 hxx e26=>by
  obtain⟨p27,c29,g30,ha,hg,hob, -, -⟩:=(G.old o21).push zwa (Nat.le_trans o.1 o21.1) e26 (m:=1) rfl (by have:zaU=140737488355328:=rfl; omega) (by omega)
  refine⟨p27,t+1,c29,g30,ha,fun i31 e31=>?_⟩
  have e31:=zcj e31 (by omega) (by omega)
  refine⟨n - (t+1),by omega,t+1,by omega,by omega,rfl,rfl,?_,zha.toOld (((o.trans o21).toB (Nat.le_refl _)).trans hob)⟩
  have ht1:(zdv xs).take (t+1)=(zdv xs).take t ++ [x]:=by
   rw[List.take_add_one,hinf,hxx]
   rfl
  rw[ht1,zkm]
  exact hg
 refine zag ⟨by omega,z,r.id,by rw[Int.toNat_natCast]; exact h1 0 _ rfl,(zoR kk.named.name kl.full kk.acts.a5.a4.a3.a2.a.fplace (B.1.old o) R'.names r.id).mono ?_⟩
 rintro _ g17 ⟨rfl,o17⟩
 have T17:=(B.1.old (o.trans o17)).at' htn
 obtain⟨hi17,hld17,h17,ok17⟩:=T17
 have hr17:xs[t]=r:=by rw[List.getElem?_eq_getElem hi'] at hri; exact Option.some.inj hri
 rw[hr17] at h17
 rw[Int.toNat_natCast]
 refine⟨_,rfl,r.blocks,h17 6 _ rfl,fun g20 e20=>?_⟩
 obtain⟨g21,k21,n21,o21,v21⟩:=zap e20 (vs:=[.string (zcd xs r.id),.int .i64 r.blocks,.int .i64 0,.string (ByteArray.mk #[])]) rfl
 have w21:=(v21 [] (fun c hc=>by cases hc)).1
 have T21:=((B.1.old (o.trans (o17.trans o21))).at' htn).2.2.1
 rw[hr17] at T21
 refine⟨rfl,g21,k21,h1 6 _ rfl,h17 6 _ rfl,?_⟩
 cases hs:r.snap with
 | true=>
   refine .inl ⟨T21 2 _ (by simp[setC,hs]),_,_,_,_,zah w21 rfl,fun g26 e26=>?_⟩
   exact push (x:=⟨zcd xs r.id,r.blocks,0,ByteArray.mk #[]⟩) (o17.trans o21) (by unfold zd0; rw[if_pos hs]; rfl) e26
 | false=>
   refine .inr ⟨T21 2 _ (by simp[setC,hs]),r.id,T21 0 _ rfl,(zkc kk.acts.origin kk.acts.a5.a4.a3.way kk.acts.a5.a4.a3.a2.a.fplace (B.1.old (o.trans (o17.trans o21))) r.id).mono ?_⟩
   rintro _ g34 ⟨rfl,o34⟩
   refine⟨_,rfl,(zoR kk.named.name kl.full kk.acts.a5.a4.a3.a2.a.fplace (B.1.old (o.trans (o17.trans (o21.trans o34)))) R'.names _).mono ?_⟩
   rintro _ g37 ⟨rfl,o37⟩
   have o237:=o34.trans o37
   have w37:=(o237.2 _ (by omega)).trans w21
   have s39:=zak g17.next g37 (.cells [.string (zcd xs r.id),.int .i64 r.blocks,.int .i64 0,.string (zcd xs (wayR xs r.id).2)] 98 false)
   have c39:=zad g17.next g37 (.cells [.string (zcd xs r.id),.int .i64 r.blocks,.int .i64 0,.string (zcd xs (wayR xs r.id).2)] 98 false)
   refine⟨_,rfl,_,zbi w37 (by show 3 < 4; decide),_,_,_,_,zah c39 rfl,fun g44 e44=>?_⟩
   exact push (x:=⟨zcd xs r.id,r.blocks,0,zcd xs (wayR xs r.id).2⟩) (zao (o17.trans (o21.trans o237)) s39 o17.1) (by unfold zd0; rw[if_neg (by rw[hs]; decide)]) e44
theorem zmW (kl:zws K) {pa pb:Option Addr} {n m ca cb:Nat} {l:List zhl} (Sa:zaR h pa n 4 (zcC l)) (Sb:zaR h pb m 4 (zcC l)) (hl:∀x∈l,zrT x) (hn:n≤1000000):
 Wf Tryz.prog K 9 [.slice pa n ca,.slice pb m cb] h fun v h'=>v=.bool true∧h=h':=by
 have la:=Sa.1
 have lb:=Sb.1
 rw[zp0] at la lb
 obtain rfl:n=m:=by omega
 refine zdL kl.same _ _ _ _ _ _ h _ ⟨fun _=>⟨fun i k g=>∃t:Nat,i=t∧t≤n∧n - t=k∧h=g,⟨_,0,rfl,Nat.zero_le _,rfl,rfl⟩,?_⟩,fun z=>absurd rfl z⟩
 rintro k g i ⟨t,rfl,ht,rfl,rfl⟩
 refine⟨fun z=>?_,fun z=>⟨rfl,rfl⟩⟩
 have htn:t < n:=by omega
 have htl:t < l.length:=by omega
 obtain⟨b1,o1,rfl,d1, -⟩:=Sa.getN htn
 obtain⟨b2,o2,rfl,d2, -⟩:=Sb.getN htn
 rw[zkn l t htl] at d1 d2
 have hk:=zw8 (hl _ (List.getElem_mem htl))
 refine zag ⟨by omega,z,_,_,_,_,by rw[Int.toNat_natCast]; exact d1,zag ⟨by omega,z,_,_,_,_,by rw[Int.toNat_natCast]; exact d2,_,_,hk,hk,fun _ i19 e19=>?_,fun y=>?_⟩⟩
 ·have e19:=zcj e19 (by omega) (by omega)
  exact⟨n - (t+1),by omega,t+1,by omega,by omega,rfl,rfl⟩
 ·rw[zjl] at y
  cases y
end
structure zxD (K:Xs):Prop where
section
variable {K:Xs} {b:Int} {h:AH} {mb bm:Nat} {s:MSt}
end
end Go.Am
