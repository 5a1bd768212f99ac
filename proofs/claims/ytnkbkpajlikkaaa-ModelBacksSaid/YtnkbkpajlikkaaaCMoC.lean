/-
  A MODEL: it goes back; a name goes.
-/
import Derived.Test.YtnkbkpajlikkaaaCMoB
import Derived.Test.YtnkbkpajlikkaaaVClone
set_option linter.unusedVariables false
set_option linter.unusedSimpArgs false
set_option maxRecDepth 100000
namespace Go.Am
open Go.Proofs
theorem createF_nx (nx:Int) (rs:List SetR) (o:Option (ByteArray×ByteArray)) (k:Int):(createF nx rs o k).1=nx∨(createF nx rs o k).1=nx+1:=by
 unfold createF
 repeat' split
 all_goals first | exact .inl rfl | exact .inr rfl
theorem snapA_nx (nx:Int) (rs:List SetR) (o:Option (ByteArray×ByteArray)) (k:Int):(snapA nx rs o k).1=nx∨(snapA nx rs o k).1=nx+1:=by
 unfold snapA
 repeat' split
 all_goals first | exact .inl rfl | exact .inr rfl
theorem cloneA_nx (nx:Int) (rs:List SetR) (o o2:Option (ByteArray×ByteArray)):(cloneA nx rs o o2).1=nx∨(cloneA nx rs o o2).1=nx+1:=by
 unfold cloneA
 repeat' split
 all_goals first | exact .inl rfl | exact .inr rfl
theorem promA_nx (nx:Int) (rs:List SetR) (o:Option (ByteArray×ByteArray)):(promA nx rs o).1=nx:=by
 unfold promA
 repeat' split
 all_goals rfl
theorem backA_nx (nx:Int) (rs:List SetR) (o:Option (ByteArray×ByteArray)):(backA nx rs o).1=nx:=by
 unfold backA
 repeat' split
 all_goals rfl
theorem dropVolA_nx (nx:Int) (rs:List SetR) (o:Option (ByteArray×ByteArray)):(dropVolA nx rs o).1=nx:=by
 unfold dropVolA
 repeat' split
 all_goals rfl
theorem dropSnapA_nx (nx:Int) (rs:List SetR) (lo:Option Nat) (ok:Bool):(dropSnapA nx rs lo ok).1=nx:=by
 unfold dropSnapA
 repeat' split
 all_goals rfl
theorem put2 {g g1 g2:AH} {i:Int} {p' : Option Addr} {n' c' : Nat} {s:SetR} (e1:g1=g.alloc (.cells [.int .u64 0,.slice none 0 0] 49 false)) (e2:g2=g1.alloc (.cells (setC zeroR) 59 false)):
 ∃g3 g4,stN g2 g.next 0 [.int .u64 i,.slice p' n' c']=some g3∧stN g3 g1.next 0 (setC s)=some g4∧Old g g4∧g.next < g4.next∧g1.next < g4.next∧g4.get g.next=some (.cells [.int .u64 i,.slice p' n' c'] 49 false)∧g4.get g1.next=some (.cells (setC s) 59 false):=by
 have o1:=old_of_alloc e1
 have o2:=old_of_alloc e2
 have n1:=next_of_alloc e1
 have n2:=next_of_alloc e2
 have w1:=(o2.2 g.next (by omega)).trans (get_of_alloc e1)
 have s1:=near_set g.next g2 (.cells [.int .u64 i,.slice p' n' c'] 49 false)
 have w2:=(s1.2 g1.next (by omega)).trans (get_of_alloc e2)
 have s2:=near_set g1.next (g2.set g.next (.cells [.int .u64 i,.slice p' n' c'] 49 false)) (.cells (setC s) 59 false)
 have hx:((g2.set g.next (.cells [.int .u64 i,.slice p' n' c'] 49 false)).set g1.next (.cells (setC s) 59 false)).next=g2.next:=rfl
 exact⟨_,_,stN_all w1 rfl,stN_all w2 rfl,near_old (near_old (o1.trans o2) s1 (Nat.le_refl _)) s2 (by omega),by rw[hx]; omega,by rw[hx]; omega,(s2.2 _ (by omega)).trans (get_set_self _ _ _),get_set_self _ _ _⟩
section
variable {K:Xs} {b:Int} {h:AH} {mb bm:Nat} {s:MSt}
theorem ModOk.setBookI (M:ModOk b h mb bm s) {b' nx' i:Int} {rs' : List SetR} {p' : Option Addr} {n' c' : Nat} (B:BookR nx' rs' i p' n' h) (R' : RightP nx' rs') (h1:1≤nx') (h2:nx'≤b') (hb:b≤b') (hb2:b'≤1000000):
 ∃h',stN h mb 0 [.int .u64 i,.slice p' n' c']=some h'∧Near mb h h'∧ModOk b' h' mb bm (bookM s nx' rs'):=by
 have hi:=B.1
 subst hi
 exact M.setBook B R' h1 h2 hb hb2
theorem backSpecM (kk:KMod K) (M:ModOk b h mb bm s) (f:ByteArray) (hf:f.size≤9223372036854775806):
 Wf Try.prog K 26 [.pointer (some ⟨mb,0,none⟩),.string f] h fun v h'=>v=.int .i64 (backM s f).2∧ModOk b h' mb bm (backM s f).1∧OldM mb bm h h':=by
 obtain⟨p,n,c,hc,hbk⟩:=M.cells
 obtain⟨-,xs,B,hx⟩:=id hbk
 have R' : RightP s.nx xs:=M.right.cor hx.symm
 have hn:=R'.2.1
 have hnn:=B.1.1
 have hld:∀{g:AH},g.get mb=some (.cells (modC s.nx p n c (some bm) s.st s.md) 52 false)→ldN g mb 0 2=some [.int .u64 s.nx,.slice p n c]:=fun hg=>ldN_of hg (by show 0+2≤5; decide)
 refine vc_model_Model_back kk.back _ _ h _ (derefP_at ⟨_,_,_,_,hld hc,(backSpec kk.acts.a5.a4.a3.a2 B R' (by omega) f hf).mono ?_⟩)
 rintro _ g7 ⟨⟨i,p',n',c',r,rfl,bk,ok,hcr⟩,o7⟩
 obtain⟨E1,E2,E3,E4⟩:=backA_cor (nx:=s.nx) hx (spl f)
 refine⟨_,_,_,_,_,_,_,_,_,_,_,_,_,_,_,_,_,_,rfl,fun g26 e26 g27 e27=>?_⟩
 obtain⟨g28,g29,k28,k29,o29,l7,l26,wb,wr⟩:=put2 (i:=i) (p':=p') (n':=n') (c':=c') (s:=r) e26 e27
 have oh:=o7.trans o29
 have M29:=M.old oh
 refine⟨rfl,g28,k28,rfl,g29,k29,fun y=>?_,fun y=>?_⟩
 ·have hcc:=cor_eq (hcr.trans E3)
  have hid:=hcc.1
  obtain⟨g39,k39,nr39,M39⟩:=M29.copyTo (id:=r.id) (src:=r.prev) ok.id
  have bk29:=(bk.old o29).corE E1 E2
  obtain⟨g46,k46,nr46,M46⟩:=M39.setBookI (b':=b) (bk29.stayM (M29.stay (OldM.near2 nr39))) (backA_right M.right f) (by rw[backA_nx]; exact M.nx.1) (by rw[backA_nx]; exact M.nx.2) (Int.le_refl _) M.bd (c':=c')
  refine derefP_at ⟨_,ld1_at ((oh.2 _ M.lt).trans hc) rfl,_,ld1_at wr rfl,derefP_at ⟨_,ld1_at ((oh.2 _ M.lt).trans hc) rfl,_,ld1_at wr rfl,_,M29.map.lookup ok.prev,g39,k39,_,_,_,_,ldN_all ((nr39.2 _ (by have:=M.lb; have:=o7.1; omega)).trans wb) rfl,derefP_at ⟨rfl,g46,k46,?_⟩⟩⟩
  have hM:backM s f=(bookM (copyM s r.id r.prev) (backA s.nx s.rs (spl f)).1 (backA s.nx s.rs (spl f)).2.1,0):=by
   unfold backM
   rw[if_pos (by rw[←E4]; exact y),←hid,←hcc.2.2.2.2.1]
  rw[hM]
  exact⟨rfl,M46,(OldM.of_old oh).trans ((OldM.near2 nr39).trans (OldM.near1 nr46))⟩
 ·have hM:backM s f=(s,(backA s.nx xs (spl f)).2.2.2):=by
   unfold backM
   rw[if_neg (by rw[←E4]; exact y),E4]
  rw[hM]
  exact⟨rfl,M29,OldM.of_old oh⟩
theorem destroySpec (kk:KMod K) (M:ModOk b h mb bm s) (f:ByteArray) (hf:f.size≤9223372036854775806):
 Wf Try.prog K 27 [.pointer (some ⟨mb,0,none⟩),.string f] h fun v h'=>v=.int .i64 (destroyM s f).2∧ModOk b h' mb bm (destroyM s f).1∧OldM mb bm h h':=by
 obtain⟨p,n,c,hc,hbk⟩:=M.cells
 obtain⟨-,xs,B,hx⟩:=id hbk
 have R' : RightP s.nx xs:=M.right.cor hx.symm
 have hn:=R'.2.1
 have hnn:=B.1.1
 have hld:∀{g:AH},g.get mb=some (.cells (modC s.nx p n c (some bm) s.st s.md) 52 false)→ldN g mb 0 2=some [.int .u64 s.nx,.slice p n c]:=fun hg=>ldN_of hg (by show 0+2≤5; decide)
 refine vc_model_Model_destroy kk.destroy _ _ h _ ((splitSpec kk.named.name f hf).mono ?_)
 rintro _ g1 ⟨⟨a,b',hsp,rfl⟩ | ⟨hno,rfl⟩,o1⟩
 rotate_left
 ·have hM:destroyM s f=(s,141):=by
   unfold destroyM
   rw[spl_none hno]
   rfl
  rw[hM]
  exact⟨_,_,_,rfl,fun y=>absurd y (by decide),fun _=>⟨rfl,M.old o1,OldM.of_old o1⟩⟩
 have hs:=spl_some hsp
 refine⟨_,_,_,rfl,fun _=>derefP_at ⟨_,_,_,ld1_at ((o1.2 _ M.lt).trans hc) rfl,(namedSpec kk.named (B.1.old o1) R'.calOk (ids_wf B.1) f hf).mono ?_⟩,fun y=>absurd rfl y⟩
 rintro v11 g11 ⟨q,o11⟩
 obtain⟨r,e,rfl,hcr,hidw⟩:∃r e,v11=Value.tuple #[.agg (setC r).toArray,.int .i64 e]∧cor r=cor (namedR s.rs (spl f))∧(Lit.int .u64 r.id).wf=true:=by
  have hnc:=namedR_cor hx (spl f)
  rcases q with ⟨a2,b2,hsp2,⟨j,r,p',c',hl,hr,rfl,ok⟩ | ⟨hl,rfl⟩⟩ | ⟨hno,rfl⟩
  ·refine⟨_,_,rfl,?_,ok.id⟩
   rw[←hnc]
   unfold namedR
   rw[spl_some hsp2,show lookOf xs (some (a2,b2))=some j from hl]
   simp only
   rw[hr]
   rfl
  ·refine⟨_,_,rfl,?_,zeroR_wf.1⟩
   rw[←hnc]
   unfold namedR
   rw[spl_some hsp2,show lookOf xs (some (a2,b2))=none from hl]
  ·exact absurd hsp (hno _ _)
 refine⟨_,_,_,_,_,_,_,_,_,_,_,_,_,_,rfl,fun g26 e26=>?_⟩
 obtain⟨g27,k27,n27,o27,v27⟩:=put_new e26 (vs:=setC r) rfl
 have wr:=(v27 [] (fun c hc=>by cases hc)).1
 have o1b:=o1.trans (o11.trans o27)
 refine⟨rfl,g27,k27,fun g28 e28=>?_⟩
 have o28:=old_of_alloc e28
 have n28:=next_of_alloc e28
 have wb:=get_of_alloc e28
 have oh:=o1b.trans o28
 have wr28:=(o28.2 _ (by omega)).trans wr
 have M28:=M.old oh
 have hid:r.id=(namedR s.rs (spl f)).id:=(cor_eq hcr).1
 have hlt:=M.lt
 have hlb:=M.lb
 have hh1:=o1.1
 have hh11:=o11.1
 have tail:∀{g36:AH} {nx' : Int} {rs' : List SetR} {i:Int} {p' : Option Addr} {n' c' : Nat},Old g28 g36→BookR nx' rs' i p' n' g36→nx'= s.nx→RightP nx' rs'→
  ∃g55,stN g36 g27.next 0 [.int .u64 i,.slice p' n' c']=some g55∧ld1 g55 mb (0+2)=some (.map (some bm))∧ld1 g55 g11.next 0=some (.int .u64 r.id)∧ModOk b g55 mb bm s∧OldM mb bm h g55∧
   ∃g60,aBuiltin Try.prog g55 .delete #[50,46] [.map (some bm),.int .u64 r.id]=some (undef,g60)∧ldN g60 g27.next 0 2=some [.int .u64 i,.slice p' n' c']∧
   ∃g67,stN g60 mb 0 [.int .u64 i,.slice p' n' c']=some g67∧ModOk b g67 mb bm (bookM (delM s r.id) nx' rs')∧OldM mb bm h g67:=by
  intro g36 nx' rs' i p' n' c' o36 bk hnx Rr
  have wb36:=(o36.2 _ (by omega)).trans wb
  have s55:=near_set g27.next g36 (.cells [.int .u64 i,.slice p' n' c'] 49 false)
  have c55:=get_set_self g27.next g36 (.cells [.int .u64 i,.slice p' n' c'] 49 false)
  have k55:stN g36 g27.next 0 [.int .u64 i,.slice p' n' c']=some _:=stN_all wb36 rfl
  generalize g36.set g27.next (.cells [.int .u64 i,.slice p' n' c'] 49 false)=g55 at s55 c55 k55
  have o55:Old g27 g55:=near_old (o28.trans o36) s55 (Nat.le_refl _)
  have oh55:=o1b.trans o55
  have M55:=M.old oh55
  have hbk0:NoBook (.cells [.int .u64 0,.slice none 0 0] 49 false):=fun cs t ro e=>by
   cases e
   refine⟨by simp,fun off q hl=>?_,fun off r hl=>?_⟩
   ·have hl' : off+3≤2:=hl
    omega
   ·have hl' : off+11≤2:=hl
    omega
  have st55:StayM g36 g55:=⟨Nat.le_of_eq s55.1.symm,fun y hy=>by
   by_cases hy2:y=g27.next
   ·subst hy2
    exact .inr ⟨_,wb36,hbk0⟩
   ·exact .inl (s55.2 y hy2)⟩
  obtain⟨g60,k60,nr60,M60⟩:=M55.delTo hidw
  have bk60:=(bk.stayM st55).stayM (M55.stay (OldM.near2 nr60))
  obtain⟨g67,k67,nr67,M67⟩:=M60.setBookI (b':=b) bk60 Rr (by rw[hnx]; exact M.nx.1) (by rw[hnx]; exact M.nx.2) (Int.le_refl _) M.bd (c':=c')
  exact⟨g55,k55,ld1_at ((oh55.2 _ hlt).trans hc) rfl,ld1_at ((o55.2 _ (by omega)).trans wr) rfl,M55,OldM.of_old oh55,g60,k60,ldN_all ((nr60.2 _ (by omega)).trans c55) rfl,g67,k67,M67,(OldM.of_old oh55).trans ((OldM.near2 nr60).trans (OldM.near1 nr67))⟩
 refine⟨fun y=>?_,fun y=>?_⟩
 ·have y' : b'= noB:=y
  refine derefP_at ⟨_,_,_,_,hld ((oh.2 _ hlt).trans hc),(dropVolSpec kk.acts.a5.a4.a3 (B.old oh) R' (by omega) f hf).mono ?_⟩
  rintro _ g36 ⟨⟨i,p',n',c',r2,rfl,bk,ok2,hcr2⟩,o36⟩
  obtain⟨E1,E2,E3,E4⟩:=dropVolA_cor (nx:=s.nx) hx (spl f)
  obtain⟨g55,k55,l55,li55,M55,om55,g60,k60,l60,g67,k67,M67,om67⟩:=tail (c':=c') o36 (bk.corE E1 E2) (dropVolA_nx _ _ _) (dropVolA_right M.right f)
  have hD:dropA s.nx s.rs (spl f)=((dropVolA s.nx s.rs (spl f)).1,(dropVolA s.nx s.rs (spl f)).2.1,(dropVolA s.nx s.rs (spl f)).2.2.2):=by
   rw[hs]
   unfold dropA
   simp only
   rw[if_pos y']
  refine⟨_,_,_,_,_,_,_,_,_,_,_,_,_,_,_,_,_,_,rfl,rfl,g55,k55,fun z=>?_,fun z=>?_⟩
  ·refine derefP_at ⟨_,l55,_,li55,g60,k60,_,_,_,_,l60,derefP_at ⟨rfl,g67,k67,?_⟩⟩
   have hM:destroyM s f=(bookM (delM s r.id) (dropVolA s.nx s.rs (spl f)).1 (dropVolA s.nx s.rs (spl f)).2.1,0):=by
    unfold destroyM
    rw[hD,if_pos (by rw[←E4]; exact z),hid]
   rw[hM]
   exact⟨rfl,M67,om67⟩
  ·have hM:destroyM s f=(s,(dropVolA s.nx xs (spl f)).2.2.2):=by
    unfold destroyM
    rw[hD,if_neg (by rw[←E4]; exact z),E4]
   rw[hM]
   exact⟨rfl,M55,om55⟩
 ·have y' : ¬b'= noB:=y
  refine derefP_at ⟨_,_,_,_,hld ((oh.2 _ hlt).trans hc),(dropSnapSpec kk.acts.a5.a4 (B.old oh) R' (by omega) f hf rfl).mono ?_⟩
  rintro _ g36 ⟨⟨i,p',n',c',pl,nl,cl,rfl,bk,dl⟩,o36⟩
  obtain⟨E1,E2,E4⟩:=dropSnapA_cor (nx:=s.nx) hx (lookOf xs (spl f)) (snapOf (spl f)).isSome
  rw[lookOf_cor hx] at bk dl E1 E2 E4
  rw[lookOf_cor hx]
  obtain⟨g55,k55,l55,li55,M55,om55,g60,k60,l60,g67,k67,M67,om67⟩:=tail (c':=c') o36 (bk.corE E1 E2) (dropSnapA_nx _ _ _ _) (dropSnapA_right M.right f)
  have hD:dropA s.nx s.rs (spl f)=((dropSnapA s.nx s.rs (lookOf s.rs (spl f)) (snapOf (spl f)).isSome).1,(dropSnapA s.nx s.rs (lookOf s.rs (spl f)) (snapOf (spl f)).isSome).2.1,(dropSnapA s.nx s.rs (lookOf s.rs (spl f)) (snapOf (spl f)).isSome).2.2.2):=by
   rw[hs]
   unfold dropA
   simp only
   rw[if_neg y']
  have E4':=congrArg Prod.snd E4
  refine⟨_,_,_,_,_,_,_,_,rfl,rfl,g55,k55,fun z=>?_,fun z=>?_⟩
  ·refine derefP_at ⟨_,l55,_,li55,g60,k60,_,_,_,_,l60,derefP_at ⟨rfl,g67,k67,?_⟩⟩
   have hM:destroyM s f=(bookM (delM s r.id) (dropSnapA s.nx s.rs (lookOf s.rs (spl f)) (snapOf (spl f)).isSome).1 (dropSnapA s.nx s.rs (lookOf s.rs (spl f)) (snapOf (spl f)).isSome).2.1,0):=by
    unfold destroyM
    rw[hD,if_pos (by rw[←E4']; exact z),hid]
   rw[hM]
   exact⟨rfl,M67,om67⟩
  ·have hM:destroyM s f=(s,(dropSnapA s.nx xs (lookOf s.rs (spl f)) (snapOf (spl f)).isSome).2.2.2):=by
    unfold destroyM
    rw[hD,if_neg (by rw[←E4']; exact z),E4']
   rw[hM]
   exact⟨rfl,M55,om55⟩
end
end Go.Am
/-
 A MODEL:whatever is asked.
-/
set_option linter.unusedVariables false
set_option linter.unusedSimpArgs false
set_option maxRecDepth 100000
namespace Go.Am
open Go.Proofs
def stampM (s:MSt):MSt:={ s with st:=s.st+1 }
noncomputable def doM (s:MSt) (k:Int) (f t:ByteArray) (i:Int) (ds:List Nat):MSt×List Value×Int:=
 if k=0 then (growM s (createF s.nx s.rs (spl f) i).1 (createF s.nx s.rs (spl f) i).2.1 (createF s.nx s.rs (spl f) i).2.2,zeroS,(createF s.nx s.rs (spl f) i).2.2)
 else if k=1 then ((writeM s f i ds).1,zeroS,(writeM s f i ds).2)
 else if k=2 then ((trimM s f i).1,zeroS,(trimM s f i).2)
 else if k=3 then (s,(readM s f i).1,(readM s f i).2)
 else if k=4 then (growM (if (snapA s.nx s.rs (spl f) s.st).2.2=0 then stampM s else s) (snapA s.nx s.rs (spl f) s.st).1 (snapA s.nx s.rs (spl f) s.st).2.1 (snapA s.nx s.rs (spl f) s.st).2.2,zeroS,(snapA s.nx s.rs (spl f) s.st).2.2)
 else if k=5 then (growM s (cloneA s.nx s.rs (spl f) (spl t)).1 (cloneA s.nx s.rs (spl f) (spl t)).2.1 (cloneA s.nx s.rs (spl f) (spl t)).2.2,zeroS,(cloneA s.nx s.rs (spl f) (spl t)).2.2)
 else if k=6 then (if (promA s.nx s.rs (spl f)).2.2=0 then bookM s (promA s.nx s.rs (spl f)).1 (promA s.nx s.rs (spl f)).2.1 else s,zeroS,(promA s.nx s.rs (spl f)).2.2)
 else if k=7 then ((backM s f).1,zeroS,(backM s f).2)
 else if k=8 then ((destroyM s f).1,zeroS,(destroyM s f).2)
 else if k=9 then (stampM s,zeroS,0)
 else (s,zeroS,0)
section
variable {K:Xs} {b b' : Int} {h:AH} {mb bm:Nat} {s:MSt}
theorem ModOk.stampTo (M:ModOk b h mb bm s) (hb1:b+1≤1000000):∃h',st1 h mb (0+3) (.int .u64 (s.st+1))=some h'∧Near mb h h'∧ModOk (b+1) h' mb bm (stampM s):=by
 obtain⟨p,n,c,hc,hbk⟩:=M.cells
 have nr:=near_set mb h (.cells (modC s.nx p n c (some bm) (s.st+1) s.md) 52 false)
 have h1:=M.nx
 have h2:=M.st
 have h3:=M.md
 exact⟨_,st1_of hc (by show 0+3 < 5; decide),nr,{ cells:=⟨p,n,c,get_set_self _ _ _,hbk.stayM (M.stay (OldM.near1 nr))⟩,map:=M.map.near (nr.2 _ (Ne.symm M.ne)),lt:=M.lt,lb:=M.lb,right:=M.right,nx:=⟨h1.1,by show s.nx≤b+1; omega⟩,st:=⟨by show 1≤s.st+1; omega,by show s.st+1≤b+1; omega⟩,md:=⟨h3.1,by show s.md≤b+1; omega⟩,bd:=hb1 }⟩
theorem zeroS_len:zeroS.length=128:=by simp[zeroS]
theorem doTail {g:AH} {x:Nat} {l:List Value} {e:Int} {Q:Value→AH→Prop} (hx:h.next≤x) (w:g.get x=some (.cells (List.replicate 128 (.int .u8 0)) 34 false)) (hxl:x < g.next) (M' : ModOk b' g mb bm s) (om:OldM mb bm h g) (hmb:mb < h.next) (hbm:bm < h.next) (hl:l.length=128)
 (HQ:∀g',ModOk b' g' mb bm s→OldM mb bm h g'→Q (.tuple #[.agg l.toArray,.int .i64 e]) g'):l.length=128∧∃h28,stN g x 0 l=some h28∧∃l29:List Value,ldN h28 x 0 128=some l29∧Q (.tuple #[.agg l29.toArray,.int .i64 e]) h28:=by
 have s1:=near_set x g (.cells l 34 false)
 obtain⟨p,n,c,hc,hbk⟩:=M'.cells
 have st:StayM g (g.set x (.cells l 34 false)):=⟨Nat.le_of_eq s1.1.symm,fun y hy=>by
  by_cases hy2:y=x
  ·subst hy2
   exact .inr ⟨_,w,bytes_noBook (fun v hv=>⟨0,List.eq_of_mem_replicate hv⟩) (by simp)⟩
  ·exact .inl (s1.2 y hy2)⟩
 refine⟨hl,_,stN_all w (by simp[hl]),l,ldN_all (get_set_self _ _ _) hl,HQ _ ?_ ⟨om.1,fun y hy q1 q2=>(s1.2 y (by omega)).trans (om.2 y hy q1 q2)⟩⟩
 exact { M' with cells:=⟨p,n,c,(s1.2 _ (by omega)).trans hc,hbk.stayM st⟩,map:=M'.map.near (s1.2 _ (by omega)),lt:=M'.lt,lb:=M'.lb }
theorem growEnd (kk:KMod K) {g:AH} {x y:Nat} {nx' i:Int} {rs' : List SetR} {p' : Option Addr} {n' c' : Nat} {e:Int} {Q:Value→AH→Prop} (hx:h.next≤x) (w:g.get x=some (.cells (List.replicate 128 (.int .u8 0)) 34 false)) (hxl:x < g.next) (M' : ModOk b g mb bm s) (om:OldM mb bm h g) (hmb:mb < h.next) (hbm:bm < h.next)
 (wy:g.get y=some (.cells [.int .u64 i,.slice p' n' c'] 49 false)) (B:BookR nx' rs' i p' n' g) (R' : RightP nx' rs') (h1:1≤nx') (h2:nx'≤b') (hb:b≤b') (hb2:b'≤1000000)
 (HQ:∀g',ModOk b' g' mb bm (growM s nx' rs' e)→OldM mb bm h g'→Q (.tuple #[.agg zeroS.toArray,.int .i64 e]) g'):
 ∃l20:List Value,aBuild Try.prog 34 #[]=some (.agg l20.toArray)∧∃i21:Int,∃(p22:Option Addr) (n23 c24:Nat),ldN g y 0 2=some ([(.int .u64 i21),(.slice p22 n23 c24)]:List Value)∧
  Wf Try.prog K 19 [.pointer (some ⟨mb,0,none⟩),.agg #[.int .u64 i21,.slice p22 n23 c24],.int .i64 e] g fun r25 h26=>
   ∃i27:Int,r25=.int .i64 i27∧(l20.length=128∧∃h28,stN h26 x 0 l20=some h28∧∃l29:List Value,ldN h28 x 0 128=some l29∧Q (.tuple #[.agg l29.toArray,.int .i64 i27]) h28):=by
 have hi:=B.1
 subst hi
 refine⟨zeroS,buildS,_,_,_,_,ldN_all wy rfl,(growSpec kk M' B R' h1 h2 hb hb2 e).mono ?_⟩
 rintro _ g26 ⟨rfl,M26,o26⟩
 exact⟨_,rfl,doTail hx ((o26.2 _ hxl (by omega) (by omega)).trans w) (Nat.lt_of_lt_of_le hxl o26.1) M26 (om.trans o26) hmb hbm zeroS_len HQ⟩
theorem doSpecM (kk:KMod K) (M:ModOk b h mb bm s) (hb1:b+1≤1000000) (k:Int) (f t:ByteArray) (hf:f.size≤9223372036854775806) (hft:t.size≤9223372036854775806) (i:Int) {pd pk:Option Addr} {nd cd nk ck:Nat} {ds:List Nat} (S:Shows h pd nd 1 (natC .u8 ds)) (fm:pd=none∨∃b off,pd=some ⟨b,off,none⟩) (hd:∀x∈ds,x < 256):
 Wf Try.prog K 11 [.pointer (some ⟨mb,0,none⟩),.agg #[.int .i64 k,.string f,.string t,.int .i64 i,.slice pd nd cd,.slice pk nk ck]] h fun v h'=>
  v=.tuple #[.agg (doM s k f t i ds).2.1.toArray,.int .i64 (doM s k f t i ds).2.2]∧ModOk (b+1) h' mb bm (doM s k f t i ds).1∧OldM mb bm h h':=by
 refine vc_model_Model_Do kk.do_ _ _ _ _ _ _ _ _ _ _ _ h _ fun g0 e0 g1 e1=>?_
 have o0:=old_of_alloc e0
 have n0:=next_of_alloc e0
 have o1:=old_of_alloc e1
 have n1:=next_of_alloc e1
 have w0:=get_of_alloc e0
 have wx:=get_of_alloc e1
 have wop:=(o1.2 _ (by omega)).trans w0
 have oh:=o0.trans o1
 have omh:OldM mb bm h g1:=OldM.of_old oh
 have hlt:=M.lt
 have hlb:=M.lb
 have M1:=M.old oh
 have M1':=M1.mono (b':=b+1) (by omega) hb1
 obtain⟨p,n,c,hc,hbk⟩:=M1.cells
 obtain⟨-,xs,B,hx⟩:=id hbk
 have R' : RightP s.nx xs:=M.right.cor hx.symm
 have hn:=R'.2.1
 have hnn:=B.1.1
 have hnx:=M.nx
 have hst:=M.st
 have hbd:=M.bd
 have hbn:0≤s.nx∧s.nx < 1000000000000000:=by omega
 have hxn:h.next≤g0.next:=o0.1
 have hxl:g0.next < g1.next:=by omega
 have hld:ldN g1 mb 0 2=some [.int .u64 s.nx,.slice p n c]:=ldN_of hc (by show 0+2≤5; decide)
 have fin:∀{g:AH} {s' : MSt} {l:List Value} {e:Int},ModOk (b+1) g mb bm s'→OldM mb bm g1 g→l.length=128→doM s k f t i ds=(s',l,e)→l.length=128∧∃h28,stN g g0.next 0 l=some h28∧∃l29:List Value,ldN h28 g0.next 0 128=some l29∧
  ((Value.tuple #[.agg l29.toArray,.int .i64 e]=.tuple #[.agg (doM s k f t i ds).2.1.toArray,.int .i64 (doM s k f t i ds).2.2])∧ModOk (b+1) h28 mb bm (doM s k f t i ds).1∧OldM mb bm h h28):=fun {g s' l e} M' om hl he=>
  doTail (Q:=fun v h'=>v=.tuple #[.agg (doM s k f t i ds).2.1.toArray,.int .i64 (doM s k f t i ds).2.2]∧ModOk (b+1) h' mb bm (doM s k f t i ds).1∧OldM mb bm h h') hxn ((om.2 _ hxl (by omega) (by omega)).trans wx) (Nat.lt_of_lt_of_le hxl om.1) M' (omh.trans om) hlt hlb hl fun g' M2 om2=>by rw[he]; exact⟨rfl,M2,om2⟩
 have grown:∀{g12:AH} {r:Int×List SetR×Int} {i' : Int} {p' : Option Addr} {n' c' : Nat} {e:Int} {s' : MSt} {b1:Int},ModOk b1 g12 mb bm s'→b1≤b+1→OldM mb bm g1 g12→BookR r.1 r.2.1 i' p' n' g12→RightP r.1 r.2.1→(r.1=s.nx∨r.1=s.nx+1)→r.2.2=e→doM s k f t i ds=(growM s' r.1 r.2.1 r.2.2,zeroS,r.2.2)→
  ∀{y:Nat},g12.get y=some (.cells [.int .u64 i',.slice p' n' c'] 49 false)→
  ∃l20:List Value,aBuild Try.prog 34 #[]=some (.agg l20.toArray)∧∃i21:Int,∃(p22:Option Addr) (n23 c24:Nat),ldN g12 y 0 2=some ([(.int .u64 i21),(.slice p22 n23 c24)]:List Value)∧
  Wf Try.prog K 19 [.pointer (some ⟨mb,0,none⟩),.agg #[.int .u64 i21,.slice p22 n23 c24],.int .i64 e] g12 fun r25 h26=>
   ∃i27:Int,r25=.int .i64 i27∧(l20.length=128∧∃h28,stN h26 g0.next 0 l20=some h28∧∃l29:List Value,ldN h28 g0.next 0 128=some l29∧
    ((Value.tuple #[.agg l29.toArray,.int .i64 i27]=.tuple #[.agg (doM s k f t i ds).2.1.toArray,.int .i64 (doM s k f t i ds).2.2])∧ModOk (b+1) h28 mb bm (doM s k f t i ds).1∧OldM mb bm h h28)):=fun {g12 r i' p' n' c' e s' b1} M' hb1' om bk Rr hr he hd y wy=>
  growEnd (Q:=fun v h'=>v=.tuple #[.agg (doM s k f t i ds).2.1.toArray,.int .i64 (doM s k f t i ds).2.2]∧ModOk (b+1) h' mb bm (doM s k f t i ds).1∧OldM mb bm h h') kk hxn ((om.2 _ hxl (by omega) (by omega)).trans wx) (Nat.lt_of_lt_of_le hxl om.1) M' (omh.trans om) hlt hlb wy bk Rr (by omega) (by omega) hb1' hb1 fun g' M2 om2=>by rw[hd]; exact⟨by rw[he],by rw[he]; exact M2,om2⟩
 refine⟨k,ld1_at wop rfl,fun y0=>?_,fun y0=>⟨fun y1=>?_,fun y1=>⟨fun y2=>?_,fun y2=>⟨fun y3=>?_,fun y3=>⟨fun y4=>?_,fun y4=>⟨fun y5=>?_,fun y5=>⟨fun y6=>?_,fun y6=>⟨fun y7=>?_,fun y7=>⟨fun y8=>?_,fun y8=>⟨fun y9=>?_,fun y9=>?_⟩⟩⟩⟩⟩⟩⟩⟩⟩⟩
 ·refine derefP_at ⟨_,_,_,_,hld,_,ld1_at wop rfl,_,ld1_at wop rfl,(createSpec kk.acts.a5.a4.a3.a2.a B R' (by omega) hbn f hf i).mono ?_⟩
  rintro _ g12 ⟨⟨i',p',n',c',rfl,bk⟩,o12⟩
  obtain⟨E1,E2,E3⟩:=createF_cor (nx:=s.nx) hx (spl f) i
  refine⟨_,_,_,_,_,rfl,fun g18 e18=>?_⟩
  obtain⟨g19,k19,n19,o19,v19⟩:=put_new e18 (vs:=[.int .u64 i',.slice p' n' c']) rfl
  refine⟨rfl,g19,k19,grown (M1.old (o12.trans o19)) (by omega) (OldM.of_old (o12.trans o19)) ((bk.old o19).corE E1 E2) (createF_right M.right hnx.1 (by omega) f i) (createF_nx _ _ _ _) E3.symm ?_ (v19 [] (fun c hc=>by cases hc)).1⟩
  unfold doM
  rw[if_pos y0]
 ·refine⟨zeroS,buildS,_,ld1_at wop rfl,_,ld1_at wop rfl,_,_,_,ld1_at wop rfl,(writeSpec kk M1 hb1 f hf i (S.old oh) fm hd).mono ?_⟩
  rintro _ g12 ⟨rfl,M12,o12⟩
  exact⟨_,rfl,fin M12 o12 zeroS_len (by unfold doM; rw[if_neg y0,if_pos y1])⟩
 ·refine⟨zeroS,buildS,_,ld1_at wop rfl,_,ld1_at wop rfl,(trimSpec kk M1 f hf i).mono ?_⟩
  rintro _ g12 ⟨rfl,M12,o12⟩
  exact⟨_,rfl,fin (M12.mono (by omega) hb1) o12 zeroS_len (by unfold doM; rw[if_neg y0,if_neg y1,if_pos y2])⟩
 ·refine⟨_,ld1_at wop rfl,_,ld1_at wop rfl,(readSpec kk M1 f hf i).mono ?_⟩
  rintro _ g12 ⟨rfl,o12⟩
  have hl:(readM s f i).1.length=128:=by
   unfold readM
   split
   ·exact zeroS_len
   ·rename_i hz
    obtain⟨q1,q2⟩:=M.block (o:=spl f) (i:=i) (by simpa using hz)
    have hbl:=((M.map.ok (findM s.rs (spl f) i).1.id).2 i.toNat (by omega)).len
    rw[List.length_take,hbl]
    rfl
  exact⟨_,_,rfl,fin (M1'.old o12) (OldM.of_old o12) hl (by unfold doM; rw[if_neg y0,if_neg y1,if_neg y2,if_pos y3])⟩
 ·refine derefP_at ⟨_,_,_,_,hld,_,ld1_at wop rfl,derefP_at ⟨_,ld1_at hc rfl,(snapASpec kk.acts.a5.a4.a3.a2.a B R' (by omega) hbn f hf s.st (u64Wf ⟨by omega,by omega⟩)).mono ?_⟩⟩
  rintro _ g12 ⟨⟨i',p',n',c',rfl,bk⟩,o12⟩
  obtain⟨E1,E2,E3⟩:=snapA_cor (nx:=s.nx) hx (spl f) s.st
  refine⟨_,_,_,_,_,rfl,fun g18 e18=>?_⟩
  obtain⟨g19,k19,n19,o19,v19⟩:=put_new e18 (vs:=[.int .u64 i',.slice p' n' c']) rfl
  have w19:=(v19 [] (fun c hc=>by cases hc)).1
  have o119:=o12.trans o19
  have M19:=M1.old o119
  have bk19:=(bk.old o19).corE E1 E2
  have Rr:=snapA_right M.right hnx.1 (by omega) f s.st
  refine⟨rfl,g19,k19,fun z=>?_,fun z=>?_⟩
  ·obtain⟨g82,k82,nr82,M82⟩:=M19.stampTo hb1
   obtain⟨pp,nn,cc,hc19, -⟩:=M19.cells
   refine derefP_at ⟨_,ld1_at hc19 rfl,fun i79 e79=>?_⟩
   have e79:=u64w e79 (by omega) (by omega)
   subst e79
   have om82:=OldM.near1 (bm:=bm) nr82
   refine derefP_at ⟨g82,k82,grown M82 (Int.le_refl _) ((OldM.of_old o119).trans om82) (bk19.stayM (M19.stay om82)) Rr (snapA_nx _ _ _ _) E3.symm ?_ ((nr82.2 _ (by have:=o12.1; omega)).trans w19)⟩
   unfold doM
   rw[if_neg y0,if_neg y1,if_neg y2,if_neg y3,if_pos y4,if_pos (by rw[←E3]; exact z)]
  ·refine grown M19 (by omega) (OldM.of_old o119) bk19 Rr (snapA_nx _ _ _ _) E3.symm ?_ w19
   unfold doM
   rw[if_neg y0,if_neg y1,if_neg y2,if_neg y3,if_pos y4,if_neg (by rw[←E3]; exact z)]
 ·refine derefP_at ⟨_,_,_,_,hld,_,ld1_at wop rfl,_,ld1_at wop rfl,(cloneSpec kk.acts.a5.a4.a3.a2.a B R' (by omega) hbn f hf t hft).mono ?_⟩
  rintro _ g12 ⟨⟨i',p',n',c',rfl,bk⟩,o12⟩
  obtain⟨E1,E2,E3⟩:=cloneA_cor (nx:=s.nx) hx (spl f) (spl t)
  refine⟨_,_,_,_,_,rfl,fun g18 e18=>?_⟩
  obtain⟨g19,k19,n19,o19,v19⟩:=put_new e18 (vs:=[.int .u64 i',.slice p' n' c']) rfl
  refine⟨rfl,g19,k19,grown (M1.old (o12.trans o19)) (by omega) (OldM.of_old (o12.trans o19)) ((bk.old o19).corE E1 E2) (cloneA_right M.right hnx.1 (by omega) f t) (cloneA_nx _ _ _ _) E3.symm ?_ (v19 [] (fun c hc=>by cases hc)).1⟩
  unfold doM
  rw[if_neg y0,if_neg y1,if_neg y2,if_neg y3,if_neg y4,if_pos y5]
 ·refine derefP_at ⟨_,_,_,_,hld,_,ld1_at wop rfl,(promoteSpec kk.acts B R' (by omega) f hf).mono ?_⟩
  rintro _ g12 ⟨⟨i',p',n',c',rfl,bk⟩,o12⟩
  obtain⟨E1,E2,E3⟩:=promA_cor (nx:=s.nx) hx (spl f)
  refine⟨_,_,_,_,_,rfl,fun g18 e18=>?_⟩
  obtain⟨g19,k19,n19,o19,v19⟩:=put_new e18 (vs:=[.int .u64 i',.slice p' n' c']) rfl
  have w19:=(v19 [] (fun c hc=>by cases hc)).1
  have o119:=o12.trans o19
  have M19:=M1.old o119
  have bk19:=(bk.old o19).corE E1 E2
  have hp:=promA_nx s.nx s.rs (spl f)
  refine⟨rfl,g19,k19,fun z=>?_,fun z=>?_⟩
  ·obtain⟨g52,k52,nr52,M52⟩:=M19.setBookI (b':=b+1) bk19 (promA_right M.right f) (by omega) (by omega) (by omega) hb1 (c':=c')
   refine⟨_,_,_,_,ldN_all w19 rfl,derefP_at ⟨rfl,g52,k52,zeroS,buildS,fin M52 ((OldM.of_old o119).trans (OldM.near1 nr52)) zeroS_len ?_⟩⟩
   unfold doM
   rw[if_neg y0,if_neg y1,if_neg y2,if_neg y3,if_neg y4,if_neg y5,if_pos y6,if_pos (by rw[←E3]; exact z),E3]
  ·refine⟨zeroS,buildS,fin (M1'.old o119) (OldM.of_old o119) zeroS_len ?_⟩
   unfold doM
   rw[if_neg y0,if_neg y1,if_neg y2,if_neg y3,if_neg y4,if_neg y5,if_pos y6,if_neg (by rw[←E3]; exact z),E3]
 ·refine⟨zeroS,buildS,_,ld1_at wop rfl,(backSpecM kk M1 f hf).mono ?_⟩
  rintro _ g12 ⟨rfl,M12,o12⟩
  exact⟨_,rfl,fin (M12.mono (by omega) hb1) o12 zeroS_len (by unfold doM; rw[if_neg y0,if_neg y1,if_neg y2,if_neg y3,if_neg y4,if_neg y5,if_neg y6,if_pos y7])⟩
 ·refine⟨zeroS,buildS,_,ld1_at wop rfl,(destroySpec kk M1 f hf).mono ?_⟩
  rintro _ g12 ⟨rfl,M12,o12⟩
  exact⟨_,rfl,fin (M12.mono (by omega) hb1) o12 zeroS_len (by unfold doM; rw[if_neg y0,if_neg y1,if_neg y2,if_neg y3,if_neg y4,if_neg y5,if_neg y6,if_neg y7,if_pos y8])⟩
 ·obtain⟨g82,k82,nr82,M82⟩:=M1.stampTo hb1
  refine derefP_at ⟨_,ld1_at hc rfl,fun i79 e79=>?_⟩
  have e79:=u64w e79 (by omega) (by omega)
  subst e79
  refine derefP_at ⟨g82,k82,zeroS,buildS,fin M82 (OldM.near1 nr82) zeroS_len ?_⟩
  unfold doM
  rw[if_neg y0,if_neg y1,if_neg y2,if_neg y3,if_neg y4,if_neg y5,if_neg y6,if_neg y7,if_neg y8,if_pos y9]
 ·refine⟨zeroS,buildS,fin M1' ⟨Nat.le_refl _,fun _ _ _ _=>rfl⟩ zeroS_len ?_⟩
  unfold doM
  rw[if_neg y0,if_neg y1,if_neg y2,if_neg y3,if_neg y4,if_neg y5,if_neg y6,if_neg y7,if_neg y8,if_neg y9]
end
end Go.Am
/-
 A MODEL:a new one; its list; a list is like another; a read alone.
-/
set_option linter.unusedVariables false
set_option linter.unusedSimpArgs false
set_option maxRecDepth 100000
namespace Go.Am
open Go.Proofs
theorem rightNil:RightP 1 []:=⟨by decide,Nat.zero_le _,fun i r h=>by simp at h,List.nodup_nil,fun r h=>by cases h⟩
theorem bookNil (h:AH):BookOk h none 0 []:=⟨⟨rfl,Nat.zero_le _,[],⟨rfl,.inl rfl⟩,fun i hi=>absurd hi (Nat.not_lt_zero _)⟩,fun r hr=>(by cases hr),.inl rfl⟩
def s0M:MSt:=⟨1,[],fun _=>zeroT,2,0⟩
structure InfoR where
 name:ByteArray
 blocks:Int
 dead:Int
 frm:ByteArray
def infoC1 (x:InfoR):List Value:=[.string x.name,.int .i64 x.blocks,.int .i64 x.dead,.string x.frm]
def infosC (l:List InfoR):List Value:=(l.map infoC1).flatten
theorem infosC_len (l:List InfoR):(infosC l).length=l.length * 4:=by
 induction l with
 | nil=>rfl
 | cons x l ih=>
   have:infosC (x :: l)=infoC1 x ++ infosC l:=rfl
   rw[this,List.length_append,ih]
   simp[infoC1]
   omega
theorem infosC_app (a b:List InfoR):infosC (a ++ b)=infosC a ++ infosC b:=by simp[infosC]
theorem infosC_get:∀(l:List InfoR) (i:Nat) (h:i < l.length),((infosC l).drop (i * 4)).take 4=infoC1 l[i]
 | x :: l,0,h=>rfl
 | x :: l,i+1,h=>by
   have e:infosC (x :: l)=infoC1 x ++ infosC l:=rfl
   rw[e,List.drop_append,List.drop_of_length_le (by simp[infoC1]; omega),List.nil_append,show (i+1) * 4 - (infoC1 x).length=i * 4 by simp[infoC1]; omega]
   exact infosC_get l i (by simpa using h)
def infoM (rs:List SetR) (r:SetR):InfoR:=⟨fullR rs r.id,r.blocks,0,if r.snap=true then noB else fullR rs (wayR rs r.id).2⟩
def listM (rs:List SetR):List InfoR:=rs.map (infoM rs)
theorem listM_cor {xs ys:List SetR} (h:xs.map cor=ys.map cor):listM xs=listM ys:=by
 unfold listM
 have:∀r:SetR,infoM xs r=infoM ys r:=fun r=>by
  unfold infoM
  rw[fullR_cor h,fullR_cor h,wayR_cor h]
 rw[show infoM xs=infoM ys from funext this]
 have hc:∀r:SetR,infoM ys r=infoM ys (cor r):=fun r=>rfl
 calc xs.map (infoM ys)=(xs.map cor).map (infoM ys):=by rw[List.map_map]; exact List.map_congr_left fun r _=>hc r
  _=(ys.map cor).map (infoM ys):=by rw[h]
  _=ys.map (infoM ys):=by rw[List.map_map]; exact List.map_congr_left fun r _=>(hc r).symm
theorem fullR_size {nx:Int} {rs:List SetR} (R:RightP nx rs) (id:Int):(fullR rs id).size≤60:=by
 unfold fullR
 have nm:∀{i:Nat} {r:SetR},rs[i]?= some r→r.name.size≤24:=fun h=>(R.names _ (List.mem_of_getElem? h)).2.1
 have h0:noB.size=0:=rfl
 cases plcN rs id with
 | none=>simp only; omega
 | some i=>
   simp only
   cases hr:rs[i]? with
   | none=>simp only; omega
   | some r=>
     simp only
     have:=nm hr
     split
     ·cases plcN rs r.own with
      | none=>simp only; omega
      | some j=>
        simp only
        cases hv:rs[j]? with
        | none=>simp only; omega
        | some v=>
          simp only
          have:=nm hv
          rw[ByteArray.size_append,ByteArray.size_append]
          have:atB.size=1:=rfl
          omega
     ·omega
def InfoOk (x:InfoR):Prop:=x.name.size≤maxLen∧(Lit.int .i64 x.blocks).wf=true∧(Lit.int .i64 x.dead).wf=true∧x.frm.size≤maxLen
theorem wfI {x:Int} (h:0≤x∧x≤1000):(Lit.int .i64 x).wf=true:=by
 simp[Lit.wf,IntKind.min,IntKind.max,IntKind.signed,IntKind.bits]
 omega
theorem infoM_ok {nx:Int} {rs:List SetR} (R:RightP nx rs):∀x∈listM rs,InfoOk x:=by
 intro x hx
 obtain⟨r,hr,rfl⟩:=List.mem_map.1 hx
 have e:=R.ent hr
 have hm:maxLen=9223372036854775807:=rfl
 have h1:=fullR_size R r.id
 have h2:=fullR_size R (wayR rs r.id).2
 have h3:noB.size=0:=rfl
 refine⟨by show (fullR rs r.id).size≤_; omega,wfI ⟨by have:=e.2.2.2.1.1; show 0≤r.blocks; omega,by have:=e.2.2.2.1.2; show r.blocks≤1000; omega⟩,wfI (x:=0) (by decide),?_⟩
 show (if r.snap=true then noB else fullR rs (wayR rs r.id).2).size≤_
 split <;> omega
def infoL (x:InfoR):List Lit:=[.string x.name.data.toList,.int .i64 x.blocks,.int .i64 x.dead,.string x.frm.data.toList]
theorem fInfo (x:InfoR):(Value.agg (infoC1 x).toArray).formed Try.prog 39=true:=by
 simp[infoC1,Value.formed]
theorem kInfo {x:InfoR} (k:InfoOk x):keyA Try.prog 39 (.agg (infoC1 x).toArray)=some (infoL x):=by
 have hf:=fInfo x
 unfold infoC1 at hf ⊢
 rw[aKey_eq hf,aKey_structN Try.underlying39 (d:=39) rfl]
 have k1:=aKey_stringN (P:=Try.prog) Try.underlying9 (m:=39) (d:=38) rfl x.name
 have k2:=aKey_intN (P:=Try.prog) Try.underlying3 (m:=39) (d:=38) rfl x.blocks
 have k3:=aKey_intN (P:=Try.prog) Try.underlying3 (m:=39) (d:=38) rfl x.dead
 have k4:=aKey_stringN (P:=Try.prog) Try.underlying9 (m:=39) (d:=38) rfl x.frm
 rw[if_pos k.1] at k1
 rw[if_pos k.2.1] at k2
 rw[if_pos k.2.2.1] at k3
 rw[if_pos k.2.2.2] at k4
 generalize Try.prog.keyLits 39=KL at k1 k2 k3 k4 ⊢
 simp[k1,k2,k3,k4,infoL]
theorem litsEq_refl (l:List Lit):litsEq l l=true:=by
 induction l with
 | nil=>rfl
 | cons x l ih=>
   show (litEq x x && litsEq l l)=true
   rw[ih]
   cases x <;> simp[litEq]
theorem eInfo:ElemOk Try.prog 23 39 4 48:=ElemOk_of (by kernel_rfl)
structure KLst (K:Xs):Prop where
 list:K 9=none
 full:K 16=none
 same:K 13=none
section
variable {K:Xs} {b:Int} {h:AH} {mb bm:Nat} {s:MSt}
theorem newSpecM (kk:KMod K):Wf Try.prog K 8 [] h fun v h'=>∃mb bm,v=.pointer (some ⟨mb,0,none⟩)∧ModOk 2 h' mb bm s0M∧Old h h'∧h.next≤mb∧h.next≤bm:=by
 refine vc_model_New kk.new h _ fun g0 e0 g1 e1=>?_
 have o0:=old_of_alloc e0
 have n0:=next_of_alloc e0
 have o1:=old_of_alloc e1
 have n1:=next_of_alloc e1
 exact⟨g0.next,h.next,rfl,{ cells:=⟨none,0,0,get_of_alloc e1,rfl,[],bookNil _,rfl⟩,map:=(MapT.new e0).near (o1.2 _ (by omega)),lt:=by omega,lb:=by omega,right:=rightNil,nx:=⟨by decide,by decide⟩,st:=⟨by decide,by decide⟩,md:=⟨by decide,by decide⟩,bd:=by decide },o0.trans o1,by omega,Nat.le_refl _⟩
theorem listSpec (kk:KMod K) (kl:KLst K) (M:ModOk b h mb bm s):
 Wf Try.prog K 9 [.pointer (some ⟨mb,0,none⟩)] h fun v h'=>∃p n c,v=.slice p n c∧n=s.rs.length∧Shows h' p n 4 (infosC (listM s.rs))∧Old h h'∧∀a,p=some a→h.next≤a.block:=by
 obtain⟨p,n,c,hc,hbk⟩:=M.cells
 obtain⟨-,xs,B,hx⟩:=id hbk
 have R' : RightP s.nx xs:=M.right.cor hx.symm
 have hn:=R'.2.1
 have hnn:=B.1.1
 have hlen:(listM xs).length=n:=by rw[hnn]; simp[listM]
 have hxl:xs.length=s.rs.length:=by have:=congrArg List.length hx; simpa using this
 refine vc_model_Model_List kl.list _ h _ (derefP_at ⟨_,_,_,ld1_at hc rfl,fun pp nn cc i k g=>∃t:Nat,i=t∧t≤n∧n - t=k∧t=nn∧Grow h.next g 39 4 pp nn cc (infosC ((listM xs).take t))∧Old h g,⟨_,0,rfl,Nat.zero_le _,rfl,rfl,Grow.nil _ _ _ _,Old.refl _⟩,?_⟩)
 rintro k6 g7 p9 n10 c11 i12 ⟨t,rfl,ht,rfl,rfl,G,o⟩
 refine⟨fun z=>?_,fun z=>?_⟩
 rotate_left
 ·obtain rfl:t=n:=by omega
  rw[List.take_of_length_le (by omega),listM_cor hx] at G
  exact⟨_,_,_,rfl,by omega,G.shows,o,fun a ha=>(G.block ha).1⟩
 have htn:t < n:=by omega
 obtain⟨bb,off,rfl,hi',hld,h1,ok⟩:=(B.1.old o).at htn
 have hri:=List.getElem?_eq_getElem hi'
 have hinf:(listM xs)[t]?= some (infoM xs xs[t]):=by unfold listM; rw[List.getElem?_map,hri]; rfl
 generalize xs[t]=r at h1 hri ok hinf
 have hlt:=M.lt
 have push:∀{g21 g26:AH} {x:InfoR},Old g7 g21→x=infoM xs r→g26=g21.alloc (.cells [.string x.name,.int .i64 x.blocks,.int .i64 x.dead,.string x.frm] 39 false)→
  ∃(p27:Option Addr) (n28 c29:Nat) (g30:AH),aBuiltin Try.prog g26 .append #[23,23] [.slice p9 t c11,.slice (some ⟨g21.next,0,none⟩) 1 1]=some (.slice p27 n28 c29,g30)∧
   ∀i31:Int,i31=IntKind.wrap .i64 ((t:Int)+1)→∃j8,j8 < n - t∧∃u:Nat,i31=u∧u≤n∧n - u=j8∧u=n28∧Grow h.next g30 39 4 p27 n28 c29 (infosC ((listM xs).take u))∧Old h g30:=fun {g21 g26 x} o21 hxx e26=>by
  obtain⟨p27,c29,g30,ha,hg,hob, -, -⟩:=(G.old o21).push eInfo (Nat.le_trans o.1 o21.1) e26 (m:=1) rfl (by have:roomMax=140737488355328:=rfl; omega) (by omega)
  refine⟨p27,t+1,c29,g30,ha,fun i31 e31=>?_⟩
  have e31:=i64w e31 (by omega) (by omega)
  refine⟨n - (t+1),by omega,t+1,by omega,by omega,rfl,rfl,?_,OldB.toOld (((o.trans o21).toB (Nat.le_refl _)).trans hob)⟩
  have ht1:(listM xs).take (t+1)=(listM xs).take t ++ [x]:=by
   rw[List.take_add_one,hinf,hxx]
   rfl
  rw[ht1,infosC_app]
  exact hg
 refine derefP_at ⟨by omega,z,r.id,by rw[Int.toNat_natCast]; exact h1 0 _ rfl,(fullSpec kk.named.name kl.full kk.acts.a5.a4.a3.a2.a.fplace (B.1.old o) R'.names r.id).mono ?_⟩
 rintro _ g17 ⟨rfl,o17⟩
 have T17:=(B.1.old (o.trans o17)).at' htn
 obtain⟨hi17,hld17,h17,ok17⟩:=T17
 have hr17:xs[t]=r:=by rw[List.getElem?_eq_getElem hi'] at hri; exact Option.some.inj hri
 rw[hr17] at h17
 rw[Int.toNat_natCast]
 refine⟨_,rfl,r.blocks,h17 6 _ rfl,fun g20 e20=>?_⟩
 obtain⟨g21,k21,n21,o21,v21⟩:=put_new e20 (vs:=[.string (fullR xs r.id),.int .i64 r.blocks,.int .i64 0,.string (ByteArray.mk #[])]) rfl
 have w21:=(v21 [] (fun c hc=>by cases hc)).1
 have T21:=((B.1.old (o.trans (o17.trans o21))).at' htn).2.2.1
 rw[hr17] at T21
 refine⟨rfl,g21,k21,h1 6 _ rfl,h17 6 _ rfl,?_⟩
 cases hs:r.snap with
 | true=>
   refine .inl ⟨T21 2 _ (by simp[setC,hs]),_,_,_,_,ldN_all w21 rfl,fun g26 e26=>?_⟩
   exact push (x:=⟨fullR xs r.id,r.blocks,0,ByteArray.mk #[]⟩) (o17.trans o21) (by unfold infoM; rw[if_pos hs]; rfl) e26
 | false=>
   refine .inr ⟨T21 2 _ (by simp[setC,hs]),r.id,T21 0 _ rfl,(originSpec kk.acts.origin kk.acts.a5.a4.a3.way kk.acts.a5.a4.a3.a2.a.fplace (B.1.old (o.trans (o17.trans o21))) r.id).mono ?_⟩
   rintro _ g34 ⟨rfl,o34⟩
   refine⟨_,rfl,(fullSpec kk.named.name kl.full kk.acts.a5.a4.a3.a2.a.fplace (B.1.old (o.trans (o17.trans (o21.trans o34)))) R'.names _).mono ?_⟩
   rintro _ g37 ⟨rfl,o37⟩
   have o237:=o34.trans o37
   have w37:=(o237.2 _ (by omega)).trans w21
   have s39:=near_set g17.next g37 (.cells [.string (fullR xs r.id),.int .i64 r.blocks,.int .i64 0,.string (fullR xs (wayR xs r.id).2)] 39 false)
   have c39:=get_set_self g17.next g37 (.cells [.string (fullR xs r.id),.int .i64 r.blocks,.int .i64 0,.string (fullR xs (wayR xs r.id).2)] 39 false)
   refine⟨_,rfl,_,st1_of w37 (by show 3 < 4; decide),_,_,_,_,ldN_all c39 rfl,fun g44 e44=>?_⟩
   exact push (x:=⟨fullR xs r.id,r.blocks,0,fullR xs (wayR xs r.id).2⟩) (near_old (o17.trans (o21.trans o237)) s39 o17.1) (by unfold infoM; rw[if_neg (by rw[hs]; decide)]) e44
theorem sameListSpec (kl:KLst K) {pa pb:Option Addr} {n m ca cb:Nat} {l:List InfoR} (Sa:Shows h pa n 4 (infosC l)) (Sb:Shows h pb m 4 (infosC l)) (hl:∀x∈l,InfoOk x) (hn:n≤1000000):
 Wf Try.prog K 13 [.slice pa n ca,.slice pb m cb] h fun v h'=>v=.bool true∧h=h':=by
 have la:=Sa.1
 have lb:=Sb.1
 rw[infosC_len] at la lb
 obtain rfl:n=m:=by omega
 refine vc_aquiferref20_SameList kl.same _ _ _ _ _ _ h _ ⟨fun _=>⟨fun i k g=>∃t:Nat,i=t∧t≤n∧n - t=k∧h=g,⟨_,0,rfl,Nat.zero_le _,rfl,rfl⟩,?_⟩,fun z=>absurd rfl z⟩
 rintro k g i ⟨t,rfl,ht,rfl,rfl⟩
 refine⟨fun z=>?_,fun z=>⟨rfl,rfl⟩⟩
 have htn:t < n:=by omega
 have htl:t < l.length:=by omega
 obtain⟨b1,o1,rfl,d1, -⟩:=Sa.getN htn
 obtain⟨b2,o2,rfl,d2, -⟩:=Sb.getN htn
 rw[infosC_get l t htl] at d1 d2
 have hk:=kInfo (hl _ (List.getElem_mem htl))
 refine derefP_at ⟨by omega,z,_,_,_,_,by rw[Int.toNat_natCast]; exact d1,derefP_at ⟨by omega,z,_,_,_,_,by rw[Int.toNat_natCast]; exact d2,_,_,hk,hk,fun _ i19 e19=>?_,fun y=>?_⟩⟩
 ·have e19:=i64w e19 (by omega) (by omega)
  exact⟨n - (t+1),by omega,t+1,by omega,by omega,rfl,rfl⟩
 ·rw[litsEq_refl] at y
  cases y
theorem doReadSpec (kk:KMod K) (M:ModOk b h mb bm s) (f t:ByteArray) (hf:f.size≤9223372036854775806) (i:Int) {pd pk:Option Addr} {nd cd nk ck:Nat}:
 Wf Try.prog K 11 [.pointer (some ⟨mb,0,none⟩),.agg #[.int .i64 3,.string f,.string t,.int .i64 i,.slice pd nd cd,.slice pk nk ck]] h fun v h'=>
  v=.tuple #[.agg (readM s f i).1.toArray,.int .i64 (readM s f i).2]∧Old h h':=by
 refine vc_model_Model_Do kk.do_ _ _ _ _ _ _ _ _ _ _ _ h _ fun g0 e0 g1 e1=>?_
 have o0:=old_of_alloc e0
 have n0:=next_of_alloc e0
 have o1:=old_of_alloc e1
 have n1:=next_of_alloc e1
 have wx:=get_of_alloc e1
 have wop:=(o1.2 _ (by omega)).trans (get_of_alloc e0)
 have oh:=o0.trans o1
 refine⟨3,ld1_at wop rfl,fun y=>absurd y (by decide),fun _=>⟨fun y=>absurd y (by decide),fun _=>⟨fun y=>absurd y (by decide),fun _=>⟨fun _=>?_,fun y=>absurd rfl y⟩⟩⟩⟩
 refine⟨_,ld1_at wop rfl,_,ld1_at wop rfl,(readSpec kk (M.old oh) f hf i).mono ?_⟩
 rintro _ g12 ⟨rfl,o12⟩
 have hl:(readM s f i).1.length=128:=by
  unfold readM
  split
  ·exact zeroS_len
  ·rename_i hz
   obtain⟨q1,q2⟩:=M.block (o:=spl f) (i:=i) (by simpa using hz)
   have hbl:=((M.map.ok (findM s.rs (spl f) i).1.id).2 i.toNat (by omega)).len
   rw[List.length_take,hbl]
   rfl
 have wx12:=(o12.2 _ (by omega)).trans wx
 exact⟨_,_,rfl,hl,_,stN_all wx12 (by simp[hl]),_,ldN_all (get_set_self _ _ _) hl,rfl,near_old (oh.trans o12) (near_set _ _ _) o0.1⟩
end
end Go.Am
/-
 A MODEL:one of its own,alike.
-/
set_option linter.unusedVariables false
set_option linter.unusedSimpArgs false
set_option maxRecDepth 100000
namespace Go.Am
open Go.Proofs
theorem eSetM:ElemOk Try.prog 47 59 11 112:=ElemOk_of (by kernel_rfl)
structure KCpy (K:Xs):Prop where
 copy:K 12=none
 clone:K 28=none
 mclone:K 29=none
 ext:K 55=some (.ext xClone)
section
variable {K:Xs} {b:Int} {h:AH} {mb bm:Nat} {s:MSt}
theorem sets_cells {g:AH} {p:Option Addr} {n:Nat} {rs:List SetR} (T:Sets g p n rs):Shows g p n 11 (setsC rs):=by
 obtain⟨h1,h2,cells,h3,h4⟩:=T
 have:cells=setsC rs:=by
  refine List.ext_getElem? fun i=>?_
  have hl:=h3.1
  by_cases hi:i < n * 11
  ·have hq:i / 11 < rs.length:=by omega
   have e1:=(h4 (i / 11) hq).1
   have e2:=setsC_get rs (i / 11) hq
   have e3:=congrArg (fun l:List Value=>l[i % 11]?) (e1.trans e2.symm)
   simp only[List.getElem?_take,List.getElem?_drop,if_pos (show i % 11 < 11 by omega)] at e3
   rwa [show i / 11 * 11+i % 11=i by omega] at e3
  ·rw[List.getElem?_eq_none (by omega),List.getElem?_eq_none (by rw[setsC_len]; omega)]
 rw[←this]
 exact h3
theorem cloneSets (kc:KCpy K) {p:Option Addr} {n c:Nat} {xs:List SetR} (B:BookOk h p n xs) (hn:n≤1000):
 Wf Try.prog K 28 [.slice p n c] h fun v h'=>∃p' c',v=.slice p' n c'∧BookOk h' p' n xs∧Old h h':=by
 have hnn:=B.1.1
 refine vc_sliceClone kc.clone _ _ _ h _ ?_
 have sh:=sets_cells B.1
 rcases B.3 with rfl | ⟨bb,off,rfl⟩
 ·have hn0:n=0:=by
   rcases sh.2 with h0 | ⟨b,off,al,e,ro,hp, -⟩
   ·exact h0
   ·cases hp
  subst hn0
  exact⟨_,_,rfl,B,Old.refl _⟩
 ·intro g0 e0
  have o0:=old_of_alloc e0
  obtain⟨p',c',g4,k4,G4,hob, -,hp'⟩:=(Grow.lit (lim:=h.next) (sz:=11) (n:=0) e0 rfl (Nat.le_refl _)).append eSetM o0.1 (x:=.slice (some ⟨bb,off,none⟩) n c) (m:=n) rfl ((sh.old o0).firstC B.3) sh.1 (by have:roomMax=140737488355328:=rfl; omega) (by omega)  ⟨_,eSetM.1⟩
  rw[Nat.zero_add] at k4 G4
  rw[List.nil_append] at G4
  have o4:Old h g4:=OldB.toOld ((o0.toB (Nat.le_refl _)).trans hob)
  refine⟨p',n,c',g4,k4,p',c',rfl,⟨sets_of G4.shows B.1.2.1 fun r hr=>((B.2 r hr).old o4).1,fun r hr=>(B.2 r hr).old o4,G4.form⟩,o4⟩
theorem copySpecM (kk:KMod K) (kc:KCpy K) (M:ModOk b h mb bm s):
 Wf Try.prog K 12 [.pointer (some ⟨mb,0,none⟩)] h fun v h'=>∃mb2 bm2,v=.pointer (some ⟨mb2,0,none⟩)∧ModOk b h' mb2 bm2 s∧Old h h'∧h.next≤mb2∧h.next≤bm2:=by
 obtain⟨p,n,c,hc,hbk⟩:=M.cells
 obtain⟨-,xs,B,hx⟩:=id hbk
 have R' : RightP s.nx xs:=M.right.cor hx.symm
 have hn:=R'.2.1
 have hnn:=B.1.1
 have hlt:=M.lt
 refine vc_model_Model_Copy kc.copy _ h _ (derefP_at ⟨_,_,_,ld1_at hc rfl,(cloneSets kc B (by omega)).mono ?_⟩)
 rintro _ g6 ⟨p',c',rfl,B6,o6⟩
 have hc6:=(o6.2 _ hlt).trans hc
 refine⟨_,_,_,rfl,derefP_at ⟨_,ld1_at hc6 rfl,(cloneMap kc.mclone kc.ext (M.old o6).map).mono ?_⟩⟩
 rintro _ g14 ⟨rfl,T14,o14,n14⟩
 have oh:=o6.trans o14
 have hc14:=(oh.2 _ hlt).trans hc
 refine⟨_,rfl,derefP_at ⟨_,ld1_at hc14 rfl,derefP_at ⟨_,ld1_at hc14 rfl,derefP_at ⟨_,ld1_at hc14 rfl,fun g25 e25=>?_⟩⟩⟩⟩
 have o25:=old_of_alloc e25
 have n25:=next_of_alloc e25
 refine⟨ld1_at hc rfl,ld1_at hc6 rfl,ld1_at hc rfl,ld1_at hc6 rfl,ld1_at hc rfl,ld1_at hc6 rfl,ld1_at hc rfl,ld1_at hc6 rfl,ld1_at hc6 rfl,ld1_at hc14 rfl,ld1_at hc6 rfl,ld1_at hc14 rfl,ld1_at hc6 rfl,ld1_at hc14 rfl,g14.next,g6.next,rfl,?_,oh.trans o25,oh.1,o6.1⟩
 exact { cells:=⟨p',n,c',get_of_alloc e25,rfl,xs,(B6.old o14).old o25,hx⟩,map:=T14.near (o25.2 _ (by omega)),lt:=by omega,lb:=by omega,right:=M.right,nx:=M.nx,st:=M.st,md:=M.md,bd:=M.bd }
end
end Go.Am
