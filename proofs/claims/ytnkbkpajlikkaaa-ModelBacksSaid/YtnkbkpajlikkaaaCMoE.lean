/-
  A SNAPSHOT STAYS in a model: plain.
-/
import Derived.Test.YtnkbkpajlikkaaaCMoD
set_option linter.unusedVariables false
set_option linter.unusedSimpArgs false
set_option maxRecDepth 100000
namespace Go.Am
open Go.Proofs
theorem name_of {nx:Int} {rs:List SetR} (R:RightP nx rs) {f:ByteArray} {j:Nat} {r:SetR} (hl:lookOf rs (spl f)=some j) (hr:rs[j]?= some r):fullR rs r.id=f:=by
 cases hv:volOf (spl f) with
 | some a=>exact vol_name R (by rw[hv]; rfl) hl hr
 | none=>
   cases hs:snapOf (spl f) with
   | none=>
     cases he:spl f with
     | none=>rw[he] at hl; cases hl
     | some q=>
       obtain⟨a,b⟩:=q
       rw[he] at hv hs
       unfold volOf at hv
       unfold snapOf at hs
       simp only at hv hs
       split at hv
       ·cases hv
       ·rename_i hn
        rw[if_neg hn] at hs
        cases hs
   | some q=>
     obtain⟨a,b⟩:=q
     have hsn:=snap_snap R hs hl hr
     obtain⟨e,hb,na,nb,rfl⟩:=snap_self hs
     rw[e] at hl
     have hl2:lookN rs a b=some j:=hl
     unfold lookN at hl2
     cases hp:plcC rs (0,a) with
     | none=>rw[hp] at hl2; cases hl2
     | some i=>
       rw[hp] at hl2
       simp only at hl2
       rw[if_neg hb] at hl2
       obtain⟨v,hi,hk⟩:=plcC_at hp
       rw[hi] at hl2
       simp only at hl2
       obtain⟨r2,q1,q2⟩:=plcC_at hl2
       rw[hr] at q1
       cases q1
       have hva:v.name=a:=congrArg Prod.snd hk
       have hrb:r.name=b:=congrArg Prod.snd q2
       have hown:r.own=v.id:=by
        have:=congrArg Prod.fst q2
        unfold calK at this
        simp only at this
        rw[if_pos hsn] at this
        exact this
       unfold fullR
       rw[R.uniq hr]
       simp only
       rw[hr]
       simp only
       rw[if_pos hsn,hown,R.uniq hi]
       simp only
       rw[hi]
       simp only
       rw[hva,hrb]
theorem full_inj {nx:Int} {rs:List SetR} (R:RightP nx rs) {i j:Nat} {r r2:SetR} (hi:rs[i]?= some r) (hj:rs[j]?= some r2) (e:fullR rs r.id=fullR rs r2.id):i=j:=by
 obtain⟨a,b,h1,h2⟩:=R.called hi
 obtain⟨a2,b2,h3,h4⟩:=R.called hj
 have s1:=spl_some h1
 have s2:=spl_some h3
 rw[e,s2] at s1
 cases s1
 rw[h2] at h4
 exact Option.some.inj h4
def SnapAt (s:MSt) (q B:Int) (name:ByteArray) (t:List Value):Prop:=∃j:Nat,∃r:SetR,s.rs[j]?= some r∧r.id=q∧r.snap=true∧r.blocks=B∧fullR s.rs q=name∧s.T q=t
theorem readM_snap {nx:Int} {s:MSt} {q B:Int} {name:ByteArray} {t:List Value} (R:RightP nx s.rs) (S:SnapAt s q B name t) (i:Int):readM s name i=if i < 0∨B≤i then (zeroS,176) else ((blkAt t i.toNat).take 128,0):=by
 obtain⟨j,r,h1,rfl,h3,rfl,rfl,rfl⟩:=S
 obtain⟨a,b,q1,q2⟩:=R.called h1
 have hf:findM s.rs (spl (fullR s.rs r.id)) i=if i < 0∨r.blocks≤i then (zeroR,176) else (r,0):=by
  unfold findM
  rw[spl_some q1,show lookOf s.rs (some (a,b))=some j from q2]
  simp only
  rw[h1]
 unfold readM
 rw[hf]
 split
 ·rfl
 ·rfl
def Sub (P:SetR→Prop) (rs rs' : List SetR):Prop:=∀r∈rs,P r→∃r'∈rs',r'.id=r.id∧r'.own=r.own∧r'.name=r.name∧r'.snap=r.snap∧r'.blocks=r.blocks
theorem fullR_at {nx:Int} {rs:List SetR} (R:RightP nx rs) {r v:SetR} (hr:r∈rs) (hs:r.snap=true) (hv:v∈rs) (hid:v.id=r.own):fullR rs r.id=v.name ++ atB ++ r.name:=by
 obtain⟨i,hi⟩:=List.mem_iff_getElem?.1 hr
 obtain⟨k,hk⟩:=List.mem_iff_getElem?.1 hv
 have u1:=R.uniq hi
 have u2:=R.uniq hk
 rw[hid] at u2
 unfold fullR
 rw[u1]
 simp only
 rw[hi]
 simp only
 rw[if_pos hs,u2]
 simp only
 rw[hk]
theorem SnapAt.sub {nx nx' : Int} {s s' : MSt} {q B:Int} {name:ByteArray} {t:List Value} {P:SetR→Prop} (R:RightP nx s.rs) (R' : RightP nx' s'.rs) (S:SnapAt s q B name t) (k:Sub P s.rs s'.rs) (hq:∀r∈s.rs,r.id=q→P r) (ho:∀r∈s.rs,r.id=q→∀v∈s.rs,v.snap=false→v.id=r.own→P v) (hT:s'.T q=s.T q):SnapAt s' q B name t:=by
 obtain⟨j,r,h1,h2,h3,h4,h5,h6⟩:=S
 have hr:=List.mem_of_getElem? h1
 obtain⟨jv,v,p1,p2,p3,p4⟩:=R.vol hr
 have hv:=List.mem_of_getElem? p2
 have hvid:v.id=r.own:=by
  obtain⟨hj,e⟩:=plcN_at p1
  rw[List.getElem?_eq_getElem hj] at p2
  cases p2
  exact e
 obtain⟨r',m1,e1,e2,e3,e4,e5⟩:=k r hr (hq r hr h2)
 obtain⟨v',m2,f1,f2,f3,f4,f5⟩:=k v hv (ho r hr h2 v hv p3 hvid)
 obtain⟨j',hj'⟩:=List.mem_iff_getElem?.1 m1
 refine⟨j',r',hj',e1.trans h2,e4.trans h3,e5.trans h4,?_,hT.trans h6⟩
 have a1:=fullR_at R hr h3 hv hvid
 have a2:=fullR_at R' m1 (e4.trans h3) m2 (by rw[f1,hvid,e2])
 rw[←h5,←h2,a1,←e1,a2,f3,e3]
theorem Sub.app {rs l:List SetR}:Sub (fun (_:SetR)=>True) rs (rs ++ l):=fun r hr _=>⟨r,List.mem_append_left _ hr,rfl,rfl,rfl,rfl,rfl⟩
theorem Sub.refl {rs:List SetR}:Sub (fun (_:SetR)=>True) rs rs:=fun r hr _=>⟨r,hr,rfl,rfl,rfl,rfl,rfl⟩
theorem Sub.map {rs l:List SetR} {F:SetR→SetR} (h:∀r:SetR,(F r).id=r.id∧(F r).own=r.own∧(F r).name=r.name∧(F r).snap=r.snap∧(F r).blocks=r.blocks):Sub (fun (_:SetR)=>True) rs (rs.map F ++ l):=fun r hr _=>⟨F r,List.mem_append_left _ (List.mem_map.2 ⟨r,hr,rfl⟩),h r⟩
theorem createF_sub (nx:Int) (rs:List SetR) (o:Option (ByteArray×ByteArray)) (k:Int):Sub (fun (_:SetR)=>True) rs (createF nx rs o k).2.1:=by
 unfold createF
 repeat' split
 all_goals first | exact Sub.app | exact Sub.refl
theorem cloneA_sub (nx:Int) (rs:List SetR) (o o2:Option (ByteArray×ByteArray)):Sub (fun (_:SetR)=>True) rs (cloneA nx rs o o2).2.1:=by
 unfold cloneA
 repeat' split
 all_goals first | exact Sub.app | exact Sub.refl
theorem snapA_sub (nx:Int) (rs:List SetR) (o:Option (ByteArray×ByteArray)) (st:Int):Sub (fun (_:SetR)=>True) rs (snapA nx rs o st).2.1:=by
 unfold snapA
 repeat' split
 all_goals first | exact Sub.map fun r=>(by unfold snapF; split <;> exact⟨rfl,rfl,rfl,rfl,rfl⟩) | exact Sub.refl
theorem backA_sub (nx:Int) (rs:List SetR) (o:Option (ByteArray×ByteArray)):Sub (fun (_:SetR)=>True) rs (backA nx rs o).2.1:=by
 unfold backA
 repeat' split
 all_goals first | exact Sub.refl | skip
 rw[←List.append_nil (rs.map _)]
 exact Sub.map fun r=>(by unfold backF; split <;> exact⟨rfl,rfl,rfl,rfl,rfl⟩)
theorem findR_id (rs:List SetR) (id:Int):(findR rs id).id=id∨(findR rs id).id=0:=by
 unfold findR
 cases h:plcN rs id with
 | none=>exact .inr rfl
 | some i=>
   obtain⟨hi,e⟩:=plcN_at h
   simp only
   rw[List.getElem?_eq_getElem hi]
   exact .inl e
theorem SnapAt.grow {nx' : Int} {s s' : MSt} {q B:Int} {name:ByteArray} {t:List Value} {rs' : List SetR} {e:Int} (R:RightP s.nx s.rs) (R' : RightP nx' rs') (S:SnapAt s q B name t) (k:Sub (fun (_:SetR)=>True) s.rs rs') (hs:s'.rs=s.rs∧s'.T=s.T∧s'.nx=s.nx):SnapAt (growM s' nx' rs' e) q B name t:=by
 obtain⟨j,r,h1,h2, -⟩:=id S
 have hr:=List.mem_of_getElem? h1
 have hq:=(R.ent hr).1.1
 have hlt:=(R.2.2.1 j r h1).2.1
 unfold growM
 split
 ·refine S.sub R (s':=bookM _ nx' rs') R' k (fun _ _ _=>trivial) (fun _ _ _ _ _ _ _=>trivial) ?_
  show (if q=(findR rs' s'.nx).id then _ else s'.T q)=s.T q
  rw[hs.2.2,if_neg,hs.2.1]
  rcases findR_id rs' s.nx with e | e <;> rw[e] <;> omega
 ·refine S.sub R (s':=s') (by rw[hs.1]; exact R) (by rw[hs.1]; exact Sub.refl) (fun _ _ _=>trivial) (fun _ _ _ _ _ _ _=>trivial) (by rw[hs.2.1])
theorem SnapAt.ne {nx:Int} {s:MSt} {q B:Int} {name:ByteArray} {t:List Value} (R:RightP nx s.rs) (S:SnapAt s q B name t) {i:Nat} {v:SetR} (hv:s.rs[i]?= some v) (hs:v.snap=false):v.id≠q:=by
 rintro rfl
 obtain⟨j,r,h1,h2,h3, -⟩:=S
 have u1:=R.uniq h1
 have u2:=R.uniq hv
 rw[h2,u2] at u1
 cases u1
 rw[hv] at h1
 cases h1
 rw[hs] at h3
 cases h3
theorem SnapAt.at {s s' : MSt} {q B:Int} {name:ByteArray} {t:List Value} (S:SnapAt s q B name t) (h1:s'.rs=s.rs) (h2:s'.T q=s.T q):SnapAt s' q B name t:=by
 obtain⟨j,r,p1,p2,p3,p4,p5,p6⟩:=S
 exact⟨j,r,by rw[h1]; exact p1,p2,p3,p4,by rw[h1]; exact p5,h2.trans p6⟩
section
variable {b:Int} {h:AH} {mb bm:Nat} {s:MSt} {q B:Int} {name:ByteArray} {t0:List Value}
theorem snap_back (M:ModOk b h mb bm s) (S:SnapAt s q B name t0) (f:ByteArray):SnapAt (backM s f).1 q B name t0:=by
 have R:=M.right
 unfold backM
 split
 ·rename_i h0
  refine S.sub R (s':=bookM _ _ _) (backA_right R f) (backA_sub _ _ _) (fun _ _ _=>trivial) (fun _ _ _ _ _ _ _=>trivial) ?_
  show (if q=(backA s.nx s.rs (spl f)).2.2.1.id then _ else s.T q)=s.T q
  rw[if_neg]
  obtain⟨j0,r0,w1,w2, -⟩:=id S
  have hq:=(R.ent (List.mem_of_getElem? w1)).1.1
  rw[w2] at hq
  unfold backA
  cases hv:volOf (spl f) with
  | none=>show q≠0; omega
  | some a=>
    simp only
    cases hl:lookOf s.rs (spl f) with
    | none=>show q≠0; omega
    | some i=>
      simp only
      cases hi:s.rs[i]? with
      | none=>show q≠0; omega
      | some v=>
        simp only
        have hne:=S.ne R hi (vol_snap R hv hl hi)
        cases plcN s.rs v.prev with
        | none=>show q≠0; omega
        | some j=>
          simp only
          cases s.rs[j]? with
          | none=>show q≠0; omega
          | some x=>exact fun e=>hne e.symm
 ·exact S
theorem snap_wt (M:ModOk b h mb bm s) (S:SnapAt s q B name t0) {k:Int} (hk:k=1∨k=2) (f t:ByteArray) (i:Int) {ds:List Nat} (hd:∀x∈ds,x < 256) (hmd:s.md+1≤1000000):SnapAt (doM s k f t i ds).1 q B name t0:=by
 obtain⟨e1,e2,e3⟩:=wt_doM M hk f t i hd hmd
 refine S.at e1 ?_
 by_cases h0:(doM s k f t i ds).2.2=0
 ·obtain⟨j,r,l,p1,p2,p3, -, -, -,p4⟩:=e3 h0
  rw[p4]
  obtain⟨a,ha⟩:=Option.isSome_iff_exists.1 p1
  have:=S.ne M.right p3 (vol_snap M.right ha p2 p3)
  show (if q=r.id then _ else s.T q)=s.T q
  rw[if_neg (Ne.symm this)]
 ·rw[e2 h0]
theorem snap_destroy (M:ModOk b h mb bm s) (S:SnapAt s q B name t0) {f:ByteArray} (hf:f≠name):SnapAt (destroyM s f).1 q B name t0:=by
 have R:=M.right
 obtain⟨j0,r0,w1,w2,w3,w4,w5,w6⟩:=id S
 have hr0:=List.mem_of_getElem? w1
 have hq:=(R.ent hr0).1.1
 rw[w2] at hq
 unfold destroyM
 split
 rotate_left
 ·exact S
 rename_i h0
 have go:∀{nx' : Int} {rs' : List SetR} {o:SetR} {i:Nat},lookOf s.rs (spl f)=some i→s.rs[i]?= some o→RightP nx' rs'→Sub (fun r=>r.id≠o.id) s.rs rs'→(∀r∈s.rs,r.id=q→∀v∈s.rs,v.snap=false→v.id=r.own→v.id≠o.id)→SnapAt (bookM (delM s (namedR s.rs (spl f)).id) nx' rs') q B name t0:=fun {nx' rs' o i} hl ho R' hsub hown=>by
  have hn:(namedR s.rs (spl f)).id=o.id:=by unfold namedR; rw[hl]; simp only; rw[ho]; rfl
  have hne:o.id≠q:=fun e=>hf (by rw[←name_of R hl ho,e]; exact w5)
  refine S.sub R (s':=bookM _ nx' rs') R' hsub (fun r _ e=>by rw[e]; exact Ne.symm hne) hown ?_
  show (if q=(namedR s.rs (spl f)).id then _ else s.T q)=s.T q
  rw[hn,if_neg (Ne.symm hne)]
 have same:∀{e:Int},(lookOf s.rs (spl f)=none∨True)→SnapAt (bookM (delM s (namedR s.rs (spl f)).id) s.nx s.rs) q B name t0∨True:=fun _=>.inr trivial
 cases hs:spl f with
 | none=>rw[hs] at h0; exact absurd (show (141:Int)=0 from h0) (by decide)
 | some ab=>
   obtain⟨a,bb⟩:=ab
   rw[←hs]
   by_cases hb:bb=noB
   ·have hD:dropA s.nx s.rs (spl f)=((dropVolA s.nx s.rs (spl f)).1,(dropVolA s.nx s.rs (spl f)).2.1,(dropVolA s.nx s.rs (spl f)).2.2.2):=by
     rw[hs]; unfold dropA; simp only; rw[if_pos hb]
    rw[hD] at h0 ⊢
    have hR:=dropVolA_right R f
    simp only at h0 ⊢
    have hv:volOf (spl f)=some a:=by rw[hs]; unfold volOf; simp only; rw[if_pos hb]
    unfold dropVolA at h0 hR ⊢
    rw[hv] at h0 hR ⊢
    simp only at h0 hR ⊢
    cases hl:lookOf s.rs (spl f) with
    | none=>rw[hl] at h0; exact absurd (show (172:Int)=0 from h0) (by decide)
    | some i=>
      rw[hl] at h0 hR
      simp only at h0 hR ⊢
      obtain⟨o,ho⟩:=lookOf_at hl
      rw[ho] at h0 hR ⊢
      simp only at h0 hR ⊢
      split at h0
      ·exact absurd (show (173:Int)=0 from h0) (by decide)
      ·rename_i hz
       rw[if_neg hz] at hR ⊢
       refine go hl ho hR (fun r hr hne=>⟨r,List.mem_filter.2 ⟨hr,by simpa using hne⟩,rfl,rfl,rfl,rfl,rfl⟩) fun r hr e v hv2 hvs hvo hid=>?_
       refine hz (List.length_pos_of_mem (List.mem_filter.2 ⟨hr0,?_⟩))
       have:r=r0:=by
        obtain⟨j2,hj2⟩:=List.mem_iff_getElem?.1 hr
        have u1:=R.uniq hj2
        have u2:=R.uniq w1
        rw[e,←w2,u2] at u1
        cases u1
        rw[w1] at hj2
        exact (Option.some.inj hj2).symm
       subst this
       simp[w3,←hvo,hid]
   ·have hD:dropA s.nx s.rs (spl f)=((dropSnapA s.nx s.rs (lookOf s.rs (spl f)) (snapOf (spl f)).isSome).1,(dropSnapA s.nx s.rs (lookOf s.rs (spl f)) (snapOf (spl f)).isSome).2.1,(dropSnapA s.nx s.rs (lookOf s.rs (spl f)) (snapOf (spl f)).isSome).2.2.2):=by
     rw[hs]; unfold dropA; simp only; rw[if_neg hb]
    rw[hD] at h0 ⊢
    have hR:=dropSnapA_right R f
    simp only at h0 ⊢
    have hv:snapOf (spl f)=some (a,bb):=by rw[hs]; unfold snapOf; simp only; rw[if_neg hb]
    have hv2:(snapOf (spl f)).isSome=true:=by rw[hv]; rfl
    rw[hv2] at h0 hR ⊢
    unfold dropSnapA at h0 hR ⊢
    rw[if_neg (by decide)] at h0 hR ⊢
    cases hl:lookOf s.rs (spl f) with
    | none=>rw[hl] at h0; exact absurd (show (172:Int)=0 from h0) (by decide)
    | some i=>
      rw[hl] at h0 hR
      simp only at h0 hR ⊢
      obtain⟨o,ho⟩:=lookOf_at hl
      rw[ho] at h0 hR ⊢
      simp only at h0 hR ⊢
      have hos:=snap_snap R hv hl ho
      split at h0
      ·exact absurd (show (173:Int)=0 from h0) (by decide)
      ·rename_i hz
       rw[if_neg hz] at hR ⊢
       cases hz1:plcN s.rs (nextR s.rs o.id) with
       | none=>rw[hz1] at h0; exact absurd (show (172:Int)=0 from h0) (by decide)
       | some j=>
         rw[hz1] at h0 hR
         simp only at h0 hR ⊢
         obtain⟨hj, -⟩:=plcN_at hz1
         rw[List.getElem?_eq_getElem hj] at h0 hR ⊢
         simp only at h0 hR ⊢
         cases hm:mrg (oldD (flr s.rs o.id) s.rs[j].dead) o.dead with
         | none=>rw[hm] at h0; exact absurd (show (131:Int)=0 from h0) (by decide)
         | some d=>
           rw[hm] at h0 hR
           simp only at h0 hR ⊢
           split at h0
           ·exact absurd (show (131:Int)=0 from h0) (by decide)
           ·rename_i hd
            rw[if_neg hd] at hR ⊢
            refine go hl ho hR (fun r hr hne=>⟨dropF s.rs[j] o.prev d r,List.mem_filter.2 ⟨List.mem_map.2 ⟨r,hr,rfl⟩,?_⟩,?_⟩) fun r hr e v hv3 hvs hvo hid=>?_
            ·have:=(dropF_id s.rs[j] o.prev d r).1
             rw[this]
             simpa using hne
            ·unfold dropF
             split <;> exact⟨rfl,rfl,rfl,rfl,rfl⟩
            ·obtain⟨jv,hjv⟩:=List.mem_iff_getElem?.1 hv3
             have u1:=R.uniq hjv
             have u2:=R.uniq ho
             rw[hid,u2] at u1
             cases u1
             rw[ho] at hjv
             cases hjv
             rw[hvs] at hos
             cases hos
theorem snap_do (M:ModOk b h mb bm s) (S:SnapAt s q B name t0) (hb:b+1≤1000000) {k:Int} (f t:ByteArray) (i:Int) {ds:List Nat} (hd:∀x∈ds,x < 256) (h6:k≠6) (h8:k=8→f≠name):SnapAt (doM s k f t i ds).1 q B name t0:=by
 have R:=M.right
 have h1:=M.nx
 have h2:=M.md
 have h3:=M.bd
 by_cases k12:k=1∨k=2
 ·exact snap_wt M S k12 f t i hd (by omega)
 unfold doM
 split
 ·exact S.grow R (createF_right R h1.1 (by omega) f i) (createF_sub _ _ _ _) ⟨rfl,rfl,rfl⟩
 ·rw[if_neg (by omega),if_neg (by omega)]
  split
  ·exact S
  ·split
   ·refine S.grow R (snapA_right R h1.1 (by omega) f s.st) (snapA_sub _ _ _ _) ?_
    split <;> exact⟨rfl,rfl,rfl⟩
   ·split
    ·exact S.grow R (cloneA_right R h1.1 (by omega) f t) (cloneA_sub _ _ _ _) ⟨rfl,rfl,rfl⟩
    ·split
     ·exact snap_back M S f
     ·split
      ·rename_i k8
       exact snap_destroy M S (h8 k8)
      ·split
       ·exact S.at rfl rfl
       ·exact S
theorem snap_prom (M:ModOk b h mb bm s) (S:SnapAt s q B name t0) (f t:ByteArray) (i:Int) (ds:List Nat):∃j:Nat,SnapAt (doM s 6 f t i ds).1 q B (fullR (doM s 6 f t i ds).1.rs q) t0∧(doM s 6 f t i ds).1.rs.length=s.rs.length∧(∃r:SetR,s.rs[j]?= some r∧fullR s.rs r.id=name)∧∃r:SetR,(doM s 6 f t i ds).1.rs[j]?= some r∧r.id=q:=by
 have R:=M.right
 obtain⟨j,r,w1,w2,w3,w4,w5,w6⟩:=id S
 have e:doM s 6 f t i ds=(if (promA s.nx s.rs (spl f)).2.2=0 then bookM s (promA s.nx s.rs (spl f)).1 (promA s.nx s.rs (spl f)).2.1 else s,zeroS,(promA s.nx s.rs (spl f)).2.2):=by
  unfold doM
  rw[if_neg (by decide),if_neg (by decide),if_neg (by decide),if_neg (by decide),if_neg (by decide),if_neg (by decide),if_pos rfl]
 have hm:∃F:SetR→SetR,(∀r:SetR,(F r).id=r.id∧(F r).snap=r.snap∧(F r).blocks=r.blocks)∧(promA s.nx s.rs (spl f)).2.1=s.rs.map F:=by
  unfold promA
  repeat' split
  all_goals first | exact⟨id,fun _=>⟨rfl,rfl,rfl⟩,(List.map_id _).symm⟩ | exact⟨_,fun r=>(by unfold promF; split <;> exact⟨rfl,rfl,rfl⟩),rfl⟩
 obtain⟨F,hF,hm⟩:=hm
 refine⟨j,?_⟩
 rw[e]
 simp only
 split
 ·have hj:(s.rs.map F)[j]?= some (F r):=by rw[List.getElem?_map,w1]; rfl
  refine⟨⟨j,F r,by show (promA s.nx s.rs (spl f)).2.1[j]?= _; rw[hm]; exact hj,(hF r).1.trans w2,(hF r).2.1.trans w3,(hF r).2.2.trans w4,rfl,w6⟩,by show (promA s.nx s.rs (spl f)).2.1.length=_; rw[hm]; simp,⟨r,w1,by rw[w2]; exact w5⟩,F r,by show (promA s.nx s.rs (spl f)).2.1[j]?= _; rw[hm]; exact hj,(hF r).1.trans w2⟩
 ·exact⟨⟨j,r,w1,w2,w3,w4,rfl,w6⟩,rfl,⟨r,w1,by rw[w2]; exact w5⟩,r,w1,w2⟩
theorem snap_new (M:ModOk b h mb bm s) (hb:b+1≤1000000) (f t:ByteArray) (i:Int) (ds:List Nat) (h0:(doM s 4 f t i ds).2.2=0):∃q B,SnapAt (doM s 4 f t i ds).1 q B f ((doM s 4 f t i ds).1.T q):=by
 have R:=M.right
 have h1:=M.nx
 have h3:=M.bd
 have e:doM s 4 f t i ds=(growM (if (snapA s.nx s.rs (spl f) s.st).2.2=0 then stampM s else s) (snapA s.nx s.rs (spl f) s.st).1 (snapA s.nx s.rs (spl f) s.st).2.1 (snapA s.nx s.rs (spl f) s.st).2.2,zeroS,(snapA s.nx s.rs (spl f) s.st).2.2):=by
  unfold doM
  rw[if_neg (by decide),if_neg (by decide),if_neg (by decide),if_neg (by decide),if_pos rfl]
 rw[e] at h0 ⊢
 simp only at h0 ⊢
 have R':=snapA_right R h1.1 (by omega) f s.st
 rw[h0]
 unfold growM
 rw[if_pos rfl]
 unfold snapA at h0 R' ⊢
 cases hs:snapOf (spl f) with
 | none=>rw[hs] at h0; exact absurd (show (141:Int)=0 from h0) (by decide)
 | some ab=>
   obtain⟨a,bb⟩:=ab
   rw[hs] at h0 R'
   simp only at h0 R' ⊢
   obtain⟨e1,hbn,na,nb,hfn⟩:=snap_self hs
   cases hl:lookN s.rs a noB with
   | none=>rw[hl] at h0; exact absurd (show (172:Int)=0 from h0) (by decide)
   | some j=>
     rw[hl] at h0 R'
     simp only at h0 R' ⊢
     split at h0
     ·exact absurd (show (175:Int)=0 from h0) (by decide)
     ·rename_i h32
      rw[if_neg h32] at R' ⊢
      cases hl2:lookOf s.rs (spl f) with
      | some j2=>rw[hl2] at h0; exact absurd (show (171:Int)=0 from h0) (by decide)
      | none=>
        rw[hl2] at h0 R'
        simp only at h0 R' ⊢
        have hva:volOf (some (a,noB))=some a:=by unfold volOf; simp only; rw[if_pos trivial]
        have hj:∃v,s.rs[j]?= some v:=lookOf_at (o:=some (a,noB)) hl
        obtain⟨v,hv⟩:=hj
        rw[hv] at h0 R' ⊢
        simp only at h0 R' ⊢
        split at h0
        ·exact absurd (show (176:Int)=0 from h0) (by decide)
        ·rename_i hst
         rw[if_neg hst] at R' ⊢
         have hvs:=vol_snap R hva hl hv
         have hvn:v.name=a:=by
          unfold lookN at hl
          cases hp:plcC s.rs (0,a) with
          | none=>rw[hp] at hl; cases hl
          | some j2=>
            rw[hp] at hl
            simp only at hl
            rw[if_pos trivial] at hl
            cases hl
            obtain⟨r2,q1,q2⟩:=plcC_at hp
            rw[hv] at q1
            cases q1
            exact congrArg Prod.snd q2
         have m1:snapR s.nx v bb s.st∈s.rs.map (snapF s.nx v) ++ [snapR s.nx v bb s.st]:=List.mem_append_right _ (List.mem_singleton.2 rfl)
         have m2:snapF s.nx v v∈s.rs.map (snapF s.nx v) ++ [snapR s.nx v bb s.st]:=List.mem_append_left _ (List.mem_map.2 ⟨v,List.mem_of_getElem? hv,rfl⟩)
         obtain⟨jj,hjj⟩:=List.mem_iff_getElem?.1 m1
         refine⟨s.nx,v.blocks,jj,snapR s.nx v bb s.st,hjj,rfl,rfl,rfl,?_,rfl⟩
         have:=fullR_at R' m1 rfl m2 (snapF_id s.nx v v).1
         rw[(snapF_id s.nx v v).2.2.2,hvn] at this
         rw[hfn]
         exact this
end
end Go.Am
/-
 VERSIONS in a model; which blocks are written.
-/
set_option linter.unusedVariables false
set_option linter.unusedSimpArgs false
set_option maxRecDepth 100000
namespace Go.Am
open Go.Proofs
def verB (l:List Value):Int:=match (l[128]? : Option Value) with | some (.int .u64 v)=>v | _=>0
def verAt (l:List Value) (i:Nat):Int:=verB (blkAt l i)
theorem BlkOk.ver {l:List Value} (k:BlkOk l):l[128]?= some (.int .u64 (verB l))∧(Lit.int .u64 (verB l)).wf=true:=by
 obtain⟨bs,v,rfl,h1, -,h3⟩:=k
 have e:(natC .u8 bs ++ [Value.int .u64 v])[128]?= some (.int .u64 v):=by
  rw[List.getElem?_append_right (by rw[natC_len]; omega),natC_len,h1]
  rfl
 have e2:verB (natC .u8 bs ++ [Value.int .u64 v])=v:=by unfold verB; rw[e]
 rw[e2]
 exact⟨e,h3⟩
theorem TextOk.ver {l:List Value} (T:TextOk l) {i:Nat} (hi:i < 64):l[i * 129+128]?= some (.int .u64 (verAt l i))∧(Lit.int .u64 (verAt l i)).wf=true:=by
 obtain⟨h1,h2⟩:=(T.2 i hi).ver
 refine⟨?_,h2⟩
 have:(blkAt l i)[128]?= l[i * 129+128]?:=by
  unfold blkAt
  rw[List.getElem?_take,if_pos (by omega),List.getElem?_drop]
 rw[←this]
 exact h1
theorem vers_drop {l:List Value} (T:TextOk l):∀(k j:Nat),j+k=64→versOf k (l.drop (j * 129))=some ((List.range' j k).map (verAt l))
 | 0,j,h=>by
   rw[List.drop_of_length_le (by rw[T.1]; omega)]
   rfl
 | k+1,j,h=>by
   obtain⟨h1,h2⟩:=T.ver (i:=j) (by omega)
   have hlt:j * 129+128 < l.length:=by rw[T.1]; omega
   have e:(l.drop (j * 129)).drop 128=.int .u64 (verAt l j) :: l.drop ((j+1) * 129):=by
    rw[List.drop_drop,List.drop_eq_getElem_cons hlt]
    rw[List.getElem?_eq_getElem hlt] at h1
    rw[Option.some.inj h1,show j * 129+128+1=(j+1) * 129 by omega]
   unfold versOf
   rw[e]
   simp only
   rw[h2,cond_true,vers_drop T k (j+1) (by omega)]
   rfl
theorem vers_text {l:List Value} (T:TextOk l):versOf 64 l=some ((List.range' 0 64).map (verAt l)):=by
 have:=vers_drop T 64 0 rfl
 rwa [Nat.zero_mul,List.drop_zero] at this
theorem addV_fold:∀{vs S:List Int},S.Nodup→(vs.foldl addV S).Nodup∧∀x,x∈vs.foldl addV S↔x∈S∨(x∈vs∧x≠0)
 | [],S,h=>⟨h,fun x=>by simp⟩
 | v :: vs,S,h=>by
   have h1:(addV S v).Nodup∧∀x,x∈addV S v↔x∈S∨(x=v∧x≠0):=by
    unfold addV
    cases hb:(v == 0 || S.contains v) with
    | true=>
      refine⟨h,fun x=>⟨.inl,?_⟩⟩
      rintro (hx | ⟨rfl,hx⟩)
      ·exact hx
      ·simp only[Bool.or_eq_true,beq_iff_eq,List.contains_iff_mem] at hb
       rcases hb with hb | hb
       ·exact absurd hb hx
       ·exact hb
    | false=>
      simp only[Bool.or_eq_false_iff,beq_eq_false_iff_ne] at hb
      have hn:v∉S:=fun q=>by
       have:=List.contains_iff_mem.2 q
       rw[hb.2] at this
       cases this
      refine⟨List.nodup_append.2 ⟨h,by simp,fun a ha c hc e=>?_⟩,fun x=>?_⟩
      ·rw[List.mem_singleton.1 hc] at e
       exact hn (e▸ha)
      ·show x∈S ++ [v]↔_
       rw[List.mem_append,List.mem_singleton]
       constructor
       ·rintro (hx | rfl)
        ·exact .inl hx
        ·exact .inr ⟨rfl,hb.1⟩
       ·rintro (hx | ⟨hx, -⟩)
        ·exact .inl hx
        ·exact .inr hx
   obtain⟨h2,h3⟩:=addV_fold (vs:=vs) h1.1
   refine⟨h2,fun x=>?_⟩
   rw[List.foldl_cons,h3,h1.2,List.mem_cons]
   constructor
   ·rintro ((hx | ⟨rfl,hx⟩) | ⟨hx,h0⟩)
    ·exact .inl hx
    ·exact .inr ⟨.inl rfl,hx⟩
    ·exact .inr ⟨.inr hx,h0⟩
   ·rintro (hx | ⟨rfl | hx,h0⟩)
    ·exact .inl (.inl hx)
    ·exact .inl (.inr ⟨rfl,h0⟩)
    ·exact .inr ⟨hx,h0⟩
theorem versE_ok:∀{es:List MapEntry} {M:List (Int×List Value)} {S:List Int},es.map (·.key)=M.map (fun p=>Value.int .u64 p.1)→es.map (·.val)=M.map (fun p=>Value.agg p.2.toArray)→(∀p∈M,TextOk p.2)→S.Nodup→
 ∃S',versE 64 es S=some S'∧S'.Nodup∧∀x,x∈S'↔x∈S∨(x≠0∧∃p∈M,∃i,i < 64∧verAt p.2 i=x)
 | [],[],S,_,_,_,hn=>⟨S,rfl,hn,fun x=>⟨.inl,fun h=>h.elim id fun ⟨_,p,hp,_⟩=>(by cases hp)⟩⟩
 | e :: es,(y,l) :: M,S,hk,hv,hw,hn=>by
   simp only[List.map_cons,List.cons.injEq] at hk hv
   obtain⟨a1,a2⟩:=addV_fold (vs:=(List.range' 0 64).map (verAt l)) hn
   obtain⟨S',b1,b2,b3⟩:=versE_ok hk.2 hv.2 (fun p hp=>hw p (List.mem_cons_of_mem _ hp)) a1
   refine⟨S',?_,b2,fun x=>?_⟩
   ·unfold versE
    rw[hk.1,hv.1]
    simp only[List.toList_toArray]
    rw[vers_text (hw _ (List.mem_cons_self ..))]
    exact b1
   ·rw[b3,a2]
    constructor
    ·rintro ((hx | ⟨hx,h0⟩) | ⟨h0,p,hp,hx⟩)
     ·exact .inl hx
     ·obtain⟨i,hi,e⟩:=List.mem_map.1 hx
      exact .inr ⟨h0,_,List.mem_cons_self ..,i,by have:=List.mem_range'_1.1 hi; omega,e⟩
     ·exact .inr ⟨h0,p,List.mem_cons_of_mem _ hp,hx⟩
    ·rintro (hx | ⟨h0,p,hp,i,hi,e⟩)
     ·exact .inl (.inl hx)
     ·rcases List.mem_cons.1 hp with rfl | hp
      ·exact .inl (.inr ⟨List.mem_map.2 ⟨i,List.mem_range'_1.2 ⟨by omega,by omega⟩,e⟩,h0⟩)
      ·exact .inr ⟨h0,p,hp,i,hi,e⟩
 | [],_ :: _,_,hk,_,_,_=>by cases hk
 | _ :: _,[],_,hk,_,_,_=>by cases hk
theorem verB_zero:verB zeroB=0:=by kernel_rfl
theorem verAt_zero {i:Nat} (hi:i < 64):verAt zeroT i=0:=by unfold verAt; rw[zeroT_at hi]; exact verB_zero
def InV (T:Int→List Value) (x:Int):Prop:=x≠0∧∃id i,i < 64∧verAt (T id) i=x
theorem nodup_leM:∀{A B:List Int},A.Nodup→(∀x∈A,x∈B)→A.length≤B.length
 | [],B,_,_=>Nat.zero_le _
 | x :: A,B,h,hs=>by
   rw[List.nodup_cons] at h
   have hx:=hs x (List.mem_cons_self ..)
   have:=nodup_leM (B:=B.erase x) h.2 fun y hy=>(List.mem_erase_of_ne fun e=>h.1 (by rw[←e]; exact hy)).2 (hs y (List.mem_cons_of_mem _ hy))
   rw[List.length_erase_of_mem hx] at this
   have hp:=List.length_pos_of_mem hx
   simp only[List.length_cons]
   omega
section
variable {K:Xs} {b:Int} {h:AH} {mb bm:Nat} {s:MSt}
theorem versSpec (hv:K 10=some (.sum (xVersions 64))) (M:ModOk b h mb bm s):
 Wf Try.prog K 10 [.pointer (some ⟨mb,0,none⟩)] h fun v h'=>∃S:List Int,v=.int .i64 (S.length:Int)∧S.Nodup∧(∀x,x∈S↔InV s.T x)∧Old h h':=by
 obtain⟨p,n,c,hc, -⟩:=M.cells
 obtain⟨es,clock,h1,h2,L,h3,h4,h5,h6,h7⟩:=M.map.get
 obtain⟨S,q1,q2,q3⟩:=versE_ok (S:=[]) h3 h4 (fun p hp=>(h5 p hp).2) List.nodup_nil
 have hg:xVersions 64 [.pointer (some ⟨mb,0,none⟩)] h=some (.int .i64 (S.length:Int),⟨h.tr,h.next+2+es.length⟩):=by
  unfold xVersions
  simp only
  rw[hc]
  simp only
  have:(modC s.nx p n c (some bm) s.st s.md)[0+2]?= some (.map (some bm)):=rfl
  rw[this]
  simp only
  rw[h1]
  simp only
  rw[h2,cond_true,q1]
 refine Wf_sum hv hg (by show h.next≤h.next+2+es.length; omega) ⟨S,rfl,q2,fun x=>?_,by show h.next≤h.next+2+es.length; omega,fun y _=>rfl⟩
 rw[q3]
 constructor
 ·rintro (hx | ⟨h0,p,hp,i,hi,e⟩)
  ·cases hx
  ·exact⟨h0,p.1,i,hi,by rw[h7,look_of h6 hp]; exact e⟩
 ·rintro⟨h0,id,i,hi,e⟩
  rw[h7] at e
  by_cases he:∃p∈L,p.1=id
  ·obtain⟨p,hp,rfl⟩:=he
   rw[look_of h6 hp] at e
   exact .inr ⟨h0,p,hp,i,hi,e⟩
  ·rw[look_no fun p hp q=>he ⟨p,hp,q⟩,verAt_zero hi] at e
   exact absurd e.symm h0
/-! ## What an act does to the versions -/
theorem inv_copy {id src x:Int} (h:InV (copyM s id src).T x):InV s.T x:=by
 obtain⟨h0,j,i,hi,e⟩:=h
 have e' : verAt (if j=id then s.T src else s.T j) i=x:=e
 split at e'
 ·exact⟨h0,src,i,hi,e'⟩
 ·exact⟨h0,j,i,hi,e'⟩
theorem inv_del {id x:Int} (h:InV (delM s id).T x):InV s.T x:=by
 obtain⟨h0,j,i,hi,e⟩:=h
 have e' : verAt (if j=id then zeroT else s.T j) i=x:=e
 split at e'
 ·rw[verAt_zero hi] at e'
  exact absurd e'.symm h0
 ·exact⟨h0,j,i,hi,e'⟩
theorem inv_put (hT:∀id,TextOk (s.T id)) {id x:Int} {i:Nat} {l:List Value} (hi:i < 64) (hl:l.length=129) (h:InV (putM s id i l).T x):InV s.T x∨(x≠0∧x=verB l):=by
 obtain⟨h0,j,q,hq,e⟩:=h
 have e' : verAt (if j=id then setBlk (s.T id) i l else s.T j) q=x:=e
 split at e'
 ·unfold verAt at e'
  rw[blkAt_set (hT id).1 hl hi hq] at e'
  split at e'
  ·exact .inr ⟨h0,e'.symm⟩
  ·exact .inl ⟨h0,id,q,hq,e'⟩
 ·exact .inl ⟨h0,j,q,hq,e'⟩
theorem inv_grow {s' : MSt} {nx' : Int} {rs' : List SetR} {e x:Int} (hs:s'.T=s.T) (h:InV (growM s' nx' rs' e).T x):InV s.T x:=by
 unfold growM at h
 split at h
 ·have:=inv_copy (s:=s') h
  rwa [hs] at this
 ·rwa [hs] at h
theorem inv_do (M:ModOk b h mb bm s) (hb:b+1≤1000000) {k:Int} (f t:ByteArray) (i:Int) {ds:List Nat} (hd:∀x∈ds,x < 256) {x:Int} (hx:InV (doM s k f t i ds).1.T x):InV s.T x∨(k=1∧(doM s k f t i ds).2.2=0∧x=s.md+1):=by
 have hmd:=M.md
 have hbd:=M.bd
 unfold doM at hx ⊢
 split at hx
 ·exact .inl (inv_grow rfl hx)
 ·rename_i k0
  rw[if_neg k0]
  split at hx
  ·rename_i k1
   rw[if_pos k1]
   unfold writeM at hx ⊢
   split at hx
   ·exact .inl hx
   ·rename_i z
    rw[if_neg z]
    split at hx
    ·exact .inl hx
    ·rename_i hle
     rw[if_neg hle]
     obtain⟨e1,e2,e3⟩:=volM_ok (rs:=s.rs) (o:=spl f) (i:=i) (by simpa using z)
     obtain⟨q1,q2⟩:=M.block e2
     have hpad:BlkOk (padB ds (s.md+1)):=padB_ok (by omega) hd (u64Wf ⟨by omega,by omega⟩)
     rcases inv_put (s:={ s with md:=s.md+1 }) (fun id=>M.map.ok id) (by omega) hpad.len hx with h1 | ⟨-,h1⟩
     ·exact .inl h1
     ·refine .inr ⟨k1,rfl,h1.trans ?_⟩
      unfold verB padB
      rw[List.getElem?_append_right (by rw[natC_len]; simp; omega),natC_len]
      have:128 - (ds ++ List.replicate (128 - ds.length) 0).length=0:=by simp; omega
      rw[this]
      rfl
  ·split at hx
   ·unfold trimM at hx
    split at hx
    ·exact .inl hx
    ·rename_i z
     obtain⟨e1,e2,e3⟩:=volM_ok (rs:=s.rs) (o:=spl f) (i:=i) (by simpa using z)
     obtain⟨q1,q2⟩:=M.block e2
     rcases inv_put (fun id=>M.map.ok id) (by omega) zeroB_ok.len hx with h1 | ⟨h0,h1⟩
     ·exact .inl h1
     ·exact absurd (h1.trans verB_zero) h0
   ·split at hx
    ·exact .inl hx
    ·split at hx
     ·refine .inl (inv_grow ?_ hx)
      split <;> rfl
     ·split at hx
      ·exact .inl (inv_grow rfl hx)
      ·split at hx
       ·refine .inl ?_
        split at hx
        ·exact hx
        ·exact hx
       ·split at hx
        ·unfold backM at hx
         split at hx
         ·exact .inl (inv_copy hx)
         ·exact .inl hx
        ·split at hx
         ·unfold destroyM at hx
          split at hx
          ·exact .inl (inv_del hx)
          ·exact .inl hx
         ·split at hx
          ·exact .inl hx
          ·exact .inl hx
/-! ## Which blocks are written -/
def writtenL (l:List Value) (n:Nat):List Nat:=(List.range n).filter fun i=>!decide (verAt l i=0)
noncomputable def wrOf (s:MSt) (f:ByteArray):List Nat:=match lookOf s.rs (spl f) with | none=>[] | some j=>match s.rs[j]? with | none=>[] | some r=>writtenL (s.T r.id) 64
theorem eIntM:ElemOk Try.prog 44 3 1 8:=ElemOk_of (by kernel_rfl)
structure KWrt (K:Xs):Prop where
 written:K 15=none
 same:K 14=none
theorem writtenSpec (kk:KMod K) (kw:KWrt K) (M:ModOk b h mb bm s) (f:ByteArray) (hf:f.size≤9223372036854775806):
 Wf Try.prog K 15 [.pointer (some ⟨mb,0,none⟩),.string f] h fun v h'=>∃p n c,v=.slice p n c∧Shows h' p n 1 (natC .i64 (wrOf s f))∧n≤64∧Old h h':=by
 obtain⟨p,n,c,hc,hbk⟩:=M.cells
 obtain⟨-,xs,B,hx⟩:=id hbk
 have R' : RightP s.nx xs:=M.right.cor hx.symm
 have hlt:=M.lt
 refine vc_model_Model_Written kw.written _ _ h _ (derefP_at ⟨_,_,_,ld1_at hc rfl,(namedSpec kk.named B.1 R'.calOk (ids_wf B.1) f hf).mono ?_⟩)
 rintro v6 g6 ⟨q,o6⟩
 obtain⟨r,e,rfl,hq⟩:∃r e,v6=Value.tuple #[.agg (setC r).toArray,.int .i64 e]∧((e=0∧wrOf s f=writtenL (s.T r.id) 64∧(Lit.int .u64 r.id).wf=true)∨(e≠0∧wrOf s f=[])):=by
  rcases q with ⟨a,b',hsp,⟨j,r,p',c',hl,hr,rfl,ok⟩ | ⟨hl,rfl⟩⟩ | ⟨hno,rfl⟩
  ·refine⟨_,_,rfl,.inl ⟨rfl,?_,ok.id⟩⟩
   rcases getc hx j with ⟨h1,h2⟩ | ⟨a1,a2,h1,h2,h3⟩
   ·rw[hr] at h1; cases h1
   ·rw[hr] at h1
    cases h1
    unfold wrOf
    rw[←lookOf_cor hx,spl_some hsp,show lookOf xs (some (a,b'))=some j from hl]
    simp only
    rw[h2]
    simp only
    rw[(cor_eq h3).1]
  ·refine⟨_,_,rfl,.inr ⟨by decide,?_⟩⟩
   unfold wrOf
   rw[←lookOf_cor hx,spl_some hsp,show lookOf xs (some (a,b'))=none from hl]
  ·refine⟨_,_,rfl,.inr ⟨by decide,?_⟩⟩
   unfold wrOf
   rw[spl_none hno]
   rfl
 refine⟨_,_,_,_,_,_,_,_,_,_,_,_,_,_,rfl,fun g21 e21=>?_⟩
 obtain⟨g22,k22,n22,o22,v22⟩:=put_new e21 (vs:=setC r) rfl
 have w22:=(v22 [] (fun c hc=>by cases hc)).1
 have oh:=o6.trans o22
 refine⟨rfl,g22,k22,fun y=>?_,fun y=>?_⟩
 rotate_left
 ·rcases hq with ⟨h0, -⟩ | ⟨-,hw⟩
  ·exact absurd h0 y
  ·rw[hw]
   exact⟨_,_,_,rfl,⟨rfl,.inl rfl⟩,by omega,oh⟩
 rcases hq with ⟨-,hw,hid⟩ | ⟨h0, -⟩
 rotate_left
 ·exact absurd y h0
 have T:=M.map.ok r.id
 refine derefP_at ⟨_,ld1_at ((oh.2 _ hlt).trans hc) rfl,_,ld1_at w22 rfl,_,(M.old oh).map.lookup hid,fun pp nn cc i k g=>∃t:Nat,i=t∧t≤64∧64 - t=k∧nn≤t∧Grow h.next g 3 1 pp nn cc (natC .i64 (writtenL (s.T r.id) t))∧Old h g,⟨_,0,rfl,by omega,rfl,Nat.le_refl _,Grow.nil _ _ _ _,oh⟩,?_⟩
 rintro k29 g30 p32 n33 c34 i35 ⟨t,rfl,ht,rfl,hnt,G,o30⟩
 refine⟨fun z=>?_,fun z=>?_⟩
 rotate_left
 ·obtain rfl:t=64:=by omega
  rw[hw]
  exact⟨_,_,_,rfl,G.shows,hnt,o30⟩
 have htl:t < 64:=by omega
 have hb129:=(T.2 t htl).len
 refine⟨by omega,z,_,rfl,fun g37 e37=>?_⟩
 rw[Int.toNat_natCast]
 have hbt:List.take 129 (List.drop (t * 129) (s.T r.id))=blkAt (s.T r.id) t:=rfl
 rw[hbt]
 obtain⟨g38,k38,n38,o38,v38⟩:=put_new e37 (vs:=blkAt (s.T r.id) t) (by rw[hb129]; simp)
 have w38:=(v38 [] (fun c hc=>by cases hc)).1
 obtain⟨hv1, -⟩:=(T.2 t htl).ver
 have ht1:writtenL (s.T r.id) (t+1)=if verAt (s.T r.id) t=0 then writtenL (s.T r.id) t else writtenL (s.T r.id) t ++ [t]:=by
  unfold writtenL
  rw[List.range_succ,List.filter_append]
  by_cases h0:verAt (s.T r.id) t=0
  ·rw[if_pos h0]; simp[h0]
  ·rw[if_neg h0]; simp[h0]
 refine⟨hb129,g38,k38,_,ld1_at w38 hv1,fun h0 i40 e40=>?_,fun h0 g41 e41=>?_⟩
 ·have e40:=i64w e40 (by omega) (by omega)
  refine⟨64 - (t+1),by omega,t+1,by omega,by omega,rfl,by omega,?_,o30.trans o38⟩
  rw[ht1,if_pos (show verAt (s.T r.id) t=0 from h0)]
  exact G.old o38
 ·obtain⟨p42,c44,g45,ha,hg,hob, -, -⟩:=(G.old o38).push eIntM (Nat.le_trans o30.1 o38.1) e41 (m:=1) rfl (by have:roomMax=140737488355328:=rfl; omega) (by omega)
  refine⟨p42,n33+1,c44,g45,ha,fun i46 e46=>?_⟩
  have e46:=i64w e46 (by omega) (by omega)
  refine⟨64 - (t+1),by omega,t+1,by omega,by omega,rfl,by omega,?_,OldB.toOld (((o30.trans o38).toB (Nat.le_refl _)).trans hob)⟩
  rw[ht1,if_neg (show ¬verAt (s.T r.id) t=0 from h0),show natC .i64 (writtenL (s.T r.id) t ++ [t])=natC .i64 (writtenL (s.T r.id) t) ++ [.int .i64 (t:Int)] by simp[natC]]
  exact hg
theorem sameInts (kw:KWrt K) {pa pb:Option Addr} {n m ca cb:Nat} {la lb:List Nat} (Sa:Shows h pa n 1 (natC .i64 la)) (Sb:Shows h pb m 1 (natC .i64 lb)) (hn:n≤1000000):
 Wf Try.prog K 14 [.slice pa n ca,.slice pb m cb] h fun v h'=>(v=.bool true∨(v=.bool false∧la≠lb))∧h=h':=by
 have ea:=Sa.1
 have eb:=Sb.1
 rw[natC_len] at ea eb
 refine vc_aquiferref01_SameInts kw.same _ _ _ _ _ _ h _ ⟨fun hnm=>⟨fun i k g=>∃t:Nat,i=t∧t≤n∧n - t=k∧h=g,⟨_,0,rfl,Nat.zero_le _,rfl,rfl⟩,?_⟩,fun hnm=>⟨.inr ⟨rfl,fun e=>hnm (by rw[e] at ea; omega)⟩,rfl⟩⟩
 rintro k g i ⟨t,rfl,ht,rfl,rfl⟩
 refine⟨fun z=>?_,fun z=>⟨.inl rfl,rfl⟩⟩
 have htn:t < n:=by omega
 obtain⟨b1,o1,rfl,d1⟩:=Sa.get htn
 obtain⟨b2,o2,rfl,d2⟩:=Sb.get (i:=t) (by omega)
 have l1:t < la.length:=by omega
 have l2:t < lb.length:=by omega
 rw[show (natC .i64 la)[t]?= some (.int .i64 ((la[t]:Nat):Int)) by simp[natC,l1]] at d1
 rw[show (natC .i64 lb)[t]?= some (.int .i64 ((lb[t]:Nat):Int)) by simp[natC,l2]] at d2
 refine derefP_at ⟨by omega,z,_,by rw[Int.toNat_natCast,Nat.mul_one]; exact d1,derefP_at ⟨by omega,by omega,_,by rw[Int.toNat_natCast,Nat.mul_one]; exact d2,fun y i11 e11=>?_,fun y=>⟨.inr ⟨rfl,fun e=>y (by subst e; rfl)⟩,rfl⟩⟩⟩
 have e11:=i64w e11 (by omega) (by omega)
 exact⟨n - (t+1),by omega,t+1,by omega,by omega,rfl,rfl⟩
end
end Go.Am
