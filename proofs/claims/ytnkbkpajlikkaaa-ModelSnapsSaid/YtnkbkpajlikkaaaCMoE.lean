/-
  A SNAPSHOT STAYS in a model: plain.
-/
import Derived.Test.YtnkbkpajlikkaaaCMoD
import Derived.Test.YtnkbkpajlikkaaaVLawModelSnaps
set_option linter.unusedVariables false
set_option linter.unusedSimpArgs false
set_option maxRecDepth 100000
namespace Go.Am
open Go.Proofs
theorem name_of {nx:Int} {rs:List SetR} (R:RightP nx rs) {f:ByteArray} {j:Nat} {r:SetR} (hl:lookOf rs (spl f)=some j) (hr:rs[j]?= some r):fullR rs r.id=f:=by
 cases hv:volOf (spl f) with
 | some a=>exact vol_name R (by rw[hv]; rfl) hl hr
 | none=>
   cases hs:snapOf (spl f) with
   | none=>
     cases he:spl f with
     | none=>rw[he] at hl; cases hl
     | some q=>
       obtain⟨a,b⟩:=q
       rw[he] at hv hs
       unfold volOf at hv
       unfold snapOf at hs
       simp only at hv hs
       split at hv
       ·cases hv
       ·rename_i hn
        rw[if_neg hn] at hs
        cases hs
   | some q=>
     obtain⟨a,b⟩:=q
     have hsn:=snap_snap R hs hl hr
     obtain⟨e,hb,na,nb,rfl⟩:=snap_self hs
     rw[e] at hl
     have hl2:lookN rs a b=some j:=hl
     unfold lookN at hl2
     cases hp:plcC rs (0,a) with
     | none=>rw[hp] at hl2; cases hl2
     | some i=>
       rw[hp] at hl2
       simp only at hl2
       rw[if_neg hb] at hl2
       obtain⟨v,hi,hk⟩:=plcC_at hp
       rw[hi] at hl2
       simp only at hl2
       obtain⟨r2,q1,q2⟩:=plcC_at hl2
       rw[hr] at q1
       cases q1
       have hva:v.name=a:=congrArg Prod.snd hk
       have hrb:r.name=b:=congrArg Prod.snd q2
       have hown:r.own=v.id:=by
        have:=congrArg Prod.fst q2
        unfold calK at this
        simp only at this
        rw[if_pos hsn] at this
        exact this
       unfold fullR
       rw[R.uniq hr]
       simp only
       rw[hr]
       simp only
       rw[if_pos hsn,hown,R.uniq hi]
       simp only
       rw[hi]
       simp only
       rw[hva,hrb]
theorem full_inj {nx:Int} {rs:List SetR} (R:RightP nx rs) {i j:Nat} {r r2:SetR} (hi:rs[i]?= some r) (hj:rs[j]?= some r2) (e:fullR rs r.id=fullR rs r2.id):i=j:=by
 obtain⟨a,b,h1,h2⟩:=R.called hi
 obtain⟨a2,b2,h3,h4⟩:=R.called hj
 have s1:=spl_some h1
 have s2:=spl_some h3
 rw[e,s2] at s1
 cases s1
 rw[h2] at h4
 exact Option.some.inj h4
def SnapAt (s:MSt) (q B:Int) (name:ByteArray) (t:List Value):Prop:=∃j:Nat,∃r:SetR,s.rs[j]?= some r∧r.id=q∧r.snap=true∧r.blocks=B∧fullR s.rs q=name∧s.T q=t
theorem readM_snap {nx:Int} {s:MSt} {q B:Int} {name:ByteArray} {t:List Value} (R:RightP nx s.rs) (S:SnapAt s q B name t) (i:Int):readM s name i=if i < 0∨B≤i then (zeroS,176) else ((blkAt t i.toNat).take 128,0):=by
 obtain⟨j,r,h1,rfl,h3,rfl,rfl,rfl⟩:=S
 obtain⟨a,b,q1,q2⟩:=R.called h1
 have hf:findM s.rs (spl (fullR s.rs r.id)) i=if i < 0∨r.blocks≤i then (zeroR,176) else (r,0):=by
  unfold findM
  rw[spl_some q1,show lookOf s.rs (some (a,b))=some j from q2]
  simp only
  rw[h1]
 unfold readM
 rw[hf]
 split
 ·rfl
 ·rfl
def Sub (P:SetR→Prop) (rs rs' : List SetR):Prop:=∀r∈rs,P r→∃r'∈rs',r'.id=r.id∧r'.own=r.own∧r'.name=r.name∧r'.snap=r.snap∧r'.blocks=r.blocks
theorem fullR_at {nx:Int} {rs:List SetR} (R:RightP nx rs) {r v:SetR} (hr:r∈rs) (hs:r.snap=true) (hv:v∈rs) (hid:v.id=r.own):fullR rs r.id=v.name ++ atB ++ r.name:=by
 obtain⟨i,hi⟩:=List.mem_iff_getElem?.1 hr
 obtain⟨k,hk⟩:=List.mem_iff_getElem?.1 hv
 have u1:=R.uniq hi
 have u2:=R.uniq hk
 rw[hid] at u2
 unfold fullR
 rw[u1]
 simp only
 rw[hi]
 simp only
 rw[if_pos hs,u2]
 simp only
 rw[hk]
theorem SnapAt.sub {nx nx' : Int} {s s' : MSt} {q B:Int} {name:ByteArray} {t:List Value} {P:SetR→Prop} (R:RightP nx s.rs) (R' : RightP nx' s'.rs) (S:SnapAt s q B name t) (k:Sub P s.rs s'.rs) (hq:∀r∈s.rs,r.id=q→P r) (ho:∀r∈s.rs,r.id=q→∀v∈s.rs,v.snap=false→v.id=r.own→P v) (hT:s'.T q=s.T q):SnapAt s' q B name t:=by
 obtain⟨j,r,h1,h2,h3,h4,h5,h6⟩:=S
 have hr:=List.mem_of_getElem? h1
 obtain⟨jv,v,p1,p2,p3,p4⟩:=R.vol hr
 have hv:=List.mem_of_getElem? p2
 have hvid:v.id=r.own:=by
  obtain⟨hj,e⟩:=plcN_at p1
  rw[List.getElem?_eq_getElem hj] at p2
  cases p2
  exact e
 obtain⟨r',m1,e1,e2,e3,e4,e5⟩:=k r hr (hq r hr h2)
 obtain⟨v',m2,f1,f2,f3,f4,f5⟩:=k v hv (ho r hr h2 v hv p3 hvid)
 obtain⟨j',hj'⟩:=List.mem_iff_getElem?.1 m1
 refine⟨j',r',hj',e1.trans h2,e4.trans h3,e5.trans h4,?_,hT.trans h6⟩
 have a1:=fullR_at R hr h3 hv hvid
 have a2:=fullR_at R' m1 (e4.trans h3) m2 (by rw[f1,hvid,e2])
 rw[←h5,←h2,a1,←e1,a2,f3,e3]
theorem Sub.app {rs l:List SetR}:Sub (fun (_:SetR)=>True) rs (rs ++ l):=fun r hr _=>⟨r,List.mem_append_left _ hr,rfl,rfl,rfl,rfl,rfl⟩
theorem Sub.refl {rs:List SetR}:Sub (fun (_:SetR)=>True) rs rs:=fun r hr _=>⟨r,hr,rfl,rfl,rfl,rfl,rfl⟩
theorem Sub.map {rs l:List SetR} {F:SetR→SetR} (h:∀r:SetR,(F r).id=r.id∧(F r).own=r.own∧(F r).name=r.name∧(F r).snap=r.snap∧(F r).blocks=r.blocks):Sub (fun (_:SetR)=>True) rs (rs.map F ++ l):=fun r hr _=>⟨F r,List.mem_append_left _ (List.mem_map.2 ⟨r,hr,rfl⟩),h r⟩
theorem createF_sub (nx:Int) (rs:List SetR) (o:Option (ByteArray×ByteArray)) (k:Int):Sub (fun (_:SetR)=>True) rs (createF nx rs o k).2.1:=by
 unfold createF
 repeat' split
 all_goals first | exact Sub.app | exact Sub.refl
theorem cloneA_sub (nx:Int) (rs:List SetR) (o o2:Option (ByteArray×ByteArray)):Sub (fun (_:SetR)=>True) rs (cloneA nx rs o o2).2.1:=by
 unfold cloneA
 repeat' split
 all_goals first | exact Sub.app | exact Sub.refl
theorem snapA_sub (nx:Int) (rs:List SetR) (o:Option (ByteArray×ByteArray)) (st:Int):Sub (fun (_:SetR)=>True) rs (snapA nx rs o st).2.1:=by
 unfold snapA
 repeat' split
 all_goals first | exact Sub.map fun r=>(by unfold snapF; split <;> exact⟨rfl,rfl,rfl,rfl,rfl⟩) | exact Sub.refl
theorem backA_sub (nx:Int) (rs:List SetR) (o:Option (ByteArray×ByteArray)):Sub (fun (_:SetR)=>True) rs (backA nx rs o).2.1:=by
 unfold backA
 repeat' split
 all_goals first | exact Sub.refl | skip
 rw[←List.append_nil (rs.map _)]
 exact Sub.map fun r=>(by unfold backF; split <;> exact⟨rfl,rfl,rfl,rfl,rfl⟩)
theorem findR_id (rs:List SetR) (id:Int):(findR rs id).id=id∨(findR rs id).id=0:=by
 unfold findR
 cases h:plcN rs id with
 | none=>exact .inr rfl
 | some i=>
   obtain⟨hi,e⟩:=plcN_at h
   simp only
   rw[List.getElem?_eq_getElem hi]
   exact .inl e
theorem SnapAt.grow {nx' : Int} {s s' : MSt} {q B:Int} {name:ByteArray} {t:List Value} {rs' : List SetR} {e:Int} (R:RightP s.nx s.rs) (R' : RightP nx' rs') (S:SnapAt s q B name t) (k:Sub (fun (_:SetR)=>True) s.rs rs') (hs:s'.rs=s.rs∧s'.T=s.T∧s'.nx=s.nx):SnapAt (growM s' nx' rs' e) q B name t:=by
 obtain⟨j,r,h1,h2, -⟩:=id S
 have hr:=List.mem_of_getElem? h1
 have hq:=(R.ent hr).1.1
 have hlt:=(R.2.2.1 j r h1).2.1
 unfold growM
 split
 ·refine S.sub R (s':=bookM _ nx' rs') R' k (fun _ _ _=>trivial) (fun _ _ _ _ _ _ _=>trivial) ?_
  show (if q=(findR rs' s'.nx).id then _ else s'.T q)=s.T q
  rw[hs.2.2,if_neg,hs.2.1]
  rcases findR_id rs' s.nx with e | e <;> rw[e] <;> omega
 ·refine S.sub R (s':=s') (by rw[hs.1]; exact R) (by rw[hs.1]; exact Sub.refl) (fun _ _ _=>trivial) (fun _ _ _ _ _ _ _=>trivial) (by rw[hs.2.1])
theorem SnapAt.ne {nx:Int} {s:MSt} {q B:Int} {name:ByteArray} {t:List Value} (R:RightP nx s.rs) (S:SnapAt s q B name t) {i:Nat} {v:SetR} (hv:s.rs[i]?= some v) (hs:v.snap=false):v.id≠q:=by
 rintro rfl
 obtain⟨j,r,h1,h2,h3, -⟩:=S
 have u1:=R.uniq h1
 have u2:=R.uniq hv
 rw[h2,u2] at u1
 cases u1
 rw[hv] at h1
 cases h1
 rw[hs] at h3
 cases h3
theorem SnapAt.at {s s' : MSt} {q B:Int} {name:ByteArray} {t:List Value} (S:SnapAt s q B name t) (h1:s'.rs=s.rs) (h2:s'.T q=s.T q):SnapAt s' q B name t:=by
 obtain⟨j,r,p1,p2,p3,p4,p5,p6⟩:=S
 exact⟨j,r,by rw[h1]; exact p1,p2,p3,p4,by rw[h1]; exact p5,h2.trans p6⟩
section
variable {b:Int} {h:AH} {mb bm:Nat} {s:MSt} {q B:Int} {name:ByteArray} {t0:List Value}
theorem snap_back (M:ModOk b h mb bm s) (S:SnapAt s q B name t0) (f:ByteArray):SnapAt (backM s f).1 q B name t0:=by
 have R:=M.right
 unfold backM
 split
 ·rename_i h0
  refine S.sub R (s':=bookM _ _ _) (backA_right R f) (backA_sub _ _ _) (fun _ _ _=>trivial) (fun _ _ _ _ _ _ _=>trivial) ?_
  show (if q=(backA s.nx s.rs (spl f)).2.2.1.id then _ else s.T q)=s.T q
  rw[if_neg]
  obtain⟨j0,r0,w1,w2, -⟩:=id S
  have hq:=(R.ent (List.mem_of_getElem? w1)).1.1
  rw[w2] at hq
  unfold backA
  cases hv:volOf (spl f) with
  | none=>show q≠0; omega
  | some a=>
    simp only
    cases hl:lookOf s.rs (spl f) with
    | none=>show q≠0; omega
    | some i=>
      simp only
      cases hi:s.rs[i]? with
      | none=>show q≠0; omega
      | some v=>
        simp only
        have hne:=S.ne R hi (vol_snap R hv hl hi)
        cases plcN s.rs v.prev with
        | none=>show q≠0; omega
        | some j=>
          simp only
          cases s.rs[j]? with
          | none=>show q≠0; omega
          | some x=>exact fun e=>hne e.symm
 ·exact S
theorem snap_wt (M:ModOk b h mb bm s) (S:SnapAt s q B name t0) {k:Int} (hk:k=1∨k=2) (f t:ByteArray) (i:Int) {ds:List Nat} (hd:∀x∈ds,x < 256) (hmd:s.md+1≤1000000):SnapAt (doM s k f t i ds).1 q B name t0:=by
 obtain⟨e1,e2,e3⟩:=wt_doM M hk f t i hd hmd
 refine S.at e1 ?_
 by_cases h0:(doM s k f t i ds).2.2=0
 ·obtain⟨j,r,l,p1,p2,p3, -, -, -,p4⟩:=e3 h0
  rw[p4]
  obtain⟨a,ha⟩:=Option.isSome_iff_exists.1 p1
  have:=S.ne M.right p3 (vol_snap M.right ha p2 p3)
  show (if q=r.id then _ else s.T q)=s.T q
  rw[if_neg (Ne.symm this)]
 ·rw[e2 h0]
theorem snap_destroy (M:ModOk b h mb bm s) (S:SnapAt s q B name t0) {f:ByteArray} (hf:f≠name):SnapAt (destroyM s f).1 q B name t0:=by
 have R:=M.right
 obtain⟨j0,r0,w1,w2,w3,w4,w5,w6⟩:=id S
 have hr0:=List.mem_of_getElem? w1
 have hq:=(R.ent hr0).1.1
 rw[w2] at hq
 unfold destroyM
 split
 rotate_left
 ·exact S
 rename_i h0
 have go:∀{nx' : Int} {rs' : List SetR} {o:SetR} {i:Nat},lookOf s.rs (spl f)=some i→s.rs[i]?= some o→RightP nx' rs'→Sub (fun r=>r.id≠o.id) s.rs rs'→(∀r∈s.rs,r.id=q→∀v∈s.rs,v.snap=false→v.id=r.own→v.id≠o.id)→SnapAt (bookM (delM s (namedR s.rs (spl f)).id) nx' rs') q B name t0:=fun {nx' rs' o i} hl ho R' hsub hown=>by
  have hn:(namedR s.rs (spl f)).id=o.id:=by unfold namedR; rw[hl]; simp only; rw[ho]; rfl
  have hne:o.id≠q:=fun e=>hf (by rw[←name_of R hl ho,e]; exact w5)
  refine S.sub R (s':=bookM _ nx' rs') R' hsub (fun r _ e=>by rw[e]; exact Ne.symm hne) hown ?_
  show (if q=(namedR s.rs (spl f)).id then _ else s.T q)=s.T q
  rw[hn,if_neg (Ne.symm hne)]
 have same:∀{e:Int},(lookOf s.rs (spl f)=none∨True)→SnapAt (bookM (delM s (namedR s.rs (spl f)).id) s.nx s.rs) q B name t0∨True:=fun _=>.inr trivial
 cases hs:spl f with
 | none=>rw[hs] at h0; exact absurd (show (141:Int)=0 from h0) (by decide)
 | some ab=>
   obtain⟨a,bb⟩:=ab
   rw[←hs]
   by_cases hb:bb=noB
   ·have hD:dropA s.nx s.rs (spl f)=((dropVolA s.nx s.rs (spl f)).1,(dropVolA s.nx s.rs (spl f)).2.1,(dropVolA s.nx s.rs (spl f)).2.2.2):=by
     rw[hs]; unfold dropA; simp only; rw[if_pos hb]
    rw[hD] at h0 ⊢
    have hR:=dropVolA_right R f
    simp only at h0 ⊢
    have hv:volOf (spl f)=some a:=by rw[hs]; unfold volOf; simp only; rw[if_pos hb]
    unfold dropVolA at h0 hR ⊢
    rw[hv] at h0 hR ⊢
    simp only at h0 hR ⊢
    cases hl:lookOf s.rs (spl f) with
    | none=>rw[hl] at h0; exact absurd (show (172:Int)=0 from h0) (by decide)
    | some i=>
      rw[hl] at h0 hR
      simp only at h0 hR ⊢
      obtain⟨o,ho⟩:=lookOf_at hl
      rw[ho] at h0 hR ⊢
      simp only at h0 hR ⊢
      split at h0
      ·exact absurd (show (173:Int)=0 from h0) (by decide)
      ·rename_i hz
       rw[if_neg hz] at hR ⊢
       refine go hl ho hR (fun r hr hne=>⟨r,List.mem_filter.2 ⟨hr,by simpa using hne⟩,rfl,rfl,rfl,rfl,rfl⟩) fun r hr e v hv2 hvs hvo hid=>?_
       refine hz (List.length_pos_of_mem (List.mem_filter.2 ⟨hr0,?_⟩))
       have:r=r0:=by
        obtain⟨j2,hj2⟩:=List.mem_iff_getElem?.1 hr
        have u1:=R.uniq hj2
        have u2:=R.uniq w1
        rw[e,←w2,u2] at u1
        cases u1
        rw[w1] at hj2
        exact (Option.some.inj hj2).symm
       subst this
       simp[w3,←hvo,hid]
   ·have hD:dropA s.nx s.rs (spl f)=((dropSnapA s.nx s.rs (lookOf s.rs (spl f)) (snapOf (spl f)).isSome).1,(dropSnapA s.nx s.rs (lookOf s.rs (spl f)) (snapOf (spl f)).isSome).2.1,(dropSnapA s.nx s.rs (lookOf s.rs (spl f)) (snapOf (spl f)).isSome).2.2.2):=by
     rw[hs]; unfold dropA; simp only; rw[if_neg hb]
    rw[hD] at h0 ⊢
    have hR:=dropSnapA_right R f
    simp only at h0 ⊢
    have hv:snapOf (spl f)=some (a,bb):=by rw[hs]; unfold snapOf; simp only; rw[if_neg hb]
    have hv2:(snapOf (spl f)).isSome=true:=by rw[hv]; rfl
    rw[hv2] at h0 hR ⊢
    unfold dropSnapA at h0 hR ⊢
    rw[if_neg (by decide)] at h0 hR ⊢
    cases hl:lookOf s.rs (spl f) with
    | none=>rw[hl] at h0; exact absurd (show (172:Int)=0 from h0) (by decide)
    | some i=>
      rw[hl] at h0 hR
      simp only at h0 hR ⊢
      obtain⟨o,ho⟩:=lookOf_at hl
      rw[ho] at h0 hR ⊢
      simp only at h0 hR ⊢
      have hos:=snap_snap R hv hl ho
      split at h0
      ·exact absurd (show (173:Int)=0 from h0) (by decide)
      ·rename_i hz
       rw[if_neg hz] at hR ⊢
       cases hz1:plcN s.rs (nextR s.rs o.id) with
       | none=>rw[hz1] at h0; exact absurd (show (172:Int)=0 from h0) (by decide)
       | some j=>
         rw[hz1] at h0 hR
         simp only at h0 hR ⊢
         obtain⟨hj, -⟩:=plcN_at hz1
         rw[List.getElem?_eq_getElem hj] at h0 hR ⊢
         simp only at h0 hR ⊢
         cases hm:mrg (oldD (flr s.rs o.id) s.rs[j].dead) o.dead with
         | none=>rw[hm] at h0; exact absurd (show (131:Int)=0 from h0) (by decide)
         | some d=>
           rw[hm] at h0 hR
           simp only at h0 hR ⊢
           split at h0
           ·exact absurd (show (131:Int)=0 from h0) (by decide)
           ·rename_i hd
            rw[if_neg hd] at hR ⊢
            refine go hl ho hR (fun r hr hne=>⟨dropF s.rs[j] o.prev d r,List.mem_filter.2 ⟨List.mem_map.2 ⟨r,hr,rfl⟩,?_⟩,?_⟩) fun r hr e v hv3 hvs hvo hid=>?_
            ·have:=(dropF_id s.rs[j] o.prev d r).1
             rw[this]
             simpa using hne
            ·unfold dropF
             split <;> exact⟨rfl,rfl,rfl,rfl,rfl⟩
            ·obtain⟨jv,hjv⟩:=List.mem_iff_getElem?.1 hv3
             have u1:=R.uniq hjv
             have u2:=R.uniq ho
             rw[hid,u2] at u1
             cases u1
             rw[ho] at hjv
             cases hjv
             rw[hvs] at hos
             cases hos
theorem snap_do (M:ModOk b h mb bm s) (S:SnapAt s q B name t0) (hb:b+1≤1000000) {k:Int} (f t:ByteArray) (i:Int) {ds:List Nat} (hd:∀x∈ds,x < 256) (h6:k≠6) (h8:k=8→f≠name):SnapAt (doM s k f t i ds).1 q B name t0:=by
 have R:=M.right
 have h1:=M.nx
 have h2:=M.md
 have h3:=M.bd
 by_cases k12:k=1∨k=2
 ·exact snap_wt M S k12 f t i hd (by omega)
 unfold doM
 split
 ·exact S.grow R (createF_right R h1.1 (by omega) f i) (createF_sub _ _ _ _) ⟨rfl,rfl,rfl⟩
 ·rw[if_neg (by omega),if_neg (by omega)]
  split
  ·exact S
  ·split
   ·refine S.grow R (snapA_right R h1.1 (by omega) f s.st) (snapA_sub _ _ _ _) ?_
    split <;> exact⟨rfl,rfl,rfl⟩
   ·split
    ·exact S.grow R (cloneA_right R h1.1 (by omega) f t) (cloneA_sub _ _ _ _) ⟨rfl,rfl,rfl⟩
    ·split
     ·exact snap_back M S f
     ·split
      ·rename_i k8
       exact snap_destroy M S (h8 k8)
      ·split
       ·exact S.at rfl rfl
       ·exact S
theorem snap_prom (M:ModOk b h mb bm s) (S:SnapAt s q B name t0) (f t:ByteArray) (i:Int) (ds:List Nat):∃j:Nat,SnapAt (doM s 6 f t i ds).1 q B (fullR (doM s 6 f t i ds).1.rs q) t0∧(doM s 6 f t i ds).1.rs.length=s.rs.length∧(∃r:SetR,s.rs[j]?= some r∧fullR s.rs r.id=name)∧∃r:SetR,(doM s 6 f t i ds).1.rs[j]?= some r∧r.id=q:=by
 have R:=M.right
 obtain⟨j,r,w1,w2,w3,w4,w5,w6⟩:=id S
 have e:doM s 6 f t i ds=(if (promA s.nx s.rs (spl f)).2.2=0 then bookM s (promA s.nx s.rs (spl f)).1 (promA s.nx s.rs (spl f)).2.1 else s,zeroS,(promA s.nx s.rs (spl f)).2.2):=by
  unfold doM
  rw[if_neg (by decide),if_neg (by decide),if_neg (by decide),if_neg (by decide),if_neg (by decide),if_neg (by decide),if_pos rfl]
 have hm:∃F:SetR→SetR,(∀r:SetR,(F r).id=r.id∧(F r).snap=r.snap∧(F r).blocks=r.blocks)∧(promA s.nx s.rs (spl f)).2.1=s.rs.map F:=by
  unfold promA
  repeat' split
  all_goals first | exact⟨id,fun _=>⟨rfl,rfl,rfl⟩,(List.map_id _).symm⟩ | exact⟨_,fun r=>(by unfold promF; split <;> exact⟨rfl,rfl,rfl⟩),rfl⟩
 obtain⟨F,hF,hm⟩:=hm
 refine⟨j,?_⟩
 rw[e]
 simp only
 split
 ·have hj:(s.rs.map F)[j]?= some (F r):=by rw[List.getElem?_map,w1]; rfl
  refine⟨⟨j,F r,by show (promA s.nx s.rs (spl f)).2.1[j]?= _; rw[hm]; exact hj,(hF r).1.trans w2,(hF r).2.1.trans w3,(hF r).2.2.trans w4,rfl,w6⟩,by show (promA s.nx s.rs (spl f)).2.1.length=_; rw[hm]; simp,⟨r,w1,by rw[w2]; exact w5⟩,F r,by show (promA s.nx s.rs (spl f)).2.1[j]?= _; rw[hm]; exact hj,(hF r).1.trans w2⟩
 ·exact⟨⟨j,r,w1,w2,w3,w4,rfl,w6⟩,rfl,⟨r,w1,by rw[w2]; exact w5⟩,r,w1,w2⟩
theorem snap_new (M:ModOk b h mb bm s) (hb:b+1≤1000000) (f t:ByteArray) (i:Int) (ds:List Nat) (h0:(doM s 4 f t i ds).2.2=0):∃q B,SnapAt (doM s 4 f t i ds).1 q B f ((doM s 4 f t i ds).1.T q):=by
 have R:=M.right
 have h1:=M.nx
 have h3:=M.bd
 have e:doM s 4 f t i ds=(growM (if (snapA s.nx s.rs (spl f) s.st).2.2=0 then stampM s else s) (snapA s.nx s.rs (spl f) s.st).1 (snapA s.nx s.rs (spl f) s.st).2.1 (snapA s.nx s.rs (spl f) s.st).2.2,zeroS,(snapA s.nx s.rs (spl f) s.st).2.2):=by
  unfold doM
  rw[if_neg (by decide),if_neg (by decide),if_neg (by decide),if_neg (by decide),if_pos rfl]
 rw[e] at h0 ⊢
 simp only at h0 ⊢
 have R':=snapA_right R h1.1 (by omega) f s.st
 rw[h0]
 unfold growM
 rw[if_pos rfl]
 unfold snapA at h0 R' ⊢
 cases hs:snapOf (spl f) with
 | none=>rw[hs] at h0; exact absurd (show (141:Int)=0 from h0) (by decide)
 | some ab=>
   obtain⟨a,bb⟩:=ab
   rw[hs] at h0 R'
   simp only at h0 R' ⊢
   obtain⟨e1,hbn,na,nb,hfn⟩:=snap_self hs
   cases hl:lookN s.rs a noB with
   | none=>rw[hl] at h0; exact absurd (show (172:Int)=0 from h0) (by decide)
   | some j=>
     rw[hl] at h0 R'
     simp only at h0 R' ⊢
     split at h0
     ·exact absurd (show (175:Int)=0 from h0) (by decide)
     ·rename_i h32
      rw[if_neg h32] at R' ⊢
      cases hl2:lookOf s.rs (spl f) with
      | some j2=>rw[hl2] at h0; exact absurd (show (171:Int)=0 from h0) (by decide)
      | none=>
        rw[hl2] at h0 R'
        simp only at h0 R' ⊢
        have hva:volOf (some (a,noB))=some a:=by unfold volOf; simp only; rw[if_pos trivial]
        have hj:∃v,s.rs[j]?= some v:=lookOf_at (o:=some (a,noB)) hl
        obtain⟨v,hv⟩:=hj
        rw[hv] at h0 R' ⊢
        simp only at h0 R' ⊢
        split at h0
        ·exact absurd (show (176:Int)=0 from h0) (by decide)
        ·rename_i hst
         rw[if_neg hst] at R' ⊢
         have hvs:=vol_snap R hva hl hv
         have hvn:v.name=a:=by
          unfold lookN at hl
          cases hp:plcC s.rs (0,a) with
          | none=>rw[hp] at hl; cases hl
          | some j2=>
            rw[hp] at hl
            simp only at hl
            rw[if_pos trivial] at hl
            cases hl
            obtain⟨r2,q1,q2⟩:=plcC_at hp
            rw[hv] at q1
            cases q1
            exact congrArg Prod.snd q2
         have m1:snapR s.nx v bb s.st∈s.rs.map (snapF s.nx v) ++ [snapR s.nx v bb s.st]:=List.mem_append_right _ (List.mem_singleton.2 rfl)
         have m2:snapF s.nx v v∈s.rs.map (snapF s.nx v) ++ [snapR s.nx v bb s.st]:=List.mem_append_left _ (List.mem_map.2 ⟨v,List.mem_of_getElem? hv,rfl⟩)
         obtain⟨jj,hjj⟩:=List.mem_iff_getElem?.1 m1
         refine⟨s.nx,v.blocks,jj,snapR s.nx v bb s.st,hjj,rfl,rfl,rfl,?_,rfl⟩
         have:=fullR_at R' m1 rfl m2 (snapF_id s.nx v v).1
         rw[(snapF_id s.nx v v).2.2.2,hvn] at this
         rw[hfn]
         exact this
end
end Go.Am
/-
 A SNAPSHOT STAYS in a model.
-/
set_option linter.unusedVariables false
set_option linter.unusedSimpArgs false
set_option maxRecDepth 100000
namespace Go.Am
open Go.Proofs
theorem SnapAt.size {nx:Int} {s:MSt} {q B:Int} {name:ByteArray} {t:List Value} (R:RightP nx s.rs) (S:SnapAt s q B name t):name.size≤60:=by
 obtain⟨j,r, -, -, -, -,h5, -⟩:=S
 rw[←h5]
 exact fullR_size R q
theorem snapsTrue {K:Xs} {h:AH} (hk:K 5=none) (ha:K 7=some (.sum xTrue)) (kk:KAprt K) {p p2:Option Addr} {n c n2 c2:Nat} {os os2:List OpP} (A:Ops h p n os) (A2:Ops h p2 n2 os2) {f:ByteArray} (hf:f.size≤reachBytes):
 Wf Try.prog K 5 [.slice p n c,.slice p2 n2 c2,.string f] h fun v _=>v=.bool true:=by
 have hre:reachBytes=140737488351232:=rfl
 have h00:(ByteArray.mk #[]).size=0:=rfl
 refine vc_aquiferlaw21_ModelSnaps hk _ _ _ _ _ _ _ h _ (Wf_sum ha (v:=.bool true) (h':=h) rfl (Nat.le_refl _) (.inl ⟨rfl,fun _=>rfl,fun h40=>⟨fun _=>rfl,fun h41=>?_⟩⟩))
 refine (newSpecM kk.m).mono ?_
 rintro _ g5 ⟨mb,bm,rfl,M5,o5,lmb,lbm⟩
 refine⟨_,rfl,fun i k g=>∃t:Nat,∃s,i=t∧t≤n∧n - t=k∧ModOk (2+t) g mb bm s∧OldM mb bm g5 g,⟨_,0,s0M,rfl,Nat.zero_le _,rfl,M5.mono (by omega) (by omega),⟨Nat.le_refl _,fun _ _ _ _=>rfl⟩⟩,?_⟩
 rintro k8 g9 i11 ⟨j,s,rfl,hj,rfl,M9,om9⟩
 have oh9:OldB h.next h g9:=OldB.trans o5 (om9.toOld o5.1 lmb lbm)
 refine⟨fun z=>?_,fun z=>?_⟩
 ·obtain⟨bb,off,rfl,hi',pd1,nd1,cd1,pk1,nk1,ck1,hld, -, -, -, -, -, -,Td1,Bk1,sz1,sz2,hb⟩:=(A.old oh9).at (i:=j) (by omega)
  generalize os[j]=x at hld Td1 Bk1 sz1 sz2
  refine derefP_at ⟨by omega,z,_,_,_,_,_,_,_,_,_,_,by rw[Int.toNat_natCast]; exact hld,fun g24 e24=>?_⟩
  obtain⟨g25,k25,n25,o25,v25⟩:=put_new e24 (vs:=[.int .i64 x.kind,.string x.name,.string x.to,.int .i64 x.n,.slice pd1 nd1 cd1,.slice pk1 nk1 ck1]) rfl
  have w25:=(v25 [] (fun c hc=>by cases hc)).1
  refine⟨rfl,g25,k25,_,_,_,_,_,_,_,_,_,_,ldN_all w25 rfl,(doSpecM kk.m (M9.old o25) (by omega) x.kind x.name x.to (by omega) (by omega) x.n (Td1.old o25).2.2.2.1 Td1.1 Td1.2.2.2.2).mono ?_⟩
  rintro _ g37 ⟨rfl,M37,om37⟩
  refine⟨_,_,rfl,fun i40 e40=>?_⟩
  have e40:=i64w e40 (by omega) (by omega)
  exact⟨n - (j+1),by omega,j+1,_,by omega,by omega,rfl,M37.mono (by omega) (by omega),om9.trans ((OldM.of_old o25).trans om37)⟩
 obtain rfl:j=n:=by omega
 refine (doSpecM kk.m M9 (by omega) 4 f (ByteArray.mk #[]) (by omega) (by omega) 0 (pd:=none) (nd:=0) (ds:=[]) ⟨rfl,.inl rfl⟩ (.inl rfl) (fun x hx=>by cases hx)).mono ?_
 rintro _ g40 ⟨rfl,M40,om40⟩
 have hlen:=doM_sec M9 4 f (ByteArray.mk #[]) 0 []
 have hnew:=snap_new M9 (by omega) f (ByteArray.mk #[]) 0 []
 generalize doM s 4 f (ByteArray.mk #[]) 0 []=D at M40 hlen hnew ⊢
 obtain⟨s1,l41,e42⟩:=D
 simp only at M40 hlen hnew ⊢
 refine⟨_,_,rfl,fun g43 e43=>?_⟩
 obtain⟨g44,k44,n44,o44,v44⟩:=put_new e43 (vs:=l41) (by simpa using hlen)
 refine⟨hlen,g44,k44,fun e0=>?_,fun _=>by first | rfl | trivial⟩
 obtain⟨q,B,S0⟩:=hnew e0
 refine (copySpecM kk.m kk.c (M40.old o44)).mono ?_
 rintro _ g46 ⟨mb2,bm2,rfl,N46,o46,l1,l2⟩
 have M46:=(M40.old o44).old o46
 have lt44:=(M40.old o44).lt
 have lb44:=(M40.old o44).lb
 have oh46:OldB h.next h g46:=(oh9.trans (om40.toOld oh9.1 lmb lbm)).trans ((o44.trans o46).toB (Nat.le_trans oh9.1 om40.1))
 refine⟨_,rfl,fun nm i k g=>∃t:Nat,∃s',i=t∧t≤n2∧n2 - t=k∧ModOk (3+j+t) g mb bm s'∧OldM mb bm g46 g∧SnapAt s' q B nm (s1.T q),⟨_,0,s1,rfl,Nat.zero_le _,rfl,M46.mono (by omega) (by omega),⟨Nat.le_refl _,fun _ _ _ _=>rfl⟩,S0⟩,?_⟩
 rintro k49 g50 nm i53 ⟨t,s',rfl,ht,rfl,M50,om50,S⟩
 have oh50:OldB h.next h g50:=oh46.trans (om50.toOld oh46.1 lmb lbm)
 refine⟨fun z=>?_,fun z=>?_⟩
 rotate_left
 ·obtain rfl:t=n2:=by omega
  have N50:=M46.other N46 om50 (by omega) (by omega)
  have hsz:=S.size M50.right
  refine⟨fun i k g=>∃u:Nat,i=u∧u≤64∧64 - u=k∧Old g50 g,⟨_,0,rfl,by omega,rfl,Old.refl _⟩,?_⟩
  rintro k166 g167 i169 ⟨u,rfl,hu,rfl,o167⟩
  refine⟨fun y=>?_,fun _=>by first | rfl | trivial⟩
  have N167:=N50.old o167
  have M167:=M50.old o167
  refine (doReadSpec kk.m N167 f (ByteArray.mk #[]) (by omega) u).mono ?_
  rintro _ g171 ⟨rfl,o171⟩
  have r1:=readM_snap N167.right S0 (u:Int)
  have r2:=readM_snap M167.right S (u:Int)
  obtain⟨bs1,b1,sb1⟩:=readM_sec N167 f u
  rw[←r1] at r2
  refine⟨_,_,rfl,fun g174 e174=>?_⟩
  obtain⟨g175,k175,n175,o175,v175⟩:=put_new e174 (vs:=(readM s1 f u).1) (by rw[b1,sb1.len]; simp)
  have w175:=(v175 [] (fun c hc=>by cases hc)).1
  refine⟨by rw[b1,sb1.len],g175,k175,(doReadSpec kk.m (M167.old (o171.trans o175)) nm (ByteArray.mk #[]) (by omega) u).mono ?_⟩
  rintro _ g177 ⟨rfl,o177⟩
  rw[r2]
  refine⟨_,_,rfl,fun g180 e180=>?_⟩
  obtain⟨g181,k181,n181,o181,v181⟩:=put_new e180 (vs:=(readM s1 f u).1) (by rw[b1,sb1.len]; simp)
  have w181:=(v181 [] (fun c hc=>by cases hc)).1
  have w175':=((o177.trans o181).2 _ (by omega)).trans w175
  refine⟨by rw[b1,sb1.len],g181,k181,fun _=>⟨_,ldN_all w175' (by rw[b1,sb1.len]),_,ldN_all w181 (by rw[b1,sb1.len]),_,_,by rw[b1]; exact kSecM sb1,by rw[b1]; exact kSecM sb1,fun _ i186 e186=>?_,fun y=>?_⟩,fun z=>absurd rfl z⟩
  ·have e186:=i64w e186 (by omega) (by omega)
   exact⟨64 - (u+1),by omega,u+1,by omega,by omega,rfl,o167.trans ((o171.trans o175).trans (o177.trans o181))⟩
  ·rw[litsEq_refl] at y
   cases y
 have go:∀{g:AH} {s'' : MSt} {nm' : ByteArray},ModOk (3+j+t+1) g mb bm s''→OldM mb bm g46 g→SnapAt s'' q B nm' (s1.T q)→∀i:Int,i=IntKind.wrap .i64 ((t:Int)+1)→∃j51,j51 < n2 - t∧∃u:Nat,∃s',i=u∧u≤n2∧n2 - u=j51∧ModOk (3+j+u) g mb bm s'∧OldM mb bm g46 g∧SnapAt s' q B nm' (s1.T q):=fun {g s'' nm'} M' om' S' i e=>by
  have e:=i64w e (by omega) (by omega)
  exact⟨n2 - (t+1),by omega,t+1,s'',by omega,by omega,rfl,M'.mono (by omega) (by omega),om',S'⟩
 obtain⟨bb,off,rfl,hi',pd1,nd1,cd1,pk1,nk1,ck1,hld, -, -, -, -, -, -,Td1,Bk1,sz1,sz2,hb⟩:=(A2.old oh50).at (i:=t) (by omega)
 generalize os2[t]=x at hld Td1 Bk1 sz1 sz2
 refine derefP_at ⟨by omega,z,_,_,_,_,_,_,_,_,_,_,by rw[Int.toNat_natCast]; exact hld,fun g66 e66=>?_⟩
 obtain⟨g67,k67,n67,o67,v67⟩:=put_new e66 (vs:=[.int .i64 x.kind,.string x.name,.string x.to,.int .i64 x.n,.slice pd1 nd1 cd1,.slice pk1 nk1 ck1]) rfl
 have w67:=(v67 [] (fun c hc=>by cases hc)).1
 have M67:=M50.old o67
 have om67:=om50.trans (OldM.of_old o67)
 refine⟨rfl,g67,k67,x.kind,ld1_at w67 rfl,?_⟩
 refine (fun (T:(x.kind=8→x.name≠nm)→_)=>⟨fun y=>⟨_,ld1_at w67 rfl,fun y2=>go (M67.mono (by omega) (by omega)) om67 S,fun y2=>T (fun _=>y2)⟩,fun y=>T (fun y3=>absurd y3 y)⟩) ?_
 intro h8
 refine (listSpec kk.m kk.l M67).mono ?_
 rintro _ g72 ⟨pl,nl,cl,rfl,hnl,SL,o72,fr⟩
 have M72:=M67.old o72
 have om72:=om67.trans (OldM.of_old o72)
 have hg50:g50.next < g72.next:=by have:=o72.1; omega
 have w72:=(o72.2 _ (by omega)).trans w67
 have T72:=Td1.old (o67.trans o72)
 have lt50:=M50.lt
 have lb50:=M50.lb
 refine⟨_,_,_,rfl,_,_,_,_,_,_,_,_,_,_,ldN_all w72 rfl,(doSpecM kk.m M72 (by omega) x.kind x.name x.to (by omega) (by omega) x.n T72.2.2.2.1 T72.1 T72.2.2.2.2).mono ?_⟩
 rintro _ g87 ⟨rfl,M87,om87⟩
 have w87:=(om87.2 _ hg50 (by omega) (by omega)).trans w72
 refine⟨_,_,rfl,_,ld1_at w87 rfl,fun y6=>?_,fun y6=>?_⟩
 rotate_left
 ·exact go M87 (om72.trans om87) (snap_do M72 S (by omega) x.name x.to x.n T72.2.2.2.2 y6 h8)
 rw[y6] at M87
 obtain⟨jj,S',hl',⟨r,hr,hrn⟩,r',hr',hrid⟩:=snap_prom M72 S x.name x.to x.n x.data
 generalize (doM s' 6 x.name x.to x.n x.data).1=s'' at M87 S' hl' hr'
 have R:=M72.right
 have hjl:=(List.getElem?_eq_some_iff.1 hr).1
 have h32:=R.2.1
 have SL87:Shows g87 pl nl 4 (infosC (listM s'.rs)):=SL.kept om87.1 fun a ha=>om87.2 _ (by
  rcases SL.2 with z0 | ⟨b,off,al,e,ro,hp,hb', -⟩
  ·omega
  ·rw[ha] at hp; cases hp; exact hb') (by have:=fr a ha; have:=o67.1; omega) (by have:=fr a ha; have:=o67.1; omega)
 refine (listSpec kk.m kk.l M87).mono ?_
 rintro _ g92 ⟨pm,nm2,cm,rfl,hnm,SM,o92, -⟩
 refine⟨_,_,_,rfl,fun nm' i k g=>∃u:Nat,i=u∧u≤nm2∧nm2 - u=k∧u≤jj∧nm=nm'∧Old g92 g,⟨_,0,rfl,by omega,rfl,by omega,rfl,Old.refl _⟩,?_⟩
 rintro k97 g98 nm' i101 ⟨u,rfl,hu,rfl,huj,rfl,o98⟩
 refine⟨fun z=>?_,fun z=>?_⟩
 rotate_left
 ·exact absurd (show ((u:Nat):Int) < ((nm2:Nat):Int) by omega) z
 have hul:u < s''.rs.length:=by omega
 have hul' : u < s'.rs.length:=by omega
 have hll:u < (listM s''.rs).length:=by simp only[listM,List.length_map]; omega
 have hll' : u < (listM s'.rs).length:=by simp only[listM,List.length_map]; omega
 obtain⟨b2,off2,rfl,hld2, -⟩:=(SM.old o98).getN (i:=u) (by omega)
 rw[infosC_get _ u hll,show (listM s''.rs)[u]=infoM s''.rs s''.rs[u] by simp[listM]] at hld2
 refine derefP_at ⟨by omega,z,_,_,_,_,by rw[Int.toNat_natCast]; exact hld2,fun g108 e108=>?_⟩
 obtain⟨g109,k109,n109,o109,v109⟩:=put_new e108 (vs:=infoC1 (infoM s''.rs s''.rs[u])) rfl
 have w109:=(v109 [] (fun c hc=>by cases hc)).1
 have o9209:=o98.trans o109
 obtain⟨b1,off1,rfl,hld1, -⟩:=(SL87.old (o92.trans o9209)).getN (i:=u) (by omega)
 rw[infosC_get _ u hll',show (listM s'.rs)[u]=infoM s'.rs s'.rs[u] by simp[listM]] at hld1
 refine⟨rfl,g109,k109,derefP_at ⟨by omega,by omega,_,by rw[Int.toNat_natCast]; exact ldN_ld1 hld1 (j:=0) rfl,fun same=>?_,fun ne i115 e115=>?_⟩⟩
 ·have huj:u=jj:=full_inj R (List.getElem?_eq_getElem hul') hr (by rw[hrn]; exact same)
  subst huj
  have hq:s''.rs[u]=r':=by rw[List.getElem?_eq_getElem hul] at hr'; exact Option.some.inj hr'
  refine⟨_,ld1_at w109 rfl,go (M87.old (o92.trans o9209)) (om72.trans (om87.trans (OldM.of_old (o92.trans o9209)))) ?_⟩
  show SnapAt s'' q B (fullR s''.rs s''.rs[u].id) (s1.T q)
  rw[hq,hrid]
  exact S'
 ·have e115:=i64w e115 (by omega) (by omega)
  refine⟨nm2 - (u+1),by omega,u+1,by omega,by omega,rfl,?_,rfl,o9209⟩
  rcases Nat.lt_or_ge u jj with q1 | q1
  ·exact q1
  ·have huj:u=jj:=by omega
   subst huj
   have:s'.rs[u]=r:=by rw[List.getElem?_eq_getElem hul'] at hr; exact Option.some.inj hr
   exact absurd (show fullR s'.rs s'.rs[u].id=nm by rw[this]; exact hrn) ne
theorem snaps_args {h:AH} {vs:List Value} (r:RdA Try.prog h 9 [28,28,9] vs):∃p n c os p2 n2 c2 os2 f,vs=[.slice p n c,.slice p2 n2 c2,.string f]∧Ops h p n os∧Ops h p2 n2 os2∧f.size≤reachBytes:=by
 obtain⟨a,b,c,rfl,r1,r2,r3⟩:=rda3 r
 obtain⟨p,n,cc,os,rfl,A⟩:=rd_ops (g:=5) (rdv_ops r1)
 obtain⟨p2,n2,c2,os2,rfl,A2⟩:=rd_ops (g:=5) (rdv_ops r2)
 unfold RdV at r3
 rw[Try.underlying9] at r3
 have r4:Rd Try.prog h (8+1) 9 [c]:=r3
 unfold Rd at r4
 rw[Try.underlying9] at r4
 obtain⟨s,e, -,hw⟩:=r4
 exact⟨p,n,cc,os,p2,n2,c2,os2,s,by simpa using e,A,A2,hw⟩
end Go.Am
