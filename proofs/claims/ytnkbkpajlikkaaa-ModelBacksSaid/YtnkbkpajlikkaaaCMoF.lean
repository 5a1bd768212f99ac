/-
  PUT BACK IT READS AS ITS SNAPSHOT, in a model: plain.
-/
import Derived.Test.YtnkbkpajlikkaaaCMoE
import Derived.Test.YtnkbkpajlikkaaaCMoD
import Derived.Test.YtnkbkpajlikkaaaVLawModelBacks
set_option linter.unusedVariables false
set_option linter.unusedSimpArgs false
set_option maxRecDepth 100000
namespace Go.Am
open Go.Proofs
/-! ## Records changed,but not their names and ways -/
structure Same6 (F:SetR→SetR):Prop where
 id:∀r,(F r).id=r.id
 name:∀r,(F r).name=r.name
 snap:∀r,(F r).snap=r.snap
 own:∀r,(F r).own=r.own
 prev:∀r,(F r).prev=r.prev
 blocks:∀r,(F r).blocks=r.blocks
theorem plcN_map {F:SetR→SetR} (k:Same6 F) (rs:List SetR) (id:Int):plcN (rs.map F) id=plcN rs id:=by
 unfold plcN
 rw[List.findIdx?_map]
 congr 1
 funext r
 simp[Function.comp,k.id]
theorem fullR_map {F:SetR→SetR} (k:Same6 F) (rs:List SetR) (id:Int):fullR (rs.map F) id=fullR rs id:=by
 unfold fullR
 rw[plcN_map k]
 cases plcN rs id with
 | none=>rfl
 | some i=>
   simp only
   rw[List.getElem?_map]
   cases rs[i]? with
   | none=>rfl
   | some r=>
     simp only[Option.map_some]
     rw[k.snap,k.own,k.name,plcN_map k]
     split
     ·cases plcN rs r.own with
      | none=>rfl
      | some j=>
        simp only
        rw[List.getElem?_map]
        cases rs[j]? with
        | none=>rfl
        | some v=>simp only[Option.map_some]; rw[k.name]
     ·rfl
theorem wayW_map {F:SetR→SetR} (k:Same6 F) (rs:List SetR) (id:Int):∀(n:Nat) (pr:Int) (ch:List Int),wayW (rs.map F) id n pr ch=wayW rs id n pr ch
 | 0,pr,ch=>rfl
 | n+1,pr,ch=>by
   unfold wayW
   rw[plcN_map k]
   split
   ·rfl
   ·cases plcN rs pr with
    | none=>rfl
    | some i=>
      simp only
      rw[List.getElem?_map]
      cases rs[i]? with
      | none=>rfl
      | some x=>
        simp only[Option.map_some]
        rw[k.own,k.prev]
        split
        ·exact wayW_map k rs id n _ _
        ·rfl
theorem wayR_map {F:SetR→SetR} (k:Same6 F) (rs:List SetR) (id:Int):wayR (rs.map F) id=wayR rs id:=by
 unfold wayR
 rw[plcN_map k]
 cases plcN rs id with
 | none=>rfl
 | some i=>
   simp only
   rw[List.getElem?_map]
   cases rs[i]? with
   | none=>rfl
   | some r=>
     simp only[Option.map_some]
     rw[k.snap,k.prev]
     split
     ·rfl
     ·exact wayW_map k rs id _ _ _
theorem listM_map {F:SetR→SetR} (k:Same6 F) (rs:List SetR):listM (rs.map F)=listM rs:=by
 unfold listM
 rw[List.map_map]
 refine List.map_congr_left fun r _=>?_
 show infoM (rs.map F) (F r)=infoM rs r
 unfold infoM
 rw[k.id,k.blocks,k.snap,fullR_map k,fullR_map k,wayR_map k]
theorem same6_back (v:SetR) (q:PtI):Same6 (backF v q):=by
 refine⟨fun r=>?_,fun r=>?_,fun r=>?_,fun r=>?_,fun r=>?_,fun r=>?_⟩ <;> (unfold backF; split <;> rfl)
/-! ## What is written under a name -/
theorem wrOf_full {nx:Int} {s:MSt} (R:RightP nx s.rs) {j:Nat} {r:SetR} (hr:s.rs[j]?= some r):wrOf s (fullR s.rs r.id)=writtenL (s.T r.id) 64:=by
 obtain⟨a,b,q1,q2⟩:=R.called hr
 unfold wrOf
 rw[spl_some q1,show lookOf s.rs (some (a,b))=some j from q2]
 simp only
 rw[hr]
theorem back_is {nx:Int} {s:MSt} (R:RightP nx s.rs) {u:Nat} {r:SetR} (hr:s.rs[u]?= some r) (h0:(backM s (fullR s.rs r.id)).2=0) (hfrm:(infoM s.rs r).frm=noB):
 ∃z:SetR,∃jz:Nat,s.rs[jz]?= some z∧fullR s.rs z.id=fullR s.rs r.id ++ atB ++ z.name∧listM (backM s (fullR s.rs r.id)).1.rs=listM s.rs∧(∀(j:Nat) (x:SetR),s.rs[j]?= some x→∃x' : SetR,(backM s (fullR s.rs r.id)).1.rs[j]?= some x'∧x'.id=x.id∧fullR (backM s (fullR s.rs r.id)).1.rs x.id=fullR s.rs x.id)∧
  (backM s (fullR s.rs r.id)).1.T r.id=s.T z.id∧(backM s (fullR s.rs r.id)).1.T z.id=s.T z.id:=by
 obtain⟨a,b,q1,q2⟩:=R.called hr
 have hs:=spl_some q1
 have hl:lookOf s.rs (spl (fullR s.rs r.id))=some u:=by rw[hs]; exact q2
 have hrm:=List.mem_of_getElem? hr
 have er:=R.ent hrm
 unfold backM at h0 ⊢
 split at h0
 rotate_left
 ·rename_i hn
  exact absurd h0 hn
 rename_i hb0
 rw[if_pos hb0]
 cases hv:volOf (spl (fullR s.rs r.id)) with
 | none=>
   unfold backA at hb0
   rw[hv] at hb0
   exact absurd (show (141:Int)=0 from hb0) (by decide)
 | some a2=>
   have hrs:=vol_snap R hv hl hr
   cases hp:plcN s.rs r.prev with
   | none=>
     unfold backA at hb0
     rw[hv,hl] at hb0
     simp only at hb0
     rw[hr] at hb0
     simp only at hb0
     rw[hp] at hb0
     exact absurd (show (174:Int)=0 from hb0) (by decide)
   | some j=>
     obtain⟨hj,hjid⟩:=plcN_at hp
     have hz:=List.getElem?_eq_getElem hj
     have hb:backA s.nx s.rs (spl (fullR s.rs r.id))=(s.nx,s.rs.map (backF r s.rs[j].root),r,0):=by
      unfold backA
      rw[hv,hl]
      simp only
      rw[hr]
      simp only
      rw[hp]
      simp only
      rw[hz]
     generalize hzz:s.rs[j]=z at hz hb hjid
     have hzm:=List.mem_of_getElem? hz
     have ez:=R.ent hzm
     have hprev:r.prev≠0:=by have:=ez.1.1; omega
     have hzs:z.snap=true:=by
      obtain⟨j2,x,p1,p2,p3, -⟩:=(R.2.2.2.2 r hrm).1.1 hprev
      rw[hp] at p1
      cases p1
      rw[hz] at p2
      cases p2
      exact p3
     have hne:z.id≠r.id:=by
      intro e
      have u1:=R.uniq hz
      have u2:=R.uniq hr
      rw[e,u2] at u1
      cases u1
      rw[hr] at hz
      cases hz
      rw[hrs] at hzs
      cases hzs
     have hown:z.own=r.id:=by
      by_cases ho:z.own=r.id
      ·exact ho
      ·exfalso
       have hw:wayR s.rs r.id=([],r.prev):=by
        unfold wayR
        rw[R.uniq hr]
        simp only
        rw[hr]
        simp only
        rw[if_neg (by rw[hrs]; decide)]
        show wayW s.rs r.id (31+1) r.prev []=_
        unfold wayW
        rw[if_neg hprev,hp]
        simp only
        rw[hz]
        simp only
        rw[if_neg ho]
       unfold infoM at hfrm
       simp only at hfrm
       rw[if_neg (by rw[hrs]; decide),hw] at hfrm
       simp only at hfrm
       rw[←hjid] at hfrm
       obtain⟨a3,b3,k1, -⟩:=R.called hz
       rw[hfrm] at k1
       rcases k1 with ⟨k, -, -⟩ | ⟨k2,k3,k4⟩
       ·have:=k.1
        have h0:noB.size=0:=rfl
        omega
       ·have:=congrArg ByteArray.size k4
        rw[ByteArray.size_append,ByteArray.size_append] at this
        have h0:noB.size=0:=rfl
        have h1:atB.size=1:=rfl
        omega
     have hfv:fullR s.rs r.id=r.name:=by
      unfold fullR
      rw[R.uniq hr]
      simp only
      rw[hr]
      simp only
      rw[if_neg (by rw[hrs]; decide)]
     have hfz:=fullR_at R hzm hzs hrm hown.symm
     have k6:=same6_back r z.root
     rw[hb]
     simp only
     refine⟨z,j,hz,by rw[hfz,hfv],listM_map k6 s.rs,fun i x hx=>⟨backF r z.root x,?_,k6.id x,fullR_map k6 s.rs x.id⟩,?_,?_⟩
     ·show (s.rs.map (backF r z.root))[i]?= _
      rw[List.getElem?_map,hx]
      rfl
     ·show (if r.id=r.id then s.T r.prev else s.T r.id)=s.T z.id
      rw[if_pos rfl,hjid]
     ·show (if z.id=r.id then s.T r.prev else s.T z.id)=s.T z.id
      rw[if_neg hne]
/-! ## Texts -/
theorem strAt {s:ByteArray} {n:Nat} (h:n < s.size):∃c:UInt8,s[n]?= some c∧(btl s)[n]?= some c:=by
 refine⟨s[n],getElem?_pos s n h,?_⟩
 obtain⟨⟨l⟩⟩:=s
 exact List.getElem?_eq_getElem h
theorem pre_name (a c:ByteArray):a.size < (a ++ atB ++ c).size∧(a ++ atB ++ c).extract 0 a.size=a∧(a ++ atB ++ c)[a.size]?= some 64:=by
 have h1:atB.size=1:=rfl
 have hlt:a.size < (a ++ atB ++ c).size:=by
  rw[ByteArray.size_append,ByteArray.size_append]
  omega
 refine⟨hlt,btl_ext ?_,?_⟩
 ·rw[btl_ex,btl_join,List.extract_eq_take_drop,List.drop_zero,Nat.sub_zero,←btl_len,List.take_left]
 ·obtain⟨ch,e1,e2⟩:=strAt hlt
  rw[e1]
  rw[btl_join,←btl_len,List.getElem?_append_right (Nat.le_refl _),Nat.sub_self] at e2
  exact e2.symm
theorem md_do (s:MSt) (k:Int) (f t:ByteArray) (i:Int) (ds:List Nat):s.md≤(doM s k f t i ds).1.md∧(k=1→(doM s k f t i ds).2.2=0→(doM s k f t i ds).1.md=s.md+1):=by
 have hg:∀{s' : MSt} {nx' : Int} {rs' : List SetR} {e:Int},(growM s' nx' rs' e).md=s'.md:=fun {s' nx' rs' e}=>by unfold growM; split <;> rfl
 by_cases k1:k=1
 ·subst k1
  have e:doM s 1 f t i ds=((writeM s f i ds).1,zeroS,(writeM s f i ds).2):=by unfold doM; rw[if_neg (by decide),if_pos rfl]
  rw[e]
  unfold writeM
  split
  ·rename_i z
   exact⟨Int.le_refl _,fun _ y=>absurd y z⟩
  ·split
   ·exact⟨Int.le_refl _,fun _ y=>absurd (show (92:Int)=0 from y) (by decide)⟩
   ·exact⟨by show s.md≤s.md+1; omega,fun _ _=>rfl⟩
 ·refine⟨?_,fun y=>absurd y k1⟩
  refine Int.le_of_eq (Eq.symm ?_)
  unfold doM
  split
  ·exact hg
  ·split
   ·show (trimM s f i).1.md=s.md
    unfold trimM
    split <;> rfl
   ·split
    ·rfl
    ·split
     ·refine hg.trans ?_
      split <;> rfl
     ·split
      ·exact hg
      ·split
       ·show (if _ then _ else _:MSt).md=s.md
        split <;> rfl
       ·split
        ·show (backM s f).1.md=s.md
         unfold backM
         split <;> rfl
        ·split
         ·show (destroyM s f).1.md=s.md
          unfold destroyM
          split <;> rfl
         ·split <;> rfl
def VOk (s:MSt):Prop:=∀x,InV s.T x→1≤x∧x≤s.md
theorem vok_do {b:Int} {h:AH} {mb bm:Nat} {s:MSt} (M:ModOk b h mb bm s) (hb:b+1≤1000000) (V:VOk s) {k:Int} (f t:ByteArray) (i:Int) {ds:List Nat} (hd:∀x∈ds,x < 256):VOk (doM s k f t i ds).1:=fun x hx=>by
 obtain⟨h1,h2⟩:=md_do s k f t i ds
 rcases inv_do M hb f t i hd hx with q | ⟨q1,q2,q3⟩
 ·have:=V x q
  omega
 ·have:=h2 q1 q2
  have:=M.md
  omega
theorem vok_len {s:MSt} (V:VOk s) {S:List Int} (hn:S.Nodup) (hS:∀x,x∈S↔InV s.T x):(S.length:Int)≤s.md.toNat:=by
 have:=nodup_leM (B:=(List.range s.md.toNat).map fun n:Nat=>(n:Int)+1) hn fun x hx=>by
  have:=V x ((hS x).1 hx)
  exact List.mem_map.2 ⟨(x - 1).toNat,List.mem_range.2 (by omega),by omega⟩
 simp only[List.length_map,List.length_range] at this
 omega
end Go.Am
/-
 PUT BACK IT READS AS ITS SNAPSHOT,in a model:the law.
-/
set_option linter.unusedVariables false
set_option linter.unusedSimpArgs false
set_option maxRecDepth 100000
namespace Go.Am
open Go.Proofs
structure KBcks (K:Xs):Prop where
 a:KAprt K
 w:KWrt K
 v:K 10=some (.sum (xVersions 64))
theorem backsTrue {K:Xs} {h:AH} (hk:K 6=none) (ha:K 7=some (.sum xTrue)) (kb:KBcks K) {p pd pk:Option Addr} {n c nd cd nk ck:Nat} {os:List OpP} (A:Ops h p n os) {kd oN:Int} {f t:ByteArray} (hf:f.size≤reachBytes):
 Wf Try.prog K 6 [.slice p n c,.agg #[.int .i64 kd,.string f,.string t,.int .i64 oN,.slice pd nd cd,.slice pk nk ck]] h fun v _=>v=.bool true:=by
 have hre:reachBytes=140737488351232:=rfl
 have kk:=kb.a
 have hnb:(ByteArray.mk #[])=noB:=rfl
 have h00:noB.size=0:=rfl
 refine vc_aquiferlaw21_ModelBacks hk _ _ _ _ _ _ _ _ _ _ _ _ _ h _ fun g0 e0=>Wf_sum ha (v:=.bool true) (h':=g0) rfl (Nat.le_refl _) (.inl ⟨rfl,fun _=>rfl,fun h40=>?_⟩)
 have o0:=old_of_alloc e0
 have n0:=next_of_alloc e0
 have w0:=get_of_alloc e0
 refine (newSpecM kk.m).mono ?_
 rintro _ g5 ⟨mb,bm,rfl,M5,o5,lmb,lbm⟩
 refine⟨_,rfl,fun i k g=>∃t:Nat,∃s,i=t∧t≤n∧n - t=k∧ModOk (2+t) g mb bm s∧OldM mb bm g5 g∧VOk s,⟨_,0,s0M,rfl,Nat.zero_le _,rfl,M5.mono (by omega) (by omega),⟨Nat.le_refl _,fun _ _ _ _=>rfl⟩,fun x hx=>?_⟩,?_⟩
 ·obtain⟨h0,id,i,hi,e⟩:=hx
  rw[show s0M.T id=zeroT from rfl,verAt_zero hi] at e
  exact absurd e.symm h0
 rintro k8 g9 i11 ⟨j,s,rfl,hj,rfl,M9,om9,V9⟩
 have o09:OldB g0.next g0 g9:=OldB.trans o5 (om9.toOld o5.1 lmb lbm)
 have oh9:Old h g9:=OldB.trans o0 ⟨o09.1,fun y hy=>o09.2 y (Nat.lt_of_lt_of_le hy o0.1)⟩
 have lt9:=M9.lt
 have lb9:=M9.lb
 refine⟨fun z=>?_,fun z=>?_⟩
 ·obtain⟨bb,off,rfl,hi',pd1,nd1,cd1,pk1,nk1,ck1,hld, -, -, -, -, -, -,Td1,Bk1,sz1,sz2,hb⟩:=(A.old oh9).at (i:=j) (by omega)
  generalize os[j]=x at hld Td1 Bk1 sz1 sz2
  refine derefP_at ⟨by omega,z,_,_,_,_,_,_,_,_,_,_,by rw[Int.toNat_natCast]; exact hld,fun g24 e24=>?_⟩
  obtain⟨g25,k25,n25,o25,v25⟩:=put_new e24 (vs:=[.int .i64 x.kind,.string x.name,.string x.to,.int .i64 x.n,.slice pd1 nd1 cd1,.slice pk1 nk1 ck1]) rfl
  have w25:=(v25 [] (fun c hc=>by cases hc)).1
  have M25:=M9.old o25
  refine⟨rfl,g25,k25,(versSpec kb.v M25).mono ?_⟩
  rintro _ g26 ⟨S1,rfl,nd1',mem1,o26⟩
  have M26:=M25.old o26
  have T26:=(Td1.old (o25.trans o26))
  have w26:=(o26.2 _ (by omega)).trans w25
  refine⟨_,rfl,_,_,_,_,_,_,_,_,_,_,ldN_all w26 rfl,(doSpecM kk.m M26 (by omega) x.kind x.name x.to (by omega) (by omega) x.n T26.2.2.2.1 T26.1 T26.2.2.2.2).mono ?_⟩
  rintro _ g39 ⟨rfl,M39,om39⟩
  have hlen:=doM_sec M26 x.kind x.name x.to x.n x.data
  have hinv:=fun {y:Int}=>inv_do M26 (by omega) x.name x.to x.n T26.2.2.2.2 (k:=x.kind) (x:=y)
  have V39:=vok_do M26 (by omega) V9 (k:=x.kind) x.name x.to x.n T26.2.2.2.2
  generalize doM s x.kind x.name x.to x.n x.data=D at M39 hlen hinv V39 ⊢
  obtain⟨s',l40,e41⟩:=D
  simp only at M39 hlen hinv V39 ⊢
  refine⟨_,_,rfl,fun g42 e42=>?_⟩
  obtain⟨g43,k43,n43,o43,v43⟩:=put_new e42 (vs:=l40) (by simpa using hlen)
  have M43:=M39.old o43
  refine⟨hlen,g43,k43,(versSpec kb.v M43).mono ?_⟩
  rintro _ g45 ⟨S2,rfl,nd2,mem2,o45⟩
  have l1:=vok_len V9 nd1' mem1
  have l2:=vok_len V39 nd2 mem2
  have hmd:=M39.md
  have w45:=((o43.trans o45).2 _ (by have:=om39.1; have:=o26.1; omega)).trans ((om39.2 _ (by have:=o26.1; omega) (by omega) (by omega)).trans w26)
  have om45:OldM mb bm g5 g45:=om9.trans ((OldM.of_old (o25.trans o26)).trans (om39.trans (OldM.of_old (o43.trans o45))))
  have M45:=M43.old o45
  have go:∀{g:AH},Old g45 g→∀i:Int,i=IntKind.wrap .i64 ((j:Int)+1)→∃j9,j9 < n - j∧∃u:Nat,∃s,i=u∧u≤n∧n - u=j9∧ModOk (2+u) g mb bm s∧OldM mb bm g5 g∧VOk s:=fun {g} o i e=>by
   have e:=i64w e (by omega) (by omega)
   exact⟨n - (j+1),by omega,j+1,s',by omega,by omega,rfl,(M45.old o).mono (by omega) (by omega),om45.trans (OldM.of_old o),V39⟩
  have le1:(¬(x.kind=1∧e41=0))→S2.length≤S1.length:=fun hn=>nodup_leM nd2 fun y hy=>by
   rcases hinv ((mem2 y).1 hy) with q | ⟨q1,q2, -⟩
   ·exact (mem1 y).2 q
   ·exact absurd ⟨q1,q2⟩ hn
  have le2:S2.length≤S1.length+1:=nodup_leM (B:=(s.md+1) :: S1) nd2 fun y hy=>by
   rcases hinv ((mem2 y).1 hy) with q | ⟨q1,q2,q3⟩
   ·exact List.mem_cons_of_mem _ ((mem1 y).2 q)
   ·rw[q3]; exact List.mem_cons_self ..
  refine⟨_,rfl,fun y=>⟨x.kind,ld1_at w45 rfl,fun y1=>⟨fun y2=>?_,fun y2=>?_⟩,fun y1=>?_⟩,fun y=>go (Old.refl _)⟩
  ·refine (versSpec kb.v M45).mono ?_
   rintro _ g49 ⟨S3,rfl,nd3,mem3,o49⟩
   have l3:S3.length≤S2.length:=nodup_leM nd3 fun y hy=>(mem2 y).2 ((mem3 y).1 hy)
   refine⟨_,rfl,fun i51 e51=>?_⟩
   have e51:=i64w e51 (by omega) (by omega)
   exact⟨fun q=>absurd q (by omega),fun _=>go o49⟩
  ·exact absurd y (by have:=le1 fun q=>y2 q.2; omega)
  ·exact absurd y (by have:=le1 fun q=>y1 q.1; omega)
 obtain rfl:j=n:=by omega
 have R:=M9.right
 have h32:=R.2.1
 have w9:=(o09.2 _ (by omega)).trans w0
 refine (listSpec kk.m kk.l M9).mono ?_
 rintro _ g55 ⟨pl,nl,cl,rfl,hnl,SL,o55, -⟩
 have M55:=M9.old o55
 refine⟨_,_,_,rfl,fun i k g=>∃u:Nat,i=u∧u≤nl∧nl - u=k∧Old g55 g,⟨_,0,rfl,Nat.zero_le _,rfl,Old.refl _⟩,?_⟩
 rintro k60 g61 i63 ⟨u,rfl,hu,rfl,o61⟩
 have M61:=M55.old o61
 refine⟨fun z=>?_,fun z=>?_⟩
 rotate_left
 ·have w61:=((o55.trans o61).2 _ (by have:=o09.1; omega)).trans w9
  refine⟨_,ld1_at w61 rfl,_,ld1_at w61 rfl,(doReadSpec kk.m M61 f (ByteArray.mk #[]) (by omega) oN).mono ?_⟩
  rintro _ g203 ⟨rfl,o203⟩
  obtain⟨bs,be,sb⟩:=readM_sec M61 f oN
  have hblk:(readM s f oN).2=0→0≤oN∧oN < 64:=fun y=>by
   refine M61.block (o:=spl f) (i:=oN) ?_
   unfold readM at y
   split at y
   ·exact y
   ·rename_i hz
    simpa using hz
  refine⟨_,_,rfl,fun g206 e206=>?_⟩
  obtain⟨g207,k207,n207,o207,v207⟩:=put_new e206 (vs:=(readM s f oN).1) (by rw[be,sb.len]; simp)
  have w207:=((o203.trans o207).2 _ (by have:=o55.1; have:=o61.1; have:=o09.1; omega)).trans w61
  refine⟨by rw[be,sb.len],g207,k207,fun y=>?_,fun y=>by first | rfl | trivial⟩
  obtain⟨q1,q2⟩:=hblk y
  exact⟨_,ld1_at w207 rfl,fun _=>⟨_,ld1_at w207 rfl,fun _=>by first | rfl | trivial,fun q=>absurd q2 q⟩,fun q=>absurd q1 q⟩
 have hul:u < s.rs.length:=by omega
 have hur:=List.getElem?_eq_getElem hul
 have hll:u < (listM s.rs).length:=by simp only[listM,List.length_map]; omega
 obtain⟨bl,offl,rfl,hld, -⟩:=(SL.old o61).getN (i:=u) (by omega)
 rw[infosC_get _ u hll,show (listM s.rs)[u]=infoM s.rs s.rs[u] by simp[listM]] at hld
 generalize s.rs[u]=r at hur hld
 have hsz:=fullR_size R r.id
 obtain⟨X,hX⟩:∃X,fullR s.rs r.id=X:=⟨_,rfl⟩
 refine derefP_at ⟨by omega,z,_,_,_,_,by rw[Int.toNat_natCast]; exact hld,fun g70 e70=>?_⟩
 obtain⟨g71,k71,n71,o71,v71⟩:=put_new e70 (vs:=infoC1 (infoM s.rs r)) rfl
 have w71:=(v71 [] (fun c hc=>by cases hc)).1
 have M71:=M61.old o71
 refine⟨rfl,g71,k71,(copySpecM kk.m kk.c M71).mono ?_⟩
 rintro _ g73 ⟨mb2,bm2,rfl,N73,o73,lm1,lm2⟩
 have lt71:=M71.lt
 have lb71:=M71.lb
 have M73:=M71.old o73
 have w73:=(o73.2 _ (by omega)).trans w71
 have go:∀{g:AH},Old g55 g→∀i:Int,i=IntKind.wrap .i64 ((u:Int)+1)→∃j62,j62 < nl - u∧∃v:Nat,i=v∧v≤nl∧nl - v=j62∧Old g55 g:=fun {g} o i e=>by
  have e:=i64w e (by omega) (by omega)
  exact⟨nl - (u+1),by omega,u+1,by omega,by omega,rfl,o⟩
 refine⟨_,rfl,(listSpec kk.m kk.l M73).mono ?_⟩
 rintro _ g76 ⟨pq,nq,cq,rfl,hnq,SQ,o76, -⟩
 have o5576:Old g55 g76:=o61.trans (o71.trans (o73.trans o76))
 have N76:=N73.old o76
 have w76:=(o76.2 _ (by have:=o73.1; omega)).trans w73
 have pick:∀{g:AH} {pp:Option Addr} {m:Nat},Shows g pp m 4 (infosC (listM s.rs))→m=s.rs.length→∀{i:Nat},i < m→∃b off y,pp=some ⟨b,off,none⟩∧s.rs[i]?= some y∧ldN g b (off+i * 4) 4=some (infoC1 (infoM s.rs y)):=fun {g pp m} S hm i hi=>by
  have hil:i < s.rs.length:=by omega
  have hll2:i < (listM s.rs).length:=by simp only[listM,List.length_map]; omega
  obtain⟨b,off,e,hld, -⟩:=S.getN hi
  rw[infosC_get _ i hll2,show (listM s.rs)[i]=infoM s.rs s.rs[i] by simp[listM]] at hld
  exact⟨b,off,_,e,List.getElem?_eq_getElem hil,hld⟩
 refine⟨_,_,_,rfl,fun _ i k g=>∃v:Nat,i=v∧v≤nq∧nq - v=k∧Old g76 g,⟨_,0,rfl,Nat.zero_le _,rfl,Old.refl _⟩,?_⟩
 rintro k81 g82 s84 i85 ⟨v,rfl,hv,rfl,o82⟩
 refine⟨fun z=>?_,fun z=>?_⟩
 ·obtain⟨b2,off2,y,rfl,hy,hld2⟩:=pick (SQ.old o82) hnq (i:=v) (by omega)
  have hysz:=fullR_size R y.id
  refine derefP_at ⟨by omega,z,_,_,_,_,by rw[Int.toNat_natCast]; exact hld2,fun g92 e92=>?_⟩
  obtain⟨g93,k93,n93,o93,v93⟩:=put_new e92 (vs:=infoC1 (infoM s.rs y)) rfl
  have w93:=(v93 [] (fun c hc=>by cases hc)).1
  have x93:=((o82.trans o93).2 _ (by have:=o73.1; have:=o76.1; omega)).trans w76
  have nxt:∀i:Int,i=IntKind.wrap .i64 ((v:Int)+1)→∃j83,j83 < nq - v∧∃w:Nat,i=w∧w≤nq∧nq - w=j83∧Old g76 g93:=fun i e=>by
   have e:=i64w e (by omega) (by omega)
   exact⟨nq - (v+1),by omega,v+1,by omega,by omega,rfl,o82.trans o93⟩
  refine⟨rfl,g93,k93,_,ld1_at w93 rfl,_,ld1_at x93 rfl,fun q=>?_,fun _=>nxt⟩
  have q' : (fullR s.rs r.id).size < (fullR s.rs y.id).size:=by simpa[infoM] using q
  obtain⟨ch,hc1, -⟩:=strAt q'
  refine⟨_,ld1_at w93 rfl,_,ld1_at x93 rfl,_,(aSlice_str Try.underlying9 _ _ (Nat.le_of_lt q')).1,_,ld1_at x93 rfl,fun _=>⟨_,ld1_at w93 rfl,_,ld1_at x93 rfl,by omega,ch,by rw[Int.toNat_natCast]; exact hc1,fun _=>⟨_,ld1_at w93 rfl,nxt⟩,fun _=>nxt⟩,fun _=>nxt⟩
 have o5582:=o5576.trans o82
 have N82:=N76.old o82
 have x82:=(o82.2 _ (by have:=o73.1; have:=o76.1; omega)).trans w76
 refine⟨_,ld1_at x82 rfl,?_⟩
 refine (doSpecM kk.m N82 (by omega) 7 (fullR s.rs r.id) (ByteArray.mk #[]) (by omega) (by show noB.size≤_; omega) 0 (pd:=none) (nd:=0) (ds:=[]) ⟨rfl,.inl rfl⟩ (.inl rfl) (fun x hx=>by cases hx)).mono ?_
 have e7:doM s 7 (fullR s.rs r.id) (ByteArray.mk #[]) 0 []=((backM s (fullR s.rs r.id)).1,zeroS,(backM s (fullR s.rs r.id)).2):=by
  unfold doM
  rw[if_neg (by decide),if_neg (by decide),if_neg (by decide),if_neg (by decide),if_neg (by decide),if_neg (by decide),if_neg (by decide),if_pos rfl]
 rw[e7]
 rintro _ g110 ⟨rfl,N110,on110⟩
 have hg82:=o5582.1
 have lt82:=(M55.old o5582).lt
 have lb82:=(M55.old o5582).lb
 have M82:=M55.old o5582
 have o55110:Old g55 g110:=OldB.trans o5582 (on110.toOld hg82 (by have:=o61.1; omega) (by have:=o61.1; omega))
 have M110:=N82.other M82 on110 (by omega) (by omega)
 have x110:=(on110.2 _ (by have:=o73.1; have:=o76.1; have:=o82.1; omega) (by omega) (by omega)).trans x82
 refine⟨_,_,rfl,fun g113 e113=>?_⟩
 obtain⟨g114,k114,n114,o114,v114⟩:=put_new e113 (vs:=zeroS) (by simp[zeroS])
 have o55114:=o55110.trans o114
 have hx82:g61.next < g82.next:=by have:=o73.1; have:=o76.1; have:=o82.1; omega
 have x114:=(o114.2 _ (by have:=on110.1; omega)).trans x110
 refine⟨zeroS_len,g114,k114,fun be0=>⟨fun _=>go o55114,fun _=>⟨_,ld1_at x114 rfl,fun fr0=>?_,fun _=>go o55114⟩⟩,fun _=>go o55114⟩
 obtain⟨zr,jz,hz,hfz,hlist,hrec,hT1,hT2⟩:=back_is R hur be0 fr0
 obtain⟨pn1,pn2,pn3⟩:=pre_name (fullR s.rs r.id) zr.name
 rw[←hfz] at pn1 pn2 pn3
 have hjz:=(List.getElem?_eq_some_iff.1 hz).1
 have M114:=M110.old o114
 have N114:=N110.old o114
 have hlm:=infoM_ok R
 have hwr:wrOf (backM s (fullR s.rs r.id)).1 (fullR s.rs r.id)=wrOf (backM s (fullR s.rs r.id)).1 (fullR s.rs zr.id):=by
  obtain⟨r',a1,a2,a3⟩:=hrec u r hur
  obtain⟨z',b1,b2,b3⟩:=hrec jz zr hz
  have c1:=wrOf_full N110.right a1
  have c2:=wrOf_full N110.right b1
  rw[a2,a3,hT1] at c1
  rw[b2,b3,hT2] at c2
  rw[c1,c2]
 generalize (backM s (fullR s.rs r.id)).1=s' at N114 N110 hlist hwr
 refine (listSpec kk.m kk.l M114).mono ?_
 rintro _ g118 ⟨pf,nf,cf,rfl,hnf,SF,o118, -⟩
 have x118:=(o118.2 _ (by have:=on110.1; omega)).trans x114
 have M118:=M114.old o118
 have N118:=N114.old o118
 have o55118:=o55114.trans o118
 have hx118:g61.next < g118.next:=by have:=on110.1; have:=o118.1; omega
 refine⟨_,_,_,rfl,fun bo i k g=>∃v:Nat,i=v∧v≤nf∧nf - v=k∧(bo=false→v≤jz)∧Old g118 g,⟨_,0,rfl,Nat.zero_le _,rfl,fun _=>Nat.zero_le _,Old.refl _⟩,?_⟩
 intro k123 g124
 refine⟨?_,?_⟩
 ·rintro i126 ⟨v,rfl,hv,rfl, -,o124⟩
  refine⟨fun z=>?_,fun z=>?_⟩
  ·obtain⟨b2,off2,y,rfl,hy,hld2⟩:=pick (SF.old o124) hnf (i:=v) (by omega)
   have hysz:=fullR_size R y.id
   refine derefP_at ⟨by omega,z,_,_,_,_,by rw[Int.toNat_natCast]; exact hld2,fun g92 e92=>?_⟩
   obtain⟨g93,k93,n93,o93,v93⟩:=put_new e92 (vs:=infoC1 (infoM s.rs y)) rfl
   have w93:=(v93 [] (fun c hc=>by cases hc)).1
   have x93:=((o124.trans o93).2 _ hx118).trans x118
   have nxt:∀i:Int,i=IntKind.wrap .i64 ((v:Int)+1)→∃j83,j83 < nf - v∧∃w:Nat,i=w∧w≤nf∧nf - w=j83∧(true=false→w≤jz)∧Old g118 g93:=fun i e=>by
    have e:=i64w e (by omega) (by omega)
    exact⟨nf - (v+1),by omega,v+1,by omega,by omega,rfl,fun q=>(by cases q),o124.trans o93⟩
   refine⟨rfl,g93,k93,_,ld1_at w93 rfl,_,ld1_at x93 rfl,fun q=>?_,fun _=>nxt⟩
   have q' : (fullR s.rs r.id).size < (fullR s.rs y.id).size:=by simpa[infoM] using q
   obtain⟨ch,hc1, -⟩:=strAt q'
   exact⟨_,ld1_at w93 rfl,_,ld1_at x93 rfl,_,(aSlice_str Try.underlying9 _ _ (Nat.le_of_lt q')).1,_,ld1_at x93 rfl,fun _=>⟨_,ld1_at w93 rfl,_,ld1_at x93 rfl,by omega,ch,by rw[Int.toNat_natCast]; exact hc1,fun _=>nxt,fun _=>nxt⟩,fun _=>nxt⟩
  ·refine (listSpec kk.m kk.l (N118.old o124)).mono ?_
   rintro _ g149 ⟨p1,n1,c1,rfl,h1,S1,o149, -⟩
   refine⟨_,_,_,rfl,(listSpec kk.m kk.l (M118.old (o124.trans o149))).mono ?_⟩
   rintro _ g154 ⟨p2,n2,c2,rfl,h2,S2,o154, -⟩
   rw[hlist] at S1
   have hn1:n1≤1000000:=by
    have e1:=S1.1
    rw[infosC_len] at e1
    simp only[listM,List.length_map] at e1
    omega
   refine⟨_,_,_,rfl,(sameListSpec kk.l (S1.old o154) S2 hlm hn1).mono ?_⟩
   rintro _ _ ⟨rfl,rfl⟩
   exact .inl ⟨rfl,go (o55118.trans (o124.trans (o149.trans o154)))⟩
 ·rintro i161 ⟨v,rfl,hv,rfl,hvj,o124⟩
  have hvj:=hvj rfl
  refine⟨fun z=>?_,fun z=>absurd (show ((v:Nat):Int) < ((nf:Nat):Int) by omega) z⟩
  obtain⟨b2,off2,y,rfl,hy,hld2⟩:=pick (SF.old o124) hnf (i:=v) (by omega)
  have hysz:=fullR_size R y.id
  have hyz:v=jz→y=zr:=fun e=>by
   subst e
   rw[hz] at hy
   exact (Option.some.inj hy).symm
  refine derefP_at ⟨by omega,z,_,_,_,_,by rw[Int.toNat_natCast]; exact hld2,fun g92 e92=>?_⟩
  obtain⟨g93,k93,n93,o93,v93⟩:=put_new e92 (vs:=infoC1 (infoM s.rs y)) rfl
  have w93:=(v93 [] (fun c hc=>by cases hc)).1
  have x93:=((o124.trans o93).2 _ hx118).trans x118
  have nxtT:∀{g:AH},Old g93 g→∀i:Int,i=IntKind.wrap .i64 ((v:Int)+1)→∃j83,j83 < nf - v∧∃w:Nat,i=w∧w≤nf∧nf - w=j83∧(true=false→w≤jz)∧Old g118 g:=fun {g} o i e=>by
   have e:=i64w e (by omega) (by omega)
   exact⟨nf - (v+1),by omega,v+1,by omega,by omega,rfl,fun q=>(by cases q),(o124.trans o93).trans o⟩
  have nxtF:v≠jz→∀{g:AH},Old g93 g→∀i:Int,i=IntKind.wrap .i64 ((v:Int)+1)→∃j83,j83 < nf - v∧∃w:Nat,i=w∧w≤nf∧nf - w=j83∧(false=false→w≤jz)∧Old g118 g:=fun hne {g} o i e=>by
   have e:=i64w e (by omega) (by omega)
   exact⟨nf - (v+1),by omega,v+1,by omega,by omega,rfl,fun _=>by omega,(o124.trans o93).trans o⟩
  refine⟨rfl,g93,k93,_,ld1_at w93 rfl,_,ld1_at x93 rfl,fun q=>?_,fun q=>nxtF (fun e=>q ?_) (Old.refl _)⟩
  rotate_left
  ·rw[hyz e]
   show (((fullR s.rs r.id).size:Nat):Int) < (((fullR s.rs zr.id).size:Nat):Int)
   omega
  have q' : (fullR s.rs r.id).size < (fullR s.rs y.id).size:=by simpa[infoM] using q
  obtain⟨ch,hc1, -⟩:=strAt q'
  refine⟨_,ld1_at w93 rfl,_,ld1_at x93 rfl,_,(aSlice_str Try.underlying9 _ _ (Nat.le_of_lt q')).1,_,ld1_at x93 rfl,fun _=>⟨_,ld1_at w93 rfl,_,ld1_at x93 rfl,by omega,ch,by rw[Int.toNat_natCast]; exact hc1,fun _=>?_,fun cn=>nxtF (fun e=>cn ?_) (Old.refl _)⟩,fun pe=>nxtF (fun e=>pe ?_) (Old.refl _)⟩
  ·have N93:=N118.old (o124.trans o93)
   refine⟨_,ld1_at x93 rfl,(writtenSpec kk.m kb.w N93 (fullR s.rs r.id) (by omega)).mono ?_⟩
   rintro _ g181 ⟨pa,na,ca,rfl,SA,hna,o181⟩
   have w181:=(o181.2 _ (by omega)).trans w93
   refine⟨_,_,_,rfl,_,ld1_at w181 rfl,(writtenSpec kk.m kb.w (N93.old o181) (fullR s.rs y.id) (by omega)).mono ?_⟩
   rintro _ g187 ⟨pb,nb,cb,rfl,SB,hnb2,o187⟩
   refine⟨_,_,_,rfl,(sameInts kb.w (SA.old o187) SB (by omega)).mono ?_⟩
   rintro _ _ ⟨rfl | ⟨rfl,hne⟩,rfl⟩
   ·exact .inl ⟨rfl,ld1_at w93 rfl,ld1_at w181 rfl,nxtT (o181.trans o187)⟩
   ·exact .inr ⟨rfl,ld1_at w93 rfl,ld1_at w181 rfl,nxtF (fun e=>hne (by rw[hyz e]; exact hwr)) (o181.trans o187)⟩
  ·rw[hyz e,pn3] at hc1
   cases hc1
   rfl
  ·rw[hyz e]
   exact pn2
end Go.Am
