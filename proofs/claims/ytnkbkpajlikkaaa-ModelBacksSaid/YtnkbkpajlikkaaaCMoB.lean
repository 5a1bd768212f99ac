/-
  A MODEL: what it is; a record by its name; a block is put.
-/
import Derived.Test.YtnkbkpajlikkaaaCMoA
import Derived.Test.YtnkbkpajlikkaaaCRuF
import Derived.Test.YtnkbkpajlikkaaaVModel
set_option linter.unusedVariables false
set_option linter.unusedSimpArgs false
set_option maxRecDepth 100000
namespace Go.Am
open Go.Proofs
structure MSt where
 nx:Int
 rs:List SetR
 T:Int→List Value
 st:Int
 md:Int
structure ModOk (b:Int) (h:AH) (mb bm:Nat) (s:MSt):Prop where
 cells:∃p n c,h.get mb=some (.cells (modC s.nx p n c (some bm) s.st s.md) 52 false)∧BookR s.nx s.rs s.nx p n h
 map:MapT h bm s.T
 lt:mb < h.next
 lb:bm < h.next
 right:RightP s.nx s.rs
 nx:1≤s.nx∧s.nx≤b
 st:1≤s.st∧s.st≤b
 md:0≤s.md∧s.md≤b
 bd:b≤1000000
section
variable {b:Int} {h h' : AH} {mb bm:Nat} {s:MSt}
theorem ModOk.old (k:ModOk b h mb bm s) (o:Old h h'):ModOk b h' mb bm s:=by
 obtain⟨p,n,c,h1,h2⟩:=k.cells
 exact { k with cells:=⟨p,n,c,(o.2 _ k.lt).trans h1,h2.old o⟩,map:=k.map.near (o.2 _ k.lb),lt:=Nat.lt_of_lt_of_le k.lt o.1,lb:=Nat.lt_of_lt_of_le k.lb o.1 }
theorem ModOk.ne (k:ModOk b h mb bm s):mb≠bm:=by
 rintro rfl
 obtain⟨p,n,c,h1, -⟩:=k.cells
 obtain⟨es,cl,h2, -⟩:=k.map.get
 rw[h1] at h2
 cases h2
def OldM (mb bm:Nat) (h h' : AH):Prop:=h.next≤h'.next∧∀y,y < h.next→y≠mb→y≠bm→h'.get y=h.get y
theorem OldM.of_old (o:Old h h'):OldM mb bm h h':=⟨o.1,fun y hy _ _=>o.2 y hy⟩
theorem OldM.trans {h1 h2 h3:AH} (a:OldM mb bm h1 h2) (c:OldM mb bm h2 h3):OldM mb bm h1 h3:=⟨Nat.le_trans a.1 c.1,fun y hy q1 q2=>(c.2 y (Nat.lt_of_lt_of_le hy a.1) q1 q2).trans (a.2 y hy q1 q2)⟩
theorem OldM.near1 (n:Near mb h h'):OldM mb bm h h':=⟨by rw[n.1]; exact Nat.le_refl _,fun y _ q _=>n.2 y q⟩
theorem OldM.near2 (n:Near bm h h'):OldM mb bm h h':=⟨by rw[n.1]; exact Nat.le_refl _,fun y _ _ q=>n.2 y q⟩
theorem ModOk.stay (k:ModOk b h mb bm s) (o:OldM mb bm h h'):StayM h h':=by
 refine⟨o.1,fun y hy=>?_⟩
 by_cases q1:y=mb
 ·obtain⟨p,n,c,h1, -⟩:=k.cells
  exact .inr ⟨_,by rw[q1]; exact h1,mod_noBook _ _ _ _ _ _ _ _⟩
 ·by_cases q2:y=bm
  ·obtain⟨es,cl,h1, -⟩:=k.map.get
   exact .inr ⟨_,by rw[q2]; exact h1,map_noBook _ _⟩
  ·exact .inl (o.2 y hy q1 q2)
theorem ModOk.other {mb2 bm2:Nat} {s2:MSt} (k:ModOk b h mb bm s) (k2:ModOk b h mb2 bm2 s2) (o:OldM mb bm h h') (d1:mb2≠mb) (d2:bm2≠bm):ModOk b h' mb2 bm2 s2:=by
 have st:=k.stay o
 obtain⟨p,n,c,h1,h2⟩:=k2.cells
 obtain⟨es,cl,h3, -⟩:=k.map.get
 obtain⟨p',n',c',h5, -⟩:=k.cells
 obtain⟨es2,cl2,h4, -⟩:=k2.map.get
 have e1:mb2≠bm:=by rintro rfl; rw[h3] at h1; cases h1
 have e2:bm2≠mb:=by rintro rfl; rw[h5] at h4; cases h4
 exact { k2 with cells:=⟨p,n,c,(o.2 _ k2.lt d1 e1).trans h1,h2.stayM st⟩,map:=k2.map.near (o.2 _ k2.lb e2 d2),lt:=Nat.lt_of_lt_of_le k2.lt o.1,lb:=Nat.lt_of_lt_of_le k2.lb o.1 }
theorem ModOk.mono {b' : Int} (k:ModOk b h mb bm s) (h1:b≤b') (h2:b'≤1000000):ModOk b' h mb bm s:={ k with nx:=⟨k.nx.1,by have:=k.nx.2; omega⟩,st:=⟨k.st.1,by have:=k.st.2; omega⟩,md:=⟨k.md.1,by have:=k.md.2; omega⟩,bd:=h2 }
end
/-! ## A record by its name -/
noncomputable def findM (rs:List SetR) (o:Option (ByteArray×ByteArray)) (i:Int):SetR×Int:=match o with
 | none=>(zeroR,141)
 | some _=>match lookOf rs o with
   | none=>(zeroR,172)
   | some j=>match rs[j]? with
     | none=>(zeroR,172)
     | some r=>if i < 0∨r.blocks≤i then (zeroR,176) else (r,0)
theorem findM_cor {xs ys:List SetR} (h:xs.map cor=ys.map cor) (o:Option (ByteArray×ByteArray)) (i:Int):(findM xs o i).2=(findM ys o i).2∧cor (findM xs o i).1=cor (findM ys o i).1:=by
 unfold findM
 cases o with
 | none=>exact⟨rfl,rfl⟩
 | some q=>
   simp only
   rw[lookOf_cor h]
   cases lookOf ys (some q) with
   | none=>exact⟨rfl,rfl⟩
   | some j=>
     simp only
     rcases getc h j with ⟨h1,h2⟩ | ⟨a,c,h1,h2,h3⟩
     ·rw[h1,h2]
      exact⟨rfl,rfl⟩
     ·rw[h1,h2]
      simp only
      rw[(cor_eq h3).2.2.2.2.2.2.1]
      split
      ·exact⟨rfl,rfl⟩
      ·exact⟨rfl,h3⟩
theorem ids_wf {g:AH} {p:Option Addr} {n:Nat} {rs:List SetR} (T:Sets g p n rs):∀r∈rs,(Lit.int .u64 r.id).wf=true:=fun r hr=>(T.ok r hr).id
structure KMod (K:Xs):Prop where
 acts:KActs6 K
 named:KNamed K
 find:K 41=none
 volume:K 39=none
 put:K 40=none
 write:K 20=none
 trim:K 21=none
 read:K 22=none
 grow:K 19=none
 back:K 26=none
 destroy:K 27=none
 do_:K 11=none
 new:K 8=none
def RecQ (x:SetR×Int) (v:Value):Prop:=∃r,v=.tuple #[.agg (setC r).toArray,.int .i64 x.2]∧cor r=cor x.1∧(Lit.int .u64 r.id).wf=true
section
variable {K:Xs} {b:Int} {h:AH} {mb bm:Nat} {s:MSt}
theorem findSpec2 (kk:KMod K) (M:ModOk b h mb bm s) (f:ByteArray) (hf:f.size≤9223372036854775806) (i:Int):
 Wf Try.prog K 41 [.pointer (some ⟨mb,0,none⟩),.string f,.int .i64 i] h fun v h'=>RecQ (findM s.rs (spl f) i) v∧Old h h':=by
 obtain⟨p,n,c,hc,hbk⟩:=M.cells
 obtain⟨-,xs,B,hx⟩:=hbk
 refine vc_model_Model_find kk.find _ _ _ h _ fun g0 e0=>?_
 have o0:=old_of_alloc e0
 have n0:=next_of_alloc e0
 have R' : RightP s.nx xs:=M.right.cor hx.symm
 refine⟨_,_,_,ld1_at ((o0.2 _ M.lt).trans hc) rfl,(namedSpec kk.named (B.1.old o0) R'.calOk (ids_wf B.1) f hf).mono ?_⟩
 obtain⟨q2,q1⟩:=findM_cor hx (spl f) i
 unfold RecQ
 rw[←q2,←q1]
 have way:∀{g7:AH},Old g0 g7→∀(r:SetR) (g22:AH),g22=g7.alloc (.cells (setC zeroR) 59 false)→∃g23,stN g22 g7.next 0 (setC r)=some g23∧Old h g23∧g23.get g7.next=some (.cells (setC r) 59 false)∧g23.get h.next=some (.cells (setC zeroR) 59 false):=fun {g7} o7 r g22 e22=>by
  obtain⟨g23,k23,n23,o23,v23⟩:=put_new e22 (vs:=setC r) rfl
  exact⟨g23,k23,o0.trans (o7.trans o23),(v23 [] (fun c hc=>by cases hc)).1,(o23.2 _ (by have:=o7.1; omega)).trans ((o7.2 _ (by omega)).trans (get_of_alloc e0))⟩
 rintro _ g7 ⟨q,o7⟩
 rcases q with ⟨a,b',hsp,⟨j,r,p',c',hl,hr,rfl,ok⟩ | ⟨hl,rfl⟩⟩ | ⟨hno,rfl⟩
 ·have hs:=spl_some hsp
  have hlk:lookOf xs (spl f)=some j:=by rw[hs]; exact hl
  refine⟨_,_,_,_,_,_,_,_,_,_,_,_,_,_,rfl,fun g22 e22=>?_⟩
  obtain⟨g23,k23,o23,w23,z23⟩:=way o7 { r with dp:=p',dc:=c' } g22 e22
  have hcs:cor { r with dp:=p',dc:=c' }= cor r:=rfl
  refine⟨rfl,g23,k23,fun y=>absurd y (by decide),fun _=>⟨fun _=>⟨fun y=>?_,fun y=>⟨_,ld1_at w23 rfl,fun y2=>?_,fun y2=>?_⟩⟩,fun y=>absurd rfl y⟩⟩
  ·refine⟨rfl,_,stN_all (vs:=setC zeroR) z23 rfl,_,_,_,_,_,_,_,_,_,_,_,_,_,ldN_all (get_set_self _ _ _) rfl,⟨zeroR,?_,?_,by decide⟩,near_old o23 (near_set _ _ _) (Nat.le_refl _)⟩
   ·unfold findM; rw[hs]; simp only; rw[←hs,hlk]; simp only; rw[hr]; simp only; rw[if_pos (.inl y)]; rfl
   ·unfold findM; rw[hs]; simp only; rw[←hs,hlk]; simp only; rw[hr]; simp only; rw[if_pos (.inl y)]
  ·refine⟨rfl,_,stN_all (vs:=setC zeroR) z23 rfl,_,_,_,_,_,_,_,_,_,_,_,_,_,ldN_all (get_set_self _ _ _) rfl,⟨zeroR,?_,?_,by decide⟩,near_old o23 (near_set _ _ _) (Nat.le_refl _)⟩
   ·unfold findM; rw[hs]; simp only; rw[←hs,hlk]; simp only; rw[hr]; simp only; rw[if_pos (.inr y2)]; rfl
   ·unfold findM; rw[hs]; simp only; rw[←hs,hlk]; simp only; rw[hr]; simp only; rw[if_pos (.inr y2)]
  ·have hif:¬(i < 0∨r.blocks≤i):=fun z=>z.elim y y2
   refine⟨_,_,_,_,_,_,_,_,_,_,_,_,_,ldN_all w23 rfl,rfl,_,stN_all (vs:=setC { r with dp:=p',dc:=c' }) z23 rfl,_,_,_,_,_,_,_,_,_,_,_,_,_,ldN_all (get_set_self _ _ _) rfl,⟨{ r with dp:=p',dc:=c' },?_,?_,ok.id⟩,near_old o23 (near_set _ _ _) (Nat.le_refl _)⟩
   ·unfold findM; rw[hs]; simp only; rw[←hs,hlk]; simp only; rw[hr]; simp only; rw[if_neg hif]; rfl
   ·unfold findM; rw[hs]; simp only; rw[←hs,hlk]; simp only; rw[hr]; simp only; rw[if_neg hif]; exact hcs
 ·have hs:=spl_some hsp
  have hlk:lookOf xs (spl f)=none:=by rw[hs]; exact hl
  refine⟨_,_,_,_,_,_,_,_,_,_,_,_,_,_,rfl,fun g22 e22=>?_⟩
  obtain⟨g23,k23,o23,w23,z23⟩:=way o7 zeroR g22 e22
  refine⟨rfl,g23,k23,fun y=>absurd y (by decide),fun _=>⟨fun y=>absurd y (by decide),fun y=>?_⟩⟩
  refine⟨rfl,_,stN_all (vs:=setC zeroR) z23 rfl,_,_,_,_,_,_,_,_,_,_,_,_,_,ldN_all (get_set_self _ _ _) rfl,⟨zeroR,?_,?_,by decide⟩,near_old o23 (near_set _ _ _) (Nat.le_refl _)⟩
  ·unfold findM; rw[hs]; simp only; rw[←hs,hlk]; rfl
  ·unfold findM; rw[hs]; simp only; rw[←hs,hlk]
 ·have hs:=spl_none hno
  refine⟨_,_,_,_,_,_,_,_,_,_,_,_,_,_,rfl,fun g22 e22=>?_⟩
  obtain⟨g23,k23,o23,w23,z23⟩:=way o7 zeroR g22 e22
  refine⟨rfl,g23,k23,fun y=>?_,fun y=>absurd rfl y⟩
  refine⟨rfl,_,stN_all (vs:=setC zeroR) z23 rfl,_,_,_,_,_,_,_,_,_,_,_,_,_,ldN_all (get_set_self _ _ _) rfl,⟨zeroR,?_,?_,by decide⟩,near_old o23 (near_set _ _ _) (Nat.le_refl _)⟩
  ·unfold findM; rw[hs]; rfl
  ·unfold findM; rw[hs]
end
end Go.Am
/-
 A MODEL:a block is put,written,trimmed,read.
-/
set_option linter.unusedVariables false
set_option linter.unusedSimpArgs false
set_option maxRecDepth 100000
namespace Go.Am
open Go.Proofs
def setBlk (l:List Value) (i:Nat) (b:List Value):List Value:=l.take (i * 129) ++ b ++ l.drop (i * 129+b.length)
theorem BlkOk.len {b:List Value} (k:BlkOk b):b.length=129:=by
 obtain⟨bs,v,rfl,h, -⟩:=k
 simp[natC_len,h]
theorem setBlk_len {l b:List Value} {i:Nat} (hl:l.length=8256) (hb:b.length=129) (hi:i < 64):(setBlk l i b).length=8256:=by
 unfold setBlk
 simp only[List.length_append,List.length_take,List.length_drop]
 omega
theorem blkAt_set {l b:List Value} {i j:Nat} (hl:l.length=8256) (hb:b.length=129) (hi:i < 64) (hj:j < 64):blkAt (setBlk l i b) j=if j=i then b else blkAt l j:=by
 have hlt:(l.take (i * 129)).length=i * 129:=by rw[List.length_take]; omega
 unfold blkAt setBlk
 by_cases h:j=i
 ·subst h
  rw[if_pos rfl,List.append_assoc,List.drop_append,hlt,Nat.sub_self,List.drop_zero,List.drop_of_length_le (by omega),List.nil_append,List.take_append_of_le_length (by omega),List.take_of_length_le (by omega)]
 ·rw[if_neg h]
  by_cases h2:j < i
  ·rw[List.append_assoc,List.drop_append_of_le_length (by omega),List.take_append_of_le_length (by rw[List.length_drop]; omega),List.drop_take,List.take_take]
   congr 1
   omega
  ·rw[List.drop_append,List.length_append,hlt,hb,List.drop_of_length_le (by rw[List.length_append]; omega),List.nil_append,List.drop_drop]
   congr 2
   omega
theorem TextOk.set {l b:List Value} {i:Nat} (h:TextOk l) (hb:BlkOk b) (hi:i < 64):TextOk (setBlk l i b):=by
 refine⟨setBlk_len h.1 hb.len hi,fun j hj=>?_⟩
 rw[blkAt_set h.1 hb.len hi hj]
 split
 ·exact hb
 ·exact h.2 j hj
noncomputable def putM (s:MSt) (id:Int) (i:Nat) (b:List Value):MSt:={ s with T:=fun j=>if j=id then setBlk (s.T id) i b else s.T j }
section
variable {K:Xs} {b:Int} {h:AH} {mb bm:Nat} {s:MSt}
theorem putSpec (kk:KMod K) (M:ModOk b h mb bm s) {id:Int} (hid:(Lit.int .u64 id).wf=true) {i:Nat} (hi:i < 64) {l:List Value} (ok:BlkOk l):
 Wf Try.prog K 40 [.pointer (some ⟨mb,0,none⟩),.int .u64 id,.int .i64 (i:Int),.agg l.toArray] h fun _ h'=>ModOk b h' mb bm (putM s id i l)∧OldM mb bm h h':=by
 obtain⟨p,n,c,hc,hbk⟩:=M.cells
 have hne:=M.ne
 have hlt:=M.lt
 refine vc_model_Model_put kk.put _ _ _ _ h _ fun g0 e0=>?_
 have o0:=old_of_alloc e0
 have n0:=next_of_alloc e0
 have M0:=M.old o0
 have tx:=M.map.ok id
 refine derefP_at ⟨_,ld1_at ((o0.2 _ hlt).trans hc) rfl,_,M0.map.lookup hid,zeroT,zeroBlk,fun g6 e6=>⟨tx.len,?_⟩⟩
 obtain⟨g7,k7,n7,o7,v7⟩:=put_new e6 (vs:=s.T id) (by rw[zeroT_ok.len]; exact tx.len)
 have w7:=(v7 [] (fun c hc=>by cases hc)).1
 have wb:g7.get h.next=some (.cells l 64 false):=(o7.2 _ (by omega)).trans (get_of_alloc e0)
 refine⟨g7,k7,_,ldN_all wb ok.len,by omega,by omega,ok.len,_,stN_of w7 (by rw[Int.toNat_natCast,Nat.zero_add,ok.len,tx.len]; omega),?_⟩
 have e9:(s.T id).take (0+Int.toNat (i:Int) * 129) ++ l ++ (s.T id).drop (0+Int.toNat (i:Int) * 129+l.length)=setBlk (s.T id) i l:=by rw[Int.toNat_natCast,Nat.zero_add]; rfl
 rw[e9]
 have s9:=near_set g0.next g7 (.cells (setBlk (s.T id) i l) 65 false)
 have o9:Old h (g7.set g0.next (.cells (setBlk (s.T id) i l) 65 false)):=near_old (o0.trans o7) s9 (by omega)
 have g9:=get_set_self g0.next g7 (.cells (setBlk (s.T id) i l) 65 false)
 generalize g7.set g0.next (.cells (setBlk (s.T id) i l) 65 false)=g10 at o9 g9 ⊢
 have M9:=M.old o9
 have tx2:=tx.set ok hi
 obtain⟨g14,k14,nr14,m14⟩:=M9.map.put hid tx2
 refine derefP_at ⟨_,ld1_at ((o9.2 _ hlt).trans hc) rfl,_,ldN_all g9 tx2.len,g14,k14,?_⟩
 have om:OldM mb bm h g14:=(OldM.of_old o9).trans (OldM.near2 nr14)
 exact⟨{ cells:=⟨p,n,c,(nr14.2 _ hne).trans ((o9.2 _ hlt).trans hc),(hbk.old o9).stayM (M9.stay (OldM.near2 nr14))⟩,map:=m14,lt:=Nat.lt_of_lt_of_le hlt om.1,lb:=Nat.lt_of_lt_of_le M.lb om.1,right:=M.right,nx:=M.nx,st:=M.st,md:=M.md,bd:=M.bd },om⟩
noncomputable def volM (rs:List SetR) (o:Option (ByteArray×ByteArray)) (i:Int):SetR×Int:=match volOf o with | none=>(zeroR,141) | some _=>findM rs o i
theorem volumeSpec (kk:KMod K) (M:ModOk b h mb bm s) (f:ByteArray) (hf:f.size≤9223372036854775806) (i:Int):
 Wf Try.prog K 39 [.pointer (some ⟨mb,0,none⟩),.string f,.int .i64 i] h fun v h'=>RecQ (volM s.rs (spl f) i) v∧Old h h':=by
 refine vc_model_Model_volume kk.volume _ _ _ h _ fun g0 e0=>(splitSpec kk.named.name f hf).mono ?_
 have o0:=old_of_alloc e0
 have z0:=get_of_alloc e0
 rintro _ g2 ⟨⟨a,b',hsp,rfl⟩ | ⟨hno,rfl⟩,o2⟩
 ·have hs:=spl_some hsp
  have oh2:=o0.trans o2
  have z2:=(o2.2 _ (by have:=next_of_alloc e0; omega)).trans z0
  refine⟨_,_,_,rfl,fun _=>⟨fun y=>?_,fun y=>?_⟩,fun y=>absurd rfl y⟩
  ·refine (findSpec2 kk (M.old oh2) f hf i).mono ?_
   rintro _ g7 ⟨⟨r,rfl,q1,q2⟩,o7⟩
   have z7:=(o7.2 _ (by have:=next_of_alloc e0; have:=o2.1; omega)).trans z2
   refine⟨_,_,_,_,_,_,_,_,_,_,_,_,_,_,rfl,rfl,_,stN_all (vs:=setC r) z7 rfl,_,_,_,_,_,_,_,_,_,_,_,_,_,ldN_all (get_set_self _ _ _) rfl,⟨r,?_,?_,q2⟩,near_old (oh2.trans o7) (near_set _ _ _) (Nat.le_refl _)⟩
   ·have:volM s.rs (spl f) i=findM s.rs (spl f) i:=by unfold volM volOf; rw[hs]; simp only; rw[if_pos (show b'= noB from y)]
    rw[this]
    rfl
   ·have:volM s.rs (spl f) i=findM s.rs (spl f) i:=by unfold volM volOf; rw[hs]; simp only; rw[if_pos (show b'= noB from y)]
    rw[this]
    exact q1
  ·have hv:volM s.rs (spl f) i=(zeroR,141):=by unfold volM volOf; rw[hs]; simp only; rw[if_neg (show ¬b'= noB from y)]
   rw[hv]
   exact⟨rfl,_,stN_all (vs:=setC zeroR) z2 rfl,_,_,_,_,_,_,_,_,_,_,_,_,_,ldN_all (get_set_self _ _ _) rfl,⟨zeroR,rfl,rfl,by decide⟩,near_old oh2 (near_set _ _ _) (Nat.le_refl _)⟩
 ·have oh2:=o0.trans o2
  have z2:=(o2.2 _ (by have:=next_of_alloc e0; omega)).trans z0
  have hv:volM s.rs (spl f) i=(zeroR,141):=by unfold volM; rw[spl_none hno]; rfl
  rw[hv]
  exact⟨_,_,_,rfl,fun y=>absurd y (by decide),fun _=>⟨rfl,_,stN_all (vs:=setC zeroR) z2 rfl,_,_,_,_,_,_,_,_,_,_,_,_,_,ldN_all (get_set_self _ _ _) rfl,⟨zeroR,rfl,rfl,by decide⟩,near_old oh2 (near_set _ _ _) (Nat.le_refl _)⟩⟩
theorem findM_ok {rs:List SetR} {o:Option (ByteArray×ByteArray)} {i:Int} (h:(findM rs o i).2=0):∃j r,lookOf rs o=some j∧rs[j]?= some r∧(findM rs o i).1=r∧0≤i∧i < r.blocks:=by
 unfold findM at h ⊢
 cases o with
 | none=>cases h
 | some q=>
   simp only at h ⊢
   cases hl:lookOf rs (some q) with
   | none=>rw[hl] at h; cases h
   | some j=>
     rw[hl] at h
     simp only at h ⊢
     cases hr:rs[j]? with
     | none=>rw[hr] at h; cases h
     | some r=>
       rw[hr] at h
       simp only at h ⊢
       split at h
       ·cases h
       ·rename_i hn
        rw[if_neg hn]
        exact⟨j,r,rfl,hr,rfl,by omega,by omega⟩
theorem volM_ok {rs:List SetR} {o:Option (ByteArray×ByteArray)} {i:Int} (h:(volM rs o i).2=0):volM rs o i=findM rs o i∧(findM rs o i).2=0∧(volOf o).isSome=true:=by
 unfold volM at h ⊢
 cases hv:volOf o with
 | none=>rw[hv] at h; cases h
 | some a=>rw[hv] at h; exact⟨rfl,h,rfl⟩
theorem ModOk.block (M:ModOk b h mb bm s) {o:Option (ByteArray×ByteArray)} {i:Int} (h0:(findM s.rs o i).2=0):0≤i∧i < 64:=by
 obtain⟨j,r, -,hr, -,h1,h2⟩:=findM_ok h0
 have:=(M.right.ent (List.mem_of_getElem? hr)).2.2.2.1
 omega
noncomputable def trimM (s:MSt) (f:ByteArray) (i:Int):MSt×Int:=if (volM s.rs (spl f) i).2≠0 then (s,(volM s.rs (spl f) i).2) else (putM s (volM s.rs (spl f) i).1.id i.toNat zeroB,0)
def padB (ds:List Nat) (v:Int):List Value:=natC .u8 (ds ++ List.replicate (128 - ds.length) 0) ++ [.int .u64 v]
theorem padB_ok {ds:List Nat} (hl:ds.length≤128) (hd:∀x∈ds,x < 256) {v:Int} (hv:(Lit.int .u64 v).wf=true):BlkOk (padB ds v):=⟨_,v,rfl,by simp; omega,fun x hx=>by
 rcases List.mem_append.1 hx with hx | hx
 ·exact hd x hx
 ·rw[List.eq_of_mem_replicate hx]; decide,hv⟩
noncomputable def writeM (s:MSt) (f:ByteArray) (i:Int) (ds:List Nat):MSt×Int:=if (volM s.rs (spl f) i).2≠0 then (s,(volM s.rs (spl f) i).2) else if 128 < ds.length then (s,92) else (putM { s with md:=s.md+1 } (volM s.rs (spl f) i).1.id i.toNat (padB ds (s.md+1)),0)
def zeroS:List Value:=List.replicate 128 (.int .u8 0)
noncomputable def readM (s:MSt) (f:ByteArray) (i:Int):List Value×Int:=if (findM s.rs (spl f) i).2≠0 then (zeroS,(findM s.rs (spl f) i).2) else ((blkAt (s.T (findM s.rs (spl f) i).1.id) i.toNat).take 128,0)
theorem build0:aBuild Try.prog 64 #[]=some (.agg zeroB.toArray):=by kernel_rfl
theorem build1 (v:Int):aBuild Try.prog 64 #[(1,.int .u64 v)]=some (.agg (List.replicate 128 (Value.int .u8 0) ++ [Value.int .u64 v]).toArray):=by kernel_rfl
theorem buildS:aBuild Try.prog 34 #[]=some (.agg zeroS.toArray):=by kernel_rfl
theorem sliceSecM (g:AH) (x:Nat):aSlice Try.prog g 34 (.pointer (some ⟨x,0,none⟩)) none none none=some (.slice (some ⟨x,0,none⟩) 128 128):=by kernel_rfl
theorem trimSpec (kk:KMod K) (M:ModOk b h mb bm s) (f:ByteArray) (hf:f.size≤9223372036854775806) (i:Int):
 Wf Try.prog K 21 [.pointer (some ⟨mb,0,none⟩),.string f,.int .i64 i] h fun v h'=>v=.int .i64 (trimM s f i).2∧ModOk b h' mb bm (trimM s f i).1∧OldM mb bm h h':=by
 refine vc_model_Model_trim kk.trim _ _ _ h _ ((volumeSpec kk M f hf i).mono ?_)
 rintro _ g1 ⟨⟨r,rfl,q1,q2⟩,o1⟩
 refine⟨_,_,_,_,_,_,_,_,_,_,_,_,_,_,rfl,fun g2 e2=>?_⟩
 obtain⟨g3,k3,n3,o3,v3⟩:=put_new e2 (vs:=setC r) rfl
 have w3:=(v3 [] (fun c hc=>by cases hc)).1
 have oh:=o1.trans o3
 refine⟨rfl,g3,k3,fun y=>?_,fun y=>?_⟩
 ·obtain⟨e1,e2', -⟩:=volM_ok y
  obtain⟨h1,h2⟩:=M.block e2'
  obtain⟨u,rfl⟩:∃u:Nat,i=u:=⟨i.toNat,by omega⟩
  have hid:r.id=(volM s.rs (spl f) (u:Int)).1.id:=(cor_eq q1).1
  refine⟨_,ld1_at w3 rfl,zeroB,build0,(putSpec kk (M.old oh) q2 (i:=u) (by omega) zeroB_ok).mono ?_⟩
  rintro _ g4 ⟨m4,o4⟩
  unfold trimM
  rw[if_neg (by simpa using y)]
  refine⟨rfl,?_,(OldM.of_old oh).trans o4⟩
  rw[hid] at m4
  simpa using m4
 ·unfold trimM
  rw[if_pos y]
  exact⟨rfl,M.old oh,OldM.of_old oh⟩
theorem readSpec (kk:KMod K) (M:ModOk b h mb bm s) (f:ByteArray) (hf:f.size≤9223372036854775806) (i:Int):
 Wf Try.prog K 22 [.pointer (some ⟨mb,0,none⟩),.string f,.int .i64 i] h fun v h'=>v=.tuple #[.agg (readM s f i).1.toArray,.int .i64 (readM s f i).2]∧Old h h':=by
 refine vc_model_Model_read kk.read _ _ _ h _ fun g0 e0=>?_
 have o0:=old_of_alloc e0
 have n0:=next_of_alloc e0
 have z0:=get_of_alloc e0
 refine (findSpec2 kk (M.old o0) f hf i).mono ?_
 rintro _ g2 ⟨⟨r,rfl,q1,q2⟩,o2⟩
 refine⟨_,_,_,_,_,_,_,_,_,_,_,_,_,_,rfl,fun g17 e17=>?_⟩
 obtain⟨g3,k3,n3,o3,v3⟩:=put_new e17 (vs:=setC r) rfl
 have w3:=(v3 [] (fun c hc=>by cases hc)).1
 have oh:=o0.trans (o2.trans o3)
 have z3:=(o3.2 _ (by have:=o2.1; omega)).trans ((o2.2 _ (by omega)).trans z0)
 obtain⟨p,n,c,hc, -⟩:=M.cells
 refine⟨rfl,g3,k3,fun y=>?_,fun y=>?_⟩
 ·obtain⟨h1,h2⟩:=M.block y
  obtain⟨u,rfl⟩:∃u:Nat,i=u:=⟨i.toNat,by omega⟩
  have hid:r.id=(findM s.rs (spl f) (u:Int)).1.id:=(cor_eq q1).1
  have tx:=M.map.ok r.id
  have hb:=(tx.2 u (by omega)).len
  have hl:((blkAt (s.T r.id) u).take 128).length=128:=by rw[List.length_take,hb]; rfl
  refine derefP_at ⟨_,ld1_at ((oh.2 _ M.lt).trans hc) rfl,_,ld1_at w3 rfl,_,(M.old oh).map.lookup q2,h1,h2,_,by rw[Int.toNat_natCast],_,rfl,?_⟩
  have he:List.take 128 (List.drop 0 (List.take 129 (List.drop (u * 129) (s.T r.id))))=(blkAt (s.T r.id) u).take 128:=rfl
  rw[he]
  refine⟨hl,_,stN_all z3 (by rw[hl]; simp),_,ldN_all (get_set_self _ _ _) hl,?_,near_old oh (near_set _ _ _) (Nat.le_refl _)⟩
  unfold readM
  rw[if_neg (by simpa using y),hid]
  rfl
 ·unfold readM
  rw[if_pos y]
  exact⟨zeroS,buildS,by simp[zeroS],_,stN_all z3 (by simp[zeroS]),_,ldN_all (get_set_self _ _ _) (by simp[zeroS]),rfl,near_old oh (near_set _ _ _) (Nat.le_refl _)⟩
theorem eBytesM:ElemOk Try.prog 29 5 1 1:=ElemOk_of (by kernel_rfl)
theorem writeSpec (kk:KMod K) (M:ModOk b h mb bm s) (hb1:b+1≤1000000) (f:ByteArray) (hf:f.size≤9223372036854775806) (i:Int) {pd:Option Addr} {nd cd:Nat} {ds:List Nat} (S:Shows h pd nd 1 (natC .u8 ds)) (fm:pd=none∨∃b off,pd=some ⟨b,off,none⟩) (hd:∀x∈ds,x < 256):
 Wf Try.prog K 20 [.pointer (some ⟨mb,0,none⟩),.string f,.int .i64 i,.slice pd nd cd] h fun v h'=>v=.int .i64 (writeM s f i ds).2∧ModOk (b+1) h' mb bm (writeM s f i ds).1∧OldM mb bm h h':=by
 have hnd:ds.length=nd:=by have:=S.1; rw[natC_len] at this; omega
 refine vc_model_Model_write kk.write _ _ _ _ _ _ h _ ((volumeSpec kk M f hf i).mono ?_)
 rintro _ g1 ⟨⟨r,rfl,q1,q2⟩,o1⟩
 refine⟨_,_,_,_,_,_,_,_,_,_,_,_,_,_,rfl,fun g2 e2=>?_⟩
 obtain⟨g3,k3,n3,o3,v3⟩:=put_new e2 (vs:=setC r) rfl
 have w3:=(v3 [] (fun c hc=>by cases hc)).1
 have oh:=o1.trans o3
 have M3:=(M.old oh).mono (b':=b+1) (by omega) hb1
 refine⟨rfl,g3,k3,fun y=>⟨fun y2=>?_,fun y2=>?_⟩,fun y=>?_⟩
 ·unfold writeM
  rw[if_neg (by simpa using y),if_pos (by omega)]
  exact⟨rfl,M3,OldM.of_old oh⟩
 ·obtain⟨e1,e2', -⟩:=volM_ok y
  obtain⟨h1,h2⟩:=M.block e2'
  obtain⟨u,rfl⟩:∃u:Nat,i=u:=⟨i.toNat,by omega⟩
  have hid:r.id=(volM s.rs (spl f) (u:Int)).1.id:=(cor_eq q1).1
  obtain⟨p,n,c,hc,hbk⟩:=M.cells
  have hc3:=(oh.2 _ M.lt).trans hc
  have hmd:=M.md
  have hbd:=M.bd
  refine derefP_at ⟨_,ld1_at hc3 rfl,fun i21 e21=>derefP_at ⟨_,st1_of hc3 (by show 0+4 < 5; decide),?_⟩⟩
  have e21' : i21=s.md+1:=u64w e21 (by omega) (by omega)
  subst e21'
  have s4:=near_set mb g3 (.cells (modC s.nx p n c (some bm) s.st (s.md+1)) 52 false)
  have c4:=get_set_self mb g3 (.cells (modC s.nx p n c (some bm) s.st (s.md+1)) 52 false)
  have hset:(modC s.nx p n c (some bm) s.st s.md).set (0+4) (.int .u64 (s.md+1))=modC s.nx p n c (some bm) s.st (s.md+1):=rfl
  rw[hset]
  have om4:OldM mb bm g3 (g3.set mb (.cells (modC s.nx p n c (some bm) s.st (s.md+1)) 52 false)):=OldM.near1 s4
  have w4:=(s4.2 g1.next (by have:=M.lt; have:=o1.1; omega)).trans w3
  have nx4:(g3.set mb (.cells (modC s.nx p n c (some bm) s.st (s.md+1)) 52 false)).next=g3.next:=s4.1
  have M4:ModOk (b+1) (g3.set mb (.cells (modC s.nx p n c (some bm) s.st (s.md+1)) 52 false)) mb bm { s with md:=s.md+1 }:=
   { M3 with cells:=⟨p,n,c,c4,(hbk.old oh).stayM (M3.stay om4)⟩,map:=M3.map.near (s4.2 _ (Ne.symm M.ne)),lt:=by rw[nx4]; exact M3.lt,lb:=by rw[nx4]; exact M3.lb,md:=⟨by show 0≤s.md+1; omega,by show s.md+1≤b+1; omega⟩ }
  have SS:=(S.old oh)
  have hS4:Shows (g3.set mb (.cells (modC s.nx p n c (some bm) s.st (s.md+1)) 52 false)) pd nd 1 (natC .u8 ds):=by
   rcases Nat.eq_zero_or_pos nd with h0 | hn
   ·exact⟨SS.1,.inl h0⟩
   ·refine SS.kept (Nat.le_of_eq nx4.symm) fun a ha=>s4.2 _ fun hb=>?_
    obtain⟨b2,off,e,hld, -⟩:=SS.getN hn
    rw[ha] at e
    cases e
    have hb' : b2=mb:=hb
    subst hb'
    unfold ldN at hld
    rw[hc3] at hld
    simp only at hld
    split at hld
    ·have e1:=Option.some.inj hld
     have e2:((natC .u8 ds).drop (0 * 1)).take 1=[.int .u8 ((ds[0]'(by omega):Nat):Int)]:=by
      cases ds with
      | nil=>simp at hnd; omega
      | cons d ds=>rfl
     rw[e2] at e1
     rename_i h5
     have h5' : off+0 * 1+1≤5:=h5
     have:off=0∨off=1∨off=2∨off=3∨off=4:=by omega
     unfold modC at e1
     rcases this with rfl | rfl | rfl | rfl | rfl <;> simp at e1
    ·cases hld
  generalize g3.set mb (.cells (modC s.nx p n c (some bm) s.st (s.md+1)) 52 false)=g4 at c4 om4 w4 nx4 M4 hS4 ⊢
  refine derefP_at ⟨_,ld1_at c4 rfl,_,build1 (s.md+1),fun g5 e5=>⟨by simp,?_⟩⟩
  obtain⟨g6,k6,n6,o6,v6⟩:=put_new e5 (vs:=List.replicate 128 (.int .u8 0) ++ [.int .u64 (s.md+1)]) (by simp)
  have w6:=(v6 [] (fun c hc=>by cases hc)).1
  have w6':=(o6.2 _ (by rw[nx4]; have:=n3; omega)).trans w4
  obtain⟨g7,k7,nr7,w7⟩:=copy_own eBytesM (off:=0) w6 (by simp) (by decide) (n:=128) (c:=128) (c':=cd) (hS4.old o6) fm 29
  have hcell:(List.replicate 128 (Value.int .u8 0) ++ [Value.int .u64 (s.md+1)]).take 0 ++ (natC .u8 ds).take 128 ++ (List.replicate 128 (Value.int .u8 0) ++ [Value.int .u64 (s.md+1)]).drop (0+((natC .u8 ds).take 128).length)=padB ds (s.md+1):=by
   have hle:ds.length≤128:=by omega
   rw[List.take_zero,List.nil_append,List.take_of_length_le (by rw[natC_len]; omega),natC_len,Nat.zero_add,List.drop_append_of_le_length (by simp; omega),List.drop_replicate]
   unfold padB
   rw[show natC .u8 (ds ++ List.replicate (128 - ds.length) 0)=natC .u8 ds ++ natC .u8 (List.replicate (128 - ds.length) 0) by simp[natC],natC_rep,List.append_assoc]
  rw[hcell] at w7
  have o47:Old g4 g7:=near_old o6 nr7 (Nat.le_refl _)
  have w7':=(nr7.2 g1.next (by rw[nx4]; have:=n3; have:=next_of_alloc e2; omega)).trans w6'
  have hpad:BlkOk (padB ds (s.md+1)):=padB_ok (by omega) hd (u64Wf ⟨by omega,by omega⟩)
  refine⟨g6,k6,_,_,_,sliceSecM _ _,_,g7,k7,_,ld1_at w7' rfl,_,ldN_all w7 hpad.len,(putSpec kk (M4.old o47) q2 (i:=u) (by omega) hpad).mono ?_⟩
  rintro _ g8 ⟨m8,o8⟩
  unfold writeM
  rw[if_neg (by simpa using y),if_neg (by omega)]
  refine⟨rfl,?_,(OldM.of_old oh).trans (om4.trans ((OldM.of_old o47).trans o8))⟩
  rw[hid] at m8
  simpa using m8
 ·unfold writeM
  rw[if_pos y]
  exact⟨rfl,M3,OldM.of_old oh⟩
end
end Go.Am
/-
 A MODEL:it grows; it goes back; a name goes.
-/
set_option linter.unusedVariables false
set_option linter.unusedSimpArgs false
set_option maxRecDepth 100000
namespace Go.Am
open Go.Proofs
def srcOf (r:SetR):Int:=if r.snap=true then r.own else r.prev
def findR (rs:List SetR) (id:Int):SetR:=match plcN rs id with | none=>zeroR | some i=>(rs[i]?).getD zeroR
def copyM (s:MSt) (id src:Int):MSt:={ s with T:=fun j=>if j=id then s.T src else s.T j }
def bookM (s:MSt) (nx:Int) (rs:List SetR):MSt:={ s with nx:=nx,rs:=rs }
def delM (s:MSt) (id:Int):MSt:={ s with T:=fun j=>if j=id then zeroT else s.T j }
def growM (s:MSt) (nx:Int) (rs:List SetR) (e:Int):MSt:=if e=0 then bookM (copyM s (findR rs s.nx).id (srcOf (findR rs s.nx))) nx rs else s
noncomputable def backM (s:MSt) (f:ByteArray):MSt×Int:=if (backA s.nx s.rs (spl f)).2.2.2=0 then (bookM (copyM s (backA s.nx s.rs (spl f)).2.2.1.id (backA s.nx s.rs (spl f)).2.2.1.prev) (backA s.nx s.rs (spl f)).1 (backA s.nx s.rs (spl f)).2.1,0) else (s,(backA s.nx s.rs (spl f)).2.2.2)
def namedR (rs:List SetR) (o:Option (ByteArray×ByteArray)):SetR:=match lookOf rs o with | none=>zeroR | some i=>(rs[i]?).getD zeroR
noncomputable def dropA (nx:Int) (rs:List SetR) (o:Option (ByteArray×ByteArray)):Int×List SetR×Int:=match o with
 | none=>(nx,rs,141)
 | some (a,b)=>if b=noB then ((dropVolA nx rs o).1,(dropVolA nx rs o).2.1,(dropVolA nx rs o).2.2.2) else ((dropSnapA nx rs (lookOf rs o) (snapOf o).isSome).1,(dropSnapA nx rs (lookOf rs o) (snapOf o).isSome).2.1,(dropSnapA nx rs (lookOf rs o) (snapOf o).isSome).2.2.2)
noncomputable def destroyM (s:MSt) (f:ByteArray):MSt×Int:=if (dropA s.nx s.rs (spl f)).2.2=0 then (bookM (delM s (namedR s.rs (spl f)).id) (dropA s.nx s.rs (spl f)).1 (dropA s.nx s.rs (spl f)).2.1,0) else (s,(dropA s.nx s.rs (spl f)).2.2)
theorem getD_cor {xs ys:List SetR} (h:xs.map cor=ys.map cor) (i:Nat):cor ((xs[i]?).getD zeroR)=cor ((ys[i]?).getD zeroR):=by
 rcases getc h i with ⟨h1,h2⟩ | ⟨a,c,h1,h2,h3⟩
 ·rw[h1,h2]
 ·rw[h1,h2]; exact h3
theorem findR_cor {xs ys:List SetR} (h:xs.map cor=ys.map cor) (id:Int):cor (findR xs id)=cor (findR ys id):=by
 unfold findR
 rw[plcN_cor h]
 cases plcN ys id with
 | none=>rfl
 | some i=>exact getD_cor h i
theorem namedR_cor {xs ys:List SetR} (h:xs.map cor=ys.map cor) (o:Option (ByteArray×ByteArray)):cor (namedR xs o)=cor (namedR ys o):=by
 unfold namedR
 rw[lookOf_cor h]
 cases lookOf ys o with
 | none=>rfl
 | some i=>exact getD_cor h i
theorem BookR.corE {nx nx' : Int} {R R' : List SetR} {i:Int} {p:Option Addr} {n:Nat} {g:AH} (b:BookR nx R i p n g) (e:nx=nx') (h:R.map Am.cor=R'.map Am.cor):BookR nx' R' i p n g:=by
 obtain⟨h1,rs',h2,h3⟩:=b
 exact⟨h1.trans e,rs',h2,h3.trans h⟩
theorem zeroR_wf:(Lit.int .u64 zeroR.id).wf=true∧(Lit.int .u64 zeroR.own).wf=true∧(Lit.int .u64 zeroR.prev).wf=true:=by decide
section
variable {K:Xs} {b b' : Int} {h:AH} {mb bm:Nat} {s:MSt}
theorem ModOk.mapTo {h' : AH} {T' : Int→List Value} (M:ModOk b h mb bm s) (nr:Near bm h h') (m:MapT h' bm T'):ModOk b h' mb bm { s with T:=T' }:=by
 obtain⟨p,n,c,hc,hbk⟩:=M.cells
 exact { cells:=⟨p,n,c,(nr.2 _ M.ne).trans hc,hbk.stayM (M.stay (OldM.near2 nr))⟩,map:=m,lt:=by rw[nr.1]; exact M.lt,lb:=by rw[nr.1]; exact M.lb,right:=M.right,nx:=M.nx,st:=M.st,md:=M.md,bd:=M.bd }
theorem ModOk.copyTo (M:ModOk b h mb bm s) {id src:Int} (hid:(Lit.int .u64 id).wf=true):∃h',aMapUpdate Try.prog h 50 (.map (some bm)) (.int .u64 id) (.agg (s.T src).toArray)=some h'∧Near bm h h'∧ModOk b h' mb bm (copyM s id src):=by
 obtain⟨h',k,nr,m⟩:=M.map.put hid (M.map.ok src)
 exact⟨h',k,nr,M.mapTo nr m⟩
theorem ModOk.delTo (M:ModOk b h mb bm s) {id:Int} (hid:(Lit.int .u64 id).wf=true):∃h',aBuiltin Try.prog h .delete #[50,46] [.map (some bm),.int .u64 id]=some (undef,h')∧Near bm h h'∧ModOk b h' mb bm (delM s id):=by
 obtain⟨h',k,nr,m⟩:=M.map.del hid
 exact⟨h',k,nr,M.mapTo nr m⟩
theorem ModOk.setBook (M:ModOk b h mb bm s) {nx' : Int} {rs' : List SetR} {p' : Option Addr} {n' c' : Nat} (B:BookR nx' rs' nx' p' n' h) (R' : RightP nx' rs') (h1:1≤nx') (h2:nx'≤b') (hb:b≤b') (hb2:b'≤1000000):
 ∃h',stN h mb 0 [.int .u64 nx',.slice p' n' c']=some h'∧Near mb h h'∧ModOk b' h' mb bm (bookM s nx' rs'):=by
 obtain⟨p,n,c,hc,hbk⟩:=M.cells
 have nr:=near_set mb h (.cells (modC nx' p' n' c' (some bm) s.st s.md) 52 false)
 refine⟨_,stN_of hc (by show 0+2≤5; decide),nr,?_⟩
 have hne:=M.ne
 have h3:=M.st
 have h4:=M.md
 exact { cells:=⟨p',n',c',get_set_self _ _ _,B.stayM (M.stay (OldM.near1 nr))⟩,map:=M.map.near (nr.2 _ (Ne.symm hne)),lt:=M.lt,lb:=M.lb,right:=R',nx:=⟨h1,h2⟩,st:=⟨h3.1,by show s.st≤b'; omega⟩,md:=⟨h4.1,by show s.md≤b'; omega⟩,bd:=hb2 }
theorem growSpec (kk:KMod K) (M:ModOk b h mb bm s) {nx' : Int} {rs' : List SetR} {p' : Option Addr} {n' c' : Nat} (B:BookR nx' rs' nx' p' n' h) (R' : RightP nx' rs') (h1:1≤nx') (h2:nx'≤b') (hb:b≤b') (hb2:b'≤1000000) (e:Int):
 Wf Try.prog K 19 [.pointer (some ⟨mb,0,none⟩),.agg #[.int .u64 nx',.slice p' n' c'],.int .i64 e] h fun v h'=>v=.int .i64 e∧ModOk b' h' mb bm (growM s nx' rs' e)∧OldM mb bm h h':=by
 refine vc_model_Model_grow kk.grow _ _ _ _ _ _ h _ fun g0 e0=>⟨fun y=>?_,fun y=>?_⟩
 ·subst y
  have o0:=old_of_alloc e0
  have n0:=next_of_alloc e0
  have z0:=get_of_alloc e0
  obtain⟨p,n,c,hc, -⟩:=M.cells
  obtain⟨-,xs,TB,hx⟩:=id B
  have hlt:=M.lt
  have hlb:=M.lb
  have hfc:=findR_cor hx s.nx
  have tail:∀{g7:AH},Old g0 g7→∀(r:SetR),(Lit.int .u64 r.id).wf=true→cor r=cor (findR rs' s.nx)→∀g22,g22=g7.alloc (.cells (setC zeroR) 59 false)→∃g23,stN g22 g7.next 0 (setC r)=some g23∧g23.get g7.next=some (.cells (setC r) 59 false)∧ld1 g23 mb (0+2)=some (.map (some bm))∧ModOk b g23 mb bm s∧∃g34,aMapUpdate Try.prog g23 50 (.map (some bm)) (.int .u64 r.id) (.agg (s.T (srcOf r)).toArray)=some g34∧ldN g34 h.next 0 2=some [.int .u64 nx',.slice p' n' c']∧∃g41,stN g34 mb 0 [.int .u64 nx',.slice p' n' c']=some g41∧ModOk b' g41 mb bm (growM s nx' rs' 0)∧OldM mb bm h g41:=fun {g7} o7 r hid hr g22 e22=>by
   obtain⟨g23,k23,n23,o23,v23⟩:=put_new e22 (vs:=setC r) rfl
   have oh:=o0.trans (o7.trans o23)
   have M23:=M.old oh
   obtain⟨g34,k34,nr34,M34⟩:=M23.copyTo (src:=srcOf r) hid
   have z34:=(nr34.2 h.next (by omega)).trans ((o23.2 _ (by have:=o7.1; omega)).trans ((o7.2 _ (by omega)).trans z0))
   obtain⟨g41,k41,nr41,M41⟩:=M34.setBook ((B.old oh).stayM (M23.stay (OldM.near2 nr34))) R' h1 h2 hb hb2 (c':=c')
   refine⟨g23,k23,(v23 [] (fun c hc=>by cases hc)).1,ld1_at ((oh.2 _ hlt).trans hc) rfl,M23,g34,k34,ldN_all z34 rfl,g41,k41,?_,(OldM.of_old oh).trans ((OldM.near2 nr34).trans (OldM.near1 nr41))⟩
   have hq:=cor_eq hr
   have hs:srcOf r=srcOf (findR rs' s.nx):=by unfold srcOf; rw[hq.2.2.1,hq.2.2.2.1,hq.2.2.2.2.1]
   unfold growM
   rw[if_pos rfl,←hq.1,←hs]
   exact M41
  refine⟨_,_,_,ld1_at z0 rfl,derefP_at ⟨_,ld1_at ((o0.2 _ hlt).trans hc) rfl,(findSpec kk.acts.a5.a4.a3.a2.find kk.acts.a5.a4.a3.a2.a.fplace kk.named.copy (TB.1.old o0) s.nx).mono ?_⟩⟩
  rintro _ g8 ⟨q,o8⟩
  rcases q with ⟨i,r,p2,c2,hp,hr,rfl,ok⟩ | ⟨hp,rfl⟩
  ·refine⟨_,_,_,_,_,_,_,_,_,_,_,_,_,.inl ⟨rfl,fun g22 e22=>?_⟩⟩
   have hcr:cor { r with dp:=p2,dc:=c2 }= cor (findR rs' s.nx):=by
    rw[←hfc]
    unfold findR
    rw[hp]
    simp only
    rw[hr]
    rfl
   obtain⟨g23,k23,w23,l23,M23,g34,k34,z34,g41,k41,M41,o41⟩:=tail o8 { r with dp:=p2,dc:=c2 } ok.id hcr g22 e22
   refine⟨rfl,g23,k23,_,ld1_at w23 rfl,?_⟩
   cases hs:r.snap with
   | true=>
     have hsr:srcOf { r with dp:=p2,dc:=c2 }= r.own:=by unfold srcOf; simp only; rw[if_pos hs]
     rw[hsr] at k34
     exact .inl ⟨ld1_at w23 (by rw[←hs]; rfl),_,ld1_at w23 rfl,derefP_at ⟨_,l23,_,ld1_at w23 rfl,derefP_at ⟨_,l23,_,M23.map.lookup ok.own,g34,k34,_,_,_,_,z34,derefP_at ⟨rfl,g41,k41,rfl,M41,o41⟩⟩⟩⟩
   | false=>
     have hsr:srcOf { r with dp:=p2,dc:=c2 }= r.prev:=by unfold srcOf; simp only; rw[if_neg (by rw[hs]; decide)]
     rw[hsr] at k34
     exact .inr ⟨ld1_at w23 (by rw[←hs]; rfl),derefP_at ⟨_,l23,_,ld1_at w23 rfl,derefP_at ⟨_,l23,_,M23.map.lookup ok.prev,g34,k34,_,_,_,_,z34,derefP_at ⟨rfl,g41,k41,rfl,M41,o41⟩⟩⟩⟩
  ·refine⟨_,_,_,_,_,_,_,_,_,_,_,_,_,.inr ⟨rfl,fun g22 e22=>?_⟩⟩
   have hcr:cor zeroR=cor (findR rs' s.nx):=by
    rw[←hfc]
    unfold findR
    rw[hp]
   obtain⟨g23,k23,w23,l23,M23,g34,k34,z34,g41,k41,M41,o41⟩:=tail o8 zeroR zeroR_wf.1 hcr g22 e22
   refine⟨rfl,g23,k23,_,ld1_at w23 rfl,.inr ⟨ld1_at w23 rfl,derefP_at ⟨_,l23,_,ld1_at w23 rfl,derefP_at ⟨_,l23,_,M23.map.lookup zeroR_wf.2.2,g34,k34,_,_,_,_,z34,derefP_at ⟨rfl,g41,k41,rfl,M41,o41⟩⟩⟩⟩⟩
 ·unfold growM
  rw[if_neg y]
  exact⟨rfl,(M.old (old_of_alloc e0)).mono hb hb2,OldM.of_old (old_of_alloc e0)⟩
end
end Go.Am
