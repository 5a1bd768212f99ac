/-
  A MODEL: what it is; a record by its name; a block is put.
-/
import Derived.Test.YtkapnilnhoiooaaGreatCMoA
import Derived.Test.YtkapnilnhoiooaaGreatCRuG
import Derived.Test.YtkapnilnhoiooaaGreatVModel
set_option linter.unusedVariables false
set_option linter.unusedSimpArgs false
set_option maxRecDepth 100000
namespace Go.Am
open Go.Proofs
structure MSt where
 nx:Int
 rs:List zaj
 T:Int→List Value
 st:Int
 md:Int
structure zaD (b:Int) (h:AH) (mb bm:Nat) (s:MSt):Prop where
 cells:∃p n c,h.get mb=some (.cells (modC s.nx p n c (some bm) s.st s.md) 58 false)∧zb2 s.nx s.rs s.nx p n h
 map:zlA h bm s.T
 lt:mb < h.next
 lb:bm < h.next
 right:zam s.nx s.rs
 nx:1≤s.nx∧s.nx≤b
 st:1≤s.st∧s.st≤b
 md:0≤s.md∧s.md≤b
 bd:b≤1000000
section
variable {b:Int} {h h' : AH} {mb bm:Nat} {s:MSt}
theorem zaD.old (k:zaD b h mb bm s) (o:Old h h'):zaD b h' mb bm s:=by
 obtain⟨p,n,c,h1,h2⟩:=k.cells
 exact { k with cells:=⟨p,n,c,(o.2 _ k.lt).trans h1,h2.old o⟩,map:=k.map.near (o.2 _ k.lb),lt:=Nat.lt_of_lt_of_le k.lt o.1,lb:=Nat.lt_of_lt_of_le k.lb o.1 }
theorem zaD.ne (k:zaD b h mb bm s):mb≠bm:=by
 rintro rfl
 obtain⟨p,n,c,h1, -⟩:=k.cells
 obtain⟨es,cl,h2, -⟩:=k.map.get
 rw[h1] at h2
 cases h2
def zbx (mb bm:Nat) (h h' : AH):Prop:=h.next≤h'.next∧∀y,y < h.next→y≠mb→y≠bm→h'.get y=h.get y
theorem zbx.of_old (o:Old h h'):zbx mb bm h h':=⟨o.1,fun y hy _ _=>o.2 y hy⟩
theorem zbx.trans {h1 h2 h3:AH} (a:zbx mb bm h1 h2) (c:zbx mb bm h2 h3):zbx mb bm h1 h3:=⟨Nat.le_trans a.1 c.1,fun y hy q1 q2=>(c.2 y (Nat.lt_of_lt_of_le hy a.1) q1 q2).trans (a.2 y hy q1 q2)⟩
theorem zbx.near1 (n:zbR mb h h'):zbx mb bm h h':=⟨by rw[n.1]; exact Nat.le_refl _,fun y _ q _=>n.2 y q⟩
theorem zbx.near2 (n:zbR bm h h'):zbx mb bm h h':=⟨by rw[n.1]; exact Nat.le_refl _,fun y _ _ q=>n.2 y q⟩
theorem zaD.stay (k:zaD b h mb bm s) (o:zbx mb bm h h'):zhN h h':=by
 refine⟨o.1,fun y hy=>?_⟩
 by_cases q1:y=mb
 ·obtain⟨p,n,c,h1, -⟩:=k.cells
  exact .inr ⟨_,by rw[q1]; exact h1,zpX _ _ _ _ _ _ _ _⟩
 ·by_cases q2:y=bm
  ·obtain⟨es,cl,h1, -⟩:=k.map.get
   exact .inr ⟨_,by rw[q2]; exact h1,zpW _ _⟩
  ·exact .inl (o.2 y hy q1 q2)
theorem zaD.mono {b' : Int} (k:zaD b h mb bm s) (h1:b≤b') (h2:b'≤1000000):zaD b' h mb bm s:={ k with nx:=⟨k.nx.1,by have:=k.nx.2; omega⟩,st:=⟨k.st.1,by have:=k.st.2; omega⟩,md:=⟨k.md.1,by have:=k.md.2; omega⟩,bd:=h2 }
end
noncomputable def findM (rs:List zaj) (o:Option (ByteArray×ByteArray)) (i:Int):zaj×Int:=match o with
 | none=>(zaq,141)
 | some _=>match lookOf rs o with
   | none=>(zaq,172)
   | some j=>match rs[j]? with
     | none=>(zaq,172)
     | some r=>if i < 0∨r.blocks≤i then (zaq,176) else (r,0)
theorem zjk {xs ys:List zaj} (h:xs.map cor=ys.map cor) (o:Option (ByteArray×ByteArray)) (i:Int):(findM xs o i).2=(findM ys o i).2∧cor (findM xs o i).1=cor (findM ys o i).1:=by
 unfold findM
 cases o with
 | none=>exact⟨rfl,rfl⟩
 | some q=>
   simp only
   rw[zaP h]
   cases lookOf ys (some q) with
   | none=>exact⟨rfl,rfl⟩
   | some j=>
     simp only
     rcases getc h j with ⟨h1,h2⟩ | ⟨a,c,h1,h2,h3⟩
     ·rw[h1,h2]
      exact⟨rfl,rfl⟩
     ·rw[h1,h2]
      simp only
      rw[(zaL h3).2.2.2.2.2.2.1]
      split
      ·exact⟨rfl,rfl⟩
      ·exact⟨rfl,h3⟩
theorem zkj {g:AH} {p:Option Addr} {n:Nat} {rs:List zaj} (T:zbL g p n rs):∀r∈rs,(Lit.int .u64 r.id).wf=true:=fun r hr=>(T.ok r hr).id
structure znd (K:Xs):Prop where
 acts:zo3 K
 named:zoP K
 find:K 53=none
 volume:K 51=none
 put:K 52=none
 write:K 19=none
 trim:K 20=none
 read:K 21=none
 grow:K 18=none
 back:K 25=none
 destroy:K 26=none
 do_:K 7=none
 new:K 5=none
def zw6 (x:zaj×Int) (v:Value):Prop:=∃r,v=.tuple #[.agg (setC r).toArray,.int .i64 x.2]∧cor r=cor x.1∧(Lit.int .u64 r.id).wf=true
section
variable {K:Xs} {b:Int} {h:AH} {mb bm:Nat} {s:MSt}
theorem zmT (kk:znd K) (M:zaD b h mb bm s) (f:ByteArray) (hf:f.size≤9223372036854775806) (i:Int):
 Wf Tryz.prog K 53 [.pointer (some ⟨mb,0,none⟩),.string f,.int .i64 i] h fun v h'=>zw6 (findM s.rs (spl f) i) v∧Old h h':=by
 obtain⟨p,n,c,hc,hbk⟩:=M.cells
 obtain⟨-,xs,B,hx⟩:=hbk
 refine zgb kk.find _ _ _ h _ fun g0 e0=>?_
 have o0:=zab e0
 have n0:=zaa e0
 have R' : zam s.nx xs:=M.right.cor hx.symm
 refine⟨_,_,_,zae ((o0.2 _ M.lt).trans hc) rfl,(zgK kk.named (B.1.old o0) R'.calOk (zkj B.1) f hf).mono ?_⟩
 obtain⟨q2,q1⟩:=zjk hx (spl f) i
 unfold zw6
 rw[←q2,←q1]
 have way:∀{g7:AH},Old g0 g7→∀(r:zaj) (g22:AH),g22=g7.alloc (.cells (setC zaq) 81 false)→∃g23,stN g22 g7.next 0 (setC r)=some g23∧Old h g23∧g23.get g7.next=some (.cells (setC r) 81 false)∧g23.get h.next=some (.cells (setC zaq) 81 false):=fun {g7} o7 r g22 e22=>by
  obtain⟨g23,k23,n23,o23,v23⟩:=zap e22 (vs:=setC r) rfl
  exact⟨g23,k23,o0.trans (o7.trans o23),(v23 [] (fun c hc=>by cases hc)).1,(o23.2 _ (by have:=o7.1; omega)).trans ((o7.2 _ (by omega)).trans (zaf e0))⟩
 rintro _ g7 ⟨q,o7⟩
 rcases q with ⟨a,b',hsp,⟨j,r,p',c',hl,hr,rfl,ok⟩ | ⟨hl,rfl⟩⟩ | ⟨hno,rfl⟩
 ·have hs:=zaH hsp
  have hlk:lookOf xs (spl f)=some j:=by rw[hs]; exact hl
  refine⟨_,_,_,_,_,_,_,_,_,_,_,_,_,_,rfl,fun g22 e22=>?_⟩
  obtain⟨g23,k23,o23,w23,z23⟩:=way o7 { r with dp:=p',dc:=c' } g22 e22
  have hcs:cor { r with dp:=p',dc:=c' }= cor r:=rfl
  refine⟨rfl,g23,k23,fun y=>absurd y (by decide),fun _=>⟨fun _=>⟨fun y=>?_,fun y=>⟨_,zae w23 rfl,fun y2=>?_,fun y2=>?_⟩⟩,fun y=>absurd rfl y⟩⟩
  ·refine⟨rfl,_,zat (vs:=setC zaq) z23 rfl,_,_,_,_,_,_,_,_,_,_,_,_,_,zah (zad _ _ _) rfl,⟨zaq,?_,?_,by decide⟩,zao o23 (zak _ _ _) (Nat.le_refl _)⟩
   ·unfold findM; rw[hs]; simp only; rw[←hs,hlk]; simp only; rw[hr]; simp only; rw[if_pos (.inl y)]; rfl
   ·unfold findM; rw[hs]; simp only; rw[←hs,hlk]; simp only; rw[hr]; simp only; rw[if_pos (.inl y)]
  ·refine⟨rfl,_,zat (vs:=setC zaq) z23 rfl,_,_,_,_,_,_,_,_,_,_,_,_,_,zah (zad _ _ _) rfl,⟨zaq,?_,?_,by decide⟩,zao o23 (zak _ _ _) (Nat.le_refl _)⟩
   ·unfold findM; rw[hs]; simp only; rw[←hs,hlk]; simp only; rw[hr]; simp only; rw[if_pos (.inr y2)]; rfl
   ·unfold findM; rw[hs]; simp only; rw[←hs,hlk]; simp only; rw[hr]; simp only; rw[if_pos (.inr y2)]
  ·have hif:¬(i < 0∨r.blocks≤i):=fun z=>z.elim y y2
   refine⟨_,_,_,_,_,_,_,_,_,_,_,_,_,zah w23 rfl,rfl,_,zat (vs:=setC { r with dp:=p',dc:=c' }) z23 rfl,_,_,_,_,_,_,_,_,_,_,_,_,_,zah (zad _ _ _) rfl,⟨{ r with dp:=p',dc:=c' },?_,?_,ok.id⟩,zao o23 (zak _ _ _) (Nat.le_refl _)⟩
   ·unfold findM; rw[hs]; simp only; rw[←hs,hlk]; simp only; rw[hr]; simp only; rw[if_neg hif]; rfl
   ·unfold findM; rw[hs]; simp only; rw[←hs,hlk]; simp only; rw[hr]; simp only; rw[if_neg hif]; exact hcs
 ·have hs:=zaH hsp
  have hlk:lookOf xs (spl f)=none:=by rw[hs]; exact hl
  refine⟨_,_,_,_,_,_,_,_,_,_,_,_,_,_,rfl,fun g22 e22=>?_⟩
  obtain⟨g23,k23,o23,w23,z23⟩:=way o7 zaq g22 e22
  refine⟨rfl,g23,k23,fun y=>absurd y (by decide),fun _=>⟨fun y=>absurd y (by decide),fun y=>?_⟩⟩
  refine⟨rfl,_,zat (vs:=setC zaq) z23 rfl,_,_,_,_,_,_,_,_,_,_,_,_,_,zah (zad _ _ _) rfl,⟨zaq,?_,?_,by decide⟩,zao o23 (zak _ _ _) (Nat.le_refl _)⟩
  ·unfold findM; rw[hs]; simp only; rw[←hs,hlk]; rfl
  ·unfold findM; rw[hs]; simp only; rw[←hs,hlk]
 ·have hs:=zbB hno
  refine⟨_,_,_,_,_,_,_,_,_,_,_,_,_,_,rfl,fun g22 e22=>?_⟩
  obtain⟨g23,k23,o23,w23,z23⟩:=way o7 zaq g22 e22
  refine⟨rfl,g23,k23,fun y=>?_,fun y=>absurd rfl y⟩
  refine⟨rfl,_,zat (vs:=setC zaq) z23 rfl,_,_,_,_,_,_,_,_,_,_,_,_,_,zah (zad _ _ _) rfl,⟨zaq,?_,?_,by decide⟩,zao o23 (zak _ _ _) (Nat.le_refl _)⟩
  ·unfold findM; rw[hs]; rfl
  ·unfold findM; rw[hs]
end
def setBlk (l:List Value) (i:Nat) (b:List Value):List Value:=l.take (i * 129) ++ b ++ l.drop (i * 129+b.length)
theorem zhO.len {b:List Value} (k:zhO b):b.length=129:=by
 obtain⟨bs,v,rfl,h, -⟩:=k
 simp[za7,h]
theorem zkk {l b:List Value} {i:Nat} (hl:l.length=8256) (hb:b.length=129) (hi:i < 64):(setBlk l i b).length=8256:=by
 unfold setBlk
 simp only[List.length_append,List.length_take,List.length_drop]
 omega
theorem zgS {l b:List Value} {i j:Nat} (hl:l.length=8256) (hb:b.length=129) (hi:i < 64) (hj:j < 64):zdt (setBlk l i b) j=if j=i then b else zdt l j:=by
 have hlt:(l.take (i * 129)).length=i * 129:=by rw[List.length_take]; omega
 unfold zdt setBlk
 by_cases h:j=i
 ·subst h
  rw[if_pos rfl,List.append_assoc,List.drop_append,hlt,Nat.sub_self,List.drop_zero,List.drop_of_length_le (by omega),List.nil_append,List.take_append_of_le_length (by omega),List.take_of_length_le (by omega)]
 ·rw[if_neg h]
  by_cases h2:j < i
  ·rw[List.append_assoc,List.drop_append_of_le_length (by omega),List.take_append_of_le_length (by rw[List.length_drop]; omega),List.drop_take,List.take_take]
   congr 1
   omega
  ·rw[List.drop_append,List.length_append,hlt,hb,List.drop_of_length_le (by rw[List.length_append]; omega),List.nil_append,List.drop_drop]
   congr 2
   omega
theorem zaZ.set {l b:List Value} {i:Nat} (h:zaZ l) (hb:zhO b) (hi:i < 64):zaZ (setBlk l i b):=by
 refine⟨zkk h.1 hb.len hi,fun j hj=>?_⟩
 rw[zgS h.1 hb.len hi hj]
 split
 ·exact hb
 ·exact h.2 j hj
noncomputable def zv6 (s:MSt) (id:Int) (i:Nat) (b:List Value):MSt:={ s with T:=fun j=>if j=id then setBlk (s.T id) i b else s.T j }
section
variable {K:Xs} {b:Int} {h:AH} {mb bm:Nat} {s:MSt}
theorem zrM (kk:znd K) (M:zaD b h mb bm s) {id:Int} (hid:(Lit.int .u64 id).wf=true) {i:Nat} (hi:i < 64) {l:List Value} (ok:zhO l):
 Wf Tryz.prog K 52 [.pointer (some ⟨mb,0,none⟩),.int .u64 id,.int .i64 (i:Int),.agg l.toArray] h fun _ h'=>zaD b h' mb bm (zv6 s id i l)∧zbx mb bm h h':=by
 obtain⟨p,n,c,hc,hbk⟩:=M.cells
 have hne:=M.ne
 have hlt:=M.lt
 refine zgH kk.put _ _ _ _ h _ fun g0 e0=>?_
 have o0:=zab e0
 have n0:=zaa e0
 have M0:=M.old o0
 have tx:=M.map.ok id
 refine zag ⟨_,zae ((o0.2 _ hlt).trans hc) rfl,_,M0.map.lookup hid,za0,zrE,fun g6 e6=>⟨tx.len,?_⟩⟩
 obtain⟨g7,k7,n7,o7,v7⟩:=zap e6 (vs:=s.T id) (by rw[zbq.len]; exact tx.len)
 have w7:=(v7 [] (fun c hc=>by cases hc)).1
 have wb:g7.get h.next=some (.cells l 107 false):=(o7.2 _ (by omega)).trans (zaf e0)
 refine⟨g7,k7,_,zah wb ok.len,by omega,by omega,ok.len,_,zj7 w7 (by rw[Int.toNat_natCast,Nat.zero_add,ok.len,tx.len]; omega),?_⟩
 have e9:(s.T id).take (0+Int.toNat (i:Int) * 129) ++ l ++ (s.T id).drop (0+Int.toNat (i:Int) * 129+l.length)=setBlk (s.T id) i l:=by rw[Int.toNat_natCast,Nat.zero_add]; rfl
 rw[e9]
 have s9:=zak g0.next g7 (.cells (setBlk (s.T id) i l) 108 false)
 have o9:Old h (g7.set g0.next (.cells (setBlk (s.T id) i l) 108 false)):=zao (o0.trans o7) s9 (by omega)
 have g9:=zad g0.next g7 (.cells (setBlk (s.T id) i l) 108 false)
 generalize g7.set g0.next (.cells (setBlk (s.T id) i l) 108 false)=g10 at o9 g9 ⊢
 have M9:=M.old o9
 have tx2:=tx.set ok hi
 obtain⟨g14,k14,nr14,m14⟩:=M9.map.put hid tx2
 refine zag ⟨_,zae ((o9.2 _ hlt).trans hc) rfl,_,zah g9 tx2.len,g14,k14,?_⟩
 have om:zbx mb bm h g14:=(zbx.of_old o9).trans (zbx.near2 nr14)
 exact⟨{ cells:=⟨p,n,c,(nr14.2 _ hne).trans ((o9.2 _ hlt).trans hc),(hbk.old o9).stayM (M9.stay (zbx.near2 nr14))⟩,map:=m14,lt:=Nat.lt_of_lt_of_le hlt om.1,lb:=Nat.lt_of_lt_of_le M.lb om.1,right:=M.right,nx:=M.nx,st:=M.st,md:=M.md,bd:=M.bd },om⟩
noncomputable def zei (rs:List zaj) (o:Option (ByteArray×ByteArray)) (i:Int):zaj×Int:=match volOf o with | none=>(zaq,141) | some _=>findM rs o i
theorem zkl (kk:znd K) (M:zaD b h mb bm s) (f:ByteArray) (hf:f.size≤9223372036854775806) (i:Int):
 Wf Tryz.prog K 51 [.pointer (some ⟨mb,0,none⟩),.string f,.int .i64 i] h fun v h'=>zw6 (zei s.rs (spl f) i) v∧Old h h':=by
 refine zeV kk.volume _ _ _ h _ fun g0 e0=>(zeY kk.named.name f hf).mono ?_
 have o0:=zab e0
 have z0:=zaf e0
 rintro _ g2 ⟨⟨a,b',hsp,rfl⟩ | ⟨hno,rfl⟩,o2⟩
 ·have hs:=zaH hsp
  have oh2:=o0.trans o2
  have z2:=(o2.2 _ (by have:=zaa e0; omega)).trans z0
  refine⟨_,_,_,rfl,fun _=>⟨fun y=>?_,fun y=>?_⟩,fun y=>absurd rfl y⟩
  ·refine (zmT kk (M.old oh2) f hf i).mono ?_
   rintro _ g7 ⟨⟨r,rfl,q1,q2⟩,o7⟩
   have z7:=(o7.2 _ (by have:=zaa e0; have:=o2.1; omega)).trans z2
   refine⟨_,_,_,_,_,_,_,_,_,_,_,_,_,_,rfl,rfl,_,zat (vs:=setC r) z7 rfl,_,_,_,_,_,_,_,_,_,_,_,_,_,zah (zad _ _ _) rfl,⟨r,?_,?_,q2⟩,zao (oh2.trans o7) (zak _ _ _) (Nat.le_refl _)⟩
   ·have:zei s.rs (spl f) i=findM s.rs (spl f) i:=by unfold zei volOf; rw[hs]; simp only; rw[if_pos (show b'= noB from y)]
    rw[this]
    rfl
   ·have:zei s.rs (spl f) i=findM s.rs (spl f) i:=by unfold zei volOf; rw[hs]; simp only; rw[if_pos (show b'= noB from y)]
    rw[this]
    exact q1
  ·have hv:zei s.rs (spl f) i=(zaq,141):=by unfold zei volOf; rw[hs]; simp only; rw[if_neg (show ¬b'= noB from y)]
   rw[hv]
   exact⟨rfl,_,zat (vs:=setC zaq) z2 rfl,_,_,_,_,_,_,_,_,_,_,_,_,_,zah (zad _ _ _) rfl,⟨zaq,rfl,rfl,by decide⟩,zao oh2 (zak _ _ _) (Nat.le_refl _)⟩
 ·have oh2:=o0.trans o2
  have z2:=(o2.2 _ (by have:=zaa e0; omega)).trans z0
  have hv:zei s.rs (spl f) i=(zaq,141):=by unfold zei; rw[zbB hno]; rfl
  rw[hv]
  exact⟨_,_,_,rfl,fun y=>absurd y (by decide),fun _=>⟨rfl,_,zat (vs:=setC zaq) z2 rfl,_,_,_,_,_,_,_,_,_,_,_,_,_,zah (zad _ _ _) rfl,⟨zaq,rfl,rfl,by decide⟩,zao oh2 (zak _ _ _) (Nat.le_refl _)⟩⟩
theorem zgT {rs:List zaj} {o:Option (ByteArray×ByteArray)} {i:Int} (h:(findM rs o i).2=0):∃j r,lookOf rs o=some j∧rs[j]?= some r∧(findM rs o i).1=r∧0≤i∧i < r.blocks:=by
 unfold findM at h ⊢
 cases o with
 | none=>cases h
 | some q=>
   simp only at h ⊢
   cases hl:lookOf rs (some q) with
   | none=>rw[hl] at h; cases h
   | some j=>
     rw[hl] at h
     simp only at h ⊢
     cases hr:rs[j]? with
     | none=>rw[hr] at h; cases h
     | some r=>
       rw[hr] at h
       simp only at h ⊢
       split at h
       ·cases h
       ·rename_i hn
        rw[if_neg hn]
        exact⟨j,r,rfl,hr,rfl,by omega,by omega⟩
theorem zoa {rs:List zaj} {o:Option (ByteArray×ByteArray)} {i:Int} (h:(zei rs o i).2=0):zei rs o i=findM rs o i∧(findM rs o i).2=0∧(volOf o).isSome=true:=by
 unfold zei at h ⊢
 cases hv:volOf o with
 | none=>rw[hv] at h; cases h
 | some a=>rw[hv] at h; exact⟨rfl,h,rfl⟩
theorem zaD.block (M:zaD b h mb bm s) {o:Option (ByteArray×ByteArray)} {i:Int} (h0:(findM s.rs o i).2=0):0≤i∧i < 64:=by
 obtain⟨j,r, -,hr, -,h1,h2⟩:=zgT h0
 have:=(M.right.ent (List.mem_of_getElem? hr)).2.2.2.1
 omega
noncomputable def zlp (s:MSt) (f:ByteArray) (i:Int):MSt×Int:=if (zei s.rs (spl f) i).2≠0 then (s,(zei s.rs (spl f) i).2) else (zv6 s (zei s.rs (spl f) i).1.id i.toNat zjO,0)
def zp8 (ds:List Nat) (v:Int):List Value:=zbY .u8 (ds ++ List.replicate (128 - ds.length) 0) ++ [.int .u64 v]
theorem zob {ds:List Nat} (hl:ds.length≤128) (hd:∀x∈ds,x < 256) {v:Int} (hv:(Lit.int .u64 v).wf=true):zhO (zp8 ds v):=⟨_,v,rfl,by simp; omega,fun x hx=>by
 rcases List.mem_append.1 hx with hx | hx
 ·exact hd x hx
 ·rw[List.eq_of_mem_replicate hx]; decide,hv⟩
noncomputable def zfS (s:MSt) (f:ByteArray) (i:Int) (ds:List Nat):MSt×Int:=if (zei s.rs (spl f) i).2≠0 then (s,(zei s.rs (spl f) i).2) else if 128 < ds.length then (s,92) else (zv6 { s with md:=s.md+1 } (zei s.rs (spl f) i).1.id i.toNat (zp8 ds (s.md+1)),0)
def zeroS:List Value:=List.replicate 128 (.int .u8 0)
noncomputable def readM (s:MSt) (f:ByteArray) (i:Int):List Value×Int:=if (findM s.rs (spl f) i).2≠0 then (zeroS,(findM s.rs (spl f) i).2) else ((zdt (s.T (findM s.rs (spl f) i).1.id) i.toNat).take 128,0)
theorem zv7:zaE Tryz.prog 107 #[]=some (.agg zjO.toArray):=by kernel_rfl
theorem zv8 (v:Int):zaE Tryz.prog 107 #[(1,.int .u64 v)]=some (.agg (List.replicate 128 (Value.int .u8 0) ++ [Value.int .u64 v]).toArray):=by kernel_rfl
theorem zdY:zaE Tryz.prog 39 #[]=some (.agg zeroS.toArray):=by kernel_rfl
theorem zrN (g:AH) (x:Nat):zaB Tryz.prog g 39 (.pointer (some ⟨x,0,none⟩)) none none none=some (.slice (some ⟨x,0,none⟩) 128 128):=by kernel_rfl
theorem ztv (kk:znd K) (M:zaD b h mb bm s) (f:ByteArray) (hf:f.size≤9223372036854775806) (i:Int):
 Wf Tryz.prog K 20 [.pointer (some ⟨mb,0,none⟩),.string f,.int .i64 i] h fun v h'=>v=.int .i64 (zlp s f i).2∧zaD b h' mb bm (zlp s f i).1∧zbx mb bm h h':=by
 refine zgc kk.trim _ _ _ h _ ((zkl kk M f hf i).mono ?_)
 rintro _ g1 ⟨⟨r,rfl,q1,q2⟩,o1⟩
 refine⟨_,_,_,_,_,_,_,_,_,_,_,_,_,_,rfl,fun g2 e2=>?_⟩
 obtain⟨g3,k3,n3,o3,v3⟩:=zap e2 (vs:=setC r) rfl
 have w3:=(v3 [] (fun c hc=>by cases hc)).1
 have oh:=o1.trans o3
 refine⟨rfl,g3,k3,fun y=>?_,fun y=>?_⟩
 ·obtain⟨e1,e2', -⟩:=zoa y
  obtain⟨h1,h2⟩:=M.block e2'
  obtain⟨u,rfl⟩:∃u:Nat,i=u:=⟨i.toNat,by omega⟩
  have hid:r.id=(zei s.rs (spl f) (u:Int)).1.id:=(zaL q1).1
  refine⟨_,zae w3 rfl,zjO,zv7,(zrM kk (M.old oh) q2 (i:=u) (by omega) zh4).mono ?_⟩
  rintro _ g4 ⟨m4,o4⟩
  unfold zlp
  rw[if_neg (by simpa using y)]
  refine⟨rfl,?_,(zbx.of_old oh).trans o4⟩
  rw[hid] at m4
  simpa using m4
 ·unfold zlp
  rw[if_pos y]
  exact⟨rfl,M.old oh,zbx.of_old oh⟩
theorem ztw (kk:znd K) (M:zaD b h mb bm s) (f:ByteArray) (hf:f.size≤9223372036854775806) (i:Int):
 Wf Tryz.prog K 21 [.pointer (some ⟨mb,0,none⟩),.string f,.int .i64 i] h fun v h'=>v=.tuple #[.agg (readM s f i).1.toArray,.int .i64 (readM s f i).2]∧Old h h':=by
 refine zgd kk.read _ _ _ h _ fun g0 e0=>?_
 have o0:=zab e0
 have n0:=zaa e0
 have z0:=zaf e0
 refine (zmT kk (M.old o0) f hf i).mono ?_
 rintro _ g2 ⟨⟨r,rfl,q1,q2⟩,o2⟩
 refine⟨_,_,_,_,_,_,_,_,_,_,_,_,_,_,rfl,fun g17 e17=>?_⟩
 obtain⟨g3,k3,n3,o3,v3⟩:=zap e17 (vs:=setC r) rfl
 have w3:=(v3 [] (fun c hc=>by cases hc)).1
 have oh:=o0.trans (o2.trans o3)
 have z3:=(o3.2 _ (by have:=o2.1; omega)).trans ((o2.2 _ (by omega)).trans z0)
 obtain⟨p,n,c,hc, -⟩:=M.cells
 refine⟨rfl,g3,k3,fun y=>?_,fun y=>?_⟩
 ·obtain⟨h1,h2⟩:=M.block y
  obtain⟨u,rfl⟩:∃u:Nat,i=u:=⟨i.toNat,by omega⟩
  have hid:r.id=(findM s.rs (spl f) (u:Int)).1.id:=(zaL q1).1
  have tx:=M.map.ok r.id
  have hb:=(tx.2 u (by omega)).len
  have hl:((zdt (s.T r.id) u).take 128).length=128:=by rw[List.length_take,hb]; rfl
  refine zag ⟨_,zae ((oh.2 _ M.lt).trans hc) rfl,_,zae w3 rfl,_,(M.old oh).map.lookup q2,h1,h2,_,by rw[Int.toNat_natCast],_,rfl,?_⟩
  have he:List.take 128 (List.drop 0 (List.take 129 (List.drop (u * 129) (s.T r.id))))=(zdt (s.T r.id) u).take 128:=rfl
  rw[he]
  refine⟨hl,_,zat z3 (by rw[hl]; simp),_,zah (zad _ _ _) hl,?_,zao oh (zak _ _ _) (Nat.le_refl _)⟩
  unfold readM
  rw[if_neg (by simpa using y),hid]
  rfl
 ·unfold readM
  rw[if_pos y]
  exact⟨zeroS,zdY,by simp[zeroS],_,zat z3 (by simp[zeroS]),_,zah (zad _ _ _) (by simp[zeroS]),rfl,zao oh (zak _ _ _) (Nat.le_refl _)⟩
theorem zvd:zcZ Tryz.prog 34 5 1 1:=zc0 (by kernel_rfl)
theorem zrO (kk:znd K) (M:zaD b h mb bm s) (hb1:b+1≤1000000) (f:ByteArray) (hf:f.size≤9223372036854775806) (i:Int) {pd:Option Addr} {nd cd:Nat} {ds:List Nat} (S:zaR h pd nd 1 (zbY .u8 ds)) (fm:pd=none∨∃b off,pd=some ⟨b,off,none⟩) (hd:∀x∈ds,x < 256):
 Wf Tryz.prog K 19 [.pointer (some ⟨mb,0,none⟩),.string f,.int .i64 i,.slice pd nd cd] h fun v h'=>v=.int .i64 (zfS s f i ds).2∧zaD (b+1) h' mb bm (zfS s f i ds).1∧zbx mb bm h h':=by
 have hnd:ds.length=nd:=by have:=S.1; rw[za7] at this; omega
 refine zfE kk.write _ _ _ _ _ _ h _ ((zkl kk M f hf i).mono ?_)
 rintro _ g1 ⟨⟨r,rfl,q1,q2⟩,o1⟩
 refine⟨_,_,_,_,_,_,_,_,_,_,_,_,_,_,rfl,fun g2 e2=>?_⟩
 obtain⟨g3,k3,n3,o3,v3⟩:=zap e2 (vs:=setC r) rfl
 have w3:=(v3 [] (fun c hc=>by cases hc)).1
 have oh:=o1.trans o3
 have M3:=(M.old oh).mono (b':=b+1) (by omega) hb1
 refine⟨rfl,g3,k3,fun y=>⟨fun y2=>?_,fun y2=>?_⟩,fun y=>?_⟩
 ·unfold zfS
  rw[if_neg (by simpa using y),if_pos (by omega)]
  exact⟨rfl,M3,zbx.of_old oh⟩
 ·obtain⟨e1,e2', -⟩:=zoa y
  obtain⟨h1,h2⟩:=M.block e2'
  obtain⟨u,rfl⟩:∃u:Nat,i=u:=⟨i.toNat,by omega⟩
  have hid:r.id=(zei s.rs (spl f) (u:Int)).1.id:=(zaL q1).1
  obtain⟨p,n,c,hc,hbk⟩:=M.cells
  have hc3:=(oh.2 _ M.lt).trans hc
  have hmd:=M.md
  have hbd:=M.bd
  refine zag ⟨_,zae hc3 rfl,fun i21 e21=>zag ⟨_,zbi hc3 (by show 0+4 < 5; decide),?_⟩⟩
  have e21' : i21=s.md+1:=zuV e21 (by omega) (by omega)
  subst e21'
  have s4:=zak mb g3 (.cells (modC s.nx p n c (some bm) s.st (s.md+1)) 58 false)
  have c4:=zad mb g3 (.cells (modC s.nx p n c (some bm) s.st (s.md+1)) 58 false)
  have hset:(modC s.nx p n c (some bm) s.st s.md).set (0+4) (.int .u64 (s.md+1))=modC s.nx p n c (some bm) s.st (s.md+1):=rfl
  rw[hset]
  have om4:zbx mb bm g3 (g3.set mb (.cells (modC s.nx p n c (some bm) s.st (s.md+1)) 58 false)):=zbx.near1 s4
  have w4:=(s4.2 g1.next (by have:=M.lt; have:=o1.1; omega)).trans w3
  have nx4:(g3.set mb (.cells (modC s.nx p n c (some bm) s.st (s.md+1)) 58 false)).next=g3.next:=s4.1
  have M4:zaD (b+1) (g3.set mb (.cells (modC s.nx p n c (some bm) s.st (s.md+1)) 58 false)) mb bm { s with md:=s.md+1 }:=
   { M3 with cells:=⟨p,n,c,c4,(hbk.old oh).stayM (M3.stay om4)⟩,map:=M3.map.near (s4.2 _ (Ne.symm M.ne)),lt:=by rw[nx4]; exact M3.lt,lb:=by rw[nx4]; exact M3.lb,md:=⟨by show 0≤s.md+1; omega,by show s.md+1≤b+1; omega⟩ }
  have SS:=(S.old oh)
  have hS4:zaR (g3.set mb (.cells (modC s.nx p n c (some bm) s.st (s.md+1)) 58 false)) pd nd 1 (zbY .u8 ds):=by
   rcases Nat.eq_zero_or_pos nd with h0 | hn
   ·exact⟨SS.1,.inl h0⟩
   ·refine SS.kept (Nat.le_of_eq nx4.symm) fun a ha=>s4.2 _ fun hb=>?_
    obtain⟨b2,off,e,hld, -⟩:=SS.getN hn
    rw[ha] at e
    cases e
    have hb' : b2=mb:=hb
    subst hb'
    unfold ldN at hld
    rw[hc3] at hld
    simp only at hld
    split at hld
    ·have e1:=Option.some.inj hld
     have e2:((zbY .u8 ds).drop (0 * 1)).take 1=[.int .u8 ((ds[0]'(by omega):Nat):Int)]:=by
      cases ds with
      | nil=>simp at hnd; omega
      | cons d ds=>rfl
     rw[e2] at e1
     rename_i h5
     have h5' : off+0 * 1+1≤5:=h5
     have:off=0∨off=1∨off=2∨off=3∨off=4:=by omega
     unfold modC at e1
     rcases this with rfl | rfl | rfl | rfl | rfl <;> simp at e1
    ·cases hld
  generalize g3.set mb (.cells (modC s.nx p n c (some bm) s.st (s.md+1)) 58 false)=g4 at c4 om4 w4 nx4 M4 hS4 ⊢
  refine zag ⟨_,zae c4 rfl,_,zv8 (s.md+1),fun g5 e5=>⟨by simp,?_⟩⟩
  obtain⟨g6,k6,n6,o6,v6⟩:=zap e5 (vs:=List.replicate 128 (.int .u8 0) ++ [.int .u64 (s.md+1)]) (by simp)
  have w6:=(v6 [] (fun c hc=>by cases hc)).1
  have w6':=(o6.2 _ (by rw[nx4]; have:=n3; omega)).trans w4
  obtain⟨g7,k7,nr7,w7⟩:=zs5 zvd (off:=0) w6 (by simp) (by decide) (n:=128) (c:=128) (c':=cd) (hS4.old o6) fm 34
  have hcell:(List.replicate 128 (Value.int .u8 0) ++ [Value.int .u64 (s.md+1)]).take 0 ++ (zbY .u8 ds).take 128 ++ (List.replicate 128 (Value.int .u8 0) ++ [Value.int .u64 (s.md+1)]).drop (0+((zbY .u8 ds).take 128).length)=zp8 ds (s.md+1):=by
   have hle:ds.length≤128:=by omega
   rw[List.take_zero,List.nil_append,List.take_of_length_le (by rw[za7]; omega),za7,Nat.zero_add,List.drop_append_of_le_length (by simp; omega),List.drop_replicate]
   unfold zp8
   rw[show zbY .u8 (ds ++ List.replicate (128 - ds.length) 0)=zbY .u8 ds ++ zbY .u8 (List.replicate (128 - ds.length) 0) by simp[zbY],zh3,List.append_assoc]
  rw[hcell] at w7
  have o47:Old g4 g7:=zao o6 nr7 (Nat.le_refl _)
  have w7':=(nr7.2 g1.next (by rw[nx4]; have:=n3; have:=zaa e2; omega)).trans w6'
  have hpad:zhO (zp8 ds (s.md+1)):=zob (by omega) hd (zlg ⟨by omega,by omega⟩)
  refine⟨g6,k6,_,_,_,zrN _ _,_,g7,k7,_,zae w7' rfl,_,zah w7 hpad.len,(zrM kk (M4.old o47) q2 (i:=u) (by omega) hpad).mono ?_⟩
  rintro _ g8 ⟨m8,o8⟩
  unfold zfS
  rw[if_neg (by simpa using y),if_neg (by omega)]
  refine⟨rfl,?_,(zbx.of_old oh).trans (om4.trans ((zbx.of_old o47).trans o8))⟩
  rw[hid] at m8
  simpa using m8
 ·unfold zfS
  rw[if_pos y]
  exact⟨rfl,M3,zbx.of_old oh⟩
end
def zgq (r:zaj):Int:=if r.snap=true then r.own else r.prev
def zgU (rs:List zaj) (id:Int):zaj:=match plcN rs id with | none=>zaq | some i=>(rs[i]?).getD zaq
def zmU (s:MSt) (id src:Int):MSt:={ s with T:=fun j=>if j=id then s.T src else s.T j }
def zew (s:MSt) (nx:Int) (rs:List zaj):MSt:={ s with nx:=nx,rs:=rs }
def zve (s:MSt) (id:Int):MSt:={ s with T:=fun j=>if j=id then za0 else s.T j }
def zdu (s:MSt) (nx:Int) (rs:List zaj) (e:Int):MSt:=if e=0 then zew (zmU s (zgU rs s.nx).id (zgq (zgU rs s.nx))) nx rs else s
noncomputable def zej (s:MSt) (f:ByteArray):MSt×Int:=if (zaW s.nx s.rs (spl f)).2.2.2=0 then (zew (zmU s (zaW s.nx s.rs (spl f)).2.2.1.id (zaW s.nx s.rs (spl f)).2.2.1.prev) (zaW s.nx s.rs (spl f)).1 (zaW s.nx s.rs (spl f)).2.1,0) else (s,(zaW s.nx s.rs (spl f)).2.2.2)
def zdZ (rs:List zaj) (o:Option (ByteArray×ByteArray)):zaj:=match lookOf rs o with | none=>zaq | some i=>(rs[i]?).getD zaq
noncomputable def zfJ (nx:Int) (rs:List zaj) (o:Option (ByteArray×ByteArray)):Int×List zaj×Int:=match o with
 | none=>(nx,rs,141)
 | some (a,b)=>if b=noB then ((zav nx rs o).1,(zav nx rs o).2.1,(zav nx rs o).2.2.2) else ((zaw nx rs (lookOf rs o) (snapOf o).isSome).1,(zaw nx rs (lookOf rs o) (snapOf o).isSome).2.1,(zaw nx rs (lookOf rs o) (snapOf o).isSome).2.2.2)
noncomputable def zaA (s:MSt) (f:ByteArray):MSt×Int:=if (zfJ s.nx s.rs (spl f)).2.2=0 then (zew (zve s (zdZ s.rs (spl f)).id) (zfJ s.nx s.rs (spl f)).1 (zfJ s.nx s.rs (spl f)).2.1,0) else (s,(zfJ s.nx s.rs (spl f)).2.2)
theorem zo5 {xs ys:List zaj} (h:xs.map cor=ys.map cor) (i:Nat):cor ((xs[i]?).getD zaq)=cor ((ys[i]?).getD zaq):=by
 rcases getc h i with ⟨h1,h2⟩ | ⟨a,c,h1,h2,h3⟩
 ·rw[h1,h2]
 ·rw[h1,h2]; exact h3
theorem zrP {xs ys:List zaj} (h:xs.map cor=ys.map cor) (id:Int):cor (zgU xs id)=cor (zgU ys id):=by
 unfold zgU
 rw[zbb h]
 cases plcN ys id with
 | none=>rfl
 | some i=>exact zo5 h i
theorem zpY {xs ys:List zaj} (h:xs.map cor=ys.map cor) (o:Option (ByteArray×ByteArray)):cor (zdZ xs o)=cor (zdZ ys o):=by
 unfold zdZ
 rw[zaP h]
 cases lookOf ys o with
 | none=>rfl
 | some i=>exact zo5 h i
theorem zb2.corE {nx nx' : Int} {R R' : List zaj} {i:Int} {p:Option Addr} {n:Nat} {g:AH} (b:zb2 nx R i p n g) (e:nx=nx') (h:R.map Am.cor=R'.map Am.cor):zb2 nx' R' i p n g:=by
 obtain⟨h1,rs',h2,h3⟩:=b
 exact⟨h1.trans e,rs',h2,h3.trans h⟩
theorem zlq:(Lit.int .u64 zaq.id).wf=true∧(Lit.int .u64 zaq.own).wf=true∧(Lit.int .u64 zaq.prev).wf=true:=by decide
section
variable {K:Xs} {b b' : Int} {h:AH} {mb bm:Nat} {s:MSt}
theorem zaD.mapTo {h' : AH} {T' : Int→List Value} (M:zaD b h mb bm s) (nr:zbR bm h h') (m:zlA h' bm T'):zaD b h' mb bm { s with T:=T' }:=by
 obtain⟨p,n,c,hc,hbk⟩:=M.cells
 exact { cells:=⟨p,n,c,(nr.2 _ M.ne).trans hc,hbk.stayM (M.stay (zbx.near2 nr))⟩,map:=m,lt:=by rw[nr.1]; exact M.lt,lb:=by rw[nr.1]; exact M.lb,right:=M.right,nx:=M.nx,st:=M.st,md:=M.md,bd:=M.bd }
theorem zaD.copyTo (M:zaD b h mb bm s) {id src:Int} (hid:(Lit.int .u64 id).wf=true):∃h',zaF Tryz.prog h 56 (.map (some bm)) (.int .u64 id) (.agg (s.T src).toArray)=some h'∧zbR bm h h'∧zaD b h' mb bm (zmU s id src):=by
 obtain⟨h',k,nr,m⟩:=M.map.put hid (M.map.ok src)
 exact⟨h',k,nr,M.mapTo nr m⟩
theorem zaD.delTo (M:zaD b h mb bm s) {id:Int} (hid:(Lit.int .u64 id).wf=true):∃h',zan Tryz.prog h .delete #[56,26] [.map (some bm),.int .u64 id]=some (undef,h')∧zbR bm h h'∧zaD b h' mb bm (zve s id):=by
 obtain⟨h',k,nr,m⟩:=M.map.del hid
 exact⟨h',k,nr,M.mapTo nr m⟩
theorem zaD.setBook (M:zaD b h mb bm s) {nx' : Int} {rs' : List zaj} {p' : Option Addr} {n' c' : Nat} (B:zb2 nx' rs' nx' p' n' h) (R' : zam nx' rs') (h1:1≤nx') (h2:nx'≤b') (hb:b≤b') (hb2:b'≤1000000):
 ∃h',stN h mb 0 [.int .u64 nx',.slice p' n' c']=some h'∧zbR mb h h'∧zaD b' h' mb bm (zew s nx' rs'):=by
 obtain⟨p,n,c,hc,hbk⟩:=M.cells
 have nr:=zak mb h (.cells (modC nx' p' n' c' (some bm) s.st s.md) 58 false)
 refine⟨_,zj7 hc (by show 0+2≤5; decide),nr,?_⟩
 have hne:=M.ne
 have h3:=M.st
 have h4:=M.md
 exact { cells:=⟨p',n',c',zad _ _ _,B.stayM (M.stay (zbx.near1 nr))⟩,map:=M.map.near (nr.2 _ (Ne.symm hne)),lt:=M.lt,lb:=M.lb,right:=R',nx:=⟨h1,h2⟩,st:=⟨h3.1,by show s.st≤b'; omega⟩,md:=⟨h4.1,by show s.md≤b'; omega⟩,bd:=hb2 }
theorem ztx (kk:znd K) (M:zaD b h mb bm s) {nx' : Int} {rs' : List zaj} {p' : Option Addr} {n' c' : Nat} (B:zb2 nx' rs' nx' p' n' h) (R' : zam nx' rs') (h1:1≤nx') (h2:nx'≤b') (hb:b≤b') (hb2:b'≤1000000) (e:Int):
 Wf Tryz.prog K 18 [.pointer (some ⟨mb,0,none⟩),.agg #[.int .u64 nx',.slice p' n' c'],.int .i64 e] h fun v h'=>v=.int .i64 e∧zaD b' h' mb bm (zdu s nx' rs' e)∧zbx mb bm h h':=by
 refine zga kk.grow _ _ _ _ _ _ h _ fun g0 e0=>⟨fun y=>?_,fun y=>?_⟩
 ·subst y
  have o0:=zab e0
  have n0:=zaa e0
  have z0:=zaf e0
  obtain⟨p,n,c,hc, -⟩:=M.cells
  obtain⟨-,xs,TB,hx⟩:=id B
  have hlt:=M.lt
  have hlb:=M.lb
  have hfc:=zrP hx s.nx
  have tail:∀{g7:AH},Old g0 g7→∀(r:zaj),(Lit.int .u64 r.id).wf=true→cor r=cor (zgU rs' s.nx)→∀g22,g22=g7.alloc (.cells (setC zaq) 81 false)→∃g23,stN g22 g7.next 0 (setC r)=some g23∧g23.get g7.next=some (.cells (setC r) 81 false)∧ld1 g23 mb (0+2)=some (.map (some bm))∧zaD b g23 mb bm s∧∃g34,zaF Tryz.prog g23 56 (.map (some bm)) (.int .u64 r.id) (.agg (s.T (zgq r)).toArray)=some g34∧ldN g34 h.next 0 2=some [.int .u64 nx',.slice p' n' c']∧∃g41,stN g34 mb 0 [.int .u64 nx',.slice p' n' c']=some g41∧zaD b' g41 mb bm (zdu s nx' rs' 0)∧zbx mb bm h g41:=fun {g7} o7 r hid hr g22 e22=>by
   obtain⟨g23,k23,n23,o23,v23⟩:=zap e22 (vs:=setC r) rfl
   have oh:=o0.trans (o7.trans o23)
   have M23:=M.old oh
   obtain⟨g34,k34,nr34,M34⟩:=M23.copyTo (src:=zgq r) hid
   have z34:=(nr34.2 h.next (by omega)).trans ((o23.2 _ (by have:=o7.1; omega)).trans ((o7.2 _ (by omega)).trans z0))
   obtain⟨g41,k41,nr41,M41⟩:=M34.setBook ((B.old oh).stayM (M23.stay (zbx.near2 nr34))) R' h1 h2 hb hb2 (c':=c')
   refine⟨g23,k23,(v23 [] (fun c hc=>by cases hc)).1,zae ((oh.2 _ hlt).trans hc) rfl,M23,g34,k34,zah z34 rfl,g41,k41,?_,(zbx.of_old oh).trans ((zbx.near2 nr34).trans (zbx.near1 nr41))⟩
   have hq:=zaL hr
   have hs:zgq r=zgq (zgU rs' s.nx):=by unfold zgq; rw[hq.2.2.1,hq.2.2.2.1,hq.2.2.2.2.1]
   unfold zdu
   rw[if_pos rfl,←hq.1,←hs]
   exact M41
  refine⟨_,_,_,zae z0 rfl,zag ⟨_,zae ((o0.2 _ hlt).trans hc) rfl,(zk6 kk.acts.a5.a4.a3.a2.find kk.acts.a5.a4.a3.a2.a.fplace kk.named.copy (TB.1.old o0) s.nx).mono ?_⟩⟩
  rintro _ g8 ⟨q,o8⟩
  rcases q with ⟨i,r,p2,c2,hp,hr,rfl,ok⟩ | ⟨hp,rfl⟩
  ·refine⟨_,_,_,_,_,_,_,_,_,_,_,_,_,.inl ⟨rfl,fun g22 e22=>?_⟩⟩
   have hcr:cor { r with dp:=p2,dc:=c2 }= cor (zgU rs' s.nx):=by
    rw[←hfc]
    unfold zgU
    rw[hp]
    simp only
    rw[hr]
    rfl
   obtain⟨g23,k23,w23,l23,M23,g34,k34,z34,g41,k41,M41,o41⟩:=tail o8 { r with dp:=p2,dc:=c2 } ok.id hcr g22 e22
   refine⟨rfl,g23,k23,_,zae w23 rfl,?_⟩
   cases hs:r.snap with
   | true=>
     have hsr:zgq { r with dp:=p2,dc:=c2 }= r.own:=by unfold zgq; simp only; rw[if_pos hs]
     rw[hsr] at k34
     exact .inl ⟨zae w23 (by rw[←hs]; rfl),_,zae w23 rfl,zag ⟨_,l23,_,zae w23 rfl,zag ⟨_,l23,_,M23.map.lookup ok.own,g34,k34,_,_,_,_,z34,zag ⟨rfl,g41,k41,rfl,M41,o41⟩⟩⟩⟩
   | false=>
     have hsr:zgq { r with dp:=p2,dc:=c2 }= r.prev:=by unfold zgq; simp only; rw[if_neg (by rw[hs]; decide)]
     rw[hsr] at k34
     exact .inr ⟨zae w23 (by rw[←hs]; rfl),zag ⟨_,l23,_,zae w23 rfl,zag ⟨_,l23,_,M23.map.lookup ok.prev,g34,k34,_,_,_,_,z34,zag ⟨rfl,g41,k41,rfl,M41,o41⟩⟩⟩⟩
  ·refine⟨_,_,_,_,_,_,_,_,_,_,_,_,_,.inr ⟨rfl,fun g22 e22=>?_⟩⟩
   have hcr:cor zaq=cor (zgU rs' s.nx):=by
    rw[←hfc]
    unfold zgU
    rw[hp]
   obtain⟨g23,k23,w23,l23,M23,g34,k34,z34,g41,k41,M41,o41⟩:=tail o8 zaq zlq.1 hcr g22 e22
   refine⟨rfl,g23,k23,_,zae w23 rfl,.inr ⟨zae w23 rfl,zag ⟨_,l23,_,zae w23 rfl,zag ⟨_,l23,_,M23.map.lookup zlq.2.2,g34,k34,_,_,_,_,z34,zag ⟨rfl,g41,k41,rfl,M41,o41⟩⟩⟩⟩⟩
 ·unfold zdu
  rw[if_neg y]
  exact⟨rfl,(M.old (zab e0)).mono hb hb2,zbx.of_old (zab e0)⟩
end
end Go.Am
