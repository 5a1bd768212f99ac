/-
  THE TABLE; lists of pointers joined; a half of a table followed.
-/
import Derived.Test.YtihmdaifbmchjaaGreatCpJ
import Derived.Test.YtihmdaifbmchjaaGreatVTxg
set_option linter.unusedVariables false
set_option linter.unusedSimpArgs false
set_option maxRecDepth 100000
namespace Go.Am
open Go.Proofs
def ziY (r:Tr3) (n:Nat):List Nat:=zhv r ++ byB 4 n
def zo3 (r1:Tr3) (n1:Nat) (r2:Tr3) (n2:Nat):List Nat:=ziY r1 n1 ++ ziY r2 n2
theorem ziZ (r:Tr3) (n:Nat):(ziY r n).length=20:=by simp[ziY,zbP,zaP]
theorem zlu (r1:Tr3) (n1:Nat) (r2:Tr3) (n2:Nat):(zo3 r1 n1 r2 n2).length=40:=by simp[zo3,ziZ]
theorem zwq {r:Tr3} {n x:Nat} (h:x∈ziY r n):x < 256:=by
 rcases List.mem_append.1 h with h | h
 ·exact zgT _ _ h
 ·exact byB_lt h
theorem zuw {r1 r2:Tr3} {n1 n2 x:Nat} (h:x∈zo3 r1 n1 r2 n2):x < 256:=by
 rcases List.mem_append.1 h with h | h <;> exact zwq h
def zCK (r1:Tr3) (n1:Nat) (r2:Tr3) (n2:Nat):Nat→List Nat
 | 0=>[]
 | 1=>ziY r1 n1
 | _=>zo3 r1 n1 r2 n2
section
variable {K:Xs} {h:AH}
theorem zux (kk:zfM K) {r1 r2:Tr3} {n1 n2:Nat} (k1:QOk r1) (k2:QOk r2) (hn1:n1≤65535) (hn2:n2≤65535):
 Wf Tryz.prog K 116 [qV r1,.int .i64 (n1:Nat),qV r2,.int .i64 (n2:Nat)] h fun v h'=>∃p c,v=.tuple #[.slice p 40 c,.int .i64 0]∧(p=none∨∃b off,p=some ⟨b,off,none⟩)∧zaq h' p 40 1 (zav .u8 (zo3 r1 n1 r2 n2))∧Old h h':=by
 refine ziz kk.mTable _ _ _ _ _ _ _ _ h _ fun g0 e0 g1 e1=>?_
 have o0:=zaa e0
 have o1:=zaa e1
 have n0:=zab e0
 have n1':=zab e1
 refine⟨_,_,_,zao ((o1.2 _ (by omega)).trans (zac e0)) rfl,_,_,_,zao (zac e1) rfl,fun g8 e8=>?_⟩
 have o8:=zaa e8
 have n8:=zab e8
 have w8:=zac e8
 have o8h:=(o0.trans o1).trans o8
 refine⟨fun p n c i k g=>∃j:Nat,i=j∧j≤2∧2 - j=k∧n=20 * j∧zbe g8.next g 5 1 p n c (zav .u8 (zCK r1 n1 r2 n2 j))∧Old g8 g,⟨2,0,rfl,by decide,rfl,rfl,zbe.nil _ _ _ _,Old.refl _⟩,?_⟩
 rintro k g11 p13 n14 c15 i16 ⟨j,rfl,hj,rfl,rfl,G,o11⟩
 refine⟨fun z=>?_,fun z=>?_⟩
 ·have hj2:j < 2:=by omega
  have w11:g11.get g1.next=_:=(o11.2 _ (by omega)).trans w8
  obtain⟨q,l,hq,hl,hld,hstep⟩:∃(q:Tr3) (l:Nat),QOk q∧l≤65535∧ldN g11 g1.next (0+Int.toNat (j:Int) * 4) 4=some [.int .i64 (q.1:Nat),.int .u64 (q.2.1:Nat),.int .u32 (q.2.2:Nat),.int .i64 (l:Nat)]∧zCK r1 n1 r2 n2 (j+1)=zCK r1 n1 r2 n2 j ++ (zhv q ++ byB 4 l):=by
   match j,hj2 with
   | 0,_=>exact⟨r1,n1,k1,hn1,zcl w11 (Nat.le_of_ble_eq_true rfl),rfl⟩
   | 1,_=>exact⟨r2,n2,k2,hn2,zcl w11 (Nat.le_of_ble_eq_true rfl),rfl⟩
  refine⟨by omega,by omega,_,_,_,_,hld,fun g21 e21=>⟨rfl,?_⟩⟩
  obtain⟨g22,k22,n22,o22,m22⟩:=zaF e21 (vs:=[.int .i64 (q.1:Nat),.int .u64 (q.2.1:Nat),.int .u32 (q.2.2:Nat),.int .i64 (l:Nat)]) rfl
  have w22:=(m22 [] (fun c hc=>by cases hc)).1
  refine⟨g22,k22,_,_,_,zcl w22 (Nat.le_of_ble_eq_true rfl),(zll kk.ku.ks.qBytes kk.ku.ks.qRight kk.ku.ks.qWidths kk.ku.ks.fPut kk.ku.ks.fRoom hq).mono ?_⟩
  rintro _ g27 ⟨⟨b28,rfl,hb28,S28⟩,o27⟩
  refine⟨_,_,_,_,rfl,fun _ g32 e32=>?_,fun z=>absurd rfl z⟩
  have o32:=zaa e32
  have n32:=zab e32
  have l27:=o27.1
  have w32:g32.get g11.next=_:=(o32.2 _ (by omega)).trans ((o27.2 _ (by omega)).trans w22)
  refine⟨_,zah w32 rfl,fun i34 e34 g35 e35=>?_⟩
  have e34:=zoz e34 (by omega) (by omega)
  refine (put1 kk.ku.ks.fPut kk.ku.ks.fRoom (w:=4) (x:=l) (by decide) (by omega) e34 e32 e35).mono ?_
  rintro _ g37 ⟨⟨b38,rfl,hb38,hb38',S38⟩,o37⟩
  have o37g:=(o22.trans o27).trans o37
  have S28':=S28.old o37
  have G37:=G.old o37g
  have hlim:g8.next≤g37.next:=Nat.le_trans o11.1 o37g.1
  obtain⟨p42,c44,g45,k45,G45,ob45,f45, -⟩:=G37.append (zaG (by kernel_rfl):zaZ Tryz.prog 53 5 1 1) hlim (x:=.slice (some ⟨b28,0,none⟩) 16 16) (m:=16) rfl (S28'.firstC (.inr ⟨_,_,rfl⟩)) (by rw[zam,zbP]) (by simp only[zaE]; omega) (by omega) ⟨_,(by kernel_rfl:Tryz.prog.underlying 53=some (.slice 5))⟩
  have hap:apart p13 b38:=by
   unfold apart
   split
   ·have:=(G.block rfl).2
    have:=o37g.1
    omega
   ·trivial
  have S45:zaq g45 (some ⟨b38,0,none⟩) 4 1 (zav .u8 (byB 4 l)):=S38.keep ob45.1 fun a z _=>by cases z; exact f45 _ hb38' hap
  obtain⟨p46,c48,g49,k49,G49,ob49, -, -⟩:=G45.append (zaG (by kernel_rfl):zaZ Tryz.prog 53 5 1 1) (Nat.le_trans hlim ob45.1) (x:=.slice (some ⟨b38,0,none⟩) 4 4) (m:=4) rfl (S45.firstC (.inr ⟨_,_,rfl⟩)) (by rw[zam,zaP]) (by simp only[zaE]; omega) (by omega) ⟨_,(by kernel_rfl:Tryz.prog.underlying 53=some (.slice 5))⟩
  refine⟨_,_,_,_,rfl,fun _=>⟨_,_,_,g45,k45,_,_,_,g49,k49,fun i50 e50=>?_⟩,fun z=>absurd rfl z⟩
  have e50:=zaJ e50 (by omega) (by omega)
  refine⟨_,by omega,j+1,by omega,by omega,rfl,by omega,?_,?_⟩
  ·rw[hstep,←List.append_assoc,zaI,zaI]
   exact G49
  ·have:=o11.1
   have:=o37g.1
   exact⟨Nat.le_trans hlim (Nat.le_trans ob45.1 ob49.1),fun c hc=>by rw[ob49.2 c hc,ob45.2 c hc,o37g.2 c (by omega),o11.2 c hc]⟩
 ·obtain rfl:j=2:=by omega
  exact⟨_,_,rfl,G.form,G.shows,o8h.trans o11⟩
theorem zyU:zaZ Tryz.prog 60 42 3 24:=zaG (by kernel_rfl)
theorem zEt {b n m c' : Nat} {al new:List Value} {p' : Option Addr} (hb:h.get b=some (.cells al 42 false)) (hl:b < h.next) (hn:n * 3≤al.length) (S:zaq h p' m 3 new) (hp:p'= none∨∃b off,p'= some ⟨b,off,none⟩) (hr:n+m≤1000000):
 ∃h',zal Tryz.prog h .append #[60,60] [.slice (some ⟨b,0,none⟩) n zak,.slice p' m c']=some (.slice (some ⟨h.next,0,none⟩) (n+m) zak,h')∧h'.next=h.next+1∧h'.get h.next=some (.cells (al.take (n * 3) ++ new) 42 false)∧∀x,x < h.next→x≠b→h'.get x=h.get x:=by
 obtain⟨hu,i,z,hi,hz,hzs,hpos,hsz,hby⟩:=zyU
 have hb0:zal Tryz.prog h .append #[60,60] [.slice (some ⟨b,0,none⟩) n zak,.slice p' m c']=zaS Tryz.prog h 60 false (.slice (some ⟨b,0,none⟩) n zak) (.slice p' m c'):=zaT hu
 have S0:zaq h (some ⟨b,0,none⟩) n 3 (al.take (n * 3)):=⟨by rw[List.length_take]; omega,.inr ⟨b,0,al,_,_,rfl,hl,hb,by omega,by rw[List.drop_zero]⟩⟩
 have f1:=S0.firstC (c:=zak) (.inr ⟨_,_,rfl⟩)
 have f2:=S.firstC (c:=c') hp
 rw[hb0]
 unfold zaS
 have hc:z.cells.size=3∧0 < 3∧new.length=m * 3∧(al.take (n * 3)).length=n * 3:=⟨hzs.trans hsz,by decide,S.1,S0.1⟩
 simp only[hu,hi,hsz,zlx,f1,f2,hz,hby,hb]
 rw[if_pos hc,if_pos trivial,if_pos (⟨trivial,by simp only[zaE]; omega,by omega⟩:True∧(n+m) * 24≤zaE∧n+m≤9223372036854775807)]
 refine⟨_,rfl,rfl,zau _ _,fun x hx hne=>?_⟩
 rw[zb4 (by show x≠(h.del b).next; rw[AH.next_del]; omega)]
 exact (AH.get_del h b x).trans (if_neg hne)
theorem zxn:zuN Tryz.prog 60 (.slice none 0 0)=some (.int .i64 0):=by kernel_rfl
theorem zwr (kk:zfM K) {s:Nat} (h1:1≤s) (h2:s≤1000):Wf Tryz.prog K 109 [.slice none 0 0,.int .i64 (s:Nat)] h fun v h'=>∃al,v=.slice (some ⟨h.next,0,none⟩) 0 zak∧h.next < h'.next∧h'.get h.next=some (.cells al 42 false)∧Old h h':=by
 refine zm6 kk.grow _ _ _ _ h _ ⟨fun z=>absurd z (by omega),fun _=>⟨_,zxn,fun i1 e1 i2 e2=>⟨fun _=>⟨_,zxn,?_⟩,fun z=>?_⟩⟩⟩
 ·have e1:i1=0:=by rw[zaJ e1 (by decide) (by decide)]; decide
  subst e1
  have e2:i2=(s:Nat):=by rw[zaJ e2 (by omega) (by omega)]; omega
  subst e2
  have k1:zar Tryz.prog h 60 (.slice none 0 0) none (some (.int .i64 0)) none=some (.slice none 0 0):=by kernel_rfl
  obtain⟨hu,i,z,hi,hz,hzs,hpos,hsz,hby⟩:=zyU
  have hz' : zan Tryz.prog 42=some [.int .i64 0,.int .u64 0,.int .u32 0]:=by kernel_rfl
  have k2:zal Tryz.prog h .append #[60,3] [.slice none 0 0,.int .i64 (s:Nat)]=some (.slice (some ⟨h.next,0,none⟩) s zak,h.alloc (.cells ((List.replicate s [.int .i64 0,.int .u64 0,.int .u32 0]).flatten) 42 false)):=by
   have hui:Tryz.prog.underlying 3=some (.int .i64):=by kernel_rfl
   unfold zal
   simp only[Array.toList,hui]
   unfold zdm
   simp only[hu,hui,hi,hz',hsz,hby,List.length_cons,List.length_nil,Int.toNat_natCast]
   rw[if_pos ⟨trivial,by decide,by omega,by simp only[zaE]; omega,by omega⟩]
  refine⟨_,_,_,k1,_,_,_,_,k2,?_⟩
  have w:=zau h (.cells ((List.replicate s [Value.int .i64 0,.int .u64 0,.int .u32 0]).flatten) 42 false)
  have k3:zar Tryz.prog (h.alloc (.cells ((List.replicate s [Value.int .i64 0,.int .u64 0,.int .u32 0]).flatten) 42 false)) 60 (.slice (some ⟨h.next,0,none⟩) s zak) none (some (.int .i64 ((0:Nat):Int))) none=some (.slice (some ⟨h.next,0,none⟩) 0 zak):=by
   unfold zar
   simp only[hu,hi,Option.isSome_some,if_true]
   unfold aBounds
   simp only[zbO,Nat.zero_le,if_true,w]
   simp
  exact⟨_,_,_,k3,_,rfl,Nat.lt_succ_self _,w,zaV _ _⟩
 ·have e1:i1=0:=by rw[zaJ e1 (by decide) (by decide)]; decide
  subst e1
  have e2:i2=(s:Nat):=by rw[zaJ e2 (by omega) (by omega)]; omega
  omega
abbrev Sl:=Option Addr×Nat×Nat
def slV (x:Sl):Value:=.slice x.1 x.2.1 x.2.2
def slN (L:List Sl):Nat:=(L.map (·.2.1)).sum
theorem zqn {L:List Sl} {u:Nat} (hu:u < L.length):slN (L.take (u+1))=slN (L.take u)+L[u].2.1:=by
 unfold slN
 rw[List.take_succ_eq_append_getElem hu,List.map_append,List.sum_append]
 simp
theorem zxo (L:List Sl) (u:Nat):slN (L.take u)≤slN L:=by
 unfold slN
 rw[List.map_take]
 exact zp5 _ _
theorem zkf (kk:zfM K) {b0 c0:Nat} {L:List Sl} {ty:TypeId} {ro:Bool} (hb:h.get b0=some (.cells (L.map slV) ty ro)) (hb0:b0 < h.next) (hL:L.length≤1000) (h1:1≤slN L) (h2:slN L≤1000) (hS:∀x∈L,(x.1=none∨∃b off,x.1=some ⟨b,off,none⟩)∧∃cs,zaq h x.1 x.2.1 3 cs):
 Wf Tryz.prog K 69 [.slice (some ⟨b0,0,none⟩) L.length c0] h fun v h'=>(∃b cs,v=.slice (some ⟨b,0,none⟩) (slN L) zak∧h.next≤b∧zaq h' (some ⟨b,0,none⟩) (slN L) 3 cs)∧Old h h':=by
 refine zju kk.concat _ _ _ h _ ⟨fun i4 i5 k g=>∃u:Nat,i5=u∧u≤L.length∧L.length - u=k∧i4=(slN (L.take u):Nat)∧h=g,⟨_,0,rfl,Nat.zero_le _,rfl,rfl,rfl⟩,?_⟩
 rintro k g i4 i5 ⟨u,rfl,hu,rfl,rfl,rfl⟩
 refine⟨fun z=>?_,fun z=>?_⟩
 ·have hul:u < L.length:=by omega
  have hs:=zqn hul
  have hle:=zxo L (u+1)
  refine zae ⟨by omega,z,L[u].1,L[u].2.1,L[u].2.2,zah hb (by rw[Int.toNat_natCast,Nat.zero_add,Nat.mul_one,List.getElem?_map,List.getElem?_eq_getElem hul]; rfl),fun i11 e11=>?_⟩
  have e11:i11=(slN (L.take (u+1)):Nat):=by rw[zaJ e11 (by omega) (by omega)]; omega
  subst e11
  refine⟨fun z=>absurd z (by omega),fun _ i12 e12=>?_⟩
  have e12:=zaJ e12 (by omega) (by omega)
  exact⟨L.length - (u+1),by omega,u+1,by omega,by omega,rfl,rfl,rfl⟩
 ·obtain rfl:u=L.length:=by omega
  rw[List.take_length]
  refine (zwr kk h1 h2).mono ?_
  rintro _ g14 ⟨al,rfl,hn14,w14,o14⟩
  refine⟨_,_,_,rfl,fun p n c i k g=>∃(u b:Nat) (al:List Value),i=u∧u≤L.length∧L.length - u=k∧p=some ⟨b,0,none⟩∧c=zak∧n=slN (L.take u)∧h.next≤b∧b < g.next∧g.get b=some (.cells al 42 false)∧n * 3≤al.length∧Old h g,⟨_,0,h.next,al,rfl,Nat.zero_le _,rfl,rfl,rfl,rfl,Nat.le_refl _,hn14,w14,Nat.zero_le _,o14⟩,?_⟩
  rintro k g p22 n23 c24 i25 ⟨u,b,al,rfl,hu,rfl,rfl,rfl,rfl,hb1,hb2,hg,hl,o⟩
  refine⟨fun z=>?_,fun z=>?_⟩
  ·have hul:u < L.length:=by omega
   have hs:=zqn hul
   have hle:=zxo L (u+1)
   obtain⟨hf,cs,hsh⟩:=hS L[u] (List.getElem_mem _)
   obtain⟨g',k',n',w',f'⟩:=zEt (c':=L[u].2.2) hg hb2 hl (hsh.old o) hf (by omega)
   refine zae ⟨by omega,z,L[u].1,L[u].2.1,L[u].2.2,zah ((o.2 _ hb0).trans hb) (by rw[Int.toNat_natCast,Nat.zero_add,Nat.mul_one,List.getElem?_map,List.getElem?_eq_getElem hul]; rfl),_,_,_,g',k',fun i35 e35=>?_⟩
   have e35:=zaJ e35 (by omega) (by omega)
   have hcl:=hsh.1
   refine⟨L.length - (u+1),by omega,u+1,g.next,_,by omega,by omega,rfl,rfl,rfl,by omega,by have:=o.1; omega,by omega,w',?_,?_⟩
   ·rw[List.length_append,List.length_take,hcl]
    omega
   ·exact⟨by have:=o.1; omega,fun c hc=>by rw[f' c (by have:=o.1; omega) (by omega),o.2 c hc]⟩
  ·obtain rfl:u=L.length:=by omega
   rw[List.take_length] at hl ⊢
   exact⟨⟨b,al.take (slN L * 3),rfl,hb1,by rw[List.length_take]; omega,.inr ⟨b,0,al,_,_,rfl,hb2,hg,by omega,by rw[List.drop_zero]⟩⟩,o⟩
theorem zuy (kk:zfM K) {b n c:Nat} {cs:List Value} (S:zaq h (some ⟨b,0,none⟩) n 3 cs) (hn:n≤1000):
 Wf Tryz.prog K 38 [.slice (some ⟨b,0,none⟩) n c] h fun v h'=>(∃p n c,v=.slice p n c)∧Old h h':=by
 refine zk9 kk.clone _ _ _ h _ (show ∀h0:AH,_ from fun g0 e0=>?_)
 have o0:=zaa e0
 have n0:=zab e0
 obtain⟨p,c',g,k,G,ob,f, -⟩:=(zbe.lit (n:=0) (sz:=3) e0 rfl (Nat.le_refl _)).append zyU (by omega) (x:=.slice (some ⟨b,0,none⟩) n c) (m:=n) rfl ((S.old o0).firstC (.inr ⟨_,_,rfl⟩)) S.1 (by simp only[zaE]; omega) (by omega) ⟨_,(by kernel_rfl:Tryz.prog.underlying 60=some (.slice 42))⟩
 rw[Nat.zero_add] at k
 exact⟨_,_,_,g,k,⟨_,_,_,rfl⟩,Nat.le_trans o0.1 ob.1,fun x hx=>by rw[ob.2 x hx,o0.2 x hx]⟩
theorem zws (kk:zfM K) {b c:Nat}:Wf Tryz.prog K 67 [.int .u64 1,.slice (some ⟨b,0,none⟩) 0 c] h fun v h'=>v=.bool true∧Old h h':=by
 refine ziA kk.famRight _ _ _ _ h _ ⟨fun z=>absurd z (by decide),fun _=>⟨fun z=>absurd z (by decide),fun _ g0 e0=>⟨fun i5 i6 k g=>i6=0∧g=g0,⟨0,rfl,rfl⟩,?_⟩⟩⟩
 rintro k g i5 i6 ⟨rfl,rfl⟩
 refine⟨fun z=>absurd z (by decide),fun _=>⟨fun i k g'=>i=0∧g'= g,⟨0,rfl,rfl⟩,?_⟩⟩
 rintro k g' i ⟨rfl,rfl⟩
 exact⟨fun z=>absurd z (by decide),fun _=>⟨rfl,zaa e0⟩⟩
end
structure zi0 (nw:List (List Nat)) (n:Nat) (q:Tr3) (sp:List (Nat×Nat)) (r1 r2:Tr3) (all1 all2:List Tr3) (A:List Nat):Prop where
 kq:QOk q∧q≠hole
 k1:QOk r1∧r1≠hole
 k2:QOk r2∧r2≠hole
 tab:getS nw q=some (zaM (zo3 r1 12 r2 (spL n)))
 bk:zeB nw r1 12 bk1 all1
 spc:zeB nw r2 (spL n) (spT n sp) all2
 sp:zxk n sp
 inn:q.1∈A∧(∀x∈all1,x.1∈A)∧∀x∈all2,x.1∈A
 few:all1.length+all2.length≤900
 size:A.length=zhi n
theorem zi0.stay {nw nw' : List (List Nat)} {n:Nat} {q:Tr3} {sp:List (Nat×Nat)} {r1 r2:Tr3} {all1 all2:List Tr3} {A:List Nat} (s:zi0 nw n q sp r1 r2 all1 all2 A) (h:∀a∈A,nw'[a]?= nw[a]?):zi0 nw' n q sp r1 r2 all1 all2 A where
 kq:=s.kq
 k1:=s.k1
 k2:=s.k2
 tab:=(zgu (h _ s.inn.1)).trans s.tab
 bk:=zeu s.bk fun x hx=>h _ (s.inn.2.1 x hx)
 spc:=zeu s.spc fun x hx=>h _ (s.inn.2.2 x hx)
 sp:=s.sp
 inn:=s.inn
 few:=s.few
 size:=s.size
section
variable {K:Xs} {h:AH} {p:Nat} {F:List Nat} {d m:Nat} {W:Nat} {nw:List (List Nat)} {M:List Nat} {st:Nat} {ba:Int}
theorem zqo (kk:zfM K) (B:PO h p F d m W nw M st ba) {root:Tr3} (hq:QOk root∧root≠hole) {n:Nat} (hn1:1≤n) (hn2:n≤65535) {t:List Nat} {all:List Tr3} (lq:zeB nw root n t all) {i0 i1 i2:Int} (e0:i0=(root.1:Nat)) (e1:i1=(root.2.1:Nat)) (e2:i2=(root.2.2:Nat)):
 Wf Tryz.prog K 63 [.pointer (some ⟨p,0,none⟩),.agg #[.int .i64 i0,.int .u64 i1,.int .u32 i2],.int .i64 (n:Nat)] h fun v h'=>(∃b pa na ca,v=.tuple #[.slice (some ⟨b,0,none⟩) n n,.slice pa na ca,.int .i64 0]∧zaq h' (some ⟨b,0,none⟩) n 1 (zav .u8 t)∧h.next≤b∧zbe h.next h' 42 3 pa na ca (zbE all))∧PO h' p F d m W nw M st ba∧Fr F h h' F:=by
 subst e0 e1 e2
 refine (zv7 kk.ku.kl B hq.1 hq.2 hn1 hn2).mono ?_
 rintro v g ⟨⟨t',all',b,pa,na,ca,lq',rfl,S,hb,G⟩ | ⟨hno, -⟩,B',f⟩
 ·obtain⟨rfl,rfl⟩:=zt7 lq lq'
  exact⟨⟨b,pa,na,ca,rfl,S,hb,G⟩,B',f⟩
 ·exact absurd ⟨_,_,lq⟩ hno
theorem zwt {p:Option Addr} {n:Nat} {sp:List (Nat×Nat)} (S:zaq h p n 2 (spC sp)) (hne:sp≠[]) {a:Addr} (e:p=some a) {x:Int} {y:Value} {ty:TypeId} {ro:Bool} (hg:h.get a.block=some (.cells [.int .u64 x,y] ty ro)):False:=by
 obtain⟨hl,hn⟩:=S
 match sp,hne,hl,hn with
 | (s,l) :: r,_,hl,hn=>
   rcases hn with hn | ⟨b,off,al,e',ro',hp,hb,hgb,hle,hc⟩
   ·rw[hn,zb1,List.length_cons] at hl
    omega
   ·rw[e] at hp
    obtain rfl:=Option.some.inj hp
    rw[hgb] at hg
    simp only[Option.some.injEq,zb7.cells.injEq] at hg
    obtain⟨rfl, -⟩:=hg
    rw[zb1,List.length_cons] at hl
    simp only[List.length_cons,List.length_nil] at hle
    obtain rfl:off=0:=by omega
    have:=congrArg (fun l=>l[0]?) hc
    obtain⟨k,hk⟩:∃k,n * 2=k+1:=⟨n * 2 - 1,by omega⟩
    rw[hk] at this
    simp[spC] at this
theorem notInF (B:PO h p F d m W nw M st ba) {b:Nat} (hb:h.next≤b):b∉F:=fun z=>by have:=B.lt _ z; omega
theorem zuz (kk:zfM K) (B:PO h p F d m W nw M st ba) {b off c:Nat} {r:Tr3} {n:Nat} {t:List Nat} {all:List Tr3} (hr:QOk r∧r≠hole) (hn1:1≤n) (hn2:n≤65535) (S:zaq h (some ⟨b,off,none⟩) 20 1 (zav .u8 (ziY r n))) (C:zbu Tryz.prog h 5 b 20 c) (lq:zeB nw r n t all):
 Wf Tryz.prog K 65 [.pointer (some ⟨p,0,none⟩),.slice (some ⟨b,off,none⟩) 20 c] h fun v h'=>(∃b pa na ca,v=.tuple #[.slice (some ⟨b,0,none⟩) n n,.slice pa na ca,.int .i64 0]∧zaq h' (some ⟨b,0,none⟩) n 1 (zav .u8 t)∧h.next≤b∧zbe h.next h' 42 3 pa na ca (zbE all))∧PO h' p F d m W nw M st ba∧Fr F h h' F:=by
 have hb:=S.blk (by decide)
 obtain⟨off0,c0,k0,ho0,C0⟩:=zno (off:=off) (hi:=16) eBytes (by simp) C (by decide)
 rw[ho0 (by decide)] at k0
 have S0:=S.take (m:=16) (by decide)
 rw[Nat.mul_one,zcn,show (ziY r n).take 16=zhv r from List.take_left' (zbP r)] at S0
 refine zoP kk.mHad _ _ _ _ h _ ⟨_,_,_,k0,(zoS kk.ku.kl.qRead kk.ku.kl.qRight kk.ku.kl.qWidths kk.ku.kl.fGet kk.ku.kl.fRoom S0 hb C0 (fun x hx=>zgT _ _ hx)).mono ?_⟩
 rw[ztF hr.1]
 rintro _ g4 ⟨⟨-,rfl⟩ | ⟨z, -⟩,o4⟩
 rotate_left
 ·exact absurd hr.1 z
 refine⟨_,_,_,_,rfl,fun g9 e9=>⟨rfl,?_⟩⟩
 obtain⟨g10,k10,n10,o10,m10⟩:=zaF e9 (vs:=[.int .i64 (r.1:Nat),.int .u64 (r.2.1:Nat),.int .u32 (r.2.2:Nat)]) rfl
 have w10:=(m10 [] (fun c hc=>by cases hc)).1
 refine⟨g10,k10,fun _ i11 e11 g12 e12=>?_,fun z=>absurd rfl z⟩
 have e11:i11=((4:Nat):Int):=by rw[zaJ e11 (by decide) (by decide)]; decide
 subst e11
 have o12:=zaa e12
 have n12:=zab e12
 have oh:=(o4.trans o10).trans o12
 obtain⟨off13,c13,k13,ho13,C13⟩:=zdD (off:=off) (lo:=16) eBytes (by simp) (C.old oh hb) (by decide)
 obtain rfl:=ho13 (by decide)
 have S13:=(S.old oh).cut (lo:=16) (off2:=off+16 * 1) (by decide) (fun _=>rfl)
 rw[zdl,show (ziY r n).drop (16 * 1)=byB 4 n from List.drop_left' (zbP r)] at S13
 refine⟨_,_,_,k13,(zdx kk.ku.kl.fGet kk.ku.kl.fRoom (ws:=[4]) (za7 (l:=[4]) (zac e12) (by omega) rfl) S13 (by have:=oh.1; omega) C13 (by decide) (by decide) (fun x hx=>byB_lt hx) (zaP ..)).mono ?_⟩
 rintro _ g17 ⟨⟨b18,rfl,hb18,S18⟩,o17⟩
 have ed:dec [4] (byB 4 n)=[n]:=by
  have:=zdV [4] [n] rfl (zAx (by omega))
  rwa [zls] at this
 rw[ed] at S18
 obtain⟨b',off',e',hld⟩:=S18.get (i:=0) (by decide)
 simp only[Option.some.injEq,Addr.mk.injEq,and_true] at e'
 obtain⟨rfl,rfl⟩:=e'
 rw[show (zav .u64 [n])[0]?= some (.int .u64 (n:Nat)) from rfl] at hld
 have w17:g17.get g4.next=_:=(o17.2 _ (by have:=o12.1; omega)).trans ((o12.2 _ (by omega)).trans w10)
 have o17h:=oh.trans o17
 refine⟨_,_,_,_,rfl,fun _=>⟨_,_,_,zao w17 rfl,zae ⟨by decide,by decide,_,hld,fun i28 e28=>?_⟩⟩,fun z=>absurd rfl z⟩
 have e28:=zaJ e28 (by omega) (by omega)
 subst e28
 refine (zqo kk (B.old o17h) hr hn1 hn2 lq rfl rfl rfl).mono ?_
 rintro _ g30 ⟨⟨b31,pa,na,ca,rfl,S31,hb31,G31⟩,B30,f30⟩
 have:=o17h.1
 exact⟨_,_,_,_,_,_,_,rfl,⟨b31,pa,na,ca,rfl,S31,by omega,G31.weak (by omega)⟩,B30,(o17h.fr F).trans f30⟩
theorem zwu (kk:zfM K) (B:PO h p F d m W nw M st ba) {n:Nat} (hn:nw.length=n) (h1:64≤n) (h2:n≤1024) {q r1 r2:Tr3} {sp:List (Nat×Nat)} {all1 all2:List Tr3} {A:List Nat} (s:zi0 nw n q sp r1 r2 all1 all2 A):
 Wf Tryz.prog K 44 [.pointer (some ⟨p,0,none⟩),qV q] h fun v h'=>(∃b1 p3 n3 c3 p4 n4 c4,v=.tuple #[.agg #[.int .u64 1,.slice (some ⟨b1,0,none⟩) 0 0],.slice p3 n3 c3,.slice p4 n4 c4,.int .i64 0]∧(p3=none∨∃b off,p3=some ⟨b,off,none⟩)∧zaq h' p3 n3 2 (spC sp))∧PO h' p F d m W nw M st ba∧Fr F h h' F:=by
 subst hn
 have hs:=znp h1 h2
 refine zm5 kk.mLoad _ _ _ _ h _ fun g0 e0 g1 e1=>?_
 have o0:=zaa e0
 have o1:=zaa e1
 have n0:=zab e0
 have n1:=zab e1
 have o1h:=o0.trans o1
 have m1:zco g1 F g0.next _ _:=zeZ e1 (B.old o0).lt
 refine⟨_,_,_,zao ((o1.2 _ (by omega)).trans (zac e0)) rfl,(zqo kk (B.old o1h) s.kq (n:=40) (by decide) (by decide) (zt8 (by decide) (by decide) (zlu ..) s.tab) rfl rfl rfl).mono ?_⟩
 rintro _ g6 ⟨⟨b7,p10,n11,c12,rfl,S7,hb7,G6⟩,B6,f6⟩
 have C7:zbu Tryz.prog g6 5 b7 40 40:=.inl ⟨Nat.le_refl _,by decide⟩
 have nF7:=notInF (B.old o1h) hb7
 have hb7':=S7.blk (by decide)
 have m6:=m1.fr f6
 obtain⟨off14,c14,k14,ho14,C14⟩:=zno (off:=0) (hi:=20) eBytes (by simp) C7 (by decide)
 rw[ho14 (by decide)] at k14
 have S14:=S7.take (m:=20) (by decide)
 rw[zcn,show (zo3 r1 12 r2 (spL nw.length)).take (20 * 1)=ziY r1 12 from List.take_left' (ziZ ..)] at S14
 refine⟨_,_,_,_,_,_,_,rfl,fun _=>⟨_,_,_,k14,(zuz kk B6 s.k1 (by decide) (by decide) S14 C14 s.bk).mono ?_⟩,fun z=>absurd rfl z⟩
 rintro _ g18 ⟨⟨b19,p22,n23,c24,rfl,S19,hb19,G18⟩,B18,f18⟩
 have m18:=m6.fr f18
 have S7':=S7.fr f18 (fun a e=>by cases e; exact nF7)
 obtain⟨off26,c26,k26,ho26,C26⟩:=zdD (h:=g18) (off:=0) (lo:=20) eBytes (by simp) (.inl ⟨Nat.le_refl _,by decide⟩:zbu Tryz.prog g18 5 b7 40 40) (by decide)
 obtain rfl:=ho26 (by decide)
 have S26:=S7'.cut (lo:=20) (off2:=0+20 * 1) (by decide) (fun _=>rfl)
 rw[zdl,show (zo3 r1 12 r2 (spL nw.length)).drop (20 * 1)=ziY r2 (spL nw.length) from List.drop_left' (ziZ ..)] at S26
 refine⟨_,_,_,_,_,_,_,rfl,fun _=>⟨_,_,_,k26,(zuz kk B18 s.k2 (by omega) (by omega) S26 C26 s.spc).mono ?_⟩,fun z=>absurd rfl z⟩
 rintro _ g30 ⟨⟨b31,p34,n35,c36,rfl,S31,hb31,G30⟩,B30,f30⟩
 have m30:=m18.fr f30
 have f30':=f18.trans f30
 have S19':=S19.fr f30 (fun a e=>by cases e; exact notInF B6 hb19)
 refine⟨_,_,_,_,_,_,_,rfl,fun _=>(zyT kk S19').mono ?_,fun z=>absurd rfl z⟩
 rintro _ g39 ⟨⟨b41,rfl⟩,o39⟩
 refine⟨_,_,_,_,_,rfl,fun _=>(zws kk).mono ?_,fun z=>absurd rfl z⟩
 rintro _ g46 ⟨rfl,o46⟩
 have o46h:=o39.trans o46
 have B46:=B30.old o46h
 obtain⟨Fd,P46⟩:=B46
 refine .inl ⟨rfl,(ziD kk.pDev P46).mono ?_⟩
 rintro _ _ ⟨rfl,rfl⟩
 refine⟨_,rfl,(zgU kk.ku.dLen P46.dev).mono ?_⟩
 rintro _ _ ⟨rfl,rfl⟩
 refine⟨_,rfl,(zrx kk h1 h2 (S31.old o46h) (.inl ⟨Nat.le_refl _,by unfold zak; omega⟩) s.sp).mono ?_⟩
 rintro _ g54 ⟨p55,n56,c57,rfl,hp55,S55,o54⟩
 have o54h:=o46h.trans o54
 refine⟨_,_,_,_,rfl,fun _ g59 e59=>?_,fun z=>absurd rfl z⟩
 have o59:=zaa e59
 have n59:=zab e59
 have o59h:=o54h.trans o59
 have B59:=B30.old o59h
 have G6':=((G6.frM f30' (fun a e=>notInF (B.old o1h) (G6.block e).1)).old o59h)
 have G18':=((G18.frM f30 (fun a e=>notInF B6 (G18.block e).1)).old o59h)
 have G30':=G30.old o59h
 have e6:n11=1:=by have:=G6.1; simp[zbE] at this; omega
 have e18:n23=all1.length:=by have:=G18.1; rw[za0] at this; omega
 have e30:n35=all2.length:=by have:=G30.1; rw[za0] at this; omega
 have hfew:=s.few
 have hsum:slN [(p10,n11,c12),(p22,n23,c24),(p34,n35,c36)]=1+all1.length+all2.length:=by
  simp[slN,e6,e18,e30]; omega
 refine (zkf kk (b0:=g54.next) (c0:=3) (L:=[(p10,n11,c12),(p22,n23,c24),(p34,n35,c36)]) (zac e59) (by omega) (by simp) (by omega) (by omega) ?_).mono ?_
 ·intro x hx
  simp only[List.mem_cons,List.mem_nil_iff,or_false] at hx
  rcases hx with rfl | rfl | rfl
  ·exact⟨G6'.form,_,G6'.shows⟩
  ·exact⟨G18'.form,_,G18'.shows⟩
  ·exact⟨G30'.form,_,G30'.shows⟩
 rintro _ g61 ⟨⟨b62,cs,rfl,hb62,S62⟩,o61⟩
 have o61h:=o59h.trans o61
 have m61:=m30.old o61h
 obtain⟨g65,k65,nr65,m65⟩:=m61.put (vs:=[.int .u64 1,.slice (some ⟨b41,0,none⟩) 0 0]) rfl
 refine⟨_,_,_,rfl,rfl,g65,k65,_,_,_,_,m65.ld rfl,⟨_,_,_,_,_,_,_,rfl,hp55,?_⟩,(B30.old o61h).nearN nr65 m30.2.2,?_⟩
 ·refine (S55.old (o59.trans o61)).keep (by rw[nr65.1]; exact Nat.le_refl _) fun a e hb=>nr65.2 _ ?_
  intro ea
  exact zwt S55 s.sp.ne e (by rw[ea]; exact (m30.old o54h).1)
 ·exact (((o1h.fr F).trans f6).trans (f30'.trans (o61h.fr F))).near_new nr65 (by omega)
end
section
variable {K:Xs} {h:AH} {p:Nat} {F:List Nat} {d m:Nat} {W:Nat} {nw:List (List Nat)} {M:List Nat} {st:Nat} {ba:Int}
def q3 (q:Tr3):List Value:=[.int .i64 (q.1:Nat),.int .u64 (q.2.1:Nat),.int .u32 (q.2.2:Nat)]
theorem zBj (B:PO h p F d m W nw M st ba) {g:AH} {ty:TypeId} {z:List Value} (e:g=h.alloc (.cells z ty false)) (hz:z.length=3) (q:Tr3):
 ∃g2,stN g h.next 0 (q3 q)=some g2∧zco g2 F h.next (q3 q) ty∧PO g2 p F d m W nw M st ba∧Old h g2:=by
 obtain⟨g2,k,n,o,mm⟩:=zaF e (vs:=q3 q) hz.symm
 exact⟨g2,k,mm F B.lt,B.old o,o⟩
theorem zuA (kk:zfM K) (B:PO h p F d m W nw M st ba) (hW:W+4000 < 100000) (hst:zzc st) (h1:64≤nw.length) (h2:nw.length≤1024)
 {tb:Nat} (T:zaq h (some ⟨tb,0,none⟩) 12 1 (zav .u8 bk1)) (tF:tb∉F)
 {ab na ca a1 a3:Nat} {A2:List Nat} (S:zaq h (some ⟨ab,0,none⟩) na 1 (zav .i64 (a1 :: (A2 ++ [a3])))) (CA:zbu Tryz.prog h 3 ab na ca) (aF:ab∉F) (hl:A2.length=ze5 (spL nw.length:Nat)) (hM:∀a∈a1 :: (A2 ++ [a3]),M[a]?= some 2∧4≤a∧a < nw.length) (hnd:(a1 :: (A2 ++ [a3])).Nodup):
 Wf Tryz.prog K 77 [.pointer (some ⟨p,0,none⟩),.slice (some ⟨tb,0,none⟩) 12 12,.slice (some ⟨ab,0,none⟩) na ca] h fun v h'=>∃q sp r1 r2 all1 all2 nw' W' F' bH cs nH,v=.tuple #[qV q,.slice (some ⟨bH,0,none⟩) nH zak,.int .i64 0]∧zaq h' (some ⟨bH,0,none⟩) nH 3 cs∧(1≤nH∧nH≤1000)∧h.next≤bH∧bH∉F'∧zi0 nw' nw.length q sp r1 r2 all1 all2 (a1 :: (A2 ++ [a3]))∧(∀x,x∈exN sp↔M[x]?= some 2)∧(∀x,x∉a1 :: (A2 ++ [a3])→nw'[x]?= nw[x]?)∧nw'.length=nw.length∧W'≤W+1201∧PO h' p F' d m W' nw' M st ba∧Fr F h h' F':=by
 have hs:=znp h1 h2
 have hnl:=ziX h1 h2
 have hna:na=A2.length+2:=by have:=S.1; rw[zam] at this; simp at this; omega
 have tl:=T.blk (by decide)
 have al:=S.blk (by omega)
 refine zk7 kk.mWrite _ _ _ _ _ _ _ h _ fun g0 e0=>?_
 have o0:=zaa e0
 have m0:zco g0 F h.next _ _:=zeZ e0 B.lt
 refine (zhw kk.ku.ks.bNeed kk.ku.ks.bLevels kk.ku.ks.bUp ((12:Nat):Int) g0).mono ?_
 rintro _ g2 ⟨rfl,o2⟩
 rw[zuu]
 have oh2:=o0.trans o2
 have B2:=B.old oh2
 have m2:=m0.old o2
 refine⟨_,rfl,fun i4 e4=>?_⟩
 have e4:i4=((1+A2.length:Nat):Int):=by rw[zaJ e4 (by omega) (by omega)]; omega
 subst e4
 have S2:=S.old oh2
 have CA2:=CA.old oh2 al
 obtain⟨off5,c5,k5,ho5,C5⟩:=zno (off:=0) (hi:=1) ztU (by simp) CA2 (by omega)
 rw[ho5 (by omega)] at k5
 have S5:zaq g2 (some ⟨ab,0,none⟩) 1 1 (zav .i64 [a1]):=S2.take (m:=1) (by omega)
 have M1:=hM a1 (List.mem_cons_self ..)
 refine⟨_,_,_,k5,(zqc kk.ku.ks B2 (by omega) hst (n:=12) (by decide) (by decide) (T.old oh2) (.inl ⟨Nat.le_refl _,by decide⟩) tF (by have:=oh2.1; omega) (fun x hx=>zxj hx) S5 C5 aF (by have:=oh2.1; omega) zuu.symm (fun a ha=>by simp only[List.mem_singleton] at ha; subst ha; exact M1.1) (fun a ha=>by simp only[List.mem_singleton] at ha; subst ha; exact M1.2) h2 (by simp)).mono ?_⟩
 rintro _ g9 ⟨r1,D1,nw1,W1,F1,rfl,kr1,nr1,lq1,perm1, -,okD1,len1,out1,hW1,B9,f9⟩
 have m9:=m2.fr f9
 have S9:=S2.fr f9 (fun a e=>by cases e; exact aF)
 have aF9:ab∉F1:=fun z=>(f9.2.2 _ z).elim aF (fun y=>by have:=oh2.1; omega)
 have CA9:zbu Tryz.prog g9 3 ab na ca:=CA2.keep (f9.2.1 ab (by have:=oh2.1; omega) aF)
 refine⟨_,_,_,_,rfl,fun g14 e14=>⟨rfl,?_⟩⟩
 obtain⟨g15,k15,m15,B15,o15⟩:=zBj B9 e14 rfl r1
 have m9':=m9.old o15
 refine⟨g15,k15,fun _=>?_,fun z=>absurd rfl z⟩
 have hg9:=m9.2.1
 obtain⟨Fd15,P15⟩:=B15
 refine (ziD kk.pDev P15).mono ?_
 rintro _ _ ⟨rfl,rfl⟩
 refine⟨_,rfl,(zgU kk.ku.dLen P15.dev).mono ?_⟩
 rintro _ _ ⟨rfl,rfl⟩
 refine⟨_,rfl,(ze4 kk.pMap P15).mono ?_⟩
 rintro _ _ ⟨rfl,rfl⟩
 refine⟨_,rfl,(zhy kk.ku.ks.mTaken kk.ku.ks.mAll P15.map).mono ?_⟩
 rintro _ g26 ⟨⟨p27,n28,c29,sp,rfl,hp27,S27,gp,hn28,hsp⟩,o26⟩
 have within:=P15.within
 rw[len1] at within
 have hin:∀x∈exN sp,4≤x∧x < nw.length:=fun x hx=>within x 2 ((hsp x).1 hx) (by decide)
 have hok:zxk nw.length sp:=⟨gp,fun z=>by
  have:=(hsp a1).2 M1.1
  rw[z] at this
  exact absurd this (by simp[exN]),hin⟩
 rw[len1]
 refine⟨_,_,_,rfl,(znq kk h1 h2 S27 hok).mono ?_⟩
 rintro _ g31 ⟨⟨b32,rfl,hb32,S32⟩,o31⟩
 have o31g:=o26.trans o31
 have B31:PO g31 p F1 d m W1 nw1 M st ba:=PO.old ⟨Fd15,P15⟩ o31g
 have m15':=m15.old o31g
 have m9'':=m9'.old o31g
 have b32F:b32∉F1:=fun z=>by have:=PO.lt ⟨Fd15,P15⟩ _ z; have:=o26.1; omega
 have S31:=(S9.old o15).old o31g
 have abl:ab < g15.next:=by have:=oh2.1; have:=f9.1; have:=o15.1; omega
 have CA31:zbu Tryz.prog g31 3 ab na ca:=(CA9.old o15 (by have:=oh2.1; have:=f9.1; omega)).old o31g abl
 obtain⟨off36,c36,k36,ho36,C36⟩:=zuo (off:=0) (lo:=1) (hi:=1+A2.length) ztU (by simp) CA31 (by omega) (by omega)
 obtain rfl:=ho36 (by omega)
 rw[Nat.add_sub_cancel_left] at k36 C36
 have S36:zaq g31 (some ⟨ab,0+1 * 1,none⟩) A2.length 1 (zav .i64 A2):=by
  have:=(S31.cut (lo:=1) (off2:=0+1 * 1) (by omega) (fun _=>rfl)).take (m:=A2.length) (by omega)
  rw[zdl,zcn,show ((a1 :: (A2 ++ [a3])).drop (1 * 1)).take (A2.length * 1)=A2 by
   rw[Nat.mul_one,Nat.mul_one,List.drop_succ_cons,List.drop_zero]
   exact List.take_left' rfl] at this
  exact this
 have hM2:∀a∈A2,M[a]?= some 2∧4≤a∧a < nw.length:=fun a ha=>hM a (List.mem_cons_of_mem _ (List.mem_append_left _ ha))
 have hnd':=List.nodup_cons.1 hnd
 have hnd2:=List.nodup_append.1 hnd'.2
 refine⟨_,_,_,_,rfl,fun _=>⟨_,_,_,k36,(zqc kk.ku.ks B31 (by omega) hst (n:=spL nw.length) (by omega) (by omega) S32 (.inl ⟨Nat.le_refl _,by unfold zak; omega⟩) b32F (S32.blk (by omega)) (fun x hx=>zAE hx) S36 C36 aF9 (by have:=o31g.1; omega) hl (fun a ha=>(hM2 a ha).1) (fun a ha=>by rw[len1]; exact (hM2 a ha).2) (by omega) hnd2.1).mono ?_⟩,fun z=>absurd rfl z⟩
 rintro _ g40 ⟨r2,D2,nw2,W2,F2,rfl,kr2,nr2,lq2,perm2, -,okD2,len2,out2,hW2,B40,f40⟩
 have m15'':=m15'.fr f40
 have m40:=m9''.fr f40
 refine⟨_,_,_,_,rfl,fun g45 e45=>⟨rfl,?_⟩⟩
 obtain⟨g46,k46,m46,B46,o46⟩:=zBj B40 e45 rfl r2
 have m15e:=m15''.old o46
 have m46h:=m40.old o46
 refine⟨g46,k46,fun _=>⟨_,_,_,m15e.ld rfl,_,_,_,m46.ld rfl,(zux kk kr1 kr2 (by decide) (by omega)).mono ?_⟩,fun z=>absurd rfl z⟩
 rintro _ g54 ⟨p55,c57,rfl,hp55,S55,o54⟩
 have B54:=B46.old o54
 have S54:=((S31.fr f40 (fun a e=>by cases e; exact aF9)).old o46).old o54
 obtain⟨b59,off59,e59,hld59⟩:=S54.get (i:=1+A2.length) (by omega)
 simp only[Option.some.injEq,Addr.mk.injEq,and_true] at e59
 obtain⟨rfl,rfl⟩:=e59
 have ea3:(zav .i64 (a1 :: (A2 ++ [a3])))[1+A2.length]?= some (.int .i64 (a3:Nat)):=by
  unfold zav
  rw[List.map_cons,Nat.add_comm,List.getElem?_cons_succ,List.map_append,List.getElem?_append_right (by simp)]
  simp
 rw[ea3] at hld59
 have M3:=hM a3 (List.mem_cons_of_mem _ (List.mem_append_right _ (List.mem_singleton.2 rfl)))
 refine⟨_,_,_,_,rfl,fun _=>zae ⟨by omega,by omega,_,by rw[Int.toNat_natCast,Nat.mul_one]; exact hld59,(ztY kk.ku.ks B54 (by omega) M3.1 S55 hp55 (fun x hx=>zuw hx) (by rw[zlu]; decide)).mono ?_⟩,fun z=>absurd rfl z⟩
 rintro _ g63 ⟨rfl,F3,B63,f63⟩
 have hq:QOk (a3,st,zbk (zaM (zo3 r1 12 r2 (spL nw.length))))∧((a3,st,zbk (zaM (zo3 r1 12 r2 (spL nw.length)))):Tr3)≠hole:=⟨⟨zlg (zoQ (by rw[zlu]; decide) (fun x hx=>zuw hx)).2,.inr ⟨M3.2.1,by have:=M3.2.2; omega,hst.1,hst.2⟩⟩,fun e=>by simp only[hole,Prod.mk.injEq] at e; have:=M3.2.1; omega⟩
 have m15f:=(m15e.old o54).fr f63
 have m46f:=(m46.old o54).fr f63
 have m63h:=(m46h.old o54).fr f63
 refine⟨_,_,_,_,rfl,fun g68 e68=>⟨rfl,?_⟩⟩
 obtain⟨g69,k69,m69,B69,o69⟩:=zBj B63 e68 rfl (a3,st,zbk (zaM (zo3 r1 12 r2 (spL nw.length))))
 have m15g:=m15f.old o69
 have m46g:=m46f.old o69
 have m69h:=m63h.old o69
 have hal:∀x,x∈a1 :: (A2 ++ [a3])↔x=a1∨x∈A2∨x=a3:=fun x=>by simp
 have ine1:∀x∈r1 :: D1,x.1=a1:=fun x hx=>by
  have:=perm1.subset (List.mem_map.2 ⟨x,hx,rfl⟩)
  simpa using this
 have in2:∀x∈r2 :: D2,x.1∈A2:=fun x hx=>perm2.subset (List.mem_map.2 ⟨x,hx,rfl⟩)
 have a1n2:a1∉A2:=fun z=>hnd'.1 (List.mem_append_left _ z)
 have a1n3:a1≠a3:=fun z=>hnd'.1 (List.mem_append_right _ (List.mem_singleton.2 z))
 have a3n2:a3∉A2:=fun z=>hnd2.2.2 a3 z a3 (List.mem_singleton.2 rfl) rfl
 have stand:zi0 (nw2.set a3 (zaM (zo3 r1 12 r2 (spL nw.length)))) nw.length (a3,st,zbk (zaM (zo3 r1 12 r2 (spL nw.length)))) sp r1 r2 (r1 :: D1) (r2 :: D2) (a1 :: (A2 ++ [a3])):=by
  refine⟨hq,⟨kr1,nr1⟩,⟨kr2,nr2⟩,zoX M3.2.1 (by rw[List.getElem?_set,if_pos rfl,if_pos (by rw[len2,len1]; exact M3.2.2)]),zeu lq1 fun x hx=>?_,zeu lq2 fun x hx=>?_,hok,⟨(hal _).2 (.inr (.inr rfl)),fun x hx=>(hal _).2 (.inl (ine1 x hx)),fun x hx=>(hal _).2 (.inr (.inl (in2 x hx)))⟩,?_,by unfold zhi; simp only[List.length_cons,List.length_append,List.length_nil]; omega⟩
  ·rw[ine1 x hx,List.getElem?_set,if_neg (fun z=>a1n3 z.symm)]
   exact out2 _ a1n2
  ·rw[List.getElem?_set,if_neg (fun z=>a3n2 (by rw[z]; exact in2 x hx))]
  ·have l1:=perm1.length_eq
   have l2:=perm2.length_eq
   simp only[List.length_map,List.length_cons,List.length_nil] at l1 l2 ⊢
   omega
 refine⟨g69,k69,fun _=>⟨_,_,_,m15g.ld rfl,(zqo kk B69 stand.k1 (n:=12) (by decide) (by decide) stand.bk rfl rfl rfl).mono ?_⟩,fun z=>absurd rfl z⟩
 rintro _ g74 ⟨⟨b75,p78,n79,c80,rfl, -, -,G74⟩,B74,f74⟩
 have m46i:=m46g.fr f74
 refine⟨_,_,_,_,_,_,_,rfl,fun _=>⟨_,_,_,m46i.ld rfl,(zqo kk B74 stand.k2 (n:=spL nw.length) (by omega) (by omega) stand.spc rfl rfl rfl).mono ?_⟩,fun z=>absurd rfl z⟩
 rintro _ g86 ⟨⟨b87,p90,n91,c92,rfl, -, -,G86⟩,B86,f86⟩
 have m86:=(m69.fr f74).fr f86
 have m86h:=(m69h.fr f74).fr f86
 refine⟨_,_,_,_,_,_,_,rfl,fun _=>⟨_,_,_,m86.ld rfl,fun g97 e97 g98 e98=>?_⟩,fun z=>absurd rfl z⟩
 have o97:=zaa e97
 have o98:=zaa e98
 have n97:=zab e97
 have n98:=zab e98
 have o98g:=o97.trans o98
 have m98:=m86.old o98g
 have m98h:=m86h.old o98g
 have G74':=(G74.frM f86 (fun a e=>notInF B69 (G74.block e).1)).old o98g
 have G86':=G86.old o98g
 have S97:zaq g98 (some ⟨g86.next,0,none⟩) 1 3 (q3 (a3,st,zbk (zaM (zo3 r1 12 r2 (spL nw.length))))):=⟨rfl,.inr ⟨_,0,_,_,_,rfl,by omega,(o98.2 _ (by omega)).trans (zac e97),Nat.le_refl 3,rfl⟩⟩
 have e74:n79=(r1 :: D1).length:=by have:=G74.1; rw[za0] at this; omega
 have e86:n91=(r2 :: D2).length:=by have:=G86.1; rw[za0] at this; omega
 have hfew:=stand.few
 have hsum:slN [(some ⟨g86.next,0,none⟩,1,1),(p78,n79,c80),(p90,n91,c92)]=1+(r1 :: D1).length+(r2 :: D2).length:=by
  simp only[slN,List.map_cons,List.map_nil,List.sum_cons,List.sum_nil,e74,e86]; omega
 refine (zkf kk (b0:=g97.next) (c0:=3) (L:=[(some ⟨g86.next,0,none⟩,1,1),(p78,n79,c80),(p90,n91,c92)]) (zac e98) (by omega) (by simp) (by omega) (by omega) ?_).mono ?_
 ·intro x hx
  simp only[List.mem_cons,List.mem_nil_iff,or_false] at hx
  rcases hx with rfl | rfl | rfl
  ·exact⟨.inr ⟨_,_,rfl⟩,_,S97⟩
  ·exact⟨G74'.form,_,G74'.shows⟩
  ·exact⟨G86'.form,_,G86'.shows⟩
 rintro _ g100 ⟨⟨b101,cs,rfl,hb101,S101⟩,o100⟩
 have m100:=m98.old o100
 have m100h:=m98h.old o100
 obtain⟨g107,k107,nr107,m107⟩:=m100h.put (vs:=q3 (a3,st,zbk (zaM (zo3 r1 12 r2 (spL nw.length))))) rfl
 have B100:=(B86.old o98g).old o100
 have ff:Fr F h g100 F3:=(((((oh2.fr F).trans f9).trans (o15.fr F1)).trans (o31g.fr F1)).trans f40).trans ((((((o46.fr F2).trans (o54.fr F2)).trans f63).trans (o69.fr F3)).trans f74).trans ((f86.trans (o98g.fr F3)).trans (o100.fr F3)))
 have hbne:b101≠h.next:=by have:=m98h.2.1; omega
 refine⟨_,_,_,rfl,_,_,_,m100.ld rfl,rfl,g107,k107,m98.ld rfl,m100.ld rfl,_,_,_,m107.ld rfl,_,sp,r1,r2,_,_,_,_,F3,b101,cs,_,rfl,?_,by omega,by have:=m98h.2.1; omega,notInF (B86.old o98g) hb101,stand,hsp,?_,?_,?_,B100.nearN nr107 m100h.2.2,ff.near_new nr107 (Nat.le_refl _)⟩
 ·exact S101.keep (by rw[nr107.1]; exact Nat.le_refl _) fun a e _=>by cases e; exact nr107.2 _ hbne
 ·intro x hx
  rw[List.getElem?_set,if_neg (fun z=>hx ((hal _).2 (.inr (.inr z.symm)))),out2 x (fun z=>hx ((hal _).2 (.inr (.inl z)))),out1 x (fun z=>hx ((hal _).2 (.inl (by simpa using z))))]
 ·rw[List.length_set,len2,len1]
 ·omega
end
theorem zuB {A:List Nat} {k:Nat} (h:A.length=k+2):∃a1 A2 a3,A=a1 :: (A2 ++ [a3])∧A2.length=k:=by
 match A,h with
 | a1 :: B,h=>
   have hB:B≠[]:=fun z=>by rw[z] at h; simp at h
   refine⟨a1,B.dropLast,B.getLast hB,by rw[List.dropLast_concat_getLast hB],?_⟩
   rw[List.length_dropLast]
   simp only[List.length_cons] at h
   omega
section
variable {K:Xs} {h:AH} {p:Nat} {F:List Nat} {d m:Nat} {W:Nat} {nw:List (List Nat)} {M:List Nat} {st:Nat} {ba:Int}
theorem zwv (kk:zfM K) (B:PO h p F d m W nw M st ba) (hW:W+4000 < 100000) (hst:zzc st) (h1:64≤nw.length) (h2:nw.length≤1024) (hc:zhi nw.length≤M.count 1) {pb:Option Addr} {cb:Nat}:
 Wf Tryz.prog K 53 [.pointer (some ⟨p,0,none⟩),.agg #[.int .u64 1,.slice pb 0 cb],.slice none 0 0] h fun v h'=>∃A q sp r1 r2 all1 all2 nw' W' F' bH cs nH,v=.tuple #[qV q,.slice (some ⟨bH,0,none⟩) nH zak,.int .i64 0]∧zaq h' (some ⟨bH,0,none⟩) nH 3 cs∧(1≤nH∧nH≤1000)∧h.next≤bH∧bH∉F'∧zi0 nw' nw.length q sp r1 r2 all1 all2 A∧(∀x,x∈exN sp↔(zbj M A)[x]?= some 2)∧(∀a∈A,(zbj M A)[a]?= some 2∧4≤a)∧(∀x,x∉A→nw'[x]?= nw[x]?)∧nw'.length=nw.length∧W'≤W+1201∧PO h' p F' d m W' nw' (zbj M A) st ba∧Fr F h h' F':=by
 have hnl:=ziX h1 h2
 refine zm4 kk.mSave _ _ _ _ _ _ _ _ h _ fun g0 e0 g1 e1=>?_
 have o0:=zaa e0
 have o1:=zaa e1
 have n0:=zab e0
 have n1:=zab e1
 have o1h:=o0.trans o1
 have m1:zco g1 F g0.next _ _:=zeZ e1 (B.old o0).lt
 refine⟨_,_,_,_,zao ((o1.2 _ (by omega)).trans (zac e0)) rfl,(zyQ kk).mono ?_⟩
 rintro _ g7 ⟨⟨b8,rfl,hb8,hb8',S8⟩,o7⟩
 have o7h:=o1h.trans o7
 have B7:=B.old o7h
 have m7:=m1.old o7
 have nF8:=notInF (B.old o1h) hb8
 refine⟨_,_,_,_,rfl,fun _=>⟨fun i k g=>i=0∧g7=g,⟨0,rfl,rfl⟩,?_⟩,fun z=>absurd rfl z⟩
 rintro k _ i16 ⟨rfl,rfl⟩
 refine⟨fun z=>absurd z (by decide),fun _=>?_⟩
 obtain⟨Fd7,P7⟩:=B7
 refine (ziD kk.pDev P7).mono ?_
 rintro _ _ ⟨rfl,rfl⟩
 refine⟨_,rfl,(zgU kk.ku.dLen P7.dev).mono ?_⟩
 rintro _ _ ⟨rfl,rfl⟩
 refine⟨_,rfl,(zwp kk h1 h2).mono ?_⟩
 rintro _ g38 ⟨rfl,o38⟩
 have P38:=P7.old o38
 refine⟨_,rfl,(ze4 kk.pMap P38).mono ?_⟩
 rintro _ _ ⟨rfl,rfl⟩
 refine⟨_,rfl,(zpW kk.mCount P38.map).mono ?_⟩
 rintro _ _ ⟨rfl,rfl⟩
 refine⟨_,rfl,fun z=>absurd z (by omega),fun _=>(ze4 kk.pMap P38).mono ?_⟩
 rintro _ _ ⟨rfl,rfl⟩
 have hn2:zhi nw.length≤29:=by unfold zhi; omega
 refine⟨_,rfl,(zqa kk.mMany kk.mCount kk.mAlloc kk.mIs kk.mSet ⟨Fd7,P38⟩ h2 hc (by omega)).mono ?_⟩
 rintro _ g54 ⟨pp,n56,A,rfl,G54,hA,hnd,hall,B54,f54⟩
 obtain⟨a1,A2,a3,rfl,hA2⟩:=zuB (k:=ze5 (spL nw.length:Nat)) (by rw[hA]; unfold zhi; omega)
 obtain⟨ab,rfl⟩:=G54.some (by unfold zhi; omega)
 have abF:ab∉F:=notInF ⟨Fd7,P38⟩ (G54.block rfl).1
 have m54:=(m7.old o38).fr f54
 have S54:=(S8.old o38).fr f54 (fun a e=>by cases e; exact nF8)
 refine⟨_,_,_,_,rfl,fun _=>(zuA kk B54 hW hst h1 h2 S54 nF8 G54.shows (G54.cutOk (by unfold zak; omega)) abF hA2 (fun a ha=>⟨(hall a ha).1,(hall a ha).2.2,(hall a ha).2.1⟩) hnd).mono ?_,fun z=>absurd rfl z⟩
 rintro _ g60 ⟨q,sp,r1,r2,all1,all2,nw',W',F',bH,cs,nH,rfl,SH,hnH,hbH,bHF,stand,hsp,hout,hlen,hW',B60,f60⟩
 have m60:=m54.fr f60
 obtain⟨g68,k68,nr68,m68⟩:=m60.put (vs:=q3 q) rfl
 refine⟨_,_,_,_,_,_,_,rfl,rfl,g68,k68,_,_,_,m68.ld rfl,_,q,sp,r1,r2,all1,all2,nw',W',F',bH,cs,nH,rfl,?_,hnH,by have:=m54.2.1; omega,bHF,stand,hsp,(fun a ha=>⟨(hall a ha).1,(hall a ha).2.2⟩),hout,hlen,hW',B60.nearN nr68 m60.2.2,((((o7h.trans o38).fr F).trans f54).trans f60).near_new nr68 (by omega)⟩
 refine SH.keep (by rw[nr68.1]; exact Nat.le_refl _) fun a e _=>nr68.2 _ ?_
 cases e
 have:=m54.2.1
 show bH≠g0.next
 omega
end
end Go.Am
