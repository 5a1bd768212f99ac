/-
  WHAT COUNTS: the device's flush, and the uber's sector in this program, written.
-/
import Derived.Test.YtihmdaifbmchjaaGreatCpF
import Derived.Test.YtihmdaifbmchjaaGreatCpB
import Derived.Test.YtihmdaifbmchjaaGreatVUb
set_option linter.unusedVariables false
set_option linter.unusedSimpArgs false
namespace Go.Am
open Go.Proofs
section
variable {K:Xs} {h:AH} {d:Nat} {F:List Nat} {W:Nat} {nw:List (List Nat)}
theorem zgU (hk:K 29=none) (D:zcN h d F W nw):Wf Tryz.prog K 29 [.pointer (some ⟨d,0,none⟩)] h fun v h'=>v=.int .i64 (nw.length:Nat)∧h=h':=by
 obtain⟨⟨bs,bn,pp,pn,pc,ops,pcs,st,g1,g2⟩, -, -⟩:=D
 exact ziw hk _ h _ (zae ⟨_,_,_,zah g1 rfl,rfl,rfl⟩)
theorem zyM (hk:K 42=none) (D:zcN h d F W nw):Wf Tryz.prog K 42 [.pointer (some ⟨d,0,none⟩)] h fun v h'=>v=.bool false∧h=h':=by
 obtain⟨⟨bs,bn,pp,pn,pc,ops,pcs,st,g1,g2⟩, -, -⟩:=D
 exact zg8 hk _ h _ (zae (.inr ⟨zah g1 rfl,rfl,rfl⟩))
theorem zqg (hk:K 79=none) (h1:K 83=none) (h3:K 85=none) (D:zcN h d F W nw) (hW:W≤100000):
 Wf Tryz.prog K 79 [.pointer (some ⟨d,0,none⟩)] h fun v h'=>v=.int .i64 0∧∃F',zcN h' d F' 0 nw∧Fr F h h' F':=by
 refine zgk hk _ h _ ((zle h1 D).mono ?_)
 rintro _ g ⟨D1,n1⟩
 have f1:Fr F h g F:=n1.fr D.mem
 refine (zpZ h3 D1).mono ?_
 rintro _ g2 ⟨rfl,rfl⟩
 refine .inl ⟨rfl,?_⟩
 have hlt:=D1.lt
 obtain⟨⟨bs,bn,pp,pn,pc,ops,pcs,st,g1,g2,g3,g4,g5,g6,g6b,g7,g8,g9,g10,g11⟩,s1,s2⟩:=D1
 have nd:=g10
 rw[g9] at nd
 have ne1:d≠bs:=by simp at nd; omega
 have ne2:d≠bn:=by simp at nd; omega
 have ne3:bs≠bn:=by simp at nd; omega
 have hdl:d < g.next:=hlt d (by rw[g9]; simp)
 have hbl:bs < g.next:=hlt bs (by rw[g9]; simp)
 have hnl:bn < g.next:=hlt bn (by rw[g9]; simp)
 refine zae ⟨pp,pn,pc,zah g1 rfl,fun x k g'=>∃(u:Nat) (st' : List Value),x=u∧u≤pn∧pn - u=k∧g.next≤g'.next∧(∀c,c < g.next→c≠bs→g'.get c=g.get c)∧g'.get bs=some (.cells st' zrI false)∧st'.length=nw.length * 128,⟨pn,0,st,rfl,Nat.zero_le _,rfl,Nat.le_refl _,fun _ _ _=>rfl,g2,g3⟩,?_⟩
 rintro k g' x ⟨u,st',rfl,hu,rfl,hn,ho,hb,hl⟩
 have kd:g'.get d=_:=(ho d hdl ne1).trans g1
 refine⟨fun z=>?_,fun z=>?_⟩
 ·have hun:u < pn:=by omega
  obtain⟨b,rfl, -,hbn,hgb, -⟩:=g5.2.resolve_left (fun z=>by omega)
  have hbF:b∈F:=by rw[g9]; simp[bl]
  have hbs:b≠bs:=fun z=>by simp[bl] at nd; omega
  have kb:g'.get b=_:=(ho b (hlt b hbF) hbs).trans hgb
  obtain⟨y,hy,hyc⟩:=g6.2 u hun
  have hlp:=g6.1
  have hlen:((pcs.drop (u * 129)).take 129).length=129:=by rw[List.length_take,List.length_drop]; omega
  refine zae ⟨by omega,z,(pcs.drop (u * 129)).take 129,by rw[Int.toNat_natCast,Nat.zero_add]; exact zcl kb (by omega),fun g17 e17=>?_⟩
  obtain⟨g18,k18,n18,o18,m18⟩:=zaF e17 (vs:=(pcs.drop (u * 129)).take 129) (by rw[hlen]; rfl)
  have w18:=(m18 [] (fun c hc=>by cases hc)).1
  have l18:g'.next < g18.next:=by omega
  have kd8:g18.get d=_:=(o18.2 d (by omega)).trans kd
  have kb8:g18.get bs=_:=(o18.2 bs (by omega)).trans hb
  refine⟨hlen,g18,k18,zae ⟨_,_,_,zah kd8 rfl,(y:Int),zah w18 (by rw[List.getElem?_take,if_pos (by decide),List.getElem?_drop]; exact hyc),_,zcl w18 (by omega),zae ⟨by omega,by omega,by rw[List.length_take,List.length_drop]; omega,_,zjX kb8 (by rw[List.length_take,List.length_drop,Int.toNat_natCast]; omega),fun x2 e2=>?_⟩⟩⟩
  have e2:=zaJ e2 (by omega) (by omega)
  have nr:=zaj bs g18 (.cells (st'.take (0+Int.toNat (y:Int) * 128) ++ (((pcs.drop (u * 129)).take 129).drop 1).take 128 ++ st'.drop (0+Int.toNat (y:Int) * 128+((((pcs.drop (u * 129)).take 129).drop 1).take 128).length)) zrI false)
  refine⟨pn - (u+1),by omega,u+1,_,by omega,by omega,rfl,by rw[nr.1]; omega,fun c hc hne=>by rw[nr.2 c hne,o18.2 c (by omega)]; exact ho c hc hne,zag _ _ _,?_⟩
  simp only[List.length_append,List.length_take,List.length_drop,Int.toNat_natCast]
  omega
 ·refine zae ⟨_,zbm kd (by simp),rfl,[d,bs,bn] ++ bl none,?_,?_⟩
  ·have nr:=zaj d g' (.cells [.slice (some ⟨bs,0,none⟩) nw.length nw.length,.slice (some ⟨bn,0,none⟩) nw.length nw.length,.slice none 0 0,.int .i64 ops,.int .i64 (-1),.bool false] zCx false)
   refine⟨⟨bs,bn,none,0,0,ops,[],st',zag _ _ _,(nr.2 bs (Ne.symm ne1)).trans hb,hl,((nr.2 bn (Ne.symm ne2)).trans (ho bn hnl (Ne.symm ne3))).trans g4,zbe.nil _ _ _ _,⟨rfl,fun i hi=>absurd hi (Nat.not_lt_zero _)⟩,Nat.le_refl _,g7,g8,rfl,?_,?_⟩,s1,s2⟩
   ·simp[bl]; omega
   ·intro c hc
    rw[AH.next_set]
    simp[bl] at hc
    omega
  ·refine f1.trans ⟨by rw[AH.next_set]; exact hn,fun c hc hn2=>?_,fun c hc=>.inl ?_⟩
   ·have e1:c≠d:=fun z=>hn2 (by rw[g9,z]; simp)
    have e2:c≠bs:=fun z=>hn2 (by rw[g9,z]; simp)
    exact (zaN e1).trans (ho c hc e2)
   ·rw[g9]
    simp[bl] at hc
    simp
    omega
end
def UOk (tx st:Nat) (q:Tr3) (len n:Nat):Prop:=(1≤tx∧tx≤281474976710655)∧(1≤st∧st≤281474976710655)∧QOk q∧q≠hole∧(1≤len∧len≤65535)∧64≤n∧n≤1024
def uC (tx st:Nat) (q:Tr3) (len n:Nat):List Value:=[.int .u64 tx,.int .u64 st,.int .i64 q.1,.int .u64 q.2.1,.int .u32 q.2.2,.int .i64 len,.int .i64 n]
def uV (tx st:Nat) (q:Tr3) (len n:Nat):Value:=.agg #[.int .u64 tx,.int .u64 st,.int .i64 q.1,.int .u64 q.2.1,.int .u32 q.2.2,.int .i64 len,.int .i64 n]
def uHd (tx st:Nat) (q:Tr3) (len n:Nat):List Nat:=[65,81,70,82] ++ enc [8,8] [tx,st] ++ zhv q ++ enc [4,4] [len,n]
def uTx (tx st:Nat) (q:Tr3) (len n:Nat):List Nat:=uHd tx st q len n ++ List.replicate 80 0
def zdG (tx st:Nat) (q:Tr3) (len n:Nat):List Nat:=uTx tx st q len n ++ byB 4 (zbk (uTx tx st q len n))
theorem zdA (a b x y:Nat):(enc [a,b] [x,y]).length=a+b:=(zeY [a,b] [x,y] rfl).trans (by simp)
theorem zue (tx st:Nat) (q:Tr3) (len n:Nat):(uHd tx st q len n).length=44:=by simp[uHd,zdA,zbP]
theorem ziQ (tx st:Nat) (q:Tr3) (len n:Nat):(uTx tx st q len n).length=124:=by simp[uTx,zue]
theorem zuf (tx st:Nat) (q:Tr3) (len n:Nat):(zdG tx st q len n).length=128:=by simp[zdG,ziQ,zaP]
theorem zAw {tx st:Nat} {q:Tr3} {len n x:Nat} (h:x∈uHd tx st q len n):x < 256:=by
 simp only[uHd,List.mem_append,List.mem_cons,List.not_mem_nil,or_false] at h
 rcases h with ((h | h) | h) | h
 ·omega
 ·exact zgT _ _ h
 ·exact ztE h
 ·exact zgT _ _ h
theorem zug {tx st:Nat} {q:Tr3} {len n x:Nat} (h:x∈uTx tx st q len n):x < 256:=by
 rcases List.mem_append.1 h with h | h
 ·exact zAw h
 ·rw[List.mem_replicate] at h; omega
theorem zea (tx st:Nat) (q:Tr3) (len n:Nat):Sec (zdG tx st q len n):=⟨zuf ..,fun x h=>by
 rcases List.mem_append.1 h with h | h
 ·exact zug h
 ·exact byB_lt h⟩
section
variable {K:Xs} {h:AH}
theorem zuh (hk:K 118=none) (kR:K 128=none) {tx st:Nat} {q:Tr3} {len n:Nat} (u:UOk tx st q len n):Wf Tryz.prog K 118 [uV tx st q len n] h fun v h'=>v=.bool true∧Old h h':=by
 obtain⟨u1,u2,u3,u4,u5,u6⟩:=u
 refine zfG hk _ _ _ _ _ _ _ h _ fun g e=>?_
 have c:=zac e
 have o:=zaa e
 have n0:=zab e
 refine⟨_,zah c rfl,fun _=>⟨_,zah c rfl,fun _=>⟨_,zah c rfl,fun _=>⟨_,zah c rfl,fun _=>⟨_,_,_,zcl c (Nat.le_of_ble_eq_true rfl),(zlk kR u3.wf).mono ?_⟩,fun z=>absurd z (by omega)⟩,fun z=>absurd z (by omega)⟩,fun z=>absurd z (by omega)⟩,fun z=>absurd z (by omega)⟩
 rintro v g9 ⟨⟨rfl, -⟩ | ⟨rfl,z⟩,o9⟩
 rotate_left
 ·exact absurd u3 z
 have c9:g9.get h.next=_:=(o9.2 _ (by omega)).trans c
 have oo:=o.trans o9
 refine .inl ⟨rfl,_,_,_,zcl c9 (Nat.le_of_ble_eq_true rfl),_,_,zyE u3,ztC,fun z=>?_,fun _=>⟨_,zah c9 rfl,fun _=>⟨_,zah c9 rfl,fun _=>⟨_,zah c9 rfl,fun _=>⟨_,zah c9 rfl,fun _=>⟨rfl,oo⟩,fun z=>absurd z (by omega)⟩,fun z=>absurd z (by omega)⟩,fun z=>absurd z (by omega)⟩,fun z=>absurd z (by omega)⟩⟩
 rw[ztM] at z
 exact absurd (of_decide_eq_true z) u4
theorem zyN {A B:List Nat} (hl:A.length+B.length≤128):(za8 (zaM A)).take A.length ++ (zav .u8 B).take (128 - A.length) ++ (za8 (zaM A)).drop (A.length+((zav .u8 B).take (128 - A.length)).length)=za8 (zaM (A ++ B)):=by
 have e:(zav .u8 B).take (128 - A.length)=zav .u8 B:=List.take_of_length_le (by rw[zam]; omega)
 rw[e,zam]
 unfold za8 zaM
 rw[zaI,zaI,zaI]
 have h3:(zav .u8 A).length=A.length:=zam ..
 have e1:(zav .u8 A ++ zav .u8 (List.replicate (128 - A.length) 0)).take A.length=zav .u8 A:=by rw[←h3,List.take_left]
 have e2:(zav .u8 A ++ zav .u8 (List.replicate (128 - A.length) 0)).drop (A.length+B.length)=zav .u8 (List.replicate (128 - (A ++ B).length) 0):=by
  rw[←List.drop_drop,show (zav .u8 A ++ zav .u8 (List.replicate (128 - A.length) 0)).drop A.length=zav .u8 (List.replicate (128 - A.length) 0) by rw[←h3,List.drop_left]]
  unfold zav
  rw[List.map_replicate,List.map_replicate,List.drop_replicate,List.length_append]
  congr 1
  omega
 rw[e1,e2]
theorem zBh {b c m c' off:Nat} {A B:List Nat} {p:Option Addr} {e:TypeId} (hb:h.get b=some (.cells (za8 (zaM A)) e false)) (ho:A.length=off) (hl:off+B.length≤128) (h1:off < 128) (S:zaq h p m 1 (zav .u8 B)) (hp:p=none∨∃b off,p=some ⟨b,off,none⟩):
 ∃i h',zal Tryz.prog h .copy #[53,53] [.slice (some ⟨b,off,none⟩) (128 - off) c,.slice p m c']=some (.int .i64 i,h')∧za9 b h h'∧h'.get b=some (.cells (za8 (zaM (A ++ B))) e false):=by
 subst ho
 have hbl:(za8 (zaM A)).length=128:=by unfold za8 zaM; rw[zam,List.length_append,List.length_replicate]; omega
 obtain⟨h',k,nr,g⟩:=zfy eBytes (off:=A.length) (n:=128 - A.length) (c:=c) (c':=c') hb (by omega) (by omega) S hp 53
 rw[zyN hl] at g
 exact⟨_,h',k,nr,g⟩
theorem zwh (g:AH) (b:Nat):zar Tryz.prog g 112 (.pointer (some ⟨b,0,none⟩)) (some (.int .i64 4)) none none=some (.slice (some ⟨b,4,none⟩) 124 124)∧zar Tryz.prog g 112 (.pointer (some ⟨b,0,none⟩)) (some (.int .i64 20)) none none=some (.slice (some ⟨b,20,none⟩) 108 108)∧
 zar Tryz.prog g 112 (.pointer (some ⟨b,0,none⟩)) (some (.int .i64 36)) none none=some (.slice (some ⟨b,36,none⟩) 92 92)∧zar Tryz.prog g 112 (.pointer (some ⟨b,0,none⟩)) (some (.int .i64 124)) none none=some (.slice (some ⟨b,124,none⟩) 4 4):=⟨by kernel_rfl,by kernel_rfl,by kernel_rfl,by kernel_rfl⟩
theorem zCH (g:AH) (b:Nat):zar Tryz.prog g 112 (.pointer (some ⟨b,0,none⟩)) none (some (.int .i64 124)) none=some (.slice (some ⟨b,0,none⟩) 124 128):=by kernel_rfl
theorem zCI {b:Nat} {e:TypeId} (hk:h.get b=some (.cells (za8 (zaM [])) e false)):∃i h',zal Tryz.prog h .copy #[53,9] [.slice (some ⟨b,0,none⟩) 128 128,.string (ByteArray.mk #[65,81,70,82])]=some (.int .i64 i,h')∧za9 b h h'∧h'.get b=some (.cells (za8 (zaM [65,81,70,82])) e false):=by
 have ha:zas h b 0 (zav .u8 [65,81,70,82])=some (h.set b (.cells (za8 (zaM [65,81,70,82])) e false)):=by
  have e1:(za8 (zaM [])).take 0 ++ zav .u8 [65,81,70,82] ++ (za8 (zaM [])).drop (0+(zav .u8 [65,81,70,82]).length)=za8 (zaM [65,81,70,82]):=by kernel_rfl
  unfold zas
  simp only[hk]
  rw[if_pos (Nat.le_of_ble_eq_true (by kernel_rfl)),e1]
 refine⟨4,_,?_,zaj _ _ _,zag _ _ _⟩
 show zeL Tryz.prog h 53 (.slice (some ⟨b,0,none⟩) 128 128) (.string (ByteArray.mk #[65,81,70,82]))=_
 have hf:Am.firstC h 1 (Nat.min 4 128) (.string (ByteArray.mk #[65,81,70,82]))=some (zav .u8 [65,81,70,82]):=by kernel_rfl
 obtain⟨hu,i,z,hi,hz,hzs,hpos,hsz,hby⟩:=eBytes
 unfold zeL
 simp only[hu,hi,hsz,show zlx (.string (ByteArray.mk #[65,81,70,82]))=some 4 from rfl,hf]
 show (if (128:Nat)=0 then none else match zas h b 0 (zav .u8 [65,81,70,82]) with | some h'=>_ | none=>none)=_
 rw[if_neg (by decide),ha]
 rfl
theorem zaq.blk {b off n sz:Nat} {cs:List Value} (s:zaq h (some ⟨b,off,none⟩) n sz cs) (hn:0 < n):b < h.next:=by
 rcases s.2 with z | ⟨b',off',al,e,ro,hp,hb, -⟩
 ·omega
 ·cases hp; exact hb
structure KUb (K:Xs):Prop where
 kl:ztL K
 ks:ztX K
 uRight:K 118=none
 uBytes:K 78=none
 uRead:K 88=none
 uCommit:K 54=none
 uSlot:K 80=none
 uList:K 62=none
 uBest:K 43=none
 dFlush:K 79=none
 dLen:K 29=none
 dDead:K 42=none
 sort:K 89=none
 pdq:K 121=none
 ins:K 147=none
 bLen:K 122=none
 bLen64:K 156=none
theorem zwi (hk:K 60=none) (hm:K 86=some (.sum zdF)) {b:Nat} {s t:List Nat} (hs:s.length=124) (hb:∀x∈s,x < 256) {ty:TypeId} {ro:Bool} (hg:h.get b=some (.cells (zav .u8 (s ++ t)) ty ro)) (c:Nat):
 Wf Tryz.prog K 60 [.slice (some ⟨b,0,none⟩) 124 c] h fun v h'=>v=.int .u32 (zbk s:Nat)∧h=h':=by
 refine zmL hk _ _ _ h _ (zdS hm (v:=.int .u32 (zbk s:Nat)) (h':=h) ?_ (Nat.le_refl _) ⟨_,rfl,rfl,rfl⟩)
 have hl:(zav .u8 (s ++ t)).length=124+t.length:=by rw[zam,List.length_append,hs]
 have e1:(Nat.blt 0 4294967296 && Nat.ble (0+124) (zav .u8 (s ++ t)).length && Nat.blt 124 9223372036854775807)=true:=by
  have:Nat.ble (0+124) (zav .u8 (s ++ t)).length=true:=Nat.ble_eq_true_of_le (by omega)
  rw[this]; rfl
 have e2:zdf (((zav .u8 (s ++ t)).drop 0).take 124) (Nat.xor 0 4294967295)=some (zzb s 4294967295):=by
  rw[List.drop_zero,zaI,List.take_append_of_le_length (by rw[zam]; omega),List.take_of_length_le (by rw[zam]; omega)]
  exact zgr s hb (by decide)
 show zdF [.int .u32 (Int.ofNat 0),.slice (some ⟨b,0,none⟩) 124 c] h=_
 simp only[zdF,hg,e1,e2,cond_true]
 rfl
theorem zBi {a b x y:Nat} (hx:x < 256 ^ a) (hy:y < 256 ^ b):∀(i w z:Nat),([a,b]:List Nat)[i]?= some w→([x,y]:List Nat)[i]?= some z→z < 256 ^ w:=by
 intro i w z hw hz
 match i with
 | 0=>simp at hw hz; subst hw hz; exact hx
 | 1=>simp at hw hz; subst hw hz; exact hy
 | i+2=>simp at hw
theorem zAx {a x:Nat} (hx:x < 256 ^ a):∀(i w z:Nat),([a]:List Nat)[i]?= some w→([x]:List Nat)[i]?= some z→z < 256 ^ w:=by
 intro i w z hw hz
 match i with
 | 0=>simp at hw hz; subst hw hz; exact hx
 | i+1=>simp at hw
theorem za7 {g:AH} {b n:Nat} {k:IntKind} {l:List Nat} {ty:TypeId} {ro:Bool} (hg:g.get b=some (.cells (zav k l) ty ro)) (hb:b < g.next) (hl:l.length=n):zaq g (some ⟨b,0,none⟩) n 1 (zav k l):=
 ⟨by rw[zam,hl,Nat.mul_one],.inr ⟨b,0,zav k l,ty,ro,rfl,hb,hg,by rw[zam,hl]; omega,by rw[List.drop_zero,List.take_of_length_le (by rw[zam,hl]; omega)]⟩⟩
theorem znn (kk:KUb K) {tx st:Nat} {q:Tr3} {len n:Nat} (u:UOk tx st q len n):Wf Tryz.prog K 78 [uV tx st q len n] h fun v h'=>v=.tuple #[.agg (za8 (zdG tx st q len n)).toArray,.int .i64 0]∧Old h h':=by
 have u':=u
 obtain⟨u1,u2,u3,u4,u5,u6⟩:=u'
 have kP:=kk.ks.fPut
 have kr:=kk.ks.fRoom
 refine zfH kk.uBytes _ _ _ _ _ _ _ h _ fun g0 e0 g1 e1=>?_
 have c1:g1.get h.next=some (.cells (uC tx st q len n) 44 false):=(zaa e1).2 h.next (by rw[zab e0]; omega)▸zac e0
 have r1:=zac e1
 have o1:Old h g1:=(zaa e0).trans (zaa e1)
 have n0:=zab e0
 have n1:=zab e1
 refine⟨_,_,_,_,_,_,_,zao c1 rfl,(zuh kk.uRight kk.ks.qRight u).mono ?_⟩
 rintro _ g10 ⟨rfl,o10⟩
 have l10:=o10.1
 refine .inl ⟨rfl,fun g11 e11=>?_⟩
 have o11:=zaa e11
 have n11:=zab e11
 have c11:g11.get h.next=_:=(o11.2 _ (by omega)).trans ((o10.2 _ (by omega)).trans c1)
 refine⟨_,zah c11 rfl,_,zah c11 rfl,fun g14 e14=>?_⟩
 have o14:=zaa e14
 have n14:=zab e14
 refine (zep kP kr (ws:=[8,8]) (ns:=[tx,st]) (za7 ((o14.2 _ (by omega)).trans (zac e11)) (by omega) rfl) (za7 (zac e14) (by omega) rfl) (by decide) (by decide) rfl (zBi (by omega) (by omega))).mono ?_
 rintro _ g16 ⟨⟨b1,rfl,hb1,S1⟩,o16⟩
 have l16:=o16.1
 have c16:g16.get h.next=_:=(o16.2 _ (by omega)).trans ((o14.2 _ (by omega)).trans c11)
 refine⟨_,_,_,_,rfl,fun _=>⟨_,_,_,zcl c16 (Nat.le_of_ble_eq_true rfl),(zll kk.ks.qBytes kk.ks.qRight kk.ks.qWidths kP kr u3).mono ?_⟩,fun z=>absurd rfl z⟩
 rintro _ g25 ⟨⟨b2,rfl,hb2,S2⟩,o25⟩
 have l25:=o25.1
 refine⟨_,_,_,_,rfl,fun _ g30 e30=>?_,fun z=>absurd rfl z⟩
 have o30:=zaa e30
 have n30:=zab e30
 have c30:g30.get h.next=_:=(o30.2 _ (by omega)).trans ((o25.2 _ (by omega)).trans c16)
 refine⟨_,zah c30 rfl,fun i32 e32=>⟨_,zah c30 rfl,fun i34 e34 g35 e35=>?_⟩⟩
 have e32:=zoz e32 (by omega) (by omega)
 have e34:=zoz e34 (by omega) (by omega)
 subst e32
 subst e34
 have o35:=zaa e35
 have n35:=zab e35
 refine (zep kP kr (ws:=[4,4]) (ns:=[len,n]) (za7 ((o35.2 _ (by omega)).trans (zac e30)) (by omega) rfl) (za7 (zac e35) (by omega) rfl) (by decide) (by decide) rfl (zBi (by omega) (by omega))).mono ?_
 rintro _ g37 ⟨⟨b3,rfl,hb3,S3⟩,o37⟩
 have l37:=o37.1
 refine⟨_,_,_,_,rfl,fun _ g42 e42=>?_,fun z=>absurd rfl z⟩
 have o42:=zaa e42
 have n42:=zab e42
 have w42:g42.get g37.next=some (.cells (za8 (zaM [])) zrI false):=zac e42
 have p1:Old g16 g37:=o25.trans (o30.trans (o35.trans o37))
 have p2:Old g25 g37:=o30.trans (o35.trans o37)
 have q1:=S1.blk (by decide)
 have q2:=S2.blk (by decide)
 have q3:=S3.blk (by decide)
 have kept:∀{g:AH},za9 g37.next g42 g→Old g37 g:=fun nr=>o42.near nr (Nat.le_refl _)
 refine⟨_,_,_,zeo g42 _,?_⟩
 obtain⟨i46,g47,k47,nr47,w47⟩:=zCI w42
 refine⟨i46,g47,k47,_,_,_,(zwh g47 _).1,?_⟩
 obtain⟨i51,g52,k52,nr52,w52⟩:=zBh (c:=124) (c':=16) w47 (off:=4) rfl (by rw[zdA]; decide) (by decide) (S1.old (p1.trans (kept nr47))) (.inr ⟨_,_,rfl⟩)
 have nr52:=nr47.trans nr52
 refine⟨i51,g52,k52,_,_,_,(zwh g52 _).2.1,?_⟩
 obtain⟨i56,g57,k57,nr57,w57⟩:=zBh (c:=108) (c':=16) w52 (off:=20) (by rw[List.length_append,zdA]; rfl) (by rw[zbP]; decide) (by decide) (S2.old (p2.trans (kept nr52))) (.inr ⟨_,_,rfl⟩)
 have nr57:=nr52.trans nr57
 refine⟨i56,g57,k57,_,_,_,(zwh g57 _).2.2.1,?_⟩
 obtain⟨i61,g62,k62,nr62,w62⟩:=zBh (c:=92) (c':=8) w57 (off:=36) (by rw[List.length_append,List.length_append,zdA,zbP]; rfl) (by rw[zdA]; decide) (by decide) (S3.old (kept nr57)) (.inr ⟨_,_,rfl⟩)
 have nr62:=nr57.trans nr62
 have w62:g62.get g37.next=some (.cells (za8 (zaM (uHd tx st q len n))) zrI false):=w62
 have e62:zaM (uHd tx st q len n)=uTx tx st q len n ++ List.replicate 4 0:=by
  unfold zaM uTx
  rw[zue,List.append_assoc,List.replicate_append_replicate]
 have e62' : zaM (uTx tx st q len n)=uTx tx st q len n ++ List.replicate 4 0:=by
  unfold zaM
  rw[ziQ]
 rw[e62] at w62
 refine⟨i61,g62,k62,fun g63 e63=>⟨_,_,_,zCH g63 _,(zwi kk.ks.sOf kk.ks.sMore (ziQ tx st q len n) (fun _=>zug) (((zaa e63).2 _ (by rw[nr62.1,n42]; exact Nat.lt_succ_self _)).trans w62) 128).mono ?_⟩⟩
 rintro _ g68 ⟨rfl,rfl⟩
 have o63:=zaa e63
 have n63:=zab e63
 have hc:=zlg (s:=uTx tx st q len n) fun _=>zug
 refine⟨_,rfl,fun i70 e70 g71 e71=>?_⟩
 have e70:=zoz e70 (by omega) (by omega)
 subst e70
 have o71:=zaa e71
 have n71:=zab e71
 have l62:g62.next=g37.next+1:=nr62.1.trans n42
 refine (zep kP kr (ws:=[4]) (ns:=[zbk (uTx tx st q len n)]) (za7 ((o71.2 _ (by omega)).trans (zac e63)) (by omega) rfl) (za7 (zac e71) (by omega) rfl) (by decide) (by decide) rfl (zAx (by omega))).mono ?_
 rintro _ g73 ⟨⟨b4,rfl,hb4,S4⟩,o73⟩
 have l73:=o73.1
 have q4:=S4.blk (by decide)
 have o62:Old g62 g73:=o63.trans (o71.trans o73)
 have w73:g73.get g37.next=some (.cells (za8 (zaM (uTx tx st q len n))) zrI false):=by rw[e62',o62.2 _ (by omega)]; exact w62
 refine⟨_,_,_,_,rfl,fun _=>⟨_,_,_,(zwh g73 _).2.2.2,?_⟩,fun z=>absurd rfl z⟩
 obtain⟨i81,g82,k82,nr82,w82⟩:=zBh (c:=4) (c':=4) w73 (off:=124) (ziQ ..) (by rw[zeY [4] [zbk (uTx tx st q len n)] rfl]; decide) (by decide) S4 (.inr ⟨_,_,rfl⟩)
 have e82:zaM (uTx tx st q len n ++ enc [4] [zbk (uTx tx st q len n)])=zdG tx st q len n:=by
  have:enc [4] [zbk (uTx tx st q len n)]=byB 4 (zbk (uTx tx st q len n)):=by simp[enc]
  rw[this]
  unfold zaM
  rw[List.length_append,ziQ,zaP]
  simp[zdG]
 rw[e82] at w82
 have hl:=zaw (zea tx st q len n)
 have oo:Old g1 g82:=(o10.trans (o11.trans (o14.trans (o16.trans (p1.trans ((kept nr62).trans o62)))))).near nr82 (by omega)
 ·refine⟨i81,g82,k82,_,zao w82 hl,hl,_,zaB ((oo.2 _ (by omega)).trans r1) (by rw[hl]; simp),_,zao (zag _ _ _) hl,rfl,?_⟩
  exact (o1.trans oo).near (zaj _ _ _) (by omega)
theorem zyO (kk:KUb K):Wf Tryz.prog K 78 [uV 0 0 hole 0 0] h fun v h'=>v=.tuple #[.agg (za8 (List.replicate 128 0)).toArray,.int .i64 61]∧Old h h':=by
 refine zfH kk.uBytes _ _ _ _ _ _ _ h _ fun g0 e0 g1 e1=>?_
 have c1:g1.get h.next=some (.cells (uC 0 0 hole 0 0) 44 false):=(zaa e1).2 h.next (by rw[zab e0]; omega)▸zac e0
 have r1:=zac e1
 have o1:Old h g1:=(zaa e0).trans (zaa e1)
 have n0:=zab e0
 have n1:=zab e1
 refine⟨_,_,_,_,_,_,_,zao c1 rfl,zfG kk.uRight _ _ _ _ _ _ _ g1 _ fun g2 e2=>⟨_,zah (zac e2) rfl,fun z=>absurd z (by decide),fun _=>.inr ⟨rfl,_,zAm,by simp,_,zaB (((zaa e2).2 _ (by omega)).trans r1) (by simp),_,zao (zag _ _ _) (by simp),by rw[zdj],?_⟩⟩⟩
 exact (o1.trans (zaa e2)).near (zaj _ _ _) (by omega)
theorem zgw {b off n:Nat} {s:List Nat} {e:TypeId} {ro:Bool} (hs:Sec s) (hg:h.get b=some (.cells (za8 s) e ro)) (hb:b < h.next) (hl:off+n≤128):zaq h (some ⟨b,off,none⟩) n 1 (zav .u8 ((s.drop off).take n)):=by
 refine⟨by rw[zam,List.length_take,List.length_drop,hs.1]; omega,.inr ⟨_,_,_,_,_,rfl,hb,hg,by rw[zaw hs]; omega,?_⟩⟩
 unfold za8 zav
 rw[List.map_take,List.map_drop,Nat.mul_one]
theorem zqh (kk:KUb K) {s t:List Nat} (hs:Sec s) (ht:Sec t) {tx st:Nat} {q:Tr3} {len n:Nat} {er:Int} (h1:dec [8,8] ((s.drop 4).take 16)=[tx,st]) (h2:ptrD ((s.drop 20).take 16)=q) (h3:dec [4,4] ((s.drop 36).take 8)=[len,n]) (hq:QOk q) (hlen:len < 4294967296) (hn:n < 4294967296)
 (hB:∀g,Wf Tryz.prog K 78 [uV tx st q len n] g fun v g'=>v=.tuple #[.agg (za8 t).toArray,.int .i64 er]∧Old g g') (hst:er=0→t=s):
 Wf Tryz.prog K 88 [.agg (za8 s).toArray] h fun v h'=>((er=0∧v=.tuple #[uV tx st q len n,.bool true])∨(er≠0∧v=.tuple #[uV 0 0 hole 0 0,.bool false]))∧Old h h':=by
 have kG:=kk.kl.fGet
 have kr:=kk.kl.fRoom
 refine zmW kk.uRead _ h _ fun g0 e0 g1 e1 g2 e2=>?_
 have o0:=zaa e0
 have n0:=zab e0
 have o1:=zaa e1
 have n1:=zab e1
 have o2:=zaa e2
 have n2:=zab e2
 have c1:g1.get h.next=some (.cells (za8 s) zrI false):=(o1.2 _ (by omega)).trans (zac e0)
 have c2:g2.get h.next=_:=(o2.2 _ (by omega)).trans c1
 have r2:g2.get g0.next=some (.cells (uC 0 0 hole 0 0) 44 false):=(o2.2 _ (by omega)).trans (zac e1)
 have o02:Old h g2:=o0.trans (o1.trans o2)
 have cut:∀(g:AH) (m c' : Nat),m≤c'→c' < 200→zbu Tryz.prog g 5 h.next m c':=fun g m c' q1 q2=>.inl ⟨q1,by unfold zak; omega⟩
 have bnd:∀off m x,x∈(s.drop off).take m→x < 256:=fun off m x hx=>hs.2 x (List.mem_of_mem_drop (List.mem_of_mem_take hx))
 have pl:∀off m,off+m≤128→((s.drop off).take m).length=m:=fun off m hm=>by rw[List.length_take,List.length_drop,hs.1]; omega
 refine⟨_,_,_,znd g2 h.next 4 20 (by decide) (by decide) (by decide),(zdx kG kr (ws:=[8,8]) (za7 (zac e2) (by omega) rfl) (zgw hs c2 (by omega) (by decide) (off:=4) (n:=16)) (by omega) (cut _ _ _ (by decide) (by decide)) (by decide) (by decide) (bnd 4 16) (pl 4 16 (by decide))).mono ?_⟩
 rintro _ g7 ⟨⟨b1,rfl,hb1,S1⟩,o7⟩
 rw[h1] at S1
 have l7:=o7.1
 have c7:g7.get h.next=_:=(o7.2 _ (by omega)).trans c2
 refine⟨_,_,_,_,rfl,fun _=>⟨_,_,_,znd g7 h.next 20 36 (by decide) (by decide) (by decide),(zoS kk.kl.qRead kk.kl.qRight kk.kl.qWidths kG kr (zgw hs c7 (by omega) (by decide) (off:=20) (n:=16)) (by omega) (cut _ _ _ (by decide) (by decide)) (bnd 20 16)).mono ?_⟩,fun z=>absurd rfl z⟩
 rw[h2]
 rintro _ g16 ⟨⟨-,rfl⟩ | ⟨z, -⟩,o16⟩
 rotate_left
 ·exact absurd hq z
 have l16:=o16.1
 refine⟨_,_,_,_,rfl,fun g21 e21=>⟨rfl,?_⟩⟩
 obtain⟨g22,k22,n22,o22,m22⟩:=zaF e21 (vs:=[.int .i64 (q.1:Nat),.int .u64 (q.2.1:Nat),.int .u32 (q.2.2:Nat)]) rfl
 have w22:=(m22 [] (fun c hc=>by cases hc)).1
 refine⟨g22,k22,fun _ g23 e23=>?_,fun z=>absurd rfl z⟩
 have o23:=zaa e23
 have n23:=zab e23
 have c23:g23.get h.next=_:=(o23.2 _ (by omega)).trans ((o22.2 _ (by omega)).trans ((o16.2 _ (by omega)).trans c7))
 refine⟨_,_,_,znd g23 h.next 36 44 (by decide) (by decide) (by decide),(zdx kG kr (ws:=[4,4]) (za7 (zac e23) (by omega) rfl) (zgw hs c23 (by omega) (by decide) (off:=36) (n:=8)) (by omega) (cut _ _ _ (by decide) (by decide)) (by decide) (by decide) (bnd 36 8) (pl 36 8 (by decide))).mono ?_⟩
 rintro _ g28 ⟨⟨b3,rfl,hb3,S3⟩,o28⟩
 rw[h3] at S3
 have l28:=o28.1
 have q1:=S1.blk (by decide)
 have S1':=S1.old (o16.trans (o22.trans (o23.trans o28)))
 obtain⟨b4,off4,hq4,hd4⟩:=S1'.get (i:=0) (by decide)
 obtain⟨b5,off5,hq5,hd5⟩:=S1'.get (i:=1) (by decide)
 obtain⟨b6,off6,hq6,hd6⟩:=S3.get (i:=0) (by decide)
 obtain⟨b7,off7,hq7,hd7⟩:=S3.get (i:=1) (by decide)
 simp only[Option.some.injEq,Addr.mk.injEq,and_true] at hq4 hq5 hq6 hq7
 obtain⟨rfl,rfl⟩:=hq4
 obtain⟨rfl,rfl⟩:=hq5
 obtain⟨rfl,rfl⟩:=hq6
 obtain⟨rfl,rfl⟩:=hq7
 have w28:g28.get g16.next=_:=(o28.2 _ (by omega)).trans ((o23.2 _ (by omega)).trans w22)
 refine⟨_,_,_,_,rfl,fun _=>zae ⟨by decide,by decide,_,hd4,zae ⟨by decide,by decide,_,hd5,_,_,_,zao w28 rfl,zae ⟨by decide,by decide,_,hd6,fun i45 e45=>zae ⟨by decide,by decide,_,hd7,fun i49 e49 g50 e50=>⟨rfl,?_⟩⟩⟩⟩⟩,fun z=>absurd rfl z⟩
 have e45:=zaJ e45 (by omega) (by omega)
 have e49:=zaJ e49 (by omega) (by omega)
 subst e45
 subst e49
 obtain⟨g51,k51,n51,o51,m51⟩:=zaF e50 (vs:=uC tx st q len n) rfl
 have w51:=(m51 [] (fun c hc=>by cases hc)).1
 refine⟨g51,k51,_,_,_,_,_,_,_,zao w51 rfl,(hB g51).mono ?_⟩
 rintro _ g60 ⟨rfl,o60⟩
 have l60:=o60.1
 refine⟨_,_,rfl,fun g63 e63=>⟨zaw ht,?_⟩⟩
 obtain⟨g64,k64,n64,o64,m64⟩:=zaF e63 (vs:=za8 t) (by rw[zaw ht]; rfl)
 have w64:=(m64 [] (fun c hc=>by cases hc)).1
 have o3:Old g2 g64:=o7.trans (o16.trans (o22.trans (o23.trans (o28.trans (o51.trans (o60.trans o64))))))
 have c64:g64.get h.next=_:=(o3.2 _ (by omega)).trans c2
 have r64:g64.get g0.next=_:=(o3.2 _ (by omega)).trans r2
 have u64:g64.get g28.next=_:=(o64.2 _ (by omega)).trans ((o60.2 _ (by omega)).trans w51)
 have oo:∀cs,Old h (g64.set g0.next (.cells cs 44 false)):=fun cs=>(o02.trans o3).near (zaj _ _ _) (by omega)
 refine⟨g64,k64,fun z=>⟨_,zao w64 (zaw ht),_,zao c64 (zaw hs),_,_,zDK ht,zDK hs,fun y=>⟨_,_,_,_,_,_,_,zao u64 rfl,rfl,_,zaB r64 rfl,_,_,_,_,_,_,_,zao (zag _ _ _) rfl,.inl ⟨z,rfl⟩,oo _⟩,fun y=>?_⟩,fun z=>⟨rfl,_,zaB r64 rfl,_,_,_,_,_,_,_,zao (zag _ _ _) rfl,.inr ⟨z,rfl⟩,oo _⟩⟩
 rw[zp3,hst z] at y
 exact absurd rfl (of_decide_eq_false y)
theorem zru (tx st:Nat) (q:Tr3) (len n:Nat):((zdG tx st q len n).drop 4).take 16=enc [8,8] [tx,st]∧((zdG tx st q len n).drop 20).take 16=zhv q∧((zdG tx st q len n).drop 36).take 8=enc [4,4] [len,n]:=by
 have e:zdG tx st q len n=[65,81,70,82] ++ (enc [8,8] [tx,st] ++ (zhv q ++ (enc [4,4] [len,n] ++ (List.replicate 80 0 ++ byB 4 (zbk (uTx tx st q len n)))))):=by
  simp only[zdG,uTx,uHd,List.append_assoc]
 have l0:([65,81,70,82]:List Nat).length=4:=rfl
 have l1:(enc [8,8] [tx,st]).length=16:=zdA ..
 have l2:(zhv q).length=16:=zbP q
 have l3:(enc [4,4] [len,n]).length=8:=zdA ..
 refine⟨?_,?_,?_⟩
 ·rw[e,List.drop_left' l0,List.take_left' l1]
 ·rw[e,show (20:Nat)=4+16 from rfl,←List.drop_drop,List.drop_left' l0,List.drop_left' l1,List.take_left' l2]
 ·rw[e,show (36:Nat)=4+(16+16) from rfl,←List.drop_drop,List.drop_left' l0,←List.drop_drop,List.drop_left' l1,List.drop_left' l2,List.take_left' l3]
theorem zrv (kk:KUb K) {tx st:Nat} {q:Tr3} {len n:Nat} (u:UOk tx st q len n):Wf Tryz.prog K 88 [.agg (za8 (zdG tx st q len n)).toArray] h fun v h'=>v=.tuple #[uV tx st q len n,.bool true]∧Old h h':=by
 have u':=u
 obtain⟨u1,u2,u3,u4,u5,u6⟩:=u'
 obtain⟨p1,p2,p3⟩:=zru tx st q len n
 refine (zqh kk (zea tx st q len n) (zea tx st q len n) (er:=0) (by rw[p1]; exact zdV _ _ rfl (zBi (by omega) (by omega))) (by rw[p2]; exact ztF u3) (by rw[p3]; exact zdV _ _ rfl (zBi (by omega) (by omega))) u3 (by omega) (by omega) (fun g=>znn kk u) (fun _=>rfl)).mono ?_
 rintro v g ⟨⟨-,rfl⟩ | ⟨z, -⟩,o⟩
 ·exact⟨rfl,o⟩
 ·exact absurd rfl z
theorem zui (kk:KUb K):Wf Tryz.prog K 88 [.agg (za8 (List.replicate 128 0)).toArray] h fun v h'=>v=.tuple #[uV 0 0 hole 0 0,.bool false]∧Old h h':=by
 refine (zqh kk zck zck (tx:=0) (st:=0) (q:=hole) (len:=0) (n:=0) (er:=61) (by decide) (by decide) (by decide) ztK (by decide) (by decide) (fun g=>zyO kk) (fun z=>absurd z (by decide))).mono ?_
 rintro v g ⟨⟨z, -⟩ | ⟨-,rfl⟩,o⟩
 ·exact absurd z (by decide)
 ·exact⟨rfl,o⟩
theorem zAy {p:Option Addr} {c:Nat} {f:FuncId}:((ex Tryz.prog K 60 none [] ((Tryz.f147.body).getD .skip) (Tr.ofList [.slice p 1 c,.int .i64 0,.int .i64 1,.func (.func f) #[] #[]]) h).map fun r=>(r.1,r.2.2))=some (.normal,h):=by kernel_rfl
theorem zyP (kk:KUb K) {p:Option Addr} {c:Nat} {f:FuncId}:Wf Tryz.prog K 89 [.slice p 1 c,.func (.func f) #[] #[]] h fun v h'=>v=.tuple #[]∧h=h':=by
 have ins:Wf Tryz.prog K 147 [.slice p 1 c,.int .i64 0,.int .i64 1,.func (.func f) #[] #[]] h fun v h'=>h=h':=by
  refine (zcR (c:=(Tryz.f147.body).getD .skip) kk.ins Tryz.func147 rfl).2 ?_
  have e:=zAy (K:=K) (h:=h) (p:=p) (c:=c) (f:=f)
  obtain⟨⟨x,e1,h1⟩,k1,k2⟩:=Option.map_eq_some_iff.1 e
  cases k2
  exact⟨60,_,_,_,k1,.inl rfl,_,rfl,rfl⟩
 refine zm0 kk.sort p 1 c f [] h _ fun i e=>?_
 obtain rfl:i=1:=e.trans (by decide)
 refine zoO kk.bLen _ h _ (zk3 kk.bLen64 _ h _ ⟨fun z=>absurd z (by decide),fun _=>⟨fun z=>absurd z (by decide),fun _=>⟨fun z=>absurd z (by decide),fun _ i41 e41=>?_⟩⟩⟩)
 obtain rfl:i41=1:=e41.trans (by decide)
 refine⟨by decide,1,(by kernel_rfl),fun i43 e43 i44 e44=>?_⟩
 obtain rfl:i43=1:=e43.trans (by decide)
 obtain rfl:i44=1:=e44.trans (by decide)
 refine⟨_,rfl,_,rfl,(zcR kk.pdq Tryz.func121 rfl).2 ?_⟩
 let G:Env→Prop:=fun a=>a.get 0=some (.slice p 1 c)∧a.get 1=some (.int .i64 0)∧a.get 2=some (.int .i64 1)∧a.get 4=some (.func (.func f) #[] #[])
 have ag:∀{a e:Env},agr a e→G a→agr ((((Tr.nil.set 0 (.slice p 1 c)).set 1 (.int .i64 0)).set 2 (.int .i64 1)).set 4 (.func (.func f) #[] #[])) e:=fun ha g=>zaQ (zaQ (zaQ (zaQ (fun t v z=>by rw[Tr.get_nil] at z; cases z) (ha _ _ g.1)) (ha _ _ g.2.1)) (ha _ _ g.2.2.1)) (ha _ _ g.2.2.2)
 let T:Prop:=some (Value.slice p 1 c)=some (.slice p 1 c)∧some (Value.int .i64 0)=some (.int .i64 0)∧some (Value.int .i64 1)=some (.int .i64 1)∧some (Value.func (.func f) #[] #[])=some (.func (.func f) #[] #[])
 have hT:T:=⟨rfl,rfl,rfl,rfl⟩
 refine zjH.2 ((zfx (hs:=[]) (a:=Tr.ofList [.slice p 1 c,.int .i64 0,.int .i64 1,.int .i64 1,.func (.func f) #[] #[]]) (Q:=fun x a' h'=>x=.normal∧G a'∧h'= h) (fun _ _ q=>q) (Eq.mpr (by kernel_rfl) (⟨rfl,hT,rfl⟩:AX.normal=AX.normal∧T∧h=h))).mono ?_)
 rintro x e1 h1 ⟨a1,ha1,rfl,g1,rfl⟩
 refine zjH.2 ((zfx (hs:=[]) (Q:=fun x a' h'=>x=.normal∧G a'∧h'= h1) (ag ha1 g1) (Eq.mpr (by kernel_rfl) (⟨rfl,hT,rfl⟩:AX.normal=AX.normal∧T∧h1=h1))).mono ?_)
 rintro x e2 h2 ⟨a2,ha2,rfl,g2,rfl⟩
 refine zhn.2 (znR.2 (zhn.2 (zjH.2 ((zfx (hs:=[]) (Q:=fun x a' h'=>x=.normal∧(G a'∧∃j:Int,j≤12∧a'.get 12=some (.int .i64 j))∧h'= h2) (ag ha2 g2)
  (Eq.mpr (by kernel_rfl) (fun i e=>⟨rfl,⟨hT,i,by rw[e]; decide,rfl⟩,rfl⟩:∀i:Int,i=IntKind.wrap .i64 ((1:Int) - 0)→AX.normal=AX.normal∧(T∧∃j:Int,j≤12∧some (Value.int .i64 i)=some (.int .i64 j))∧h2=h2))).mono ?_))))
 rintro x e3 h3 ⟨a3,ha3,rfl,⟨g3,j,hj,g10⟩,rfl⟩
 refine zjH.2 ((zjp (K:=K) (by kernel_rfl) j p 1 c 0 1 f [] (zaQ (zaQ (zaQ (zaQ (zaQ (fun t v z=>by rw[Tr.get_nil] at z; cases z) (ha3 _ _ g10)) (ha3 _ _ g3.1)) (ha3 _ _ g3.2.1)) (ha3 _ _ g3.2.2.1)) (ha3 _ _ g3.2.2.2)) h3 (fun x h'=>x=.ret∧h'= h3) ⟨fun _=>ins.mono fun r h' q=>⟨rfl,q.symm⟩,fun z=>absurd hj z⟩).mono ?_)
 rintro x e4 h4 ⟨rfl,rfl⟩
 exact⟨.inr rfl,_,rfl,rfl,rfl⟩
theorem zqi (kk:KUb K) {tx st:Nat} {q:Tr3} {len n:Nat} (ht:tx≤281474976710655):Wf Tryz.prog K 80 [uV tx st q len n] h fun v h'=>v=.int .i64 ((tx % 4:Nat):Int)∧Old h h':=by
 refine zmX kk.uSlot _ _ _ _ _ _ _ h _ fun g e=>⟨_,zah (zac e) rfl,by decide,fun i2 e2 i3 e3=>?_⟩
 have e2:i2=((tx % 4:Nat):Int):=e2.trans (zz4 tx 4)
 subst e2
 have e3:=zaJ e3 (by omega) (by omega)
 subst e3
 exact⟨rfl,zaa e⟩
theorem zCJ:zaZ Tryz.prog 116 44 7 56:=zaG (by kernel_rfl)
def ziR (tx st:Nat) (q:Tr3) (len n:Nat) (u:Nat):List Nat:=if u=1 then zdG tx st q len n else List.replicate 128 0
theorem zuj (tx st:Nat) (q:Tr3) (len n:Nat) (u:Nat):Sec (ziR tx st q len n u):=by
 unfold ziR
 split
 ·exact zea ..
 ·exact zck
theorem zwj (kk:KUb K) {d:Nat} {F:List Nat} {W:Nat} {nw:List (List Nat)} (D:zcN h d F W nw) {tx st:Nat} {q:Tr3} {len n:Nat} (u:UOk tx st q len n) (hm:tx % 4=1) (hr:∀i,i < 4→nw[i]?= some (ziR tx st q len n i)):
 Wf Tryz.prog K 62 [.pointer (some ⟨d,0,none⟩)] h fun v g=>∃p c,v=.slice p 1 c∧zbe h.next g 44 7 p 1 c (uC tx st q len n)∧zcN g d F W nw∧Fr F h g F:=by
 have hF:=D.lt
 refine zmY kk.uList _ h _ ⟨fun p m c i k g=>∃x:Nat,i=x∧x≤4∧4 - x=k∧zcN g d F W nw∧Fr F h g F∧zbe h.next g 44 7 p m c (if x≤1 then [] else uC tx st q len n)∧m=(if x≤1 then 0 else 1)∧(x≤1→p=none),⟨4,0,rfl,by decide,rfl,D,(Old.refl h).fr F,zbe.nil _ _ _ _,rfl,fun _=>rfl⟩,?_⟩
 rintro k g p m c i ⟨x,rfl,hx,rfl,D2,f2,G2,rfl,hp0⟩
 refine⟨fun z=>(ztz kk.kl.dRead kk.kl.dCount kk.kl.dHas D2 _).mono ?_,fun z=>?_⟩
 ·have hx4:x < 4:=by omega
  have hnl:x < nw.length:=(List.getElem?_eq_some_iff.1 (hr x hx4)).1
  rintro _ g9 ⟨D9,f9,⟨s, -,hs,rfl⟩ | ⟨z2, -⟩⟩
  rotate_left
  ·exact absurd (by omega) z2
  rw[Int.toNat_natCast,hr x hx4] at hs
  have hs:=(Option.some.inj hs).symm
  subst hs
  have hsec:=zuj tx st q len n x
  have G9:=G2.frM f9 fun a e=>by
   rcases G2.2 with ⟨e2, -⟩ | ⟨b,e2,hb, -⟩
   ·rw[e2] at e; cases e
   ·rw[e2] at e; cases e; exact fun z=>by have:b < h.next:=hF _ z; omega
  have f29:=f2.trans f9
  refine⟨_,_,rfl,fun g12 e12=>⟨zaw hsec,?_⟩⟩
  obtain⟨g13,k13,n13,o13,m13⟩:=zaF e12 (vs:=za8 (ziR tx st q len n x)) (by rw[zaw hsec]; rfl)
  have w13:=(m13 [] (fun c hc=>by cases hc)).1
  refine⟨g13,k13,fun _=>⟨_,zao w13 (zaw hsec),?_⟩,fun z=>absurd rfl z⟩
  by_cases hx1:x=1
  ·subst hx1
   have e1:ziR tx st q len n 1=zdG tx st q len n:=rfl
   rw[e1]
   refine (zrv kk u).mono ?_
   rintro _ g16 ⟨rfl,o16⟩
   refine⟨_,_,_,_,_,_,_,.inl ⟨rfl,fun g24 e24=>⟨rfl,?_⟩⟩⟩
   obtain⟨g25,k25,n25,o25,m25⟩:=zaF e24 (vs:=uC tx st q len n) rfl
   have w25:=(m25 [] (fun c hc=>by cases hc)).1
   refine⟨g25,k25,_,_,_,_,_,_,_,zao w25 rfl,(zqi kk u.1.2).mono ?_⟩
   rintro _ g34 ⟨rfl,o34⟩
   have w34:g34.get g16.next=_:=(o34.2 _ (by omega)).trans w25
   have o4:Old g9 g34:=o13.trans (o16.trans (o25.trans o34))
   have l4:=o4.1
   have G34:=G9.old o4
   refine⟨_,rfl,fun _=>⟨_,_,_,_,_,_,_,zao w34 rfl,fun g43 e43=>?_⟩,fun z=>absurd (by rw[hm]) z⟩
   have l9:=f29.1
   obtain⟨p',c',g47,k47,G47,o47,hap, -⟩:=G34.push zCJ (by omega) (m:=1) (ns:=uC tx st q len n) e43 rfl (Nat.le_of_ble_eq_true rfl) (by decide)
   obtain rfl:=hp0 (Nat.le_refl _)
   have o47' : Old g34 g47:=⟨o47.1,fun b hb=>hap b hb trivial⟩
   have o5:=o4.trans o47'
   exact⟨p',_,c',g47,k47,fun i48 e48=>⟨2,by decide,2,e48.trans (by decide),by decide,rfl,D9.old o5,f29.trans (o5.fr F),G47,rfl,fun z=>absurd z (by decide)⟩⟩
  ·have e1:ziR tx st q len n x=List.replicate 128 0:=if_neg hx1
   rw[e1]
   refine (zui kk).mono ?_
   rintro _ g16 ⟨rfl,o16⟩
   refine⟨_,_,_,_,_,_,_,.inr ⟨rfl,fun g50 e50=>⟨rfl,?_⟩⟩⟩
   obtain⟨g51,k51,n51,o51,m51⟩:=zaF e50 (vs:=uC 0 0 hole 0 0) rfl
   have o4:Old g9 g51:=o13.trans (o16.trans o51)
   refine⟨g51,k51,fun i52 e52=>?_⟩
   have e52:=zaJ e52 (by omega) (by omega)
   have e2:(x+1≤1↔x≤1):=by omega
   refine⟨4 - (x+1),by omega,x+1,by omega,by omega,rfl,D9.old o4,f29.trans (o4.fr F),?_,?_,fun z=>hp0 (by omega)⟩
   ·simp only[e2]; exact G9.old o4
   ·simp only[e2]
 ·obtain rfl:x=4:=by omega
  refine (zyP kk).mono ?_
  rintro _ g5 ⟨-,rfl⟩
  exact⟨p,c,rfl,G2,D2,f2⟩
theorem zwk (kk:KUb K) {d:Nat} {F:List Nat} {W:Nat} {nw:List (List Nat)} (D:zcN h d F W nw) {tx st:Nat} {q:Tr3} {len n:Nat} (u:UOk tx st q len n) (hm:tx % 4=1) (hr:∀i,i < 4→nw[i]?= some (ziR tx st q len n i)):
 Wf Tryz.prog K 43 [.pointer (some ⟨d,0,none⟩)] h fun v g=>v=.tuple #[uV tx st q len n,.bool true]∧zcN g d F W nw∧Fr F h g F:=by
 have hF:=D.lt
 refine zmZ kk.uBest _ h _ fun g0 e0=>?_
 have o0:=zaa e0
 have n0:=zab e0
 refine (zwj kk (D.old o0) u hm hr).mono ?_
 rintro _ g ⟨p,c,rfl,G,D2,f2⟩
 have w:g.get h.next=some (.cells (uC 0 0 hole 0 0) 44 false):=(f2.2.1 _ (by omega) (fun z=>by have:=hF _ z; omega)).trans (zac e0)
 refine⟨p,1,c,rfl,fun z=>absurd z (by decide),fun _ i14 e14=>?_⟩
 obtain rfl:i14=0:=e14.trans (by decide)
 obtain⟨b,off,rfl,hl, -⟩:=G.shows.getN (i:=0) (by decide)
 have nr:=zaj h.next g (.cells (uC tx st q len n) 44 false)
 refine zae ⟨by decide,by decide,_,_,_,_,_,_,_,hl,rfl,_,zaB w rfl,_,_,_,_,_,_,_,zao (zag _ _ _) rfl,rfl,D2.nearN nr (fun z=>absurd (hF _ z) (Nat.lt_irrefl _)),((o0.fr F).trans f2).near_new nr (Nat.le_refl _)⟩
theorem zrw (kk:KUb K) {d:Nat} {F:List Nat} {W:Nat} {nw:List (List Nat)} (D:zcN h d F W nw) (hW:W≤99999) (hn:4≤nw.length) {tx st:Nat} {q:Tr3} {len n:Nat} (u:UOk tx st q len n):
 Wf Tryz.prog K 54 [.pointer (some ⟨d,0,none⟩),uV tx st q len n] h fun v g=>v=.int .i64 0∧∃F',zcN g d F' 0 (nw.set (tx % 4) (zdG tx st q len n))∧Fr F h g F':=by
 have hF:=D.lt
 have hs:=zea tx st q len n
 refine zjo kk.uCommit _ _ _ _ _ _ _ _ h _ fun g0 e0=>⟨_,_,_,_,_,_,_,zao (zac e0) rfl,(znn kk u).mono ?_⟩
 have o0:=zaa e0
 have n0:=zab e0
 rintro _ g9 ⟨rfl,o9⟩
 have l9:=o9.1
 refine⟨_,_,rfl,fun g12 e12=>⟨zaw hs,?_⟩⟩
 obtain⟨g13,k13,n13,o13,m13⟩:=zaF e12 (vs:=za8 (zdG tx st q len n)) (by rw[zaw hs]; rfl)
 have w13:=(m13 [] (fun c hc=>by cases hc)).1
 have o3:Old h g13:=o0.trans (o9.trans o13)
 have c13:g13.get h.next=some (.cells (uC tx st q len n) 44 false):=(o13.2 _ (by omega)).trans ((o9.2 _ (by omega)).trans (zac e0))
 refine⟨g13,k13,fun _=>(zqg kk.dFlush kk.ks.dCount kk.ks.dSpend (D.old o3) (by omega)).mono ?_,fun z=>absurd rfl z⟩
 rintro _ g15 ⟨rfl,F1,D15,f15⟩
 have l15:=f15.1
 have hn1:h.next∉F:=fun z=>absurd (hF _ z) (Nat.lt_irrefl _)
 have hn9:g9.next∉F:=fun z=>by have:=hF _ z; omega
 have c15:g15.get h.next=_:=(f15.2.1 _ (by omega) hn1).trans c13
 have w15:g15.get g9.next=_:=(f15.2.1 _ (by omega) hn9).trans w13
 refine⟨_,rfl,fun _=>⟨_,_,_,_,_,_,_,zao c15 rfl,(zqi kk u.1.2).mono ?_⟩,fun z=>absurd rfl z⟩
 rintro _ g25 ⟨rfl,o25⟩
 have w25:g25.get g9.next=_:=(o25.2 _ (by omega)).trans w15
 have D25:=D15.old o25
 refine⟨_,rfl,_,zao w25 (zaw hs),(zp0 kk.ks.dWrite kk.ks.dCount kk.ks.dHas kk.ks.dSpend D25 (by decide) _ hs).mono ?_⟩
 rintro _ g29 (⟨-, -,rfl,F2,D29,f29⟩ | ⟨z, -⟩)
 rotate_left
 ·exact absurd ⟨by omega,by omega⟩ z
 refine⟨_,rfl,zli ⟨zao w15 (zaw hs),zli ⟨zao w25 (zaw hs),fun _=>(zqg kk.dFlush kk.ks.dCount kk.ks.dSpend D29 (by decide)).mono ?_,fun z=>absurd rfl z⟩⟩⟩
 rintro _ g32 ⟨rfl,F3,D32,f32⟩
 rw[Int.toNat_natCast] at D32
 exact⟨_,rfl,rfl,F3,D32,(o3.fr F).trans (f15.trans ((o25.fr F1).trans (f29.trans f32)))⟩
end
end Go.Am
