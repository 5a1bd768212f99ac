/-
  SCRIPTS AS BYTES, in plain terms: texts joined, texts split, what an op is as bytes, what of bytes is a script.
-/
import Derived.Test.YtihmdaifbmchjaaGreatAmH
import Derived.Test.YtihmdaifbmchjaaGreatCpB
import Derived.Test.YtihmdaifbmchjaaGreatVScr
set_option linter.unusedVariables false
set_option linter.unusedSimpArgs false
namespace Go.Am
abbrev Bs:=List Nat
def zcP (ts:List Bs):Bs:=(ts.map fun t=>byB 2 t.length ++ t).flatten
def zgv (ts:List Bs):Bs:=byB 2 ts.length ++ zcP ts
theorem zBg (n:Nat):byB 2 n=[n % 256,n / 256 % 256]:=by simp[byB,List.range_succ]
theorem zt9 (ts us:List Bs):zcP (ts ++ us)=zcP ts ++ zcP us:=by simp[zcP]
theorem zua (t:Bs):zcP [t]=byB 2 t.length ++ t:=by simp[zcP]
theorem zka (t:Bs) (ts:List Bs):zcP (t :: ts)=byB 2 t.length ++ t ++ zcP ts:=by simp[zcP]
def zhf:Nat→Bs→Option (List Bs)
 | 0,[]=>some []
 | 0,_ :: _=>none
 | k+1,x :: y :: r=>if x+256 * y≤r.length then (zhf k (r.drop (x+256 * y))).map (r.take (x+256 * y) :: ·) else none
 | _+1,_=>none
def znl:Bs→Option (List Bs)
 | x :: y :: r=>zhf (x+256 * y) r
 | _=>none
theorem zkb:∀(ts:List Bs),(∀t∈ts,t.length < 65536)→zhf ts.length (zcP ts)=some ts
 | [],_=>rfl
 | t :: ts,h=>by
   have ht:=h t List.mem_cons_self
   have e:t.length % 256+256 * (t.length / 256 % 256)=t.length:=by omega
   rw[zka,zBg]
   show (if t.length % 256+256 * (t.length / 256 % 256)≤(t ++ zcP ts).length then (zhf ts.length ((t ++ zcP ts).drop (t.length % 256+256 * (t.length / 256 % 256)))).map ((t ++ zcP ts).take (t.length % 256+256 * (t.length / 256 % 256)) :: ·) else none)=_
   rw[e,if_pos (by simp),List.drop_left,List.take_left,zkb ts fun u hu=>h u (List.mem_cons_of_mem _ hu)]
   rfl
theorem zrp {ts:List Bs} (hl:ts.length < 65536) (h:∀t∈ts,t.length < 65536):znl (zgv ts)=some ts:=by
 unfold zgv
 rw[zBg]
 show zhf (ts.length % 256+256 * (ts.length / 256 % 256)) (zcP ts)=some ts
 rw[show ts.length % 256+256 * (ts.length / 256 % 256)=ts.length by omega]
 exact zkb ts h
structure OpP where
 kind:Int
 name:ByteArray
 to:ByteArray
 n:Int
 data:Bs
 keep:List Bool
def hN (k:Int):Prop:=(0≤k∧k≤3)∨k=10∨k=12
def zCE (k:Int):Prop:=0≤k∧k≤8
def hTo (k:Int):Prop:=k=5
def zCF (k:Int):Prop:=k=1∨k=12
def zCG (k:Int):Prop:=k=11
structure zEp (o:OpP):Prop where
 lo:0≤o.kind
 hi:o.kind≤12
 name:zCE o.kind∨o.name.size=0
 nameL:o.name.size≤60
 to:hTo o.kind∨o.to.size=0
 toL:o.to.size≤60
 n:hN o.kind∨o.n=0
 nLo:-1≤o.n
 nHi:o.n≤65534
 data:zCF o.kind∨o.data.length=0
 dataL:o.data.length≤129
 keep:zCG o.kind∨o.keep.length=0
 keepL:o.keep.length≤64
theorem ziN:∀(ts:List Bs),(zcP ts).length=(ts.map fun t=>2+t.length).sum
 | []=>rfl
 | t :: ts=>by rw[zka,List.map_cons,List.sum_cons,List.length_append,List.length_append,zaP,ziN ts]
theorem zub (ts:List Bs):(zgv ts).length=2+(ts.map fun t=>2+t.length).sum:=by rw[zgv,List.length_append,zaP,ziN]
theorem zwe {ts:List Bs} (h:∀t∈ts,∀x∈t,x < 256):∀x∈zgv ts,x < 256:=by
 intro x hx
 rw[zgv,List.mem_append] at hx
 rcases hx with hx | hx
 ·exact byB_lt hx
 ·simp only[zcP,List.mem_flatten,List.mem_map] at hx
  obtain⟨l,⟨t,ht,rfl⟩,hx⟩:=hx
  rw[List.mem_append] at hx
  rcases hx with hx | hx
  ·exact byB_lt hx
  ·exact h t ht x hx
structure zEq where
 secs:Int
 ops:List OpP
structure zEr (s:zEq):Prop where
 lo:64≤s.secs
 hi:s.secs≤1024
 len:s.ops.length≤200
 ops:∀o∈s.ops,zEp o
set_option maxRecDepth 100000
open Go.Proofs
theorem zaW.appendX {P:Program} {lim:Nat} {h:AH} {st elem:TypeId} {sz by' : Nat} {b n c:Nat} {cs:List Value} (g:zaW lim h elem sz b n c cs) (E:zaZ P st elem sz by')
 {x:Value} {m:Nat} {ns:List Value} (hx:zlx x=some m) (hfn:firstC h sz m x=some ns) (hns:ns.length=m * sz) (hroom:n+m≤c):
 ∃h',zal P h .append #[st,st] [.slice (some ⟨b,0,none⟩) n c,x]=some (.slice (some ⟨b,0,none⟩) (n+m) c,h')∧zaW lim h' elem sz b (n+m) c (cs ++ ns)∧za9 b h h':=by
 have gs:=g.shows
 obtain⟨h1,h2,h3,h4',h5,rest,h6,h7⟩:=g
 obtain⟨hu,i,z,hi,hz,hzs,hpos,rfl,rfl⟩:=E
 have hfc:firstC h i.size n (.slice (some ⟨b,0,none⟩) n c)=some cs:=gs.firstC (.inr ⟨b,0,rfl⟩)
 rw[List.length_append] at h7
 have hns2:ns.length≤rest.length:=by
  have:(n+m) * i.size≤c * i.size:=Nat.mul_le_mul_right _ hroom
  rw[Nat.add_mul] at this
  omega
 cases m with
 | zero=>
   have:ns=[]:=by simpa using hns
   subst this
   refine⟨h,?_,⟨by simpa using h1,h2,h3,h4',h5,rest,by simpa using h6,by simpa using h7⟩,rfl,fun _ _=>rfl⟩
   rw[zaT hu]
   unfold zaS
   simp only[hu,hi,hx,hfc,hfn,hz]
   rw[if_pos ⟨hzs,hpos,hns,h1⟩,if_neg (by omega),if_pos hroom]
   rfl
 | succ m'=>
   refine⟨h.set b (.cells (cs ++ ns ++ rest.drop ns.length) elem false),?_,⟨by rw[List.length_append,h1,hns,←Nat.add_mul],h2,h3,hroom,h5,rest.drop ns.length,zag _ _ _,?_⟩,rfl,fun x hx=>zaN hx⟩
   ·rw[zaT hu]
    unfold zaS
    simp only[hu,hi,hx,hfc,hfn,hz]
    rw[if_pos ⟨hzs,hpos,hns,h1⟩,if_neg (by omega),if_pos hroom]
    have:zas h b (0+n * i.size) ns=some (h.set b (.cells (cs ++ ns ++ rest.drop ns.length) elem false)):=by
     unfold zas
     rw[h6]
     simp only
     rw[if_pos (by rw[List.length_append]; omega),Nat.zero_add,←h1,List.take_left,List.drop_append]
     rw[List.drop_eq_nil_of_le (by omega),List.nil_append,show cs.length+ns.length - cs.length=ns.length by omega]
    rw[this]
   ·rw[List.length_append,List.length_append,List.length_drop]; omega
def zrq (h:AH) (p:Option Addr) (n:Nat) (ts:List Bs):Prop:=n=ts.length∧∃cells,zaq h p n 1 cells∧∀(i:Nat) (hi:i < ts.length),∃p' n' c',cells[i]?= some (.slice p' n' c')∧zp4 h p' n' ts[i]
theorem zrq.old {h h' : AH} {p:Option Addr} {n:Nat} {ts:List Bs} (t:zrq h p n ts) (o:Old h h'):zrq h' p n ts:=by
 obtain⟨t2,cells,t3,t4⟩:=t
 refine⟨t2,cells,t3.old o,fun i hi=>?_⟩
 obtain⟨p',n',c',q1,q2⟩:=t4 i hi
 exact⟨p',n',c',q1,q2.old o⟩
theorem zrq.at {h:AH} {p:Option Addr} {n:Nat} {ts:List Bs} (t:zrq h p n ts) {i:Nat} (hi:i < n):∃b off,p=some ⟨b,off,none⟩∧∃(hi' : i < ts.length),∃p' n' c',ld1 h b (off+i)=some (.slice p' n' c')∧zp4 h p' n' ts[i]:=by
 obtain⟨t2,cells,t3,t4⟩:=t
 obtain⟨b,off,hp,hld⟩:=t3.get hi
 obtain⟨p',n',c',q1,q2⟩:=t4 i (by omega)
 exact⟨b,off,hp,by omega,p',n',c',by rw[hld,q1],q2⟩
theorem zqd (n:Nat):zba .shr .i64 (n:Int) 8=some (.int .i64 ((n / 256:Nat):Int)):=by
 unfold zba
 rw[if_neg (by omega)]
 have h1:min ((8:Int)).toNat (IntKind.bits .i64)=8:=by decide
 simp only[h1]
 congr 2
 rw[Int.fdiv_eq_ediv_of_nonneg _ (by decide)]
 omega
theorem zwf {x:Nat} (hx:x < 256):zba .shl .i64 (x:Int) 8=some (.int .i64 ((256 * x:Nat):Int)):=by
 unfold zba
 rw[if_neg (by omega)]
 have h1:min ((8:Int)).toNat (IntKind.bits .i64)=8:=by decide
 simp only[h1]
 have e:(x:Int) * 2 ^ 8=((256 * x:Nat):Int):=by omega
 rw[e,zbW (by omega) (by omega)]
theorem zyL {a b:Nat} (ha:a < 256) (hb:b < 256):zcd .or .i64 (a:Int) ((256 * b:Nat):Int)=some (.int .i64 ((a+256 * b:Nat):Int)):=by
 unfold zcd
 simp only
 congr 2
 have h1:BitVec.ofInt (IntKind.bits .i64) (a:Int)=BitVec.ofNat 64 a:=by exact BitVec.ofInt_natCast 64 a
 have h2:BitVec.ofInt (IntKind.bits .i64) ((256 * b:Nat):Int)=BitVec.ofNat 64 (256 * b):=by exact BitVec.ofInt_natCast 64 _
 rw[h1,h2]
 have h3:(BitVec.ofNat 64 a ||| BitVec.ofNat 64 (256 * b)).toNat=a+256 * b:=by
  rw[BitVec.toNat_or,BitVec.toNat_ofNat,BitVec.toNat_ofNat,Nat.mod_eq_of_lt (by omega),Nat.mod_eq_of_lt (by omega)]
  rw[Nat.or_comm,show 256 * b=2 ^ 8 * b from rfl,←Nat.two_pow_add_eq_or_of_lt (by omega),Nat.add_comm]
 show IntKind.i64.wrap (((BitVec.ofNat 64 a ||| BitVec.ofNat 64 (256 * b)).toNat:Nat):Int)=_
 rw[h3,zbW (by omega) (by omega)]
def zcy (ts:List Bs):Nat:=(ts.map fun t=>2+t.length).sum
theorem znm (ts us:List Bs):zcy (ts ++ us)=zcy ts+zcy us:=by simp[zcy]
theorem zev:∀(ts:List Bs) (j:Nat),zcy (ts.take j)≤zcy ts
 | [],j=>by simp
 | t :: ts,0=>by simp[zcy]
 | t :: ts,j+1=>by
   have:=zev ts j
   simp only[List.take_succ_cons,zcy,List.map_cons,List.sum_cons] at *
   omega
theorem zqe:∀{ts:List Bs},(∀t∈ts,t.length≤65535)→zcy ts≤ts.length * 65537
 | [],_=>Nat.zero_le _
 | t :: ts,h=>by
   have h1:=h t (by simp)
   have h2:=zqe (ts:=ts) fun x hx=>h x (by simp[hx])
   simp only[zcy,List.map_cons,List.sum_cons,List.length_cons] at *
   omega
theorem zrr (ts:List Bs):(zcP ts).length=zcy ts:=ziN ts
theorem zxf (n:Nat):IntKind.wrap .u8 ((n:Nat):Int)=((n % 256:Nat):Int):=zpT n
theorem ziO {ts:List Bs} {j:Nat} (hj:j < ts.length):ts.take (j+1)=ts.take j ++ [ts[j]]:=List.take_succ_eq_append_getElem hj
theorem zqf (a b:Nat):zav .u8 [a,b]=[.int .u8 (a:Int),.int .u8 (b:Int)]:=rfl
section
variable {K:Xs} {h:AH}
theorem zwg (hk:K 133=none) {p:Option Addr} {n c:Nat} {ts:List Bs} (T:zrq h p n ts) (hl:ts.length≤65535) (ht:∀t∈ts,t.length≤65535):
 Wf Tryz.prog K 133 [.slice p n c] h fun v h'=>(∃b,v=.tuple #[.slice (some ⟨b,0,none⟩) (zgv ts).length (2+zcy ts),.int .i64 0]∧h.next≤b∧b < h'.next∧zaq h' (some ⟨b,0,none⟩) (zgv ts).length 1 (zav .u8 (zgv ts)))∧Old h h':=by
 obtain rfl:n=ts.length:=T.1
 have sz:=zqe ht
 refine zk2 hk _ _ _ h _ ⟨fun z=>absurd z (by omega),fun _=>⟨fun i4 i5 k g=>∃j:Nat,i5=j∧i4=((2+zcy (ts.take j):Nat):Int)∧j≤ts.length∧ts.length - j=k∧h=g,⟨_,0,rfl,rfl,Nat.zero_le _,rfl,rfl⟩,?_⟩⟩
 rintro k g i4 i5 ⟨j,rfl,rfl,hj,rfl,rfl⟩
 have sj:=zev ts j
 refine⟨fun z=>?_,fun z=>?_⟩
 ·have hj' : j < ts.length:=by omega
  obtain⟨b,off,rfl,_,p',n',c',hld,tx⟩:=T.at hj'
  have hlen:=ht _ (List.getElem_mem hj')
  have e1:zcy (ts.take (j+1))=zcy (ts.take j)+(2+ts[j].length):=by rw[ziO hj',znm]; simp[zcy]
  have sj1:=zev ts (j+1)
  have hn:=tx.2.1
  refine zae ⟨by omega,z,p',n',c',by rw[Int.toNat_natCast,Nat.mul_one]; exact hld,fun y=>absurd y (by omega),fun _ i11 e11 i12 e12 i13 e13=>?_⟩
  have e11:=zaJ e11 (by omega) (by omega)
  have e12:=zaJ e12 (by omega) (by omega)
  have e13:=zaJ e13 (by omega) (by omega)
  exact⟨_,by omega,j+1,by rw[e13]; rfl,by rw[e12,e11,e1,hn]; omega,hj',rfl,rfl⟩
 ·obtain rfl:j=ts.length:=by omega
  rw[List.take_length] at *
  refine⟨⟨by omega,by omega,by omega,by omega⟩,fun g14 e14 i15 e15=>⟨_,zqd _,fun i17 e17 g18 e18=>?_⟩⟩
  rw[zxf] at e15 e17
  subst e15 e17
  have o14:=zaa e14
  have hg0:zaW h.next g14 5 1 h.next 0 (2+zcy ts) []:=zaW.make e14 (by rw[Int.toNat_natCast]; simp) (by simp only[zak]; omega)
  have e18' : g18=g14.alloc (.cells (zav .u8 (byB 2 ts.length)) 5 false):=by rw[zBg,zqf]; exact e18
  obtain⟨g22,k22,G22,n22,f22⟩:=hg0.push eU8 e18' (m:=2) (by rw[zam,zaP]) (by decide) (by omega)
  have n14:=zab e14
  refine⟨some ⟨h.next,0,none⟩,0+2,2+zcy ts,g22,by rw[Int.toNat_natCast]; exact k22,fun p27 n28 c29 i30 k g=>∃j:Nat,i30=j∧j≤ts.length∧ts.length - j=k∧p27=some ⟨h.next,0,none⟩∧c29=2+zcy ts∧Old h g∧zaW h.next g 5 1 h.next n28 (2+zcy ts) (zav .u8 (byB 2 ts.length ++ zcP (ts.take j))),
   ⟨_,0,rfl,Nat.zero_le _,rfl,rfl,by omega,⟨by omega,fun b hb=>?_⟩,by simpa[zcP] using G22⟩,?_⟩
  ·rw[f22 b (by omega) (by omega),o14.2 b hb]
  rintro k24 g25 p27 n28 c29 i30 ⟨j,rfl,hj,rfl,rfl,rfl,o25,G25⟩
  refine⟨fun z=>?_,fun z=>?_⟩
  ·have hj' : j < ts.length:=by omega
   obtain⟨b,off,rfl,_,p',n',c',hld,tx⟩:=(T.old o25).at hj'
   have hlen:=ht _ (List.getElem_mem hj')
   have hn:=tx.2.1
   have e1:zcP (ts.take (j+1))=zcP (ts.take j) ++ (byB 2 ts[j].length ++ ts[j]):=by rw[ziO hj',zt9,zua]
   have s1:zcy (ts.take (j+1))=zcy (ts.take j)+(2+ts[j].length):=by rw[ziO hj',znm]; simp[zcy]
   have sj1:=zev ts (j+1)
   have hn28:n28=2+zcy (ts.take j):=by have:=G25.1; rw[zam,List.length_append,zaP,zrr] at this; omega
   refine zae ⟨by omega,z,p',n',c',by rw[Int.toNat_natCast,Nat.mul_one]; exact hld,fun i36 e36=>⟨_,zqd _,fun i38 e38 g39 e39=>?_⟩⟩
   rw[zxf] at e36 e38
   subst e36 e38
   have e39' : g39=g25.alloc (.cells (zav .u8 (byB 2 n')) 5 false):=by rw[zBg,zqf]; exact e39
   obtain⟨g43,k43,G43,n43,f43⟩:=G25.push eU8 e39' (m:=2) (by rw[zam,zaP]) (by decide) (by omega)
   have o43:Old h g43:=⟨by have:=o25.1; omega,fun b hb=>by rw[f43 b (by have:=o25.1; omega) (by omega),o25.2 b hb]⟩
   have tx43:zp4 g43 p' n' ts[j]:=by
    obtain⟨hj2,p2,n2,c2,h2,t2⟩:∃(_:j < ts.length),∃p2 n2 c2,ld1 h b (off+j)=some (.slice p2 n2 c2)∧zp4 h p2 n2 ts[j]:=by
     obtain⟨b',off',hp',hj2,p2,n2,c2,h2,t2⟩:=T.at hj'
     cases hp'
     exact⟨hj2,p2,n2,c2,h2,t2⟩
    obtain⟨b',off',hp',hj3,p3,n3,c3,h3,t3⟩:=T.at hj'
    cases hp'
    have hb:b < h.next:=by
     rcases T.2 with ⟨cells,S, -⟩
     rcases S.2 with q | ⟨b5,off5,al,e5,ro,hp5,hb5, -⟩
     ·omega
     ·cases hp5; exact hb5
    have:ld1 g25 b (off+j)=ld1 h b (off+j):=by unfold ld1; rw[o25.2 b hb]
    rw[hld,h3] at this
    cases this
    exact t3.old o43
   obtain⟨g47,k47,G47,n47⟩:=G43.appendX eU8 (x:=.slice p' n' c') (m:=n') rfl (tx43.2.2.2.1.firstC tx43.1) tx43.2.2.2.1.1 (by omega)
   refine⟨_,_,_,g43,k43,_,_,_,g47,k47,fun i48 e48=>?_⟩
   have e48:=zaJ e48 (by omega) (by omega)
   refine⟨_,by omega,j+1,by rw[e48]; rfl,hj',rfl,rfl,rfl,o43.near n47 (Nat.le_refl _),?_⟩
   rw[e1,←hn,←List.append_assoc,←List.append_assoc,zaI,zaI]
   exact G47
  ·obtain rfl:j=ts.length:=by omega
   rw[List.take_length] at G25
   have hj2:(zgv ts).length=n28:=by have:=G25.1; rw[zam] at this; simp only[zgv]; omega
   rw[←hj2] at G25 ⊢
   exact⟨⟨_,rfl,Nat.le_refl _,G25.2.2.1,G25.shows⟩,o25⟩
end
def zhg (lim:Nat) (g:AH) (p:Option Addr) (n c:Nat) (ts:List Bs):Prop:=n=ts.length∧∃cells,zbe lim g 53 1 p n c cells∧∀(i:Nat) (hi:i < ts.length),∃p' n' c',cells[i]?= some (.slice p' n' c')∧zp4 g p' n' ts[i]∧ztt Tryz.prog g 5 p' n' c'∧∀a,p'= some a→lim≤a.block∧a.block < g.next∧apart p a.block
theorem zxg:zaZ Tryz.prog 155 53 1 24:=zaG (by kernel_rfl)
theorem zp4.kept {h h' : AH} {p:Option Addr} {n:Nat} {data:List Nat} (t:zp4 h p n data) (hn:h.next≤h'.next) (k:∀a,p=some a→h'.get a.block=h.get a.block):zp4 h' p n data:=⟨t.1,t.2.1,t.2.2.1,t.2.2.2.1.kept hn k,t.2.2.2.2⟩
theorem zhg.nil (lim:Nat) (g:AH):zhg lim g none 0 0 []:=⟨rfl,[],zbe.nil _ _ _ _,fun i hi=>absurd hi (Nat.not_lt_zero _)⟩
theorem zhg.kept {lim:Nat} {g g' : AH} {p:Option Addr} {n c:Nat} {ts:List Bs} (R:zhg lim g p n c ts) (hn:g.next≤g'.next) (k:∀b,lim≤b→b < g.next→g'.get b=g.get b):zhg lim g' p n c ts:=by
 obtain⟨h1,cells,h2,h3⟩:=R
 refine⟨h1,cells,⟨h2.1,?_⟩,fun i hi=>?_⟩
 ·rcases h2.2 with z | ⟨b,q1,q2,q3,q4,q5⟩
  ·exact .inl z
  ·exact .inr ⟨b,q1,q2,Nat.lt_of_lt_of_le q3 hn,by rw[k b q2 q3]; exact q4,q5⟩
 ·obtain⟨p',n',c',q1,q2,q3,q4⟩:=h3 i hi
  exact⟨p',n',c',q1,q2.kept hn fun a ha=>k _ (q4 a ha).1 (q4 a ha).2.1,q3.kept fun a ha=>k _ (q4 a ha).1 (q4 a ha).2.1,fun a ha=>⟨(q4 a ha).1,Nat.lt_of_lt_of_le (q4 a ha).2.1 hn,(q4 a ha).2.2⟩⟩
theorem zhg.push {lim:Nat} {g g4:AH} {p:Option Addr} {n c:Nat} {ts:List Bs} (R:zhg lim g p n c ts) (hl:lim≤g.next) {p' : Option Addr} {n' c' : Nat} {t:Bs} (T:zp4 g p' n' t) (C:ztt Tryz.prog g 5 p' n' c') (hp:∀a,p'= some a→lim≤a.block∧a.block < g.next∧apart p a.block)
 (e4:g4=g.alloc (.cells [.slice p' n' c'] 53 false)) (hm:ts.length≤1000000):
 ∃p2 c2 g2,zal Tryz.prog g4 .append #[155,155] [.slice p n c,.slice (some ⟨g.next,0,none⟩) 1 1]=some (.slice p2 (n+1) c2,g2)∧zhg lim g2 p2 (n+1) c2 (ts ++ [t])∧znx lim g g2∧∀b,b < g.next→apart p b→g2.get b=g.get b:=by
 obtain⟨h1,cells,h2,h3⟩:=R
 obtain⟨p2,c2,g2,k2,G2,o2,f2,m2⟩:=h2.push zxg hl e4 (m:=1) rfl (by have:zaE=140737488355328:=rfl; omega) (by omega)
 obtain⟨b2,rfl,hb2⟩:=m2 (by omega)
 have cl:cells.length=ts.length:=by have:=h2.1; omega
 refine⟨_,c2,g2,k2,⟨by simp[h1],_,G2,fun i hi=>?_⟩,o2,f2⟩
 by_cases hi' : i < ts.length
 ·obtain⟨q',m',d',q1,q2,q3,q4⟩:=h3 i hi'
  refine⟨q',m',d',by rw[List.getElem?_append_left (by omega)]; exact q1,?_,q3.kept fun a ha=>f2 _ (q4 a ha).2.1 (q4 a ha).2.2,fun a ha=>⟨(q4 a ha).1,by have:=(q4 a ha).2.1; have:=o2.1; omega,by have:=(q4 a ha).2.1; show b2≠a.block; omega⟩⟩
  rw[List.getElem_append_left hi']
  exact q2.kept o2.1 fun a ha=>f2 _ (q4 a ha).2.1 (q4 a ha).2.2
 ·have hie:i=ts.length:=by simp at hi; omega
  subst hie
  refine⟨p',n',c',by rw[List.getElem?_append_right (by omega)]; simp[cl],?_,C.kept fun a ha=>f2 _ (hp a ha).2.1 (hp a ha).2.2,fun a ha=>⟨(hp a ha).1,by have:=(hp a ha).2.1; have:=o2.1; omega,by have:=(hp a ha).2.1; show b2≠a.block; omega⟩⟩
  simp only[List.getElem_append_right (Nat.le_refl _),Nat.sub_self,List.getElem_cons_zero]
  exact T.kept o2.1 fun a ha=>f2 _ (hp a ha).2.1 (hp a ha).2.2
theorem zcn (k:IntKind) (l:List Nat) (m:Nat):(zav k l).take m=zav k (l.take m):=by simp[zav,List.map_take]
theorem zdl (k:IntKind) (l:List Nat) (m:Nat):(zav k l).drop m=zav k (l.drop m):=by simp[zav,List.map_drop]
section
variable {K:Xs} {h:AH}
theorem ziP (hk:K 130=none) {p:Option Addr} {n c:Nat} (h2:n < 2):
 Wf Tryz.prog K 130 [.slice p n c] h fun v h'=>v=.tuple #[.int .i64 0,.slice none 0 0,.bool false]∧h=h':=
 zdX hk _ _ _ h _ ⟨fun _=>⟨rfl,rfl⟩,fun z=>absurd z (by omega)⟩
theorem zkc (hk:K 130=none) {p:Option Addr} {n c x y:Nat} {r:List Nat} (S:zaq h p n 1 (zav .u8 (x :: y :: r))) (hx:x < 256) (hy:y < 256) (C:ztt Tryz.prog h 5 p n c):
 Wf Tryz.prog K 130 [.slice p n c] h fun v h'=>h=h'∧∃p' c',v=.tuple #[.int .i64 ((x+256 * y:Nat):Int),.slice p' (n - 2) c',.bool true]∧zaq h p' (n - 2) 1 (zav .u8 r)∧ztt Tryz.prog h 5 p' (n - 2) c'∧(∀b off,p=some ⟨b,off,none⟩→∃off',p'= some ⟨b,off',none⟩):=by
 have hn:n=r.length+2:=by have:=S.1; rw[zam] at this; simp at this; omega
 refine zdX hk _ _ _ h _ ⟨fun z=>absurd z (by omega),fun _=>?_⟩
 obtain⟨b,off,rfl,l0⟩:=S.get (i:=0) (by omega)
 obtain⟨b',off',e,l1⟩:=S.get (i:=1) (by omega)
 simp only[Option.some.injEq,Addr.mk.injEq,and_true] at e
 obtain⟨rfl,rfl⟩:=e
 refine zae ⟨by omega,by omega,(x:Int),by simpa[zav] using l0,fun i3 e3=>zae ⟨by omega,by omega,(y:Int),by simpa[zav] using l1,fun i7 e7=>?_⟩⟩
 have e3:=zaJ e3 (by omega) (by omega)
 have e7:=zaJ e7 (by omega) (by omega)
 subst e3 e7
 obtain⟨p',c',k,hp, -,C'⟩:=zDj eU8 (by simp) C (some 2) none (by simp[zi7]; omega) (Nat.le_refl _)
 refine⟨_,zwf hy,_,zyL hx hy,p',n - 2,c',k,rfl,p',c',rfl,?_,C',fun b2 off2 z=>?_⟩
 ·have:=S.cut2 (lo:=2) (hi:=n) (by omega) (Nat.le_refl _) hp
  rw[zdl,zcn] at this
  simp only[List.drop_succ_cons,List.drop_zero,Nat.mul_one,Nat.reduceMul] at this
  rw[List.take_of_length_le (by omega)] at this
  exact this
 ·obtain⟨o',h1, -⟩:=hp b2 off2 z
  exact⟨o',h1⟩
theorem zAv {r:Bs} (h:¬r.length < 2):∃x y l,r=x :: y :: l:=by
 match r,h with
 | x :: y :: l,_=>exact⟨x,y,l,rfl⟩
 | [],h=>simp at h
 | [_],h=>simp at h
theorem zuc {k:Nat} {r:Bs} (h:r.length < 2):zhf (k+1) r=none:=by
 match r,h with
 | [],_=>rfl
 | [_],_=>rfl
theorem zrs {k x y:Nat} {r:Bs} (h:x+256 * y≤r.length):zhf (k+1) (x :: y :: r)=(zhf k (r.drop (x+256 * y))).map (r.take (x+256 * y) :: ·):=if_pos h
theorem zo1 {k x y:Nat} {r:Bs} (h:r.length < x+256 * y):zhf (k+1) (x :: y :: r)=none:=if_neg (by omega)
theorem zud {r:Bs} (h:0 < r.length):zhf 0 r=none:=by cases r with | nil=>cases h | cons=>rfl
def zxh (lim:Nat) (o:Option (List Bs)) (v:Value) (g:AH):Prop:=match o with
 | some ts=>∃p c,v=.tuple #[.slice p ts.length c,.int .i64 0]∧zhg lim g p ts.length c ts
 | none=>v=.tuple #[.slice none 0 0,.int .i64 21]
theorem zrt (hk:K 97=none) (hl:K 130=none) {p:Option Addr} {n c:Nat} {data:List Nat} (T:zp4 h p n data) (C:ztt Tryz.prog h 5 p n c) (hb:∀a,p=some a→a.block < h.next):
 Wf Tryz.prog K 97 [.slice p n c] h fun v h'=>zxh h.next (znl data) v h'∧Old h h':=by
 obtain⟨pf,rfl,hmax,S,hd⟩:=T
 match data,S,hd,hmax with
 | [],S,hd,hmax=>exact zc2 hk _ _ _ h _ ((ziP hl (by decide)).mono fun v h' ⟨e1,e2⟩=>by subst e1 e2; exact⟨_,_,_,_,.inr ⟨rfl,rfl,Old.refl _⟩⟩)
 | [_],S,hd,hmax=>exact zc2 hk _ _ _ h _ ((ziP hl (by simp)).mono fun v h' ⟨e1,e2⟩=>by subst e1 e2; exact⟨_,_,_,_,.inr ⟨rfl,rfl,Old.refl _⟩⟩)
 | x :: y :: r0,S,hd,hmax=>
   have hx:=hd x (by simp)
   have hy:=hd y (by simp)
   refine zc2 hk _ _ _ h _ ((zkc hl S hx hy C).mono ?_)
   rintro _ _ ⟨rfl,p3,c5,rfl,S3,C3,hp3⟩
   have hsp:znl (x :: y :: r0)=zhf (x+256 * y) r0:=rfl
   have hb3:∀a,p3=some a→a.block < h.next:=fun a ha=>by
    rcases pf with rfl | ⟨b,off,rfl⟩
    ·rcases S.2 with z | ⟨b,off,al,e,ro,q, -⟩
     ·simp at z
     ·cases q
    ·obtain⟨o',h1⟩:=hp3 b off rfl
     rw[h1] at ha
     cases ha
     exact hb ⟨b,off,none⟩ rfl
   refine⟨_,_,_,_,.inl ⟨rfl,fun p10 n11 c12 p13 n14 c15 i16 k g=>∃done r,i16=((done.length:Nat):Int)∧done.length≤x+256 * y∧x+256 * y - done.length=k∧n11=r.length∧zaq g p10 n11 1 (zav .u8 r)∧ztt Tryz.prog g 5 p10 n11 c12∧(∀a,p10=some a→a.block < h.next)∧(p10=none∨∃b off,p10=some ⟨b,off,none⟩)∧(∀z∈r,z < 256)∧r.length≤r0.length∧
    znl (x :: y :: r0)=(zhf (x+256 * y - done.length) r).map (done ++ ·)∧zhg h.next g p13 n14 c15 done∧Old h g,
    ⟨_,[],r0,rfl,Nat.zero_le _,rfl,by simp,S3,C3,hb3,?_,fun z hz=>hd z (List.mem_cons_of_mem _ (List.mem_cons_of_mem _ hz)),Nat.le_refl _,by rw[hsp]; simp,zhg.nil _ _,Old.refl _⟩,?_⟩⟩
   ·rcases pf with rfl | ⟨b,off,rfl⟩
    ·rcases S.2 with z | ⟨b,off,al,e,ro,q, -⟩
     ·simp at z
     ·cases q
    ·obtain⟨o',h1⟩:=hp3 b off rfl
     exact .inr ⟨b,o',h1⟩
   rintro k7 g8 p10 n11 c12 p13 n14 c15 i16 ⟨done,r,rfl,hdl,rfl,rfl,S10,C10,hb10,pf10,hd10,hr0,hsplit,RG,o8⟩
   refine⟨fun z=>?_,fun z=>?_⟩
   ·have hlt:done.length < x+256 * y:=by omega
    obtain⟨k',hk'⟩:∃k',x+256 * y - done.length=k'+ 1:=⟨x+256 * y - done.length - 1,by omega⟩
    by_cases hr2:r.length < 2
    ·refine (ziP hl hr2).mono ?_
     rintro _ _ ⟨rfl,rfl⟩
     refine⟨_,_,_,_,.inr ⟨rfl,?_,o8⟩⟩
     rw[hsplit,hk',zuc hr2]
     rfl
    ·obtain⟨x',y',r',rfl⟩:=zAv hr2
     ·skip
      have hx':=hd10 x' (by simp)
      have hy':=hd10 y' (by simp)
      refine (zkc hl S10 hx' hy' C10).mono ?_
      rintro _ _ ⟨rfl,p20,c22,rfl,S20,C20,hp20⟩
      have hb20:∀a,p20=some a→a.block < h.next:=fun a ha=>by
       rcases pf10 with rfl | ⟨b,off,rfl⟩
       ·rcases S10.2 with z | ⟨b,off,al,e,ro,q, -⟩
        ·simp at z
        ·cases q
       ·obtain⟨o',h1⟩:=hp20 b off rfl
        rw[h1] at ha
        cases ha
        exact hb10 ⟨b,off,none⟩ rfl
      have pf20:p20=none∨∃b off,p20=some ⟨b,off,none⟩:=by
       rcases pf10 with rfl | ⟨b,off,rfl⟩
       ·rcases S10.2 with z | ⟨b,off,al,e,ro,q, -⟩
        ·simp at z
        ·cases q
       ·obtain⟨o',h1⟩:=hp20 b off rfl
        exact .inr ⟨b,o',h1⟩
      have hn20:(x' :: y' :: r').length - 2=r'.length:=by simp
      rw[hn20] at S20 C20 ⊢
      refine⟨_,_,_,_,.inl ⟨rfl,fun q=>⟨?_,o8⟩,fun q=>⟨⟨by omega,by omega,by omega,by omega⟩,fun g23 e23=>?_⟩⟩⟩
      ·rw[hsplit,hk',zo1 (by omega)]
       rfl
      have hsz:x'+ 256 * y'≤r'.length:=by omega
      have o23:=zaa e23
      have n23:=zab e23
      have c23:=zac e23
      rw[Int.toNat_natCast] at *
      have zl:((List.replicate (x'+ 256 * y') ([.int .u8 0]:List Value)).flatten).length=x'+ 256 * y':=by simp
      obtain⟨i24,g25,k25,n25,c25⟩:=ztu eU8 (c:=x'+ 256 * y') c23 zl (S20.old o23) pf20 (c':=c22) hsz 53
      rw[zcn] at c25
      have o25:Old h g25:=(o8.trans o23).near n25 o8.1
      have n25' : g25.next=g8.next+1:=by rw[n25.1,n23]
      have T25:zp4 g25 (some ⟨g8.next,0,none⟩) (x'+ 256 * y') (r'.take (x'+ 256 * y')):=by
       refine⟨.inr ⟨_,_,rfl⟩,by rw[List.length_take]; omega,by have:reachBytes=140737488351232:=rfl; omega,⟨by rw[zam,List.length_take]; omega,?_⟩,fun z hz=>hd10 z (List.mem_cons_of_mem _ (List.mem_cons_of_mem _ (List.mem_of_mem_take hz)))⟩
       refine .inr ⟨_,0,_,_,_,rfl,by omega,c25,?_,?_⟩
       ·rw[zam,List.length_take]; omega
       ·rw[List.drop_zero,Nat.mul_one,List.take_of_length_le (by rw[zam,List.length_take]; omega)]
      refine⟨i24,g25,k25,fun g26 e26=>?_⟩
      have RG25:zhg h.next g25 p13 n14 c15 done:=RG.kept (by omega) fun b hb1 hb2=>by rw[n25.2 b (by omega),o23.2 b hb2]
      have hap:apart p13 g8.next:=by
       obtain⟨-,cells,G, -⟩:=RG
       rcases G.2 with ⟨rfl, -⟩ | ⟨b,rfl,q1,q2, -⟩
       ·exact trivial
       ·show b≠g8.next; omega
      obtain⟨p27,c29,g30,k30,RG30,o30,f30⟩:=RG25.push (by have:=o8.1; omega) T25 (.inr ⟨_,_,rfl,.inl ⟨Nat.le_refl _,by simp only[zak]; omega⟩⟩) (fun a ha=>by cases ha; exact⟨o8.1,by show g8.next < g25.next; omega,hap⟩) e26 (by omega)
      have o30' : Old h g30:=⟨Nat.le_trans o25.1 o30.1,fun b hb=>by rw[o30.2 b hb,o25.2 b hb]⟩
      have keep30:∀a,p20=some a→g30.get a.block=g8.get a.block:=fun a ha=>by rw[o30'.2 _ (hb20 a ha),o8.2 _ (hb20 a ha)]
      obtain⟨p31,c33,k33,hp31,hpn31,C31⟩:=zDj eU8 (by simp) (C20.kept keep30) (some (x'+ 256 * y')) none (by simpa[zi7] using hsz) (Nat.le_refl _)
      refine⟨_,_,_,g30,k30,_,_,_,k33,fun i34 e34=>?_⟩
      have e34:=zaJ e34 (by omega) (by omega)
      refine⟨k',by omega,done ++ [r'.take (x'+ 256 * y')],r'.drop (x'+ 256 * y'),by rw[e34]; simp,by simp; omega,by simp; omega,by simp[zi7],?_,by simpa[zi7] using C31,fun a ha=>?_,?_,fun z hz=>hd10 z (List.mem_cons_of_mem _ (List.mem_cons_of_mem _ (List.mem_of_mem_drop hz))),by rw[List.length_drop]; simp at hr0; omega,?_,by simpa using RG30,o30'⟩
      ·have:=(S20.kept (h':=g30) (by have:=o30'.1; have:=o30.1; omega) keep30).cut2 (lo:=x'+ 256 * y') (hi:=r'.length) hsz (Nat.le_refl _) (p':=p31) (fun b off z=>by simpa[zi7] using hp31 b off z)
       rw[zdl,zcn,Nat.mul_one,Nat.mul_one,List.take_of_length_le (by rw[List.length_drop]; omega)] at this
       simpa[zi7] using this
      ·rcases pf20 with rfl | ⟨b,off,rfl⟩
       ·rw[hpn31 rfl] at ha; cases ha
       ·obtain⟨o',h1, -⟩:=hp31 b off rfl
        rw[h1] at ha
        cases ha
        exact hb20 ⟨b,off,none⟩ rfl
      ·rcases pf20 with rfl | ⟨b,off,rfl⟩
       ·exact .inl (hpn31 rfl)
       ·obtain⟨o',h1, -⟩:=hp31 b off rfl
        exact .inr ⟨b,o',h1⟩
      ·rw[hsplit,hk',zrs hsz,Option.map_map,show x+256 * y - (done ++ [r'.take (x'+ 256 * y')]).length=k' by simp; omega]
       congr 1
       funext us
       simp
   ·have hde:done.length=x+256 * y:=by omega
    rw[hde,Nat.sub_self] at hsplit
    refine⟨fun q=>⟨?_,o8⟩,fun q=>⟨?_,o8⟩⟩
    ·rw[hsplit,zud (by omega)]
     rfl
    ·have:r=[]:=List.eq_nil_of_length_eq_zero (by omega)
     subst this
     rw[hsplit]
     have hn14:n14=done.length:=RG.1
     subst hn14
     show zxh h.next (some (done ++ [])) _ g8
     rw[List.append_nil]
     exact⟨_,_,rfl,RG⟩
end
end Go.Am
