/-
  BYTES AS A SECTOR, as the document has it; sectors' keys.
-/
import Derived.Test.YtihmdaifbmchjaaGreatCpA
import Derived.Test.YtihmdaifbmchjaaGreatAmH
import Derived.Test.YtihmdaifbmchjaaGreatVNode
set_option linter.unusedVariables false
set_option linter.unusedSimpArgs false
set_option maxRecDepth 100000
namespace Go.Am
open Go.Proofs
theorem zp1 {α β:Type} {f:α→Option β}:∀(l:List α) (m:List β),m.length=l.length→(∀(i:Nat) (x:α),l[i]?= some x→f x=m[i]?)→l.mapM f=some m
 | [],[],_,_=>rfl
 | x :: l,y :: m,hl,h=>by
   have h0:=h 0 x rfl
   have ih:=zp1 (f:=f) l m (by simpa using hl) fun i x hx=>h (i+1) x hx
   simp only[List.getElem?_cons_zero] at h0
   rw[List.mapM_cons,h0,ih]
   rfl
def zyz (s:List Nat):List Lit:=s.map fun (x:Nat)=>Lit.int .u8 x
theorem zrk {P:Program} {t e:TypeId} {k:Nat} (hu:P.underlying t=some (.array k e)) {n d:Nat} (hn:n=d+1) (cs:List Value):
 P.keyLits n t cs=if cs.length=P.cellsOf t then ((List.range k).mapM fun i=>P.keyLits d e ((cs.drop (i * P.cellsOf e)).take (P.cellsOf e))).map List.flatten else none:=by
 subst hn
 rw[Program.keyLits.eq_def]
 dsimp only
 rw[hu]
theorem zp2 {α:Type}:∀l:List α,(l.map fun x=>[x]).flatten=l
 | []=>rfl
 | x :: l=>by simp only[List.map_cons,List.flatten_cons,zp2 l]; rfl
theorem zlh {α:Type} {l:List α} {i:Nat} (hi:i < l.length):(l.drop i).take 1=[l[i]]:=by
 rw[List.drop_eq_getElem_cons hi]
 rfl
theorem zCy {x:Nat} (hx:x < 256):(Lit.int .u8 (x:Int)).wf=true:=by
 simp[Lit.wf,IntKind.min,IntKind.max,IntKind.signed,IntKind.bits]
 omega
theorem zEl {s:List Nat} (hs:Sec s):(Value.agg (za8 s).toArray).formed Tryz.prog 112=true:=by
 have:=zaw hs
 simp[Value.formed,this]
theorem zDK {s:List Nat} (hs:Sec s):zcp Tryz.prog 112 (.agg (za8 s).toArray)=some (zyz s):=by
 have hl:=zaw hs
 have k3:=fun (x:Int)=>zbD (P:=Tryz.prog) Tryz.underlying5 (m:=39) (d:=38) rfl x
 rw[zkV (zEl hs),zrk Tryz.underlying112 (d:=39) rfl]
 generalize Tryz.prog.keyLits 39=KL at k3 ⊢
 simp only[List.toList_toArray]
 have hc1:Tryz.prog.cellsOf 112=128:=by simp
 have hc2:Tryz.prog.cellsOf 5=1:=by simp
 rw[if_pos (by rw[hl,hc1]),hc2]
 have:(List.range 128).mapM (fun i=>KL 5 (((za8 s).drop (i * 1)).take 1))=some (s.map fun (x:Nat)=>[Lit.int .u8 x]):=by
  refine zp1 _ _ (by simp[hs.1]) fun i x hi=>?_
  have hi128:i < 128:=by have:=(List.getElem?_eq_some_iff.1 hi).1; simpa using this
  rw[List.getElem?_range hi128] at hi
  obtain rfl:i=x:=by simpa using hi
  have hlt:i < s.length:=by rw[hs.1]; exact hi128
  rw[Nat.mul_one,zlh (by rw[hl]; exact hi128)]
  have e:(za8 s)[i]'(by rw[hl]; exact hi128)=.int .u8 (s[i]:Nat):=by simp[za8,zav]
  rw[e,k3,if_pos (zCy (hs.2 _ (List.getElem_mem hlt)))]
  simp[hlt]
 rw[this]
 simp only[Option.map_some,Option.some.injEq]
 have:=zp2 (zyz s)
 unfold zyz at this ⊢
 rw[List.map_map] at this
 exact this
theorem zp3:∀{s t:List Nat},zaC (zyz s) (zyz t)=decide (s=t)
 | [],[]=>rfl
 | [],_ :: _=>rfl
 | _ :: _,[]=>rfl
 | x :: s,y :: t=>by
   have ih:=zp3 (s:=s) (t:=t)
   show (zgW (.int .u8 x) (.int .u8 y) && zaC (zyz s) (zyz t))=_
   rw[ih]
   by_cases h1:x=y <;> by_cases h2:s=t <;> simp[zgW,h1,h2]
   ·omega
section
variable {K:Xs} {h:AH}
def part (data:List Nat) (i:Nat):List Nat:=data.take i ++ List.replicate (128 - i) 0
end
theorem zli:∀{s:List Nat} {X:Prop},X→zgQ (za8 s) X
 | [],_,x=>x
 | _ :: s,_,x=>zli (s:=s) x
section
variable {h:AH}
def zp4 (h:AH) (p:Option Addr) (n:Nat) (data:List Nat):Prop:=(p=none∨∃b off,p=some ⟨b,off,none⟩)∧n=data.length∧n≤reachBytes∧zaq h p n 1 (zav .u8 data)∧∀x∈data,x < 256
theorem zp4.old {h' : AH} {p:Option Addr} {n:Nat} {data:List Nat} (t:zp4 h p n data) (o:Old h h'):zp4 h' p n data:=⟨t.1,t.2.1,t.2.2.1,t.2.2.2.1.old o,t.2.2.2.2⟩
end
theorem zlj:∀{ws:List Nat},(∀w∈ws,w≤8)→ws.sum≤8 * ws.length
 | [],_=>Nat.le_refl _
 | w :: ws,h=>by
   have h1:=h w (by simp)
   have h2:=zlj (ws:=ws) fun x hx=>h x (by simp[hx])
   simp only[List.sum_cons,List.length_cons]
   omega
theorem eU8:zaZ Tryz.prog 53 5 1 1:=zaG (by kernel_rfl)
theorem zEm:zaZ Tryz.prog 66 22 1 8:=zaG (by kernel_rfl)
section
variable {K:Xs} {h:AH}
theorem znb (hk:K 129=none) {p:Option Addr} {n c:Nat} {ws:List Nat} (hs:zaq h p n 1 (zav .i64 ws)) (hw:∀w∈ws,1≤w∧w≤8) (hl:ws.length≤1000):
 Wf Tryz.prog K 129 [.slice p n c] h fun v h'=>v=.tuple #[.int .i64 (ws.sum:Nat),.bool true]∧h=h':=by
 have hn:n=ws.length:=by have:=hs.1; rw[zam] at this; omega
 subst hn
 refine zkX hk _ _ _ h _ ⟨fun i4 i5 k g=>∃j:Nat,i5=j∧i4=((ws.take j).sum:Nat)∧j≤ws.length∧ws.length - j=k∧h=g,⟨_,0,rfl,rfl,Nat.zero_le _,rfl,rfl⟩,?_⟩
 rintro k g i4 i5 ⟨j,rfl,rfl,hj,rfl,rfl⟩
 refine⟨fun q=>?_,fun q=>⟨by rw[List.take_of_length_le (by omega)],rfl⟩⟩
 have hj' : j < ws.length:=by omega
 obtain⟨b,off,rfl,hld⟩:=hs.get hj'
 rw[zbN hj'] at hld
 have hw1:=hw _ (List.getElem_mem hj')
 have s1:=zhu hj'
 have s2:=zcI ws (j+1)
 have s3:=zlj fun w hx=>(hw w hx).2
 refine zae ⟨by omega,q,_,by rw[Int.toNat_natCast,Nat.mul_one]; exact hld,fun z=>absurd z (by omega),fun _=>⟨fun z=>absurd z (by omega),fun _ i9 e9 i10 e10=>?_⟩⟩
 have e10:=zaJ e10 (by omega) (by omega)
 have e9:=zaJ e9 (by omega) (by omega)
 exact⟨_,by omega,j+1,by rw[e10]; rfl,by rw[e9,s1]; rfl,hj',rfl,rfl⟩
theorem zep (hk:K 119=none) (kr:K 129=none) {p q:Option Addr} {n m c c' : Nat} {ws ns:List Nat} (hs:zaq h p n 1 (zav .i64 ws)) (ht:zaq h q m 1 (zav .u64 ns)) (hw:∀w∈ws,1≤w∧w≤8) (hl:ws.length≤1000) (hlen:ws.length=ns.length)
 (hfit:∀(i w x:Nat),ws[i]?= some w→ns[i]?= some x→x < 256 ^ w):
 Wf Tryz.prog K 119 [.slice p n c,.slice q m c'] h fun v h'=>(∃b,v=.tuple #[.slice (some ⟨b,0,none⟩) ws.sum ws.sum,.int .i64 0]∧h.next≤b∧zaq h' (some ⟨b,0,none⟩) ws.sum 1 (zav .u8 (enc ws ns)))∧Old h h':=by
 have hn:n=ws.length:=by have:=hs.1; rw[zam] at this; omega
 have hm:m=ns.length:=by have:=ht.1; rw[zam] at this; omega
 subst hn
 subst hm
 have s3:=zlj fun w hx=>(hw w hx).2
 refine zmM hk _ _ _ _ _ _ h _ ((znb kr hs hw hl).mono ?_)
 rintro _ _ ⟨rfl,rfl⟩
 refine⟨_,.inl ⟨rfl,fun _=>?_,fun z=>absurd (show ((ns.length:Nat):Int)=((ws.length:Nat):Int) by omega) z⟩⟩
 refine⟨fun i k g=>∃j:Nat,i=j∧j≤ns.length∧ns.length - j=k∧h=g,⟨_,0,rfl,Nat.zero_le _,rfl,rfl⟩,?_⟩
 rintro k g i ⟨j,rfl,hj,rfl,rfl⟩
 refine⟨fun z=>?_,fun z=>⟨⟨by omega,by omega,by omega,by omega⟩,fun g17 e17=>?_⟩⟩
 ·have hj' : j < ns.length:=by omega
  have hjw:j < ws.length:=by omega
  obtain⟨b,off,rfl,hld⟩:=hs.get hjw
  obtain⟨b2,off2,rfl,hld2⟩:=ht.get hj'
  rw[zbN hjw] at hld
  rw[zbN hj'] at hld2
  have hw1:=hw _ (List.getElem_mem hjw)
  have hf:=hfit j _ _ (List.getElem?_eq_getElem hjw) (List.getElem?_eq_getElem hj')
  refine zae ⟨by omega,z,_,by rw[Int.toNat_natCast,Nat.mul_one]; exact hld2,zae ⟨by omega,by omega,_,by rw[Int.toNat_natCast,Nat.mul_one]; exact hld,fun i14 e14=>?_⟩⟩
  have e14:=zaJ e14 (by omega) (by omega)
  refine⟨0,?_,fun _ i16 e16=>?_,fun y=>absurd rfl y⟩
  ·rw[e14,show (8:Int) * ((ws[j]:Nat):Int)=((8 * ws[j]:Nat):Int) by omega,ztp hw1.2,Nat.div_eq_of_lt hf]
   rfl
  ·have e16:=zaJ e16 (by omega) (by omega)
   exact⟨_,by omega,j+1,by rw[e16]; rfl,hj',rfl,rfl⟩
 have o17:=zaa e17
 have hg0:zaW h.next g17 5 1 h.next 0 ws.sum []:=zaW.make e17 (by rw[Int.toNat_natCast]; simp) (by simp only[zak]; omega)
 refine⟨fun p n c i k g=>∃j:Nat,i=j∧j≤ns.length∧ns.length - j=k∧p=some ⟨h.next,0,none⟩∧c=ws.sum∧Old h g∧zaW h.next g 5 1 h.next n ws.sum (zav .u8 (enc (ws.take j) (ns.take j))),⟨_,0,rfl,Nat.zero_le _,rfl,rfl,Int.toNat_natCast _,o17,hg0⟩,?_⟩
 rintro k20 g20 p22 n23 c24 i25 ⟨j,rfl,hj,rfl,rfl,rfl,o20,G20⟩
 refine⟨fun z=>?_,fun z=>?_⟩
 ·have hj' : j < ns.length:=by omega
  have hjw:j < ws.length:=by omega
  obtain⟨b,off,rfl,hld⟩:=(hs.old o20).get hjw
  obtain⟨b2,off2,rfl,hld2⟩:=(ht.old o20).get hj'
  rw[zbN hjw] at hld
  rw[zbN hj'] at hld2
  have hw1:=hw _ (List.getElem_mem hjw)
  have s1:=zhu hjw
  have s2:=zcI ws (j+1)
  have tl:(ws.take j).length=(ns.take j).length:=by simp; omega
  have e1:enc (ws.take (j+1)) (ns.take (j+1))=enc (ws.take j) (ns.take j) ++ byB ws[j] ns[j]:=by
   rw[List.take_succ_eq_append_getElem hjw,List.take_succ_eq_append_getElem hj',ztn _ _ _ _ tl]
  refine zae ⟨by omega,z,_,by rw[Int.toNat_natCast,Nat.mul_one]; exact hld2,zae ⟨by omega,by omega,_,by rw[Int.toNat_natCast,Nat.mul_one]; exact hld,?_⟩⟩
  generalize hwj:ws[j]=w at hw1 s1 e1
  generalize hnj:ns[j]=x at e1
  refine⟨fun p n c i k g=>∃t:Nat,i=t∧t≤w∧w - t=k∧p=some ⟨h.next,0,none⟩∧c=ws.sum∧Old h g∧zaW h.next g 5 1 h.next n ws.sum (zav .u8 (enc (ws.take j) (ns.take j) ++ byB t x)),⟨_,0,rfl,Nat.zero_le _,rfl,rfl,rfl,o20,by simpa[byB] using G20⟩,?_⟩
  rintro k34 g34 p36 n37 c38 i39 ⟨t,rfl,ht',rfl,rfl,rfl,o34,G34⟩
  have hn37:n37=(ws.take j).sum+t:=by
   have:=G34.1
   rw[zam,List.length_append,zaP,zeY _ _ tl] at this
   omega
  refine⟨fun y=>?_,fun y=>?_⟩
  ·intro i40 e40
   have e40:=zaJ e40 (by omega) (by omega)
   refine⟨((x / 256 ^ t:Nat):Int),?_,fun i42 e42 g43 e43=>?_⟩
   ·rw[e40,show (8:Int) * (t:Int)=((8 * t:Nat):Int) by omega,ztp (by omega)]
   rw[zpT] at e42
   subst e42
   obtain⟨g47,k47,G47,n47,f47⟩:=G34.push eU8 (ns:=[.int .u8 ((x / 256 ^ t % 256:Nat):Int)]) e43 rfl (by decide) (by omega)
   refine⟨_,_,_,g47,k47,fun i48 e48=>?_⟩
   have e48:=zaJ e48 (by omega) (by omega)
   refine⟨_,by omega,t+1,by rw[e48]; rfl,by omega,rfl,rfl,rfl,⟨by rw[n47]; have:=o34.1; omega,fun b hb=>?_⟩,?_⟩
   ·rw[f47 b (by have:=o34.1; omega) (by omega),o34.2 b hb]
   ·rw[zpS,←List.append_assoc,zaI]
    exact G47
  ·intro i49 e49
   have e49:=zaJ e49 (by omega) (by omega)
   have htw:t=w:=by omega
   subst htw
   exact⟨_,by omega,j+1,by rw[e49]; rfl,hj',rfl,rfl,rfl,o34,by rw[e1]; exact G34⟩
 ·have hjn:j=ns.length:=by omega
  have e1:ws.take j=ws:=List.take_of_length_le (by omega)
  have e2:ns.take j=ns:=List.take_of_length_le (by omega)
  rw[e1,e2] at G20
  have hn23:n23=ws.sum:=by have:=G20.1; rw[zam,zeY _ _ hlen] at this; omega
  subst hn23
  exact⟨⟨_,rfl,Nat.le_refl _,G20.shows⟩,o20⟩
theorem zdx (hk:K 96=none) (kr:K 129=none) {p:Option Addr} {n m c c' b off:Nat} {ws bs:List Nat} (hs:zaq h p n 1 (zav .i64 ws)) (ht:zaq h (some ⟨b,off,none⟩) m 1 (zav .u8 bs)) (hb:b < h.next) (hc:zbu Tryz.prog h 5 b m c') (hw:∀w∈ws,1≤w∧w≤8) (hl:ws.length≤1000)
 (hbs:∀x∈bs,x < 256) (hlen:bs.length=ws.sum):
 Wf Tryz.prog K 96 [.slice p n c,.slice (some ⟨b,off,none⟩) m c'] h fun v h'=>(∃b',v=.tuple #[.slice (some ⟨b',0,none⟩) ws.length ws.length,.int .i64 0]∧h.next≤b'∧zaq h' (some ⟨b',0,none⟩) ws.length 1 (zav .u64 (dec ws bs)))∧Old h h':=by
 have hn:n=ws.length:=by have:=hs.1; rw[zam] at this; omega
 have hm:m=bs.length:=by have:=ht.1; rw[zam] at this; omega
 subst hn
 have s3:=zlj fun w hx=>(hw w hx).2
 refine zmN hk _ _ _ _ _ _ h _ ((znb kr hs hw hl).mono ?_)
 rintro _ _ ⟨rfl,rfl⟩
 refine⟨_,.inl ⟨rfl,fun _=>⟨⟨by omega,by omega,by omega,by omega⟩,fun g3 e3=>?_⟩,fun z=>absurd (show ((m:Nat):Int)=((ws.sum:Nat):Int) by omega) z⟩⟩
 have o3:=zaa e3
 have hg0:zaW h.next g3 22 1 h.next 0 ws.length []:=zaW.make e3 (by rw[Int.toNat_natCast]; simp) (by simp only[zak]; omega)
 refine⟨fun p8 n9 c10 p11 n12 c13 i14 k g=>∃j off' : Nat,i14=j∧j≤ws.length∧ws.length - j=k∧p8=some ⟨b,off',none⟩∧zaq h (some ⟨b,off',none⟩) n9 1 (zav .u8 (bs.drop (ws.take j).sum))∧zbu Tryz.prog h 5 b n9 c10∧p11=some ⟨h.next,0,none⟩∧c13=ws.length∧Old h g∧zaW h.next g 22 1 h.next n12 ws.length (zav .u64 (dec (ws.take j) bs)),
  ⟨_,0,off,rfl,Nat.zero_le _,rfl,rfl,by simpa using ht,hc,rfl,Int.toNat_natCast _,o3,hg0⟩,?_⟩
 rintro k5 g6 p8 n9 c10 p11 n12 c13 i14 ⟨j,off',rfl,hj,rfl,rfl,S9,C9,rfl,rfl,o6,G6⟩
 have hn9:n9=bs.length - (ws.take j).sum:=by have:=S9.1; rw[zam,List.length_drop] at this; omega
 refine⟨fun z=>?_,fun z=>?_⟩
 ·have hj' : j < ws.length:=by omega
  obtain⟨b1,off1,rfl,hld⟩:=(hs.old o6).get hj'
  rw[zbN hj'] at hld
  have hw1:=hw _ (List.getElem_mem hj')
  have s1:=zhu hj'
  have s2:=zcI ws (j+1)
  have e1:dec (ws.take (j+1)) bs=dec (ws.take j) bs ++ [deB ((bs.drop (ws.take j).sum).take ws[j])]:=by
   rw[List.take_succ_eq_append_getElem hj',zto]
  refine zae ⟨by omega,z,_,by rw[Int.toNat_natCast,Nat.mul_one]; exact hld,?_⟩
  generalize ws[j]=w at hw1 s1 e1
  have hbd:∀x∈bs.drop (ws.take j).sum,x < 256:=fun x hx=>hbs x (List.mem_of_mem_drop hx)
  have hbl:(bs.drop (ws.take j).sum).length=n9:=by rw[List.length_drop]; omega
  have e2:bs.drop (ws.take (j+1)).sum=(bs.drop (ws.take j).sum).drop w:=by rw[List.drop_drop,s1]
  generalize bs.drop (ws.take j).sum=cs at S9 e1 hbd hbl e2
  refine⟨fun i22 i23 k g=>∃t:Nat,i23=t∧t≤w∧w - t=k∧i22=(deB (cs.take t):Nat)∧g6=g,⟨_,0,rfl,Nat.zero_le _,rfl,rfl,rfl⟩,?_⟩
  rintro k19 g20 i22 i23 ⟨t,rfl,ht',rfl,rfl,rfl⟩
  refine⟨fun y=>?_,fun y=>?_⟩
  ·have htc:t < cs.length:=by omega
   obtain⟨b4,off4,hb4,hld4⟩:=(S9.old o6).get (i:=t) (by omega)
   simp only[Option.some.injEq,Addr.mk.injEq,and_true] at hb4
   obtain⟨rfl,rfl⟩:=hb4
   rw[zbN htc] at hld4
   have hx:=hbd _ (List.getElem_mem htc)
   have etk:cs.take (t+1)=cs.take t ++ [cs[t]]:=List.take_succ_eq_append_getElem htc
   have hlt:=zj1 (cs.take (t+1)) fun x hx=>hbd x (List.mem_of_mem_take hx)
   have hlt0:=zj1 (cs.take t) fun x hx=>hbd x (List.mem_of_mem_take hx)
   have hp:=ztr (show t+1≤8 by omega)
   rw[etk,zkW] at hlt
   simp only[List.length_append,List.length_take,List.length_cons,List.length_nil] at hlt hlt0
   rw[show min t cs.length=t by omega] at hlt hlt0
   rw[show t+(0+1)=t+1 by omega] at hlt
   have edb:deB (cs.take (t+1))=deB (cs.take t)+cs[t] * 256 ^ t:=by
    rw[etk,zkW,List.length_take,show min t cs.length=t by omega]
   generalize deB (cs.take t)=a at hlt hlt0 edb
   generalize cs[t]=x at hld4 hx hlt edb
   refine zae ⟨by omega,by omega,_,by rw[Int.toNat_natCast,Nat.mul_one]; exact hld4,fun i27 e27 i28 e28=>?_⟩
   have e27:=zoz e27 (by omega) (by omega)
   have e28:=zaJ e28 (by omega) (by omega)
   subst e27
   rw[e28,show (8:Int) * (t:Int)=((8 * t:Nat):Int) by omega]
   refine⟨_,zyt (by omega) (by omega),_,zz5 (by omega) hlt0 (by omega),fun i31 e31=>?_⟩
   have e31:=zaJ e31 (by omega) (by omega)
   exact⟨_,by omega,t+1,by rw[e31]; rfl,by omega,rfl,by rw[edb],rfl⟩
  ·have htw:t=w:=by omega
   subst htw
   intro g32 e32
   have hn12:n12=j:=by have:=G6.1; rw[zam,zoG,List.length_take] at this; omega
   obtain⟨g36,k36,G36,n36,f36⟩:=G6.push zEm (ns:=[.int .u64 ((deB (cs.take t):Nat):Int)]) e32 rfl (by decide) (by omega)
   have o36:Old h g36:=⟨by rw[n36]; have:=o6.1; omega,fun x hx=>by rw[f36 x (by have:=o6.1; omega) (by omega),o6.2 x hx]⟩
   obtain⟨off2,c2,k2,hoff,C2⟩:=zdD eU8 (by simp) (h:=g36) (off:=off') (lo:=t) (C9.old o36 hb) (by omega)
   refine⟨_,_,_,g36,k36,_,_,_,k2,fun i40 e40=>?_⟩
   have e40:=zaJ e40 (by omega) (by omega)
   obtain⟨off3,c3,k3,hoff3,C3⟩:=zdD eU8 (by simp) (h:=h) (off:=off') (lo:=t) C9 (by omega)
   refine⟨_,by omega,j+1,off2,by rw[e40]; rfl,hj',rfl,rfl,?_,?_,rfl,rfl,o36,?_⟩
   ·rw[e2]
    have:=S9.cut (lo:=t) (off2:=off2) (by omega) hoff
    rw[Nat.mul_one] at this
    unfold zav at this ⊢
    rw[←List.map_drop] at this
    exact this
   ·rcases C2 with C2 | ⟨q1,cs',e',ro',q2,q3⟩
    ·exact .inl C2
    ·exact .inr ⟨q1,cs',e',ro',by rw[←o36.2 b hb]; exact q2,q3⟩
   ·rw[e1,zaI]
    exact G36
 ·have hjn:j=ws.length:=by omega
  have e1:ws.take j=ws:=List.take_of_length_le (by omega)
  rw[e1] at G6
  have hn12:n12=ws.length:=by have:=G6.1; rw[zam,zoG] at this; omega
  subst hn12
  exact⟨⟨_,rfl,Nat.le_refl _,G6.shows⟩,o6⟩
abbrev Tr3:=Nat×Nat×Nat
def qV (q:Tr3):Value:=.agg #[.int .i64 q.1,.int .u64 q.2.1,.int .u32 q.2.2]
def QOk (q:Tr3):Prop:=q.2.2 < 4294967296∧(q=(0,0,0)∨(4≤q.1∧q.1 < 1024∧1≤q.2.1∧q.2.1≤281474976710655))
theorem QOk.wf {q:Tr3} (k:QOk q):zoR (q.1:Nat) (q.2.1:Nat) (q.2.2:Nat):=by
 obtain⟨k1,k2⟩:=k
 have h1:q.1 < 1024:=by rcases k2 with rfl | k2 <;> simp_all
 have h2:q.2.1≤281474976710655:=by rcases k2 with rfl | k2 <;> simp_all
 unfold zoR
 simp[Lit.wf,IntKind.min,IntKind.max,IntKind.signed,IntKind.bits]
 omega
def zhv (q:Tr3):List Nat:=enc [4,8,4] [q.1,q.2.1,q.2.2]
def ptrD (bs:List Nat):Tr3:=(deB (bs.take 4),deB ((bs.drop 4).take 8),deB (((bs.drop 4).drop 8).take 4))
theorem ztD (bs:List Nat):dec [4,8,4] bs=[(ptrD bs).1,(ptrD bs).2.1,(ptrD bs).2.2]:=rfl
theorem zbP (q:Tr3):(zhv q).length=16:=zeY _ _ rfl
theorem ztE {q:Tr3} {x:Nat} (hx:x∈zhv q):x < 256:=zgT _ _ hx
theorem zDL {q:Tr3} (k:QOk q):∀(i w x:Nat),([4,8,4]:List Nat)[i]?= some w→([q.1,q.2.1,q.2.2]:List Nat)[i]?= some x→x < 256 ^ w:=by
 obtain⟨k1,k2⟩:=k
 have h1:q.1 < 1024:=by rcases k2 with rfl | k2 <;> simp_all
 have h2:q.2.1≤281474976710655:=by rcases k2 with rfl | k2 <;> simp_all
 intro i w x hw hx
 match i with
 | 0=>simp at hw hx; subst hw hx; omega
 | 1=>simp at hw hx; subst hw hx; omega
 | 2=>simp at hw hx; subst hw hx; omega
 | i+3=>simp at hw
theorem ztF {q:Tr3} (k:QOk q):ptrD (zhv q)=q:=by
 have:=zdV [4,8,4] [q.1,q.2.1,q.2.2] rfl (zDL k)
 rw[show enc [4,8,4] [q.1,q.2.1,q.2.2]=zhv q from rfl,ztD] at this
 simp only[List.cons.injEq,and_true] at this
 obtain⟨h1,h2,h3⟩:=this
 exact Prod.ext h1 (Prod.ext h2 h3)
theorem ztG (hk:K 128=none) {x y z:Nat} (hwf:zoR (x:Nat) (y:Nat) (z:Nat)):
 Wf Tryz.prog K 128 [.agg #[.int .i64 (x:Nat),.int .u64 (y:Nat),.int .u32 (z:Nat)]] h fun v h'=>((v=.bool true∧QOk (x,y,z))∨(v=.bool false∧¬QOk (x,y,z)))∧Old h h':=by
 refine zmO hk _ _ _ h _ fun g0 e0=>?_
 have o0:=zaa e0
 have c0:=zac e0
 have hz:z < 4294967296:=by
  have:=hwf.2.2
  simp[Lit.wf,IntKind.min,IntKind.max,IntKind.signed,IntKind.bits] at this
  omega
 have key:QOk (x,y,z)↔((x=0∧y=0∧z=0)∨(4≤x∧x < 1024∧1≤y∧y≤281474976710655)):=by
  unfold QOk
  simp only[Prod.mk.injEq,hz,true_and]
 refine⟨_,_,_,zao c0 rfl,_,_,zBf hwf.1 hwf.2.1 hwf.2.2,ztC,fun e=>?_,fun e=>?_⟩
 ·rw[zd7] at e
  have:=of_decide_eq_true e
  exact⟨.inl ⟨rfl,key.2 (.inl (by omega))⟩,o0⟩
 ·rw[zd7] at e
  have:=of_decide_eq_false e
  have no:∀{v:Value},v=.bool false→(¬(4≤x∧x < 1024∧1≤y∧y≤281474976710655))→((v=.bool true∧QOk (x,y,z))∨(v=.bool false∧¬QOk (x,y,z)))∧Old h g0:=fun e2 e3=>⟨.inr ⟨e2,fun z=>by rw[key] at z; omega⟩,o0⟩
  exact⟨_,zah c0 rfl,fun h1=>⟨_,zah c0 rfl,fun h2=>⟨_,zah c0 rfl,fun h3=>⟨_,zah c0 rfl,fun h4=>⟨.inl ⟨rfl,key.2 (.inr (by omega))⟩,o0⟩,fun h4=>no rfl (by omega)⟩,fun h3=>no rfl (by omega)⟩,fun h2=>no rfl (by omega)⟩,fun h1=>no rfl (by omega)⟩
theorem zlk (hk:K 128=none) {q:Tr3} (hwf:zoR (q.1:Nat) (q.2.1:Nat) (q.2.2:Nat)):
 Wf Tryz.prog K 128 [qV q] h fun v h'=>((v=.bool true∧QOk q)∨(v=.bool false∧¬QOk q))∧Old h h':=ztG hk hwf
theorem zll (hk:K 120=none) (kR:K 128=none) (kw:K 127=none) (kP:K 119=none) (kr:K 129=none) {q:Tr3} (k:QOk q):
 Wf Tryz.prog K 120 [qV q] h fun v h'=>(∃b,v=.tuple #[.slice (some ⟨b,0,none⟩) 16 16,.int .i64 0]∧h.next≤b∧zaq h' (some ⟨b,0,none⟩) 16 1 (zav .u8 (zhv q)))∧Old h h':=by
 refine zmP hk _ _ _ h _ fun g0 e0=>?_
 have o0:=zaa e0
 have n0:=zab e0
 have c0:=zac e0
 refine⟨_,_,_,zao c0 rfl,(zlk kR k.wf).mono ?_⟩
 rintro v g5 ⟨⟨rfl, -⟩ | ⟨rfl,z⟩,o5⟩
 rotate_left
 ·exact absurd k z
 refine .inl ⟨rfl,zfF kw g5 _ fun g7 e7=>⟨_,_,_,rfl,?_⟩⟩
 have o7:=zaa e7
 have n7:=zab e7
 have l5:=o5.1
 have hwf:=k.wf
 have c5:g5.get h.next=_:=(o5.2 _ (by omega)).trans c0
 have c7:g7.get h.next=_:=(o7.2 _ (by omega)).trans c5
 have b1:q.1 < 1024:=by rcases k.2 with z | z <;> simp_all
 have b2:q.2.1≤281474976710655:=by rcases k.2 with z | z <;> simp_all
 have b3:=k.1
 refine⟨_,zah c7 rfl,fun i12 e12=>⟨_,zah c7 rfl,_,zah c7 rfl,fun i15 e15 g16 e16=>?_⟩⟩
 have e12:=zoz e12 (by omega) (by omega)
 have e15:=zoz e15 (by omega) (by omega)
 subst e12
 subst e15
 have o16:=zaa e16
 have n16:=zab e16
 have sw:zaq g16 (some ⟨g5.next,0,none⟩) 3 1 (zav .i64 [4,8,4]):=by
  refine⟨rfl,.inr ⟨_,0,_,_,_,rfl,by omega,(o16.2 _ (by omega)).trans (zac e7),by decide,rfl⟩⟩
 have sn:zaq g16 (some ⟨g7.next,0,none⟩) 3 1 (zav .u64 [q.1,q.2.1,q.2.2]):=by
  refine⟨rfl,.inr ⟨_,0,_,_,_,rfl,by omega,zac e16,Nat.le_refl 3,rfl⟩⟩
 refine (zep kP kr sw sn (by decide) (by decide) rfl (zDL k)).mono ?_
 rintro v g18 ⟨⟨b,rfl,hb,S⟩,o18⟩
 refine⟨_,_,_,_,rfl,zah c5 rfl,zah c7 rfl,zah c5 rfl,zah c7 rfl,zah c5 rfl,zah c7 rfl,fun _=>⟨⟨b,rfl,by omega,S⟩,(((o0.trans o5).trans o7).trans o16).trans o18⟩,fun z=>absurd rfl z⟩
theorem zoS (hk:K 95=none) (kR:K 128=none) (kw:K 127=none) (kG:K 96=none) (kr:K 129=none) {b off c:Nat} {bs:List Nat} (hs:zaq h (some ⟨b,off,none⟩) 16 1 (zav .u8 bs)) (hb:b < h.next) (hc:zbu Tryz.prog h 5 b 16 c) (hbs:∀x∈bs,x < 256):
 Wf Tryz.prog K 95 [.slice (some ⟨b,off,none⟩) 16 c] h fun v h'=>((QOk (ptrD bs)∧v=.tuple #[qV (ptrD bs),.int .i64 0])∨(¬QOk (ptrD bs)∧v=.tuple #[qV (0,0,0),.int .i64 51]))∧Old h h':=by
 have hl:bs.length=16:=by have:=hs.1; rw[zam] at this; omega
 refine zoK hk _ _ _ h _ fun g0 e0=>zfF kw g0 _ fun g2 e2=>⟨_,_,_,rfl,?_⟩
 have o0:=zaa e0
 have n0:=zab e0
 have o2:=zaa e2
 have n2:=zab e2
 have o02:=o0.trans o2
 have c2:g2.get h.next=_:=(o2.2 _ (by omega)).trans (zac e0)
 have sw:zaq g2 (some ⟨g0.next,0,none⟩) 3 1 (zav .i64 [4,8,4]):=⟨rfl,.inr ⟨_,0,_,_,_,rfl,by omega,zac e2,by decide,rfl⟩⟩
 refine (zdx kG kr sw (hs.old o02) (by omega) (hc.old o02 hb) (by decide) (by decide) hbs hl).mono ?_
 rintro v g7 ⟨⟨b',rfl,hb',S⟩,o7⟩
 refine⟨_,_,_,_,rfl,fun _=>?_,fun z=>absurd rfl z⟩
 have l7:=o7.1
 have c7:g7.get h.next=_:=(o7.2 _ (by omega)).trans c2
 rw[ztD] at S
 have hx:(ptrD bs).1 < 256 ^ 4:=by
  have:=zj1 (bs.take 4) fun x hx=>hbs x (List.mem_of_mem_take hx)
  rwa [List.length_take,show min 4 bs.length=4 by omega] at this
 have hy:(ptrD bs).2.1 < 256 ^ 8:=by
  have:=zj1 ((bs.drop 4).take 8) fun x hx=>hbs x (List.mem_of_mem_drop (List.mem_of_mem_take hx))
  rwa [List.length_take,List.length_drop,show min 8 (bs.length - 4)=8 by omega] at this
 have hz:(ptrD bs).2.2 < 256 ^ 4:=by
  have:=zj1 (((bs.drop 4).drop 8).take 4) fun x hx=>hbs x (List.mem_of_mem_drop (List.mem_of_mem_drop (List.mem_of_mem_take hx)))
  rwa [List.length_take,List.length_drop,List.length_drop,show min 4 (bs.length - 4 - 8)=4 by omega] at this
 generalize ptrD bs=q at S hx hy hz
 obtain⟨b1,off1,hq1,hd0⟩:=S.get (i:=0) (by decide)
 obtain⟨b2,off2,hq2,hd1⟩:=S.get (i:=1) (by decide)
 obtain⟨b3,off3,hq3,hd2⟩:=S.get (i:=2) (by decide)
 simp only[Option.some.injEq,Addr.mk.injEq,and_true] at hq1 hq2 hq3
 obtain⟨rfl,rfl⟩:=hq1
 obtain⟨rfl,rfl⟩:=hq2
 obtain⟨rfl,rfl⟩:=hq3
 refine zae ⟨by decide,by decide,_,hd0,fun i15 e15=>zae ⟨by decide,by decide,_,hd1,zae ⟨by decide,by decide,_,hd2,fun i22 e22 g23 e23=>?_⟩⟩⟩
 have e15:=zaJ e15 (by omega) (by omega)
 rw[ztq,Nat.mod_eq_of_lt hz] at e22
 subst e15
 subst e22
 have o23:=zaa e23
 have n23:=zab e23
 have k24:=zaj g7.next g23 (.cells [.int .i64 (q.1:Nat),.int .u64 (q.2.1:Nat),.int .u32 (q.2.2:Nat)] 42 false)
 have c24:(g23.set g7.next (.cells [.int .i64 (q.1:Nat),.int .u64 (q.2.1:Nat),.int .u32 (q.2.2:Nat)] 42 false)).get g7.next=_:=zag _ _ _
 have d24:(g23.set g7.next (.cells [.int .i64 (q.1:Nat),.int .u64 (q.2.1:Nat),.int .u32 (q.2.2:Nat)] 42 false)).get h.next=_:=(k24.2 _ (by omega)).trans ((o23.2 _ (by omega)).trans c7)
 have l24:(g23.set g7.next (.cells [.int .i64 (q.1:Nat),.int .u64 (q.2.1:Nat),.int .u32 (q.2.2:Nat)] 42 false)).next=g7.next+1:=by rw[k24.1,n23]
 have o24:Old h (g23.set g7.next (.cells [.int .i64 (q.1:Nat),.int .u64 (q.2.1:Nat),.int .u32 (q.2.2:Nat)] 42 false)):=⟨by omega,fun x hx=>by rw[k24.2 x (by omega),o23.2 x (by omega),o7.2 x (by omega),o02.2 x hx]⟩
 have k24' : stN g23 g7.next 0 [.int .i64 (q.1:Nat),.int .u64 (q.2.1:Nat),.int .u32 (q.2.2:Nat)]=some (g23.set g7.next (.cells [.int .i64 (q.1:Nat),.int .u64 (q.2.1:Nat),.int .u32 (q.2.2:Nat)] 42 false)):=zaB (zac e23) rfl
 generalize g23.set g7.next (.cells [.int .i64 (q.1:Nat),.int .u64 (q.2.1:Nat),.int .u32 (q.2.2:Nat)] 42 false)=g24 at c24 d24 l24 o24 k24'
 have hwf:zoR (q.1:Nat) (q.2.1:Nat) (q.2.2:Nat):=by
  unfold zoR
  simp[Lit.wf,IntKind.min,IntKind.max,IntKind.signed,IntKind.bits]
  omega
 refine⟨rfl,g24,k24',_,_,_,zao c24 rfl,(zlk kR hwf).mono ?_⟩
 rintro v g29 ⟨hv,o29⟩
 have c29:g29.get g7.next=_:=(o29.2 _ (by omega)).trans c24
 have d29:g29.get h.next=_:=(o29.2 _ (by omega)).trans d24
 have oo:∀cs,Old h (g29.set h.next (.cells cs 42 false)):=fun cs=>(o24.trans o29).near (zaj _ _ _) (Nat.le_refl _)
 rcases hv with ⟨rfl,hq⟩ | ⟨rfl,hq⟩
 ·exact .inl ⟨rfl,_,_,_,zao c29 rfl,rfl,_,zaB d29 rfl,_,_,_,zao (zag _ _ _) rfl,.inl ⟨hq,rfl⟩,oo _⟩
 ·exact .inr ⟨rfl,rfl,_,zaB d29 rfl,_,_,_,zao (zag _ _ _) rfl,.inr ⟨hq,rfl⟩,oo _⟩
def zbQ (qs:List Tr3):List Nat:=(qs.map zhv).flatten
theorem ziE (qs:List Tr3):(zbQ qs).length=16 * qs.length:=by
 induction qs with
 | nil=>rfl
 | cons q qs ih=>simp only[zbQ,List.map_cons,List.flatten_cons,List.length_append,zbP,List.length_cons] at *; omega
theorem ztH (qs ps:List Tr3):zbQ (qs ++ ps)=zbQ qs ++ zbQ ps:=by simp[zbQ]
theorem zv2 {qs:List Tr3} {x:Nat} (hx:x∈zbQ qs):x < 256:=by
 simp only[zbQ,List.mem_flatten,List.mem_map] at hx
 obtain⟨_,⟨q, -,rfl⟩,hx⟩:=hx
 exact ztE hx
theorem ziF {qs:List Tr3} (hl:qs.length=8):Sec (zbQ qs):=⟨by rw[ziE,hl],fun _=>zv2⟩
theorem znc:∀(qs:List Tr3) (i:Nat) (hi:i < qs.length),((zbQ qs).drop (i * 16)).take 16=zhv qs[i]
 | [],i,hi=>absurd hi (Nat.not_lt_zero _)
 | q :: qs,0,_=>by
   show ((zhv q ++ zbQ qs).drop 0).take 16=zhv q
   rw[List.drop_zero]
   have:=List.take_left (l₁:=zhv q) (l₂:=zbQ qs)
   rwa [zbP] at this
 | q :: qs,i+1,hi=>by
   show ((zhv q ++ zbQ qs).drop ((i+1) * 16)).take 16=_
   rw[show (i+1) * 16=16+i * 16 by omega,←List.drop_drop]
   have:=List.drop_left (l₁:=zhv q) (l₂:=zbQ qs)
   rw[zbP] at this
   rw[this]
   exact znc qs i (by simpa using hi)
def zlm (qs:List Tr3) (j:Nat):List Nat:=zbQ (qs.take j) ++ List.replicate (128 - 16 * j) 0
theorem ztI {qs:List Tr3} {j:Nat} (hj:j < qs.length) (h8:qs.length=8):(za8 (zlm qs j)).take (j * 16) ++ (zav .u8 (zhv qs[j])).take 16 ++ (za8 (zlm qs j)).drop (j * 16+((zav .u8 (zhv qs[j])).take 16).length)=za8 (zlm qs (j+1)):=by
 have h1:(zbQ (qs.take j)).length=j * 16:=by rw[ziE,List.length_take]; omega
 have h2:(zav .u8 (zhv qs[j])).take 16=zav .u8 (zhv qs[j]):=List.take_of_length_le (by rw[zam,zbP]; decide)
 rw[h2,zam,zbP]
 unfold za8 zlm
 rw[zaI,zaI]
 have h3:(zav .u8 (zbQ (qs.take j))).length=j * 16:=by rw[zam,h1]
 rw[←h3,List.take_left,h3,←List.drop_drop,←h3,List.drop_left,List.take_succ_eq_append_getElem hj,ztH,zaI,List.append_assoc,List.append_assoc]
 have e1:zbQ [qs[j]]=zhv qs[j]:=by simp[zbQ]
 rw[e1]
 congr 2
 unfold zav
 rw[List.map_replicate,List.map_replicate,List.drop_replicate]
 congr 1
theorem zEn:Tryz.prog.underlying 112=some (.array 128 5):=Tryz.underlying112
theorem znd (g:AH) (b lo hi:Nat) (h1:lo < 128) (h2:lo≤hi) (h3:hi≤128):zar Tryz.prog g 112 (.pointer (some ⟨b,0,none⟩)) (some (.int .i64 (lo:Int))) (some (.int .i64 (hi:Int))) none=some (.slice (some ⟨b,lo,none⟩) (hi - lo) (128 - lo)):=by
 rw[zyu zEn (by simp) (sz:=1) (by simp) (by decide) b 0 h1 h2 h3,Nat.zero_add,Nat.mul_one]
theorem ztJ (hk:K 165=none) (kB:K 120=none) (kR:K 128=none) (kw:K 127=none) (kP:K 119=none) (kr:K 129=none) {qs:List Tr3} (hl:qs.length=8) (hq:∀q∈qs,QOk q):
 Wf Tryz.prog K 165 [.agg (zbE qs).toArray] h fun v h'=>v=.tuple #[.agg (za8 (zbQ qs)).toArray,.int .i64 0]∧Old h h':=by
 have hl3:(zbE qs).length=24:=by rw[za0,hl]
 refine zkY hk _ h _ fun g0 e0 g1 e1 g2 e2=>?_
 have o0:=zaa e0
 have n0:=zab e0
 have o1:=zaa e1
 have n1:=zab e1
 have o2:=zaa e2
 have n2:=zab e2
 have c2:g2.get h.next=some (.cells (zbE qs) 192 false):=by rw[o2.2 _ (by omega),o1.2 _ (by omega)]; exact zac e0
 have r2:g2.get g0.next=some (.cells (List.replicate 128 (.int .u8 0)) 112 false):=by rw[o2.2 _ (by omega)]; exact zac e1
 have s2:=zac e2
 refine⟨_,zao c2 hl3,fun i k g=>∃j:Nat,i=j∧j≤8∧8 - j=k∧g2.next≤g.next∧(∀c,c < g2.next→c≠g1.next→g.get c=g2.get c)∧g.get g1.next=some (.cells (za8 (zlm qs j)) 112 false),
  ⟨_,0,rfl,by decide,rfl,Nat.le_refl _,fun _ _ _=>rfl,by rw[s2]; simp only[zlm,List.take_zero,zbQ,List.map_nil,List.flatten_nil,List.nil_append,za8,zav,List.map_replicate]; rfl⟩,?_⟩
 rintro k g6 i8 ⟨j,rfl,hj,rfl,l6,f6,s6⟩
 refine⟨fun z=>?_,fun z=>?_⟩
 ·have hj' : j < qs.length:=by omega
  have hqj:=hq _ (List.getElem_mem hj')
  refine⟨by omega,z,((qs[j].1:Nat):Int),((qs[j].2.1:Nat):Int),((qs[j].2.2:Nat):Int),by rw[Int.toNat_natCast]; exact zen qs j hj',fun g12 e12=>⟨rfl,_,zaB (zac e12) rfl,_,_,_,zao (zag _ _ _) rfl,?_⟩⟩
  have o12:=zaa e12
  have n12:=zab e12
  have k13:=zaj g6.next g12 (.cells [.int .i64 (qs[j].1:Nat),.int .u64 (qs[j].2.1:Nat),.int .u32 (qs[j].2.2:Nat)] 42 false)
  refine (zll kB kR kw kP kr hqj).mono ?_
  rintro v g18 ⟨⟨b,rfl,hb,S⟩,o18⟩
  have hset:=ztI hj' hl
  have l18:=o18.1
  have f18:∀c,c < g6.next→g18.get c=g6.get c:=fun c hc=>by rw[o18.2 c (by rw[k13.1]; omega),k13.2 c (by omega),o12.2 c (by omega)]
  have l18' : g6.next≤g18.next:=by rw[k13.1,n12] at l18; omega
  have s18:=(f18 g1.next (by omega)).trans s6
  refine⟨_,_,_,_,rfl,fun _ i23 e23 i24 e24 i25 e25=>?_,fun z=>absurd rfl z⟩
  have e23:=zaJ e23 (by omega) (by omega)
  have e24:=zaJ e24 (by omega) (by omega)
  subst e24
  have e25:=zaJ e25 (by omega) (by omega)
  rw[e23,e25,show (j:Int) * 16=((j * 16:Nat):Int) by omega,show ((j:Int)+1) * 16=((j * 16+16:Nat):Int) by omega]
  have k29:=znd g18 g1.next (j * 16) (j * 16+16) (by omega) (by omega) (by omega)
  rw[show j * 16+16 - j * 16=16 by omega] at k29
  obtain⟨g30,k30,nr30,s30⟩:=zfy eU8 (off:=j * 16) (n:=16) (c:=128 - j * 16) (c':=16) s18 (by rw[za8,zam]; unfold zlm; rw[List.length_append,List.length_replicate,ziE,List.length_take]; omega) (by decide) S (.inr ⟨_,_,rfl⟩) 53
  rw[hset] at s30
  refine⟨_,_,_,k29,_,g30,k30,fun i31 e31=>?_⟩
  have e31:=zaJ e31 (by omega) (by omega)
  exact⟨_,by omega,j+1,by rw[e31]; rfl,by omega,rfl,by rw[nr30.1]; omega,fun c hc hne=>by rw[nr30.2 c hne,f18 c (by omega),f6 c hc hne],s30⟩
 ·have hj8:j=8:=by omega
  subst hj8
  have e8:zlm qs 8=zbQ qs:=by unfold zlm; rw[List.take_of_length_le (by omega)]; simp
  rw[e8] at s6
  have hls:=zaw (ziF hl)
  have r6:=(f6 g0.next (by omega) (by omega)).trans r2
  refine⟨_,zao s6 hls,hls,_,zaB r6 (by rw[hls]; simp),_,zao (zag _ _ _) hls,rfl,?_⟩
  have ns:=zaj g0.next g6 (.cells (za8 (zbQ qs)) 112 false)
  exact⟨by rw[ns.1]; omega,fun c hc=>by rw[ns.2 c (by omega),f6 c (by omega) (by omega),o2.2 c (by omega),o1.2 c (by omega),o0.2 c hc]⟩
def nodeD (s:List Nat):List Tr3:=(List.range 8).map fun i=>ptrD ((s.drop (i * 16)).take 16)
theorem zbJ (s:List Nat):(nodeD s).length=8:=by simp[nodeD]
theorem zne (s:List Nat) {j:Nat} (hj:j < 8):(nodeD s)[j]'(by rw[zbJ]; exact hj)=ptrD ((s.drop (j * 16)).take 16):=by simp[nodeD]
theorem zyA {qs:List Tr3} (hl:qs.length=8) (hq:∀q∈qs,QOk q):nodeD (zbQ qs)=qs:=by
 apply List.ext_getElem (by rw[zbJ,hl])
 intro j h1 h2
 rw[zne _ (by omega),znc qs j h2,ztF (hq _ (List.getElem_mem h2))]
theorem zCz:za1 Tryz.prog 192 #[]=some (.agg (zbE (List.replicate 8 (0,0,0))).toArray):=by kernel_rfl
theorem zv3 (hk:K 126=none) (kB:K 95=none) (kR:K 128=none) (kw:K 127=none) (kG:K 96=none) (kr:K 129=none) {s:List Nat} (hs:Sec s):
 Wf Tryz.prog K 126 [.agg (za8 s).toArray] h fun v h'=>(((∀q∈nodeD s,QOk q)∧v=.tuple #[.agg (zbE (nodeD s)).toArray,.int .i64 0])∨(¬(∀q∈nodeD s,QOk q)∧v=.tuple #[.agg (zbE (List.replicate 8 (0,0,0))).toArray,.int .i64 51]))∧Old h h':=by
 have hls:=zaw hs
 have hz:(zbE (List.replicate 8 ((0,0,0):Tr3))).length=24:=by rw[za0]; rfl
 refine zmQ hk _ h _ fun g0 e0 g1 e1 g2 e2=>?_
 have o0:=zaa e0
 have n0:=zab e0
 have o1:=zaa e1
 have n1:=zab e1
 have o2:=zaa e2
 have n2:=zab e2
 have c2:g2.get h.next=some (.cells (za8 s) 112 false):=by rw[o2.2 _ (by omega),o1.2 _ (by omega)]; exact zac e0
 have r2:g2.get g0.next=some (.cells (zbE (List.replicate 8 (0,0,0))) 192 false):=by rw[o2.2 _ (by omega)]; exact zac e1
 have s2:g2.get g1.next=some (.cells (zbE (List.replicate 8 (0,0,0))) 192 false):=zac e2
 refine⟨fun i k g=>∃j:Nat,i=j∧j≤8∧8 - j=k∧g2.next≤g.next∧(∀c,c < g2.next→c≠g1.next→g.get c=g2.get c)∧g.get g1.next=some (.cells (zbE ((nodeD s).take j ++ List.replicate (8 - j) (0,0,0))) 192 false)∧∀(x:Nat) q,x < j→(nodeD s)[x]?= some q→QOk q,
  ⟨_,0,rfl,by decide,rfl,Nat.le_refl _,fun _ _ _=>rfl,s2,fun x q hx=>absurd hx (Nat.not_lt_zero _)⟩,?_⟩
 rintro k g5 i7 ⟨j,rfl,hj,rfl,l5,f5,s5,hok⟩
 have hL:((nodeD s).take j ++ List.replicate (8 - j) ((0,0,0):Tr3)).length=8:=by rw[List.length_append,List.length_take,List.length_replicate,zbJ]; omega
 refine⟨fun z i8 e8 i9 e9 i10 e10=>?_,fun z=>?_⟩
 ·have hj' : j < 8:=by omega
  have e8:=zaJ e8 (by omega) (by omega)
  have e9:=zaJ e9 (by omega) (by omega)
  subst e9
  have e10:=zaJ e10 (by omega) (by omega)
  rw[e8,e10,show (j:Int) * 16=((j * 16:Nat):Int) by omega,show ((j:Int)+1) * 16=((j * 16+16:Nat):Int) by omega]
  have k11:=znd g5 h.next (j * 16) (j * 16+16) (by omega) (by omega) (by omega)
  rw[show j * 16+16 - j * 16=16 by omega] at k11
  have c5:g5.get h.next=_:=(f5 _ (by omega) (by omega)).trans c2
  have S:zaq g5 (some ⟨h.next,j * 16,none⟩) 16 1 (zav .u8 ((s.drop (j * 16)).take 16)):=by
   refine⟨by rw[zam,List.length_take,List.length_drop,hs.1]; omega,.inr ⟨_,_,_,_,_,rfl,by omega,c5,by rw[hls]; omega,?_⟩⟩
   unfold za8 zav
   rw[List.map_take,List.map_drop]
  have hqd:=zne s hj'
  have hqe:(nodeD s)[j]?= some (ptrD ((s.drop (j * 16)).take 16)):=by rw[←hqd,List.getElem?_eq_getElem]
  have hfs:=zv0 (z:=((0,0,0):Tr3)) (zbJ s) hj'
  rw[hqd] at hfs
  refine⟨_,_,_,k11,(zoS kB kR kw kG kr S (by omega) (.inl ⟨by omega,by simp only[zak]; omega⟩) fun x hx=>hs.2 x (List.mem_of_mem_drop (List.mem_of_mem_take hx))).mono ?_⟩
  generalize ptrD ((s.drop (j * 16)).take 16)=q at hqe hfs
  rintro v g15 ⟨hv,o15⟩
  have l15:=o15.1
  have f15:∀c,c < g2.next→c≠g1.next→g15.get c=g2.get c:=fun c hc hne=>by rw[o15.2 c (by omega),f5 c hc hne]
  have s15:=(o15.2 g1.next (by omega)).trans s5
  rcases hv with ⟨hq,rfl⟩ | ⟨hq,rfl⟩
  ·refine⟨_,_,_,_,rfl,fun g20 e20=>⟨rfl,_,zaB (zac e20) rfl,fun _=>⟨_,_,_,zao (zag _ _ _) rfl,by omega,z,rfl,?_⟩,fun z=>absurd rfl z⟩⟩
   have o20:=zaa e20
   have n20:=zab e20
   have k21:=zaj g15.next g20 (.cells [.int .i64 (q.1:Nat),.int .u64 (q.2.1:Nat),.int .u32 (q.2.2:Nat)] 42 false)
   have s21:(g20.set g15.next (.cells [.int .i64 (q.1:Nat),.int .u64 (q.2.1:Nat),.int .u32 (q.2.2:Nat)] 42 false)).get g1.next=_:=(k21.2 _ (by omega)).trans ((o20.2 _ (by omega)).trans s15)
   have k25:=zaj g1.next (g20.set g15.next (.cells [.int .i64 (q.1:Nat),.int .u64 (q.2.1:Nat),.int .u32 (q.2.2:Nat)] 42 false))
   refine⟨_,zjX s21 (by rw[za0,hL]; simp only[List.length_cons,List.length_nil,Int.toNat_natCast]; omega),fun i26 e26=>?_⟩
   have e26:=zaJ e26 (by omega) (by omega)
   refine⟨_,by omega,j+1,by rw[e26]; rfl,by omega,rfl,by rw[(k25 _).1,k21.1]; omega,fun c hc hne=>by rw[(k25 _).2 c hne,k21.2 c (by omega),o20.2 c (by omega),f15 c hc hne],?_,fun x q' hx hq'=>?_⟩
   ·rw[zag,Int.toNat_natCast,Nat.zero_add]
    have:=zpU ((nodeD s).take j ++ List.replicate (8 - j) ((0,0,0):Tr3)) j q (by omega)
    rw[hfs] at this
    rw[←this]
    rfl
   ·rcases Nat.lt_or_ge x j with y | y
    ·exact hok x q' y hq'
    ·rw[show x=j by omega,hqe] at hq'
     cases hq'
     exact hq
  ·refine⟨_,_,_,_,rfl,fun g20 e20=>⟨rfl,_,zaB (zac e20) rfl,fun z=>absurd z (by decide),fun _=>⟨_,zCz,hz,?_⟩⟩⟩
   have o20:=zaa e20
   have n20:=zab e20
   have k21:=zaj g15.next g20 (.cells [.int .i64 ((0:Nat):Int),.int .u64 ((0:Nat):Int),.int .u32 ((0:Nat):Int)] 42 false)
   have r21:(g20.set g15.next (.cells [.int .i64 ((0:Nat):Int),.int .u64 ((0:Nat):Int),.int .u32 ((0:Nat):Int)] 42 false)).get g0.next=_:=(k21.2 _ (by omega)).trans ((o20.2 _ (by omega)).trans ((f15 _ (by omega) (by omega)).trans r2))
   have k28:=zaj g0.next (g20.set g15.next (.cells [.int .i64 ((0:Nat):Int),.int .u64 ((0:Nat):Int),.int .u32 ((0:Nat):Int)] 42 false)) (.cells (zbE (List.replicate 8 (0,0,0))) 192 false)
   refine⟨_,zaB r21 (by rw[hz]),_,zao (zag _ _ _) hz,.inr ⟨fun all=>hq (all q (List.mem_of_getElem? hqe)),rfl⟩,?_⟩
   exact⟨by rw[k28.1,k21.1]; omega,fun c hc=>by rw[k28.2 c (by omega),k21.2 c (by omega),o20.2 c (by omega),f15 c (by omega) (by omega),o2.2 c (by omega),o1.2 c (by omega),o0.2 c hc]⟩
 ·have hj8:j=8:=by omega
  subst hj8
  have e8:(nodeD s).take 8 ++ List.replicate (8 - 8) ((0,0,0):Tr3)=nodeD s:=by rw[List.take_of_length_le (by rw[zbJ]; decide)]; simp
  rw[e8] at s5
  have hl3:(zbE (nodeD s)).length=24:=by rw[za0,zbJ]
  have r5:=(f5 g0.next (by omega) (by omega)).trans r2
  have k31:=zaj g0.next g5 (.cells (zbE (nodeD s)) 192 false)
  refine⟨_,zao s5 hl3,hl3,_,zaB r5 (by rw[hl3,hz]),_,zao (zag _ _ _) hl3,.inl ⟨fun q hq=>?_,rfl⟩,?_⟩
  ·obtain⟨i,hi⟩:=List.mem_iff_getElem?.1 hq
   exact hok i q (by have:=(List.getElem?_eq_some_iff.1 hi).1; rw[zbJ] at this; exact this) hi
  ·exact⟨by rw[k31.1]; omega,fun c hc=>by rw[k31.2 c (by omega),f5 c (by omega) (by omega),o2.2 c (by omega),o1.2 c (by omega),o0.2 c hc]⟩
theorem ztK:QOk (0,0,0):=⟨by decide,.inl rfl⟩
theorem zv4 {n:Nat}:∀q∈List.replicate n ((0,0,0):Tr3),QOk q:=fun q hq=>by rw[List.mem_replicate] at hq; rw[hq.2]; exact ztK
end
abbrev hole:Tr3:=(0,0,0)
def zEo (nw:List (List Nat)) (M:List Nat) (nw' : List (List Nat)) (M' : List Nat):Prop:=∀s:Nat,M[s]?= some 2→nw'[s]?= nw[s]?∧M'[s]?= some 2
def zCA (nw:List (List Nat)) (M:List Nat) (st:Nat) (q:Tr3) (s:List Nat) (nw' : List (List Nat)) (M' : List Nat):Prop:=∃i,M[i]?= some 1∧4≤i∧i < nw.length∧q=(i,st,zbk s)∧nw'= nw.set i s∧M'= M.set i 2
theorem zCA.ext {nw nw' : List (List Nat)} {M M' : List Nat} {st:Nat} {q:Tr3} {s:List Nat} (k:zCA nw M st q s nw' M'):zEo nw M nw' M':=by
 obtain⟨i,h1,h4,h2,rfl,rfl,rfl⟩:=k
 intro s h
 have hne:i≠s:=fun e=>by rw[e,h] at h1; cases h1
 exact⟨by rw[List.getElem?_set,if_neg hne],by rw[List.getElem?_set,if_neg hne]; exact h⟩
def zzc (st:Nat):Prop:=1≤st∧st≤281474976710655
section
variable {K:Xs} {h:AH} {p:Nat} {F:List Nat} {d m:Nat} {W:Nat} {nw:List (List Nat)} {M:List Nat} {st:Nat} {ba:Int}
def PO (h:AH) (p:Nat) (F:List Nat) (d m:Nat) (W:Nat) (nw:List (List Nat)) (M:List Nat) (st:Nat) (ba:Int):Prop:=∃Fd,za2 h p F d m Fd W nw M st ba
theorem PO.old {h' : AH} (B:PO h p F d m W nw M st ba) (o:Old h h'):PO h' p F d m W nw M st ba:=B.imp fun _ z=>z.old o
theorem PO.nearN {h' : AH} {b:Nat} (B:PO h p F d m W nw M st ba) (n:za9 b h h') (hb:b∉F):PO h' p F d m W nw M st ba:=B.imp fun _ z=>z.nearN n hb
theorem PO.lt (B:PO h p F d m W nw M st ba):∀c∈F,c < h.next:=by obtain⟨Fd,B⟩:=B; exact B.mem_lt
theorem zyB (hk:K 15=none) (hA:K 39=none) (hI:K 56=none) (hSt:K 52=none) (hw0:K 40=none) (hW:K 59=none) (h1:K 83=none) (h2:K 84=none) (h3:K 85=none) (hS:K 60=none) (hM:K 86=some (.sum zdF))
 (B:PO h p F d m W nw M st ba) (hw:W < 100000) {pp:Option Addr} {n c:Nat} {data:List Nat} (hd:zaq h pp n 1 (zav .u8 data)) (hpp:pp=none∨∃b off,pp=some ⟨b,off,none⟩) (hda:∀a,pp=some a→a.block∉F) (hb:∀x∈data,x < 256) (hl:data.length≤128) (hf:1∈M):
 Wf Tryz.prog K 15 [.pointer (some ⟨p,0,none⟩),.slice pp n c] h fun v h'=>∃q nw' M' F',v=.tuple #[qV q,.int .i64 0]∧zCA nw M st q (zaM data) nw' M'∧PO h' p F' d m (W+1) nw' M' st ba∧Fr F h h' F':=by
 obtain⟨Fd,B⟩:=B
 refine (zyx hk hA hI hSt hw0 hW h1 h2 h3 hS hM B hw hd hpp hda hb).mono ?_
 rintro v g (⟨z, -⟩ | ⟨-,i,hi,hMi,rfl,Fd',P,f⟩ | ⟨-,z, -⟩)
 ·omega
 ·exact⟨(i,st,zbk (zaM data)),_,_,_,rfl,⟨i,hMi,(B.within i 1 hMi (by decide)).1,hi,rfl,rfl,rfl⟩,⟨Fd',P⟩,f⟩
 ·exact absurd hf z
end
end Go.Am
