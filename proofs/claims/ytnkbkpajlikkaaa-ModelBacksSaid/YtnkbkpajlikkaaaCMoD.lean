/-
  SCRIPTS AS BYTES, in plain terms: texts joined, texts split, what an op is as bytes, what of bytes is a script.
-/
import Derived.Test.YtnkbkpajlikkaaaAmH
import Derived.Test.YtnkbkpajlikkaaaPFacts
import Derived.Test.YtnkbkpajlikkaaaCMoC
set_option linter.unusedVariables false
set_option linter.unusedSimpArgs false
namespace Go.Am
abbrev Bs:=List Nat
def flatB (ts:List Bs):Bs:=(ts.map fun t=>byB 2 t.length ++ t).flatten
def joinB (ts:List Bs):Bs:=byB 2 ts.length ++ flatB ts
theorem byB2 (n:Nat):byB 2 n=[n % 256,n / 256 % 256]:=by simp[byB,List.range_succ]
theorem flatB_app (ts us:List Bs):flatB (ts ++ us)=flatB ts ++ flatB us:=by simp[flatB]
theorem flatB_one (t:Bs):flatB [t]=byB 2 t.length ++ t:=by simp[flatB]
theorem flatB_cons (t:Bs) (ts:List Bs):flatB (t :: ts)=byB 2 t.length ++ t ++ flatB ts:=by simp[flatB]
def parse:Nat→Bs→Option (List Bs)
 | 0,[]=>some []
 | 0,_ :: _=>none
 | k+1,x :: y :: r=>if x+256 * y≤r.length then (parse k (r.drop (x+256 * y))).map (r.take (x+256 * y) :: ·) else none
 | _+1,_=>none
def splitB:Bs→Option (List Bs)
 | x :: y :: r=>parse (x+256 * y) r
 | _=>none
theorem parse_flat:∀(ts:List Bs),(∀t∈ts,t.length < 65536)→parse ts.length (flatB ts)=some ts
 | [],_=>rfl
 | t :: ts,h=>by
   have ht:=h t List.mem_cons_self
   have e:t.length % 256+256 * (t.length / 256 % 256)=t.length:=by omega
   rw[flatB_cons,byB2]
   show (if t.length % 256+256 * (t.length / 256 % 256)≤(t ++ flatB ts).length then (parse ts.length ((t ++ flatB ts).drop (t.length % 256+256 * (t.length / 256 % 256)))).map ((t ++ flatB ts).take (t.length % 256+256 * (t.length / 256 % 256)) :: ·) else none)=_
   rw[e,if_pos (by simp),List.drop_left,List.take_left,parse_flat ts fun u hu=>h u (List.mem_cons_of_mem _ hu)]
   rfl
theorem split_join {ts:List Bs} (hl:ts.length < 65536) (h:∀t∈ts,t.length < 65536):splitB (joinB ts)=some ts:=by
 unfold joinB
 rw[byB2]
 show parse (ts.length % 256+256 * (ts.length / 256 % 256)) (flatB ts)=some ts
 rw[show ts.length % 256+256 * (ts.length / 256 % 256)=ts.length by omega]
 exact parse_flat ts h
theorem parse_len:∀{k:Nat} {b:Bs} {ts:List Bs},parse k b=some ts→ts.length=k
 | 0,[],ts,h=>by cases h; rfl
 | 0,_ :: _,ts,h=>by cases h
 | k+1,[],ts,h=>by cases h
 | k+1,[_],ts,h=>by cases h
 | k+1,x :: y :: r,ts,h=>by
   unfold parse at h
   split at h
   ·cases hp:parse k (r.drop (x+256 * y)) with
    | none=>rw[hp] at h; cases h
    | some us=>rw[hp] at h; cases h; rw[List.length_cons,parse_len hp]
   ·cases h
theorem parse_lt:∀{k:Nat} {b:Bs} {ts:List Bs},(∀x∈b,x < 256)→parse k b=some ts→∀t∈ts,t.length < 65536∧∀x∈t,x < 256
 | 0,[],ts,_,h=>by cases h; intro t ht; cases ht
 | 0,_ :: _,ts,_,h=>by cases h
 | k+1,[],ts,_,h=>by cases h
 | k+1,[_],ts,_,h=>by cases h
 | k+1,x :: y :: r,ts,hb,h=>by
   have hx:=hb x (by simp)
   have hy:=hb y (by simp)
   unfold parse at h
   split at h
   ·rename_i hle
    cases hp:parse k (r.drop (x+256 * y)) with
    | none=>rw[hp] at h; cases h
    | some us=>
      rw[hp] at h
      cases h
      intro t ht
      rcases List.mem_cons.1 ht with rfl | ht
      ·exact⟨by rw[List.length_take]; omega,fun z hz=>hb z (List.mem_cons_of_mem _ (List.mem_cons_of_mem _ (List.mem_of_mem_take hz)))⟩
      ·exact parse_lt (fun z hz=>hb z (List.mem_cons_of_mem _ (List.mem_cons_of_mem _ (List.mem_of_mem_drop hz)))) hp t ht
   ·cases h
theorem split_lt {b:Bs} {ts:List Bs} (hb:∀x∈b,x < 256) (h:splitB b=some ts):ts.length < 65536∧∀t∈ts,t.length < 65536∧∀x∈t,x < 256:=by
 match b,h with
 | [],h=>cases h
 | [_],h=>cases h
 | x :: y :: r,h=>
   have hx:=hb x (by simp)
   have hy:=hb y (by simp)
   have e:=parse_len h
   exact⟨by omega,parse_lt (fun z hz=>hb z (List.mem_cons_of_mem _ (List.mem_cons_of_mem _ hz))) h⟩
/-! ## Texts of signs -/
def strB (s:ByteArray):Bs:=s.data.toList.map UInt8.toNat
def strOf (b:Bs):ByteArray:=⟨(b.map UInt8.ofNat).toArray⟩
theorem strB_len (s:ByteArray):(strB s).length=s.size:=by
 rw[strB,List.length_map,Array.length_toList]
 rfl
theorem strB_lt {s:ByteArray} {x:Nat} (h:x∈strB s):x < 256:=by
 simp only[strB,List.mem_map] at h
 obtain⟨u, -,rfl⟩:=h
 exact u.toNat_lt
theorem strOf_B (s:ByteArray):strOf (strB s)=s:=by
 obtain⟨d⟩:=s
 simp only[strOf,strB,List.map_map]
 congr 1
 apply Array.toList_inj.1
 simp only[List.toList_toArray]
 conv=>rhs; rw[←List.map_id d.toList]
 exact List.map_congr_left fun u _=>by simp
theorem strB_of {b:Bs} (h:∀x∈b,x < 256):strB (strOf b)=b:=by
 simp only[strOf,strB,List.map_map]
 conv=>rhs; rw[←List.map_id b]
 refine List.map_congr_left fun u hu=>?_
 have:=h u hu
 show (UInt8.ofNat u).toNat=u
 simp; omega
theorem strB_inj {s t:ByteArray} (h:strB s=strB t):s=t:=by rw[←strOf_B s,h,strOf_B]
theorem strOf_inj {a b:Bs} (ha:∀x∈a,x < 256) (hb:∀x∈b,x < 256) (h:strOf a=strOf b):a=b:=by rw[←strB_of ha,h,strB_of hb]
/-! ## Ops -/
structure OpP where
 kind:Int
 name:ByteArray
 to:ByteArray
 n:Int
 data:Bs
 keep:List Bool
def keepB (k:List Bool):Bs:=k.map fun b=>if b then 1 else 0
theorem keepB_len (k:List Bool):(keepB k).length=k.length:=by simp[keepB]
theorem keepB_le {k:List Bool} {x:Nat} (h:x∈keepB k):x≤1:=by
 simp only[keepB,List.mem_map] at h
 obtain⟨b, -,rfl⟩:=h
 split <;> omega
def keepOf (b:Bs):List Bool:=b.map fun x=>decide (0 < x)
theorem keepOf_B (k:List Bool):keepOf (keepB k)=k:=by
 simp only[keepOf,keepB,List.map_map]
 conv=>rhs; rw[←List.map_id k]
 exact List.map_congr_left fun b _=>by cases b <;> rfl
theorem keepB_of {b:Bs} (h:∀x∈b,x≤1):keepB (keepOf b)=b:=by
 simp only[keepOf,keepB,List.map_map]
 conv=>rhs; rw[←List.map_id b]
 refine List.map_congr_left fun x hx=>?_
 have:=h x hx
 show (if decide (0 < x)=true then 1 else 0)=x
 by_cases h0:0 < x
 ·simp[h0]; omega
 ·simp[h0]; omega
def nB (n:Int):Nat:=if n < 0 then 65535 else n.toNat
def nOf (m:Nat):Int:=if m=65535 then -1 else m
def hN (k:Int):Prop:=(0≤k∧k≤3)∨k=10∨k=12
def hName (k:Int):Prop:=0≤k∧k≤8
def hTo (k:Int):Prop:=k=5
def hData (k:Int):Prop:=k=1∨k=12
def hKeep (k:Int):Prop:=k=11
structure OpOk (o:OpP):Prop where
 lo:0≤o.kind
 hi:o.kind≤12
 name:hName o.kind∨o.name.size=0
 nameL:o.name.size≤60
 to:hTo o.kind∨o.to.size=0
 toL:o.to.size≤60
 n:hN o.kind∨o.n=0
 nLo:-1≤o.n
 nHi:o.n≤65534
 data:hData o.kind∨o.data.length=0
 dataL:o.data.length≤129
 keep:hKeep o.kind∨o.keep.length=0
 keepL:o.keep.length≤64
def headB (o:OpP):Bs:=enc [1,2] [o.kind.toNat,nB o.n]
def opTs (o:OpP):List Bs:=[headB o,strB o.name,strB o.to,o.data,keepB o.keep]
def opB (o:OpP):Bs:=joinB (opTs o)
theorem headB_eq (o:OpP):headB o=[o.kind.toNat % 256,nB o.n % 256,nB o.n / 256 % 256]:=by simp[headB,enc,byB,List.range_succ]
theorem headB_len (o:OpP):(headB o).length=3:=by rw[headB_eq]; rfl
theorem nB_lt {n:Int} (h:n≤65534):nB n < 65536:=by unfold nB; split <;> omega
theorem nOf_B {n:Int} (h1:-1≤n) (h2:n≤65534):nOf (nB n)=n:=by unfold nB nOf; split <;> split <;> omega
theorem nB_of {m:Nat} (h:m < 65536):nB (nOf m)=m:=by unfold nB nOf; split <;> split <;> omega
theorem opTs_lt {o:OpP} (k:OpOk o):∀t∈opTs o,t.length < 65536:=by
 intro t ht
 simp only[opTs,List.mem_cons,List.not_mem_nil,or_false] at ht
 rcases ht with rfl | rfl | rfl | rfl | rfl
 ·rw[headB_len]; omega
 ·rw[strB_len]; have:=k.nameL; omega
 ·rw[strB_len]; have:=k.toL; omega
 ·have:=k.dataL; omega
 ·rw[keepB_len]; have:=k.keepL; omega
theorem flatB_len:∀(ts:List Bs),(flatB ts).length=(ts.map fun t=>2+t.length).sum
 | []=>rfl
 | t :: ts=>by rw[flatB_cons,List.map_cons,List.sum_cons,List.length_append,List.length_append,byB_len,flatB_len ts]
theorem joinB_len (ts:List Bs):(joinB ts).length=2+(ts.map fun t=>2+t.length).sum:=by rw[joinB,List.length_append,byB_len,flatB_len]
theorem opB_len {o:OpP} (k:OpOk o):(opB o).length≤400:=by
 rw[opB,joinB_len]
 simp only[opTs,List.map_cons,List.map_nil,List.sum_cons,List.sum_nil,headB_len,strB_len,keepB_len]
 have:=k.nameL; have:=k.toL; have:=k.dataL; have:=k.keepL
 omega
theorem joinB_lt {ts:List Bs} (h:∀t∈ts,∀x∈t,x < 256):∀x∈joinB ts,x < 256:=by
 intro x hx
 rw[joinB,List.mem_append] at hx
 rcases hx with hx | hx
 ·exact byB_lt hx
 ·simp only[flatB,List.mem_flatten,List.mem_map] at hx
  obtain⟨l,⟨t,ht,rfl⟩,hx⟩:=hx
  rw[List.mem_append] at hx
  rcases hx with hx | hx
  ·exact byB_lt hx
  ·exact h t ht x hx
theorem opB_lt {o:OpP} (hd:∀x∈o.data,x < 256):∀x∈opB o,x < 256:=by
 refine joinB_lt fun t ht x hx=>?_
 simp only[opTs,List.mem_cons,List.not_mem_nil,or_false] at ht
 rcases ht with rfl | rfl | rfl | rfl | rfl
 ·exact enc_lt _ _ hx
 ·exact strB_lt hx
 ·exact strB_lt hx
 ·exact hd x hx
 ·have:=keepB_le hx; omega
def opOf (b:Bs):Option OpP:=match splitB b with
 | some [[x,y,z],nm,to,d,k]=>some ⟨x,strOf nm,strOf to,nOf (y+256 * z),d,keepOf k⟩
 | _=>none
theorem opOf_B {o:OpP} (k:OpOk o):opOf (opB o)=some o:=by
 unfold opOf
 rw[opB,split_join (by simp[opTs]) (opTs_lt k),opTs,headB_eq]
 simp only[]
 have h1:=k.lo
 have h2:=k.hi
 have h3:=nB_lt k.nHi
 rw[strOf_B,strOf_B,keepOf_B,show nB o.n % 256+256 * (nB o.n / 256 % 256)=nB o.n by omega,nOf_B k.nLo k.nHi,show ((o.kind.toNat % 256:Nat):Int)=o.kind by omega]
/-! ## Scripts -/
structure ScrP where
 secs:Int
 ops:List OpP
structure ScrOk (s:ScrP):Prop where
 lo:64≤s.secs
 hi:s.secs≤1024
 len:s.ops.length≤200
 ops:∀o∈s.ops,OpOk o
def scrTs (s:ScrP):List Bs:=byB 2 s.secs.toNat :: s.ops.map opB
def scrB (s:ScrP):Bs:=joinB (scrTs s)
theorem scrTs_lt {s:ScrP} (k:ScrOk s):∀t∈scrTs s,t.length < 65536:=by
 intro t ht
 rcases List.mem_cons.1 ht with rfl | ht
 ·rw[byB_len]; omega
 ·obtain⟨o,ho,rfl⟩:=List.mem_map.1 ht
  have:=opB_len (k.ops o ho)
  omega
def opsOf:List Bs→Option (List OpP)
 | []=>some []
 | t :: ts=>match opOf t with
   | some o=>(opsOf ts).map (o :: ·)
   | none=>none
def scrOf (b:Bs):Option ScrP:=match splitB b with
 | some ([x,y] :: ts)=>(opsOf ts).map fun os=>⟨(x+256 * y:Nat),os⟩
 | _=>none
theorem opsOf_B:∀{os:List OpP},(∀o∈os,OpOk o)→opsOf (os.map opB)=some os
 | [],_=>rfl
 | o :: os,h=>by
   rw[List.map_cons,opsOf,opOf_B (h o List.mem_cons_self)]
   simp only[]
   rw[opsOf_B fun x hx=>h x (List.mem_cons_of_mem _ hx)]
   rfl
theorem scrOf_B {s:ScrP} (k:ScrOk s):scrOf (scrB s)=some s:=by
 unfold scrOf
 have h1:=k.lo
 have h2:=k.hi
 rw[scrB,split_join (by have:=k.len; simp[scrTs]; omega) (scrTs_lt k),scrTs,byB2]
 simp only[]
 rw[opsOf_B k.ops]
 simp only[Option.map_some]
 rw[show s.secs.toNat % 256+256 * (s.secs.toNat / 256 % 256)=s.secs.toNat by omega,Int.toNat_of_nonneg (by omega)]
def ScrIs (b:Bs) (s:ScrP):Prop:=ScrOk s∧scrB s=b
theorem ScrIs.det {b:Bs} {s t:ScrP} (k:ScrIs b s) (l:ScrIs b t):s=t:=by
 have h1:=scrOf_B k.1
 have h2:=scrOf_B l.1
 rw[k.2] at h1
 rw[l.2] at h2
 rw[h1] at h2
 cases h2
 rfl
theorem opsOf_len:∀{ts:List Bs} {os:List OpP},opsOf ts=some os→os.length=ts.length
 | [],os,h=>by cases h; rfl
 | t :: ts,os,h=>by
   unfold opsOf at h
   cases ho:opOf t with
   | none=>rw[ho] at h; cases h
   | some o=>
     rw[ho] at h
     simp only[] at h
     cases hs:opsOf ts with
     | none=>rw[hs] at h; cases h
     | some us=>rw[hs] at h; cases h; rw[List.length_cons,List.length_cons,opsOf_len hs]
theorem opsOf_app:∀(ts:List Bs) (t:Bs),opsOf (ts ++ [t])=match opsOf ts,opOf t with | some os,some o=>some (os ++ [o]) | _,_=>none
 | [],t=>by
   show (match opOf t with | some o=>(opsOf []).map (o :: ·) | none=>none)=_
   cases opOf t <;> rfl
 | u :: ts,t=>by
   show (match opOf u with | some o=>(opsOf (ts ++ [t])).map (o :: ·) | none=>none)=match (match opOf u with | some o=>(opsOf ts).map (o :: ·) | none=>none),opOf t with | some os,some o=>some (os ++ [o]) | _,_=>none
   rw[opsOf_app ts t]
   cases opOf u <;> cases opsOf ts <;> cases opOf t <;> rfl
end Go.Am
/-
 WHAT ARGUMENTS ARE:texts,ops,scripts.
-/
set_option linter.unusedVariables false
set_option linter.unusedSimpArgs false
set_option maxRecDepth 100000
namespace Go.Am
open Go.Proofs
theorem eU8:ElemOk Try.prog 29 5 1 1:=ElemOk_of (by kernel_rfl)
theorem eBool:ElemOk Try.prog 30 4 1 1:=ElemOk_of (by kernel_rfl)
theorem eOps:ElemOk Try.prog 28 32 6 96:=ElemOk_of (by kernel_rfl)
theorem bytes_all:∀al:List Value,(∀v∈al,∃m:Nat,v=.int .u8 m∧m < 256)→∃data:List Nat,al=natC .u8 data∧∀x∈data,x < 256
 | [],_=>⟨[],rfl,by simp⟩
 | v :: al,h=>by
   obtain⟨m,rfl,hm⟩:=h v List.mem_cons_self
   obtain⟨ds,rfl,hd⟩:=bytes_all al fun x hx=>h x (List.mem_cons_of_mem _ hx)
   exact⟨m :: ds,rfl,fun x hx=>(List.mem_cons.1 hx).elim (fun z=>by rw[z]; exact hm) (hd x)⟩
theorem u8_nat {m:Int} (h:(Lit.int .u8 m).wf=true):∃k:Nat,m=k∧k < 256:=by
 simp[Lit.wf,IntKind.min,IntKind.max,IntKind.signed,IntKind.bits] at h
 exact⟨m.toNat,by omega,by omega⟩
def bolC (l:List Bool):List Value:=l.map .bool
theorem bolC_len (l:List Bool):(bolC l).length=l.length:=by simp[bolC]
theorem bolC_get {l:List Bool} {i:Nat} (hi:i < l.length):(bolC l)[i]?= some (.bool l[i]):=by simp[bolC,hi]
theorem bolC_app (a b:List Bool):bolC (a ++ b)=bolC a ++ bolC b:=by simp[bolC]
theorem bools_all:∀al:List Value,(∀v∈al,∃b:Bool,v=.bool b)→∃l:List Bool,al=bolC l
 | [],_=>⟨[],rfl⟩
 | v :: al,h=>by
   obtain⟨b,rfl⟩:=h v List.mem_cons_self
   obtain⟨l,rfl⟩:=bools_all al fun x hx=>h x (List.mem_cons_of_mem _ hx)
   exact⟨b :: l,rfl⟩
theorem list_of {α:Type} (Q:Nat→α→Prop):∀n:Nat,(∀i,i < n→∃a,Q i a)→∃l:List α,l.length=n∧∀(i:Nat) (hi:i < l.length),Q i l[i]
 | 0,_=>⟨[],rfl,fun i hi=>absurd hi (Nat.not_lt_zero _)⟩
 | n+1,h=>by
   obtain⟨l,hl,hq⟩:=list_of Q n fun i hi=>h i (by omega)
   obtain⟨a,ha⟩:=h n (Nat.lt_succ_self _)
   refine⟨l ++ [a],by simp[hl],fun i hi=>?_⟩
   rw[List.getElem_append]
   split
   ·rename_i z; exact hq i z
   ·rename_i z
    have:i=n:=by simp at hi; omega
    subst this
    simpa using ha
def PForm (p:Option Addr):Prop:=p=none∨∃b off,p=some ⟨b,off,none⟩
def Text (h:AH) (p:Option Addr) (n:Nat) (data:List Nat):Prop:=PForm p∧n=data.length∧n≤reachBytes∧Shows h p n 1 (natC .u8 data)∧∀x∈data,x < 256
def Bools (h:AH) (p:Option Addr) (n:Nat) (l:List Bool):Prop:=PForm p∧n=l.length∧n≤reachBytes∧Shows h p n 1 (bolC l)
theorem Text.old {h h' : AH} {p:Option Addr} {n:Nat} {data:List Nat} (t:Text h p n data) (o:Old h h'):Text h' p n data:=⟨t.1,t.2.1,t.2.2.1,t.2.2.2.1.old o,t.2.2.2.2⟩
theorem Bools.old {h h' : AH} {p:Option Addr} {n:Nat} {l:List Bool} (t:Bools h p n l) (o:Old h h'):Bools h' p n l:=⟨t.1,t.2.1,t.2.2.1,t.2.2.2.old o⟩
def OpAt (h:AH) (cs:List Value) (o:OpP):Prop:=∃pd nd cd pk nk ck,cs=[.int .i64 o.kind,.string o.name,.string o.to,.int .i64 o.n,.slice pd nd cd,.slice pk nk ck]∧Text h pd nd o.data∧Bools h pk nk o.keep∧o.name.size≤reachBytes∧o.to.size≤reachBytes
theorem OpAt.old {h h' : AH} {cs:List Value} {o:OpP} (t:OpAt h cs o) (k:Old h h'):OpAt h' cs o:=by
 obtain⟨pd,nd,cd,pk,nk,ck,e,t1,t2,t3⟩:=t
 exact⟨pd,nd,cd,pk,nk,ck,e,t1.old k,t2.old k,t3⟩
def Ops (h:AH) (p:Option Addr) (n:Nat) (os:List OpP):Prop:=PForm p∧n=os.length∧n * 96≤reachBytes∧∃cells,Shows h p n 6 cells∧∀(i:Nat) (hi:i < os.length),OpAt h ((cells.drop (i * 6)).take 6) os[i]
theorem Ops.old {h h' : AH} {p:Option Addr} {n:Nat} {os:List OpP} (t:Ops h p n os) (o:Old h h'):Ops h' p n os:=by
 obtain⟨t1,t2,t3,cells,t4,t5⟩:=t
 exact⟨t1,t2,t3,cells,t4.old o,fun i hi=>(t5 i hi).old o⟩
theorem Ops.at {h:AH} {p:Option Addr} {n:Nat} {os:List OpP} (t:Ops h p n os) {i:Nat} (hi:i < n):∃b off,p=some ⟨b,off,none⟩∧∃(hi' : i < os.length),∃pd nd cd pk nk ck,
 ldN h b (off+i * 6) 6=some [.int .i64 os[i].kind,.string os[i].name,.string os[i].to,.int .i64 os[i].n,.slice pd nd cd,.slice pk nk ck]∧
 ld1 h b (off+i * 6)=some (.int .i64 os[i].kind)∧ld1 h b (off+i * 6+1)=some (.string os[i].name)∧ld1 h b (off+i * 6+2)=some (.string os[i].to)∧ld1 h b (off+i * 6+3)=some (.int .i64 os[i].n)∧ld1 h b (off+i * 6+4)=some (.slice pd nd cd)∧ld1 h b (off+i * 6+5)=some (.slice pk nk ck)∧
 Text h pd nd os[i].data∧Bools h pk nk os[i].keep∧os[i].name.size≤reachBytes∧os[i].to.size≤reachBytes∧b < h.next:=by
 obtain⟨t1,t2,t3,cells,t4,t5⟩:=t
 obtain⟨b,off,hp,hld,h1⟩:=t4.getN hi
 have hi' : i < os.length:=by omega
 obtain⟨pd,nd,cd,pk,nk,ck,e,t6,t7,t8,t9⟩:=t5 i hi'
 have hb:b < h.next:=by
  rcases t4.2 with z | ⟨b',off',al,e',ro,hp',hb', -⟩
  ·omega
  ·rw[hp] at hp'; cases hp'; exact hb'
 have ge:∀(j:Nat) (v:Value),j < 6→([Value.int .i64 os[i].kind,.string os[i].name,.string os[i].to,.int .i64 os[i].n,.slice pd nd cd,.slice pk nk ck]:List Value)[j]?= some v→ld1 h b (off+i * 6+j)=some v:=by
  intro j v hj hv
  rw[h1 j hj,←hv,←e,List.getElem?_take,if_pos hj,List.getElem?_drop]
 exact⟨b,off,hp,hi',pd,nd,cd,pk,nk,ck,by rw[hld,e],ge 0 _ (by omega) rfl,ge 1 _ (by omega) rfl,ge 2 _ (by omega) rfl,ge 3 _ (by omega) rfl,ge 4 _ (by omega) rfl,ge 5 _ (by omega) rfl,t6,t7,t8,t9,hb⟩
section
variable {h:AH}
theorem drop_take_one {l:List Value} {i:Nat} (hi:i < l.length):(l.drop i).take 1=[l[i]]:=by
 rw[List.drop_eq_getElem_cons hi]
 rfl
theorem rd_bytes {g n:Nat} {al:List Value} (r:RdL Try.prog (Rd Try.prog h (g+1)) (List.replicate n 5) al):∃data:List Nat,al=natC .u8 data∧data.length=n∧∀x∈data,x < 256:=by
 obtain⟨hl,hi⟩:=r.rep
 have hc2:Try.prog.cellsOf 5=1:=by simp
 rw[hc2,Nat.mul_one] at hl
 obtain⟨data,rfl,hd⟩:=bytes_all al fun v hv=>by
  obtain⟨i,hil,rfl⟩:=List.mem_iff_getElem.1 hv
  have:=hi i (by omega)
  rw[hc2,Nat.mul_one,drop_take_one hil] at this
  unfold Rd at this
  rw[Try.underlying5] at this
  obtain⟨m,e,hw⟩:=this
  obtain⟨k,rfl,hk⟩:=u8_nat hw
  exact⟨k,by simpa using e,hk⟩
 exact⟨data,rfl,by rw[natC_len] at hl; exact hl,hd⟩
theorem rd_bools {g n:Nat} {al:List Value} (r:RdL Try.prog (Rd Try.prog h (g+1)) (List.replicate n 4) al):∃l:List Bool,al=bolC l∧l.length=n:=by
 obtain⟨hl,hi⟩:=r.rep
 have hc2:Try.prog.cellsOf 4=1:=by simp
 rw[hc2,Nat.mul_one] at hl
 obtain⟨l,rfl⟩:=bools_all al fun v hv=>by
  obtain⟨i,hil,rfl⟩:=List.mem_iff_getElem.1 hv
  have:=hi i (by omega)
  rw[hc2,Nat.mul_one,drop_take_one hil] at this
  unfold Rd at this
  rw[Try.underlying4] at this
  obtain⟨b,e⟩:=this
  exact⟨b,by simpa using e⟩
 exact⟨l,rfl,by rw[bolC_len] at hl; exact hl⟩
theorem rd_text {g:Nat} {v:Value} (r:Rd Try.prog h (g+2) 29 [v]):∃p n c data,v=.slice p n c∧Text h p n data∧(0 < n→n≤c∧c < openCap):=by
 unfold Rd at r
 rw[Try.underlying29] at r
 obtain⟨p,n,c,al,e,hp,hn,hb,hs,hr⟩:=r
 have hc2:Try.prog.cellsOf 5=1:=by simp
 have hb2:Try.prog.bytesOf 5=1:=by kernel_rfl
 rw[hc2] at hs
 rw[hb2,Nat.mul_one] at hb
 obtain⟨data,rfl,hl,hd⟩:=rd_bytes hr
 exact⟨p,n,c,data,by simpa using e,⟨hp,hl.symm,hb,hs,hd⟩,hn.2⟩
theorem rd_boolsS {g:Nat} {v:Value} (r:Rd Try.prog h (g+2) 30 [v]):∃p n c l,v=.slice p n c∧Bools h p n l:=by
 unfold Rd at r
 rw[Try.underlying30] at r
 obtain⟨p,n,c,al,e,hp,hn,hb,hs,hr⟩:=r
 have hc2:Try.prog.cellsOf 4=1:=by simp
 have hb2:Try.prog.bytesOf 4=1:=by kernel_rfl
 rw[hc2] at hs
 rw[hb2,Nat.mul_one] at hb
 obtain⟨l,rfl,hl⟩:=rd_bools hr
 exact⟨p,n,c,l,by simpa using e,hp,hl.symm,hb,hs⟩
theorem rd_op {g:Nat} {cs:List Value} (r:Rd Try.prog h (g+3) 32 cs):∃o:OpP,OpAt h cs o:=by
 unfold Rd at r
 rw[Try.underlying32] at r
 have hc1:Try.prog.cellsOf 3=1:=by simp
 have hc2:Try.prog.cellsOf 29=1:=by simp
 have hc3:Try.prog.cellsOf 9=1:=by simp
 have hc4:Try.prog.cellsOf 30=1:=by simp
 simp only[List.map_cons,List.map_nil,RdL,hc1,hc2,hc3,hc4,List.drop_drop] at r
 obtain⟨k1,r1,k2,r2,k3,r3,k4,r4,k5,r5,k6,r6,r7⟩:=r
 unfold Rd at r1 r2 r3 r4
 rw[Try.underlying3] at r1 r4
 rw[Try.underlying9] at r2 r3
 obtain⟨x1,e1, -⟩:=r1
 obtain⟨x2,e2, -,w2⟩:=r2
 obtain⟨x3,e3, -,w3⟩:=r3
 obtain⟨x4,e4, -⟩:=r4
 match cs,e1,e2,e3,e4,r5,r6,r7,k6 with
 | [c0,c1,c2,c3,c4,c5],e1,e2,e3,e4,r5,r6,r7,k6=>
   obtain⟨pd,nd,cd,data,e5,t5, -⟩:=rd_text (g:=g) (v:=c4) r5
   obtain⟨pk,nk,ck,keep,e6,t6⟩:=rd_boolsS (g:=g) (v:=c5) r6
   simp at e1 e2 e3 e4
   subst e1 e2 e3 e4 e5 e6
   exact⟨⟨x1,x2,x3,x4,data,keep⟩,pd,nd,cd,pk,nk,ck,rfl,t5,t6,w2,w3⟩
 | c0 :: c1 :: c2 :: c3 :: c4 :: c5 :: c6 :: l,e1,e2,e3,e4,r5,r6,r7,k6=>simp at r7
theorem rd_ops {g:Nat} {v:Value} (r:Rd Try.prog h (g+4) 28 [v]):∃p n c os,v=.slice p n c∧Ops h p n os:=by
 unfold Rd at r
 rw[Try.underlying28] at r
 obtain⟨p,n,c,al,e,hp,hn,hb,hs,hr⟩:=r
 have hc2:Try.prog.cellsOf 32=6:=by simp
 have hb2:Try.prog.bytesOf 32=96:=by kernel_rfl
 rw[hb2] at hb
 obtain⟨hl,hi⟩:=hr.rep
 rw[hc2] at hs hi hl
 obtain⟨os,hos,hq⟩:=list_of (fun i (o:OpP)=>OpAt h ((al.drop (i * 6)).take 6) o) n fun i hin=>rd_op (hi i hin)
 exact⟨p,n,c,os,by simpa using e,hp,hos.symm,hb,al,hs,hq⟩
theorem rdv_text {g:Nat} {a:Value} (r:RdV Try.prog h g 29 a):Rd Try.prog h g 29 [a]:=by
 unfold RdV at r
 rw[Try.underlying29] at r
 exact r
theorem bytes_args {vs:List Value} (r:RdA Try.prog h 8 [29] vs):∃p n c data,vs=[.slice p n c]∧Text h p n data∧(0 < n→n≤c∧c < openCap):=by
 obtain⟨a,rfl,r1⟩:=rda1 r
 obtain⟨p,n,c,data,rfl,T,C⟩:=rd_text (g:=6) (rdv_text r1)
 exact⟨p,n,c,data,rfl,T,C⟩
end
end Go.Am
/-
 A WRITE IS ITS VOLUME'S ALONE,in a model.
-/
set_option linter.unusedVariables false
set_option linter.unusedSimpArgs false
set_option maxRecDepth 100000
namespace Go.Am
open Go.Proofs
/-! ## The key of a sector -/
theorem mapM_gotM {α β:Type} {f:α→Option β}:∀(l:List α) (m:List β),m.length=l.length→(∀(i:Nat) (x:α),l[i]?= some x→f x=m[i]?)→l.mapM f=some m
 | [],[],_,_=>rfl
 | x :: l,y :: m,hl,h=>by
   have h0:=h 0 x rfl
   have ih:=mapM_gotM (f:=f) l m (by simpa using hl) fun i x hx=>h (i+1) x hx
   simp only[List.getElem?_cons_zero] at h0
   rw[List.mapM_cons,h0,ih]
   rfl
theorem aKey_arrayM {P:Program} {t e:TypeId} {k:Nat} (hu:P.underlying t=some (.array k e)) {n d:Nat} (hn:n=d+1) (cs:List Value):
 P.keyLits n t cs=if cs.length=P.cellsOf t then ((List.range k).mapM fun i=>P.keyLits d e ((cs.drop (i * P.cellsOf e)).take (P.cellsOf e))).map List.flatten else none:=by
 subst hn
 rw[Program.keyLits.eq_def]
 dsimp only
 rw[hu]
theorem flat_oneM {α:Type}:∀l:List α,(l.map fun x=>[x]).flatten=l
 | []=>rfl
 | x :: l=>by simp only[List.map_cons,List.flatten_cons,flat_oneM l]; rfl
theorem wf_u8M {x:Nat} (hx:x < 256):(Lit.int .u8 (x:Int)).wf=true:=by
 simp[Lit.wf,IntKind.min,IntKind.max,IntKind.signed,IntKind.bits]
 omega
def SecM (s:List Nat):Prop:=s.length=128∧∀x∈s,x < 256
theorem kSecM {s:List Nat} (hs:SecM s):keyA Try.prog 34 (.agg (natC .u8 s).toArray)=some (s.map fun (x:Nat)=>Lit.int .u8 x):=by
 have hl:(natC .u8 s).length=128:=by rw[natC_len]; exact hs.1
 have hf:(Value.agg (natC .u8 s).toArray).formed Try.prog 34=true:=by simp[Value.formed,hl]
 have k3:=fun (x:Int)=>aKey_intN (P:=Try.prog) Try.underlying5 (m:=39) (d:=38) rfl x
 rw[aKey_eq hf,aKey_arrayM Try.underlying34 (d:=39) rfl]
 generalize Try.prog.keyLits 39=KL at k3 ⊢
 simp only[List.toList_toArray]
 have hc1:Try.prog.cellsOf 34=128:=by simp
 have hc2:Try.prog.cellsOf 5=1:=by simp
 rw[if_pos (by rw[hl,hc1]),hc2]
 have:(List.range 128).mapM (fun i=>KL 5 (((natC .u8 s).drop (i * 1)).take 1))=some (s.map fun (x:Nat)=>[Lit.int .u8 x]):=by
  refine mapM_gotM _ _ (by simp[hs.1]) fun i x hi=>?_
  have hi128:i < 128:=by have:=(List.getElem?_eq_some_iff.1 hi).1; simpa using this
  rw[List.getElem?_range hi128] at hi
  obtain rfl:i=x:=by simpa using hi
  have hlt:i < s.length:=by rw[hs.1]; exact hi128
  rw[Nat.mul_one,drop_take_one (by rw[hl]; exact hi128)]
  have e:(natC .u8 s)[i]'(by rw[hl]; exact hi128)=.int .u8 (s[i]:Nat):=by simp[natC]
  rw[e,k3,if_pos (wf_u8M (hs.2 _ (List.getElem_mem hlt)))]
  simp[hlt]
 rw[this]
 simp only[Option.map_some,Option.some.injEq]
 have:=flat_oneM (s.map fun (x:Nat)=>Lit.int .u8 x)
 rw[List.map_map] at this
 exact this
/-! ## The plain law -/
section
variable {b:Int} {h:AH} {mb bm:Nat} {s:MSt}
theorem readM_sec (M:ModOk b h mb bm s) (f:ByteArray) (i:Int):∃bs,(readM s f i).1=natC .u8 bs∧SecM bs:=by
 unfold readM
 split
 ·exact⟨List.replicate 128 0,(natC_rep 128).symm,by simp,fun x hx=>by rw[List.eq_of_mem_replicate hx]; decide⟩
 ·rename_i hz
  obtain⟨q1,q2⟩:=M.block (o:=spl f) (i:=i) (by simpa using hz)
  obtain⟨bs,v,e,h1,h2, -⟩:=(M.map.ok (findM s.rs (spl f) i).1.id).2 i.toNat (by omega)
  refine⟨bs,?_,h1,h2⟩
  rw[e,List.take_append_of_le_length (by rw[natC_len]; omega),List.take_of_length_le (by rw[natC_len]; omega)]
theorem SecM.len {bs:List Nat} (k:SecM bs):(natC .u8 bs).length=128:=by rw[natC_len]; exact k.1
theorem doM_sec (M:ModOk b h mb bm s) (k:Int) (f t:ByteArray) (i:Int) (ds:List Nat):(doM s k f t i ds).2.1.length=128:=by
 obtain⟨bs,e,hb⟩:=readM_sec M f i
 have hl:(readM s f i).1.length=128:=by rw[e]; exact hb.len
 unfold doM
 split
 ·exact zeroS_len
 ·split
  ·exact zeroS_len
  ·split
   ·exact zeroS_len
   ·split
    ·exact hl
    ·repeat' split
     all_goals exact zeroS_len
theorem findM_full {nx:Int} {rs:List SetR} (R:RightP nx rs) {u:Nat} {r:SetR} (hr:rs[u]?= some r) {i:Int} (h1:0≤i) (h2:i < r.blocks):findM rs (spl (fullR rs r.id)) i=(r,0):=by
 obtain⟨a,b,q1,q2⟩:=R.called hr
 unfold findM
 rw[spl_some q1,show lookOf rs (some (a,b))=some u from q2]
 simp only
 rw[hr]
 simp only
 rw[if_neg (by omega)]
theorem vol_name {nx:Int} {rs:List SetR} (R:RightP nx rs) {f:ByteArray} (hv:(volOf (spl f)).isSome=true) {j:Nat} {r:SetR} (hl:lookOf rs (spl f)=some j) (hr:rs[j]?= some r):fullR rs r.id=f:=by
 obtain⟨a,ha⟩:=Option.isSome_iff_exists.1 hv
 have hs:=vol_snap R ha hl hr
 obtain⟨e,rfl, -⟩:=vol_self ha
 rw[e] at hl
 have hl2:lookN rs a noB=some j:=hl
 unfold lookN at hl2
 cases hp:plcC rs (0,a) with
 | none=>rw[hp] at hl2; cases hl2
 | some j2=>
   rw[hp] at hl2
   simp only at hl2
   rw[if_pos trivial] at hl2
   cases hl2
   obtain⟨r2,q1,q2⟩:=plcC_at hp
   rw[hr] at q1
   cases q1
   have hn:r.name=a:=congrArg Prod.snd q2
   unfold fullR
   rw[R.uniq hr]
   simp only
   rw[hr]
   simp only
   rw[if_neg (by rw[hs]; decide),hn]
theorem wt_doM (M:ModOk b h mb bm s) {k:Int} (hk:k=1∨k=2) (f t:ByteArray) (i:Int) {ds:List Nat} (hd:∀x∈ds,x < 256) (hmd:s.md+1≤1000000):(doM s k f t i ds).1.rs=s.rs∧((doM s k f t i ds).2.2≠0→(doM s k f t i ds).1.T=s.T)∧
 ((doM s k f t i ds).2.2=0→∃j r l,(volOf (spl f)).isSome=true∧lookOf s.rs (spl f)=some j∧s.rs[j]?= some r∧0≤i∧i < 64∧l.length=129∧(doM s k f t i ds).1.T=fun x=>if x=r.id then setBlk (s.T r.id) i.toNat l else s.T x):=by
 have hmd0:=M.md
 have ok:(volM s.rs (spl f) i).2=0→∃j r,(volOf (spl f)).isSome=true∧lookOf s.rs (spl f)=some j∧s.rs[j]?= some r∧0≤i∧i < 64∧(volM s.rs (spl f) i).1=r:=fun z=>by
  obtain⟨e1,e2,e3⟩:=volM_ok z
  obtain⟨j,r,q1,q2,q3,q4,q5⟩:=findM_ok e2
  have:=(M.right.ent (List.mem_of_getElem? q2)).2.2.2.1
  exact⟨j,r,e3,q1,q2,q4,by omega,by rw[e1]; exact q3⟩
 rcases hk with rfl | rfl
 ·have e:doM s 1 f t i ds=((writeM s f i ds).1,zeroS,(writeM s f i ds).2):=by unfold doM; rw[if_neg (by decide),if_pos rfl]
  rw[e]
  unfold writeM
  split
  ·rename_i z
   exact⟨rfl,fun _=>rfl,fun y=>absurd y z⟩
  ·rename_i z
   split
   ·exact⟨rfl,fun _=>rfl,fun y=>absurd (show (92:Int)=0 from y) (by decide)⟩
   ·rename_i hle
    obtain⟨j,r,q1,q2,q3,q4,q5,q6⟩:=ok (by simpa using z)
    rw[q6]
    exact⟨rfl,fun y=>absurd rfl y,fun _=>⟨j,r,_,q1,q2,q3,q4,q5,(padB_ok (v:=s.md+1) (by omega) hd (u64Wf ⟨by omega,by omega⟩)).len,rfl⟩⟩
 ·have e:doM s 2 f t i ds=((trimM s f i).1,zeroS,(trimM s f i).2):=by unfold doM; rw[if_neg (by decide),if_neg (by decide),if_pos rfl]
  rw[e]
  unfold trimM
  split
  ·rename_i z
   exact⟨rfl,fun _=>rfl,fun y=>absurd y z⟩
  ·rename_i z
   obtain⟨j,r,q1,q2,q3,q4,q5,q6⟩:=ok (by simpa using z)
   rw[q6]
   exact⟨rfl,fun y=>absurd rfl y,fun _=>⟨j,r,_,q1,q2,q3,q4,q5,zeroB_ok.len,rfl⟩⟩
theorem read_apart (M:ModOk b h mb bm s) {k:Int} (hk:k=1∨k=2) (f t:ByteArray) (i:Int) {ds:List Nat} (hd:∀x∈ds,x < 256) (hmd:s.md+1≤1000000) {u:Nat} {r:SetR} (hr:s.rs[u]?= some r) {v:Nat} (hv:(v:Int) < r.blocks):
 (readM s (fullR s.rs r.id) v).2=0∧(readM (doM s k f t i ds).1 (fullR s.rs r.id) v).2=0∧(((doM s k f t i ds).2.2≠0∨fullR s.rs r.id≠f∨(v:Int)≠i)→(readM (doM s k f t i ds).1 (fullR s.rs r.id) v).1=(readM s (fullR s.rs r.id) v).1):=by
 obtain⟨e1,e2,e3⟩:=wt_doM M hk f t i hd hmd
 have hf:=findM_full M.right hr (i:=(v:Int)) (by omega) hv
 have h64:=(M.right.ent (List.mem_of_getElem? hr)).2.2.2.1
 have a1:readM s (fullR s.rs r.id) v=((blkAt (s.T r.id) v).take 128,0):=by unfold readM; rw[hf]; rfl
 have a2:readM (doM s k f t i ds).1 (fullR s.rs r.id) v=((blkAt ((doM s k f t i ds).1.T r.id) v).take 128,0):=by unfold readM; rw[e1,hf]; rfl
 rw[a1,a2]
 refine⟨rfl,rfl,fun y=>?_⟩
 show (blkAt ((doM s k f t i ds).1.T r.id) v).take 128=(blkAt (s.T r.id) v).take 128
 by_cases h0:(doM s k f t i ds).2.2=0
 ·obtain⟨j,r2,l,q1,q2,q3,q4,q5,q6,q7⟩:=e3 h0
  rw[q7]
  simp only
  by_cases hid:r.id=r2.id
  ·rw[if_pos hid,hid]
   have hj:u=j:=by
    have p1:=M.right.uniq hr
    have p2:=M.right.uniq q3
    rw[hid,p2] at p1
    exact (Option.some.inj p1).symm
   subst hj
   rw[hr] at q3
   cases q3
   have hn:=vol_name M.right q1 q2 hr
   have hvi:(v:Int)≠i:=by
    rcases y with y | y | y
    ·exact absurd h0 y
    ·exact absurd hn y
    ·exact y
   rw[blkAt_set (M.map.ok _).1 q6 (by omega) (by omega),if_neg (by omega)]
  ·rw[if_neg hid]
 ·rw[e2 h0]
end
structure KAprt (K:Xs):Prop where
 m:KMod K
 l:KLst K
 c:KCpy K
theorem OldM.toOld {mb bm:Nat} {h h' : AH} (o:OldM mb bm h h') {x:Nat} (hx:x≤h.next) (h1:x≤mb) (h2:x≤bm):OldB x h h':=⟨o.1,fun y hy=>o.2 y (by omega) (by omega) (by omega)⟩
end Go.Am
/-
 A WRITE IS ITS VOLUME'S ALONE,in a model:the arguments.
-/
set_option linter.unusedVariables false
set_option linter.unusedSimpArgs false
set_option maxRecDepth 100000
namespace Go.Am
open Go.Proofs
theorem rdv_ops {h:AH} {g:Nat} {a:Value} (r:RdV Try.prog h g 28 a):Rd Try.prog h g 28 [a]:=by
 unfold RdV at r
 rw[Try.underlying28] at r
 exact r
theorem rdv_op {h:AH} {g:Nat} {a:Value} (r:RdV Try.prog h (g+3) 32 a):∃o:OpP,∃pd nd cd pk nk ck,a=.agg #[.int .i64 o.kind,.string o.name,.string o.to,.int .i64 o.n,.slice pd nd cd,.slice pk nk ck]∧Text h pd nd o.data∧o.name.size≤reachBytes∧o.to.size≤reachBytes:=by
 unfold RdV at r
 rw[Try.underlying32] at r
 obtain⟨cs,rfl,r⟩:=r
 obtain⟨o,pd,nd,cd,pk,nk,ck,rfl,t1, -,t2,t3⟩:=rd_op r
 exact⟨o,pd,nd,cd,pk,nk,ck,rfl,t1,t2,t3⟩
theorem apart_args {h:AH} {vs:List Value} (r:RdA Try.prog h 9 [28,32] vs):∃p n c os,∃o:OpP,∃pd nd cd pk nk ck,vs=[.slice p n c,.agg #[.int .i64 o.kind,.string o.name,.string o.to,.int .i64 o.n,.slice pd nd cd,.slice pk nk ck]]∧Ops h p n os∧Text h pd nd o.data∧o.name.size≤reachBytes∧o.to.size≤reachBytes:=by
 obtain⟨a,b,rfl,r1,r2⟩:=rda2 r
 obtain⟨p,n,c,os,rfl,A⟩:=rd_ops (g:=5) (rdv_ops r1)
 obtain⟨o,pd,nd,cd,pk,nk,ck,rfl,t1,t2,t3⟩:=rdv_op (g:=6) r2
 exact⟨p,n,c,os,o,pd,nd,cd,pk,nk,ck,rfl,A,t1,t2,t3⟩
end Go.Am
