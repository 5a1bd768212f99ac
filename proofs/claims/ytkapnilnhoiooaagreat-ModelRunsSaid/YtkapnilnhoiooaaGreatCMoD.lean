/-
  SCRIPTS AS BYTES, in plain terms: texts joined, texts split, what an op is as bytes, what of bytes is a script.
-/
import Derived.Test.YtkapnilnhoiooaaGreatAmH
import Derived.Test.YtkapnilnhoiooaaGreatPFacts
import Derived.Test.YtkapnilnhoiooaaGreatCMoC
set_option linter.unusedVariables false
set_option linter.unusedSimpArgs false
namespace Go.Am
open Go.Proofs
abbrev Bs:=List Nat
structure OpP where
 kind:Int
 name:ByteArray
 to:ByteArray
 n:Int
 data:Bs
 keep:List Bool
def hN (k:Int):Prop:=(0≤k∧k≤3)∨k=10∨k=12
def zw9 (k:Int):Prop:=0≤k∧k≤8
def hTo (k:Int):Prop:=k=5
def zxa (k:Int):Prop:=k=1∨k=12
def zxb (k:Int):Prop:=k=11
structure zxE (o:OpP):Prop where
 lo:0≤o.kind
 hi:o.kind≤12
 name:zw9 o.kind∨o.name.size=0
 nameL:o.name.size≤60
 to:hTo o.kind∨o.to.size=0
 toL:o.to.size≤60
 n:hN o.kind∨o.n=0
 nLo:-1≤o.n
 nHi:o.n≤65534
 data:zxa o.kind∨o.data.length=0
 dataL:o.data.length≤129
 keep:zxb o.kind∨o.keep.length=0
 keepL:o.keep.length≤64
structure zxF where
 secs:Int
 ops:List OpP
structure zxG (s:zxF):Prop where
 lo:64≤s.secs
 hi:s.secs≤1024
 len:s.ops.length≤200
 ops:∀o∈s.ops,zxE o
set_option maxRecDepth 100000
theorem zmX:∀al:List Value,(∀v∈al,∃m:Nat,v=.int .u8 m∧m < 256)→∃data:List Nat,al=zbY .u8 data∧∀x∈data,x < 256
 | [],_=>⟨[],rfl,by simp⟩
 | v :: al,h=>by
   obtain⟨m,rfl,hm⟩:=h v List.mem_cons_self
   obtain⟨ds,rfl,hd⟩:=zmX al fun x hx=>h x (List.mem_cons_of_mem _ hx)
   exact⟨m :: ds,rfl,fun x hx=>(List.mem_cons.1 hx).elim (fun z=>by rw[z]; exact hm) (hd x)⟩
theorem zwb {m:Int} (h:(Lit.int .u8 m).wf=true):∃k:Nat,m=k∧k < 256:=by
 simp[Lit.wf,IntKind.min,IntKind.max,IntKind.signed,IntKind.bits] at h
 exact⟨m.toNat,by omega,by omega⟩
def zwc (l:List Bool):List Value:=l.map .bool
theorem ztC (l:List Bool):(zwc l).length=l.length:=by simp[zwc]
theorem zmY:∀al:List Value,(∀v∈al,∃b:Bool,v=.bool b)→∃l:List Bool,al=zwc l
 | [],_=>⟨[],rfl⟩
 | v :: al,h=>by
   obtain⟨b,rfl⟩:=h v List.mem_cons_self
   obtain⟨l,rfl⟩:=zmY al fun x hx=>h x (List.mem_cons_of_mem _ hx)
   exact⟨b :: l,rfl⟩
theorem zrU {α:Type} (Q:Nat→α→Prop):∀n:Nat,(∀i,i < n→∃a,Q i a)→∃l:List α,l.length=n∧∀(i:Nat) (hi:i < l.length),Q i l[i]
 | 0,_=>⟨[],rfl,fun i hi=>absurd hi (Nat.not_lt_zero _)⟩
 | n+1,h=>by
   obtain⟨l,hl,hq⟩:=zrU Q n fun i hi=>h i (by omega)
   obtain⟨a,ha⟩:=h n (Nat.lt_succ_self _)
   refine⟨l ++ [a],by simp[hl],fun i hi=>?_⟩
   rw[List.getElem_append]
   split
   ·rename_i z; exact hq i z
   ·rename_i z
    have:i=n:=by simp at hi; omega
    subst this
    simpa using ha
def zvh (p:Option Addr):Prop:=p=none∨∃b off,p=some ⟨b,off,none⟩
def zvs (h:AH) (p:Option Addr) (n:Nat) (data:List Nat):Prop:=zvh p∧n=data.length∧n≤reachBytes∧zaR h p n 1 (zbY .u8 data)∧∀x∈data,x < 256
def zvi (h:AH) (p:Option Addr) (n:Nat) (l:List Bool):Prop:=zvh p∧n=l.length∧n≤reachBytes∧zaR h p n 1 (zwc l)
theorem zvs.old {h h' : AH} {p:Option Addr} {n:Nat} {data:List Nat} (t:zvs h p n data) (o:Old h h'):zvs h' p n data:=⟨t.1,t.2.1,t.2.2.1,t.2.2.2.1.old o,t.2.2.2.2⟩
def zxc (h:AH) (cs:List Value) (o:OpP):Prop:=∃pd nd cd pk nk ck,cs=[.int .i64 o.kind,.string o.name,.string o.to,.int .i64 o.n,.slice pd nd cd,.slice pk nk ck]∧zvs h pd nd o.data∧zvi h pk nk o.keep∧o.name.size≤reachBytes∧o.to.size≤reachBytes
def Ops (h:AH) (p:Option Addr) (n:Nat) (os:List OpP):Prop:=zvh p∧n=os.length∧n * 96≤reachBytes∧∃cells,zaR h p n 6 cells∧∀(i:Nat) (hi:i < os.length),zxc h ((cells.drop (i * 6)).take 6) os[i]
theorem Ops.at {h:AH} {p:Option Addr} {n:Nat} {os:List OpP} (t:Ops h p n os) {i:Nat} (hi:i < n):∃b off,p=some ⟨b,off,none⟩∧∃(hi' : i < os.length),∃pd nd cd pk nk ck,
 ldN h b (off+i * 6) 6=some [.int .i64 os[i].kind,.string os[i].name,.string os[i].to,.int .i64 os[i].n,.slice pd nd cd,.slice pk nk ck]∧
 ld1 h b (off+i * 6)=some (.int .i64 os[i].kind)∧ld1 h b (off+i * 6+1)=some (.string os[i].name)∧ld1 h b (off+i * 6+2)=some (.string os[i].to)∧ld1 h b (off+i * 6+3)=some (.int .i64 os[i].n)∧ld1 h b (off+i * 6+4)=some (.slice pd nd cd)∧ld1 h b (off+i * 6+5)=some (.slice pk nk ck)∧
 zvs h pd nd os[i].data∧zvi h pk nk os[i].keep∧os[i].name.size≤reachBytes∧os[i].to.size≤reachBytes∧b < h.next:=by
 obtain⟨t1,t2,t3,cells,t4,t5⟩:=t
 obtain⟨b,off,hp,hld,h1⟩:=t4.getN hi
 have hi' : i < os.length:=by omega
 obtain⟨pd,nd,cd,pk,nk,ck,e,t6,t7,t8,t9⟩:=t5 i hi'
 have hb:b < h.next:=by
  rcases t4.2 with z | ⟨b',off',al,e',ro,hp',hb', -⟩
  ·omega
  ·rw[hp] at hp'; cases hp'; exact hb'
 have ge:∀(j:Nat) (v:Value),j < 6→([Value.int .i64 os[i].kind,.string os[i].name,.string os[i].to,.int .i64 os[i].n,.slice pd nd cd,.slice pk nk ck]:List Value)[j]?= some v→ld1 h b (off+i * 6+j)=some v:=by
  intro j v hj hv
  rw[h1 j hj,←hv,←e,List.getElem?_take,if_pos hj,List.getElem?_drop]
 exact⟨b,off,hp,hi',pd,nd,cd,pk,nk,ck,by rw[hld,e],ge 0 _ (by omega) rfl,ge 1 _ (by omega) rfl,ge 2 _ (by omega) rfl,ge 3 _ (by omega) rfl,ge 4 _ (by omega) rfl,ge 5 _ (by omega) rfl,t6,t7,t8,t9,hb⟩
section
variable {h:AH}
theorem zek {l:List Value} {i:Nat} (hi:i < l.length):(l.drop i).take 1=[l[i]]:=by
 rw[List.drop_eq_getElem_cons hi]
 rfl
theorem ztD {g n:Nat} {al:List Value} (r:RdL Tryz.prog (Rd Tryz.prog h (g+1)) (List.replicate n 5) al):∃data:List Nat,al=zbY .u8 data∧data.length=n∧∀x∈data,x < 256:=by
 obtain⟨hl,hi⟩:=r.rep
 have hc2:Tryz.prog.cellsOf 5=1:=by simp
 rw[hc2,Nat.mul_one] at hl
 obtain⟨data,rfl,hd⟩:=zmX al fun v hv=>by
  obtain⟨i,hil,rfl⟩:=List.mem_iff_getElem.1 hv
  have:=hi i (by omega)
  rw[hc2,Nat.mul_one,zek hil] at this
  unfold Rd at this
  rw[Tryz.underlying5] at this
  obtain⟨m,e,hw⟩:=this
  obtain⟨k,rfl,hk⟩:=zwb hw
  exact⟨k,by simpa using e,hk⟩
 exact⟨data,rfl,by rw[za7] at hl; exact hl,hd⟩
theorem ztE {g n:Nat} {al:List Value} (r:RdL Tryz.prog (Rd Tryz.prog h (g+1)) (List.replicate n 4) al):∃l:List Bool,al=zwc l∧l.length=n:=by
 obtain⟨hl,hi⟩:=r.rep
 have hc2:Tryz.prog.cellsOf 4=1:=by simp
 rw[hc2,Nat.mul_one] at hl
 obtain⟨l,rfl⟩:=zmY al fun v hv=>by
  obtain⟨i,hil,rfl⟩:=List.mem_iff_getElem.1 hv
  have:=hi i (by omega)
  rw[hc2,Nat.mul_one,zek hil] at this
  unfold Rd at this
  rw[Tryz.underlying4] at this
  obtain⟨b,e⟩:=this
  exact⟨b,by simpa using e⟩
 exact⟨l,rfl,by rw[ztC] at hl; exact hl⟩
theorem zvj {g:Nat} {v:Value} (r:Rd Tryz.prog h (g+2) 34 [v]):∃p n c data,v=.slice p n c∧zvs h p n data∧(0 < n→n≤c∧c < zar):=by
 unfold Rd at r
 rw[Tryz.underlying34] at r
 obtain⟨p,n,c,al,e,hp,hn,hb,hs,hr⟩:=r
 have hc2:Tryz.prog.cellsOf 5=1:=by simp
 have hb2:Tryz.prog.bytesOf 5=1:=by kernel_rfl
 rw[hc2] at hs
 rw[hb2,Nat.mul_one] at hb
 obtain⟨data,rfl,hl,hd⟩:=ztD hr
 exact⟨p,n,c,data,by simpa using e,⟨hp,hl.symm,hb,hs,hd⟩,hn.2⟩
theorem zrV {g:Nat} {v:Value} (r:Rd Tryz.prog h (g+2) 35 [v]):∃p n c l,v=.slice p n c∧zvi h p n l:=by
 unfold Rd at r
 rw[Tryz.underlying35] at r
 obtain⟨p,n,c,al,e,hp,hn,hb,hs,hr⟩:=r
 have hc2:Tryz.prog.cellsOf 4=1:=by simp
 have hb2:Tryz.prog.bytesOf 4=1:=by kernel_rfl
 rw[hc2] at hs
 rw[hb2,Nat.mul_one] at hb
 obtain⟨l,rfl,hl⟩:=ztE hr
 exact⟨p,n,c,l,by simpa using e,hp,hl.symm,hb,hs⟩
theorem zxd {g:Nat} {cs:List Value} (r:Rd Tryz.prog h (g+3) 37 cs):∃o:OpP,zxc h cs o:=by
 unfold Rd at r
 rw[Tryz.underlying37] at r
 have hc1:Tryz.prog.cellsOf 3=1:=by simp
 have hc2:Tryz.prog.cellsOf 34=1:=by simp
 have hc3:Tryz.prog.cellsOf 9=1:=by simp
 have hc4:Tryz.prog.cellsOf 35=1:=by simp
 simp only[List.map_cons,List.map_nil,RdL,hc1,hc2,hc3,hc4,List.drop_drop] at r
 obtain⟨k1,r1,k2,r2,k3,r3,k4,r4,k5,r5,k6,r6,r7⟩:=r
 unfold Rd at r1 r2 r3 r4
 rw[Tryz.underlying3] at r1 r4
 rw[Tryz.underlying9] at r2 r3
 obtain⟨x1,e1, -⟩:=r1
 obtain⟨x2,e2, -,w2⟩:=r2
 obtain⟨x3,e3, -,w3⟩:=r3
 obtain⟨x4,e4, -⟩:=r4
 match cs,e1,e2,e3,e4,r5,r6,r7,k6 with
 | [c0,c1,c2,c3,c4,c5],e1,e2,e3,e4,r5,r6,r7,k6=>
   obtain⟨pd,nd,cd,data,e5,t5, -⟩:=zvj (g:=g) (v:=c4) r5
   obtain⟨pk,nk,ck,keep,e6,t6⟩:=zrV (g:=g) (v:=c5) r6
   simp at e1 e2 e3 e4
   subst e1 e2 e3 e4 e5 e6
   exact⟨⟨x1,x2,x3,x4,data,keep⟩,pd,nd,cd,pk,nk,ck,rfl,t5,t6,w2,w3⟩
 | c0 :: c1 :: c2 :: c3 :: c4 :: c5 :: c6 :: l,e1,e2,e3,e4,r5,r6,r7,k6=>simp at r7
theorem zwd {g:Nat} {v:Value} (r:Rd Tryz.prog h (g+4) 22 [v]):∃p n c os,v=.slice p n c∧Ops h p n os:=by
 unfold Rd at r
 rw[Tryz.underlying22] at r
 obtain⟨p,n,c,al,e,hp,hn,hb,hs,hr⟩:=r
 have hc2:Tryz.prog.cellsOf 37=6:=by simp
 have hb2:Tryz.prog.bytesOf 37=96:=by kernel_rfl
 rw[hb2] at hb
 obtain⟨hl,hi⟩:=hr.rep
 rw[hc2] at hs hi hl
 obtain⟨os,hos,hq⟩:=zrU (fun i (o:OpP)=>zxc h ((al.drop (i * 6)).take 6) o) n fun i hin=>zxd (hi i hin)
 exact⟨p,n,c,os,by simpa using e,hp,hos.symm,hb,al,hs,hq⟩
end
theorem zmZ {α β:Type} {f:α→Option β}:∀(l:List α) (m:List β),m.length=l.length→(∀(i:Nat) (x:α),l[i]?= some x→f x=m[i]?)→l.mapM f=some m
 | [],[],_,_=>rfl
 | x :: l,y :: m,hl,h=>by
   have h0:=h 0 x rfl
   have ih:=zmZ (f:=f) l m (by simpa using hl) fun i x hx=>h (i+1) x hx
   simp only[List.getElem?_cons_zero] at h0
   rw[List.mapM_cons,h0,ih]
   rfl
theorem zod {P:Program} {t e:TypeId} {k:Nat} (hu:P.underlying t=some (.array k e)) {n d:Nat} (hn:n=d+1) (cs:List Value):
 P.keyLits n t cs=if cs.length=P.cellsOf t then ((List.range k).mapM fun i=>P.keyLits d e ((cs.drop (i * P.cellsOf e)).take (P.cellsOf e))).map List.flatten else none:=by
 subst hn
 rw[Program.keyLits.eq_def]
 dsimp only
 rw[hu]
theorem zm0 {α:Type}:∀l:List α,(l.map fun x=>[x]).flatten=l
 | []=>rfl
 | x :: l=>by simp only[List.map_cons,List.flatten_cons,zm0 l]; rfl
theorem zwe {x:Nat} (hx:x < 256):(Lit.int .u8 (x:Int)).wf=true:=by
 simp[Lit.wf,IntKind.min,IntKind.max,IntKind.signed,IntKind.bits]
 omega
def zvt (s:List Nat):Prop:=s.length=128∧∀x∈s,x < 256
theorem zwf {s:List Nat} (hs:zvt s):zdx Tryz.prog 39 (.agg (zbY .u8 s).toArray)=some (s.map fun (x:Nat)=>Lit.int .u8 x):=by
 have hl:(zbY .u8 s).length=128:=by rw[za7]; exact hs.1
 have hf:(Value.agg (zbY .u8 s).toArray).formed Tryz.prog 39=true:=by simp[Value.formed,hl]
 have k3:=fun (x:Int)=>zcv (P:=Tryz.prog) Tryz.underlying5 (m:=39) (d:=38) rfl x
 rw[zkS hf,zod Tryz.underlying39 (d:=39) rfl]
 generalize Tryz.prog.keyLits 39=KL at k3 ⊢
 simp only[List.toList_toArray]
 have hc1:Tryz.prog.cellsOf 39=128:=by simp
 have hc2:Tryz.prog.cellsOf 5=1:=by simp
 rw[if_pos (by rw[hl,hc1]),hc2]
 have:(List.range 128).mapM (fun i=>KL 5 (((zbY .u8 s).drop (i * 1)).take 1))=some (s.map fun (x:Nat)=>[Lit.int .u8 x]):=by
  refine zmZ _ _ (by simp[hs.1]) fun i x hi=>?_
  have hi128:i < 128:=by have:=(List.getElem?_eq_some_iff.1 hi).1; simpa using this
  rw[List.getElem?_range hi128] at hi
  obtain rfl:i=x:=by simpa using hi
  have hlt:i < s.length:=by rw[hs.1]; exact hi128
  rw[Nat.mul_one,zek (by rw[hl]; exact hi128)]
  have e:(zbY .u8 s)[i]'(by rw[hl]; exact hi128)=.int .u8 (s[i]:Nat):=by simp[zbY]
  rw[e,k3,if_pos (zwe (hs.2 _ (List.getElem_mem hlt)))]
  simp[hlt]
 rw[this]
 simp only[Option.map_some,Option.some.injEq]
 have:=zm0 (s.map fun (x:Nat)=>Lit.int .u8 x)
 rw[List.map_map] at this
 exact this
section
variable {b:Int} {h:AH} {mb bm:Nat} {s:MSt}
theorem zrW (M:zaD b h mb bm s) (f:ByteArray) (i:Int):∃bs,(readM s f i).1=zbY .u8 bs∧zvt bs:=by
 unfold readM
 split
 ·exact⟨List.replicate 128 0,(zh3 128).symm,by simp,fun x hx=>by rw[List.eq_of_mem_replicate hx]; decide⟩
 ·rename_i hz
  obtain⟨q1,q2⟩:=M.block (o:=spl f) (i:=i) (by simpa using hz)
  obtain⟨bs,v,e,h1,h2, -⟩:=(M.map.ok (findM s.rs (spl f) i).1.id).2 i.toNat (by omega)
  refine⟨bs,?_,h1,h2⟩
  rw[e,List.take_append_of_le_length (by rw[za7]; omega),List.take_of_length_le (by rw[za7]; omega)]
theorem zvt.len {bs:List Nat} (k:zvt bs):(zbY .u8 bs).length=128:=by rw[za7]; exact k.1
end
structure zxH (K:Xs):Prop where
 m:znd K
 l:zws K
 c:zxD K
theorem zvk {h:AH} {g:Nat} {a:Value} (r:RdV Tryz.prog h g 22 a):Rd Tryz.prog h g 22 [a]:=by
 unfold RdV at r
 rw[Tryz.underlying22] at r
 exact r
def zoe (l:List Value):Int:=match (l[128]? : Option Value) with | some (.int .u64 v)=>v | _=>0
def zbr (l:List Value) (i:Nat):Int:=zoe (zdt l i)
theorem zhO.ver {l:List Value} (k:zhO l):l[128]?= some (.int .u64 (zoe l))∧(Lit.int .u64 (zoe l)).wf=true:=by
 obtain⟨bs,v,rfl,h1, -,h3⟩:=k
 have e:(zbY .u8 bs ++ [Value.int .u64 v])[128]?= some (.int .u64 v):=by
  rw[List.getElem?_append_right (by rw[za7]; omega),za7,h1]
  rfl
 have e2:zoe (zbY .u8 bs ++ [Value.int .u64 v])=v:=by unfold zoe; rw[e]
 rw[e2]
 exact⟨e,h3⟩
theorem zaZ.ver {l:List Value} (T:zaZ l) {i:Nat} (hi:i < 64):l[i * 129+128]?= some (.int .u64 (zbr l i))∧(Lit.int .u64 (zbr l i)).wf=true:=by
 obtain⟨h1,h2⟩:=(T.2 i hi).ver
 refine⟨?_,h2⟩
 have:(zdt l i)[128]?= l[i * 129+128]?:=by
  unfold zdt
  rw[List.getElem?_take,if_pos (by omega),List.getElem?_drop]
 rw[←this]
 exact h1
theorem zm1 {l:List Value} (T:zaZ l):∀(k j:Nat),j+k=64→zeJ k (l.drop (j * 129))=some ((List.range' j k).map (zbr l))
 | 0,j,h=>by
   rw[List.drop_of_length_le (by rw[T.1]; omega)]
   rfl
 | k+1,j,h=>by
   obtain⟨h1,h2⟩:=T.ver (i:=j) (by omega)
   have hlt:j * 129+128 < l.length:=by rw[T.1]; omega
   have e:(l.drop (j * 129)).drop 128=.int .u64 (zbr l j) :: l.drop ((j+1) * 129):=by
    rw[List.drop_drop,List.drop_eq_getElem_cons hlt]
    rw[List.getElem?_eq_getElem hlt] at h1
    rw[Option.some.inj h1,show j * 129+128+1=(j+1) * 129 by omega]
   unfold zeJ
   rw[e]
   simp only
   rw[h2,cond_true,zm1 T k (j+1) (by omega)]
   rfl
theorem zrX {l:List Value} (T:zaZ l):zeJ 64 l=some ((List.range' 0 64).map (zbr l)):=by
 have:=zm1 T 64 0 rfl
 rwa [Nat.zero_mul,List.drop_zero] at this
theorem zm2:∀{vs S:List Int},S.Nodup→(vs.foldl zkb S).Nodup∧∀x,x∈vs.foldl zkb S↔x∈S∨(x∈vs∧x≠0)
 | [],S,h=>⟨h,fun x=>by simp⟩
 | v :: vs,S,h=>by
   have h1:(zkb S v).Nodup∧∀x,x∈zkb S v↔x∈S∨(x=v∧x≠0):=by
    unfold zkb
    cases hb:(v == 0 || S.contains v) with
    | true=>
      refine⟨h,fun x=>⟨.inl,?_⟩⟩
      rintro (hx | ⟨rfl,hx⟩)
      ·exact hx
      ·simp only[Bool.or_eq_true,beq_iff_eq,List.contains_iff_mem] at hb
       rcases hb with hb | hb
       ·exact absurd hb hx
       ·exact hb
    | false=>
      simp only[Bool.or_eq_false_iff,beq_eq_false_iff_ne] at hb
      have hn:v∉S:=fun q=>by
       have:=List.contains_iff_mem.2 q
       rw[hb.2] at this
       cases this
      refine⟨List.nodup_append.2 ⟨h,by simp,fun a ha c hc e=>?_⟩,fun x=>?_⟩
      ·rw[List.mem_singleton.1 hc] at e
       exact hn (e▸ha)
      ·show x∈S ++ [v]↔_
       rw[List.mem_append,List.mem_singleton]
       constructor
       ·rintro (hx | rfl)
        ·exact .inl hx
        ·exact .inr ⟨rfl,hb.1⟩
       ·rintro (hx | ⟨hx, -⟩)
        ·exact .inl hx
        ·exact .inr hx
   obtain⟨h2,h3⟩:=zm2 (vs:=vs) h1.1
   refine⟨h2,fun x=>?_⟩
   rw[List.foldl_cons,h3,h1.2,List.mem_cons]
   constructor
   ·rintro ((hx | ⟨rfl,hx⟩) | ⟨hx,h0⟩)
    ·exact .inl hx
    ·exact .inr ⟨.inl rfl,hx⟩
    ·exact .inr ⟨.inr hx,h0⟩
   ·rintro (hx | ⟨rfl | hx,h0⟩)
    ·exact .inl (.inl hx)
    ·exact .inl (.inr ⟨rfl,h0⟩)
    ·exact .inr ⟨hx,h0⟩
theorem zo7:∀{es:List MapEntry} {M:List (Int×List Value)} {S:List Int},es.map (·.key)=M.map (fun p=>Value.int .u64 p.1)→es.map (·.val)=M.map (fun p=>Value.agg p.2.toArray)→(∀p∈M,zaZ p.2)→S.Nodup→
 ∃S',zmr 64 es S=some S'∧S'.Nodup∧∀x,x∈S'↔x∈S∨(x≠0∧∃p∈M,∃i,i < 64∧zbr p.2 i=x)
 | [],[],S,_,_,_,hn=>⟨S,rfl,hn,fun x=>⟨.inl,fun h=>h.elim id fun ⟨_,p,hp,_⟩=>(by cases hp)⟩⟩
 | e :: es,(y,l) :: M,S,hk,hv,hw,hn=>by
   simp only[List.map_cons,List.cons.injEq] at hk hv
   obtain⟨a1,a2⟩:=zm2 (vs:=(List.range' 0 64).map (zbr l)) hn
   obtain⟨S',b1,b2,b3⟩:=zo7 hk.2 hv.2 (fun p hp=>hw p (List.mem_cons_of_mem _ hp)) a1
   refine⟨S',?_,b2,fun x=>?_⟩
   ·unfold zmr
    rw[hk.1,hv.1]
    simp only[List.toList_toArray]
    rw[zrX (hw _ (List.mem_cons_self ..))]
    exact b1
   ·rw[b3,a2]
    constructor
    ·rintro ((hx | ⟨hx,h0⟩) | ⟨h0,p,hp,hx⟩)
     ·exact .inl hx
     ·obtain⟨i,hi,e⟩:=List.mem_map.1 hx
      exact .inr ⟨h0,_,List.mem_cons_self ..,i,by have:=List.mem_range'_1.1 hi; omega,e⟩
     ·exact .inr ⟨h0,p,List.mem_cons_of_mem _ hp,hx⟩
    ·rintro (hx | ⟨h0,p,hp,i,hi,e⟩)
     ·exact .inl (.inl hx)
     ·rcases List.mem_cons.1 hp with rfl | hp
      ·exact .inl (.inr ⟨List.mem_map.2 ⟨i,List.mem_range'_1.2 ⟨by omega,by omega⟩,e⟩,h0⟩)
      ·exact .inr ⟨h0,p,hp,i,hi,e⟩
 | [],_ :: _,_,hk,_,_,_=>by cases hk
 | _ :: _,[],_,hk,_,_,_=>by cases hk
theorem zjm:zoe zjO=0:=by kernel_rfl
theorem zfr {i:Nat} (hi:i < 64):zbr za0 i=0:=by unfold zbr; rw[zo4 hi]; exact zjm
def InV (T:Int→List Value) (x:Int):Prop:=x≠0∧∃id i,i < 64∧zbr (T id) i=x
theorem zgV:∀{A B:List Int},A.Nodup→(∀x∈A,x∈B)→A.length≤B.length
 | [],B,_,_=>Nat.zero_le _
 | x :: A,B,h,hs=>by
   rw[List.nodup_cons] at h
   have hx:=hs x (List.mem_cons_self ..)
   have:=zgV (B:=B.erase x) h.2 fun y hy=>(List.mem_erase_of_ne fun e=>h.1 (by rw[←e]; exact hy)).2 (hs y (List.mem_cons_of_mem _ hy))
   rw[List.length_erase_of_mem hx] at this
   have hp:=List.length_pos_of_mem hx
   simp only[List.length_cons]
   omega
section
variable {K:Xs} {b:Int} {h:AH} {mb bm:Nat} {s:MSt}
theorem ztF (hv:K 12=some (.sum (zc1 64))) (M:zaD b h mb bm s):
 Wf Tryz.prog K 12 [.pointer (some ⟨mb,0,none⟩)] h fun v h'=>∃S:List Int,v=.int .i64 (S.length:Int)∧S.Nodup∧(∀x,x∈S↔InV s.T x)∧Old h h':=by
 obtain⟨p,n,c,hc, -⟩:=M.cells
 obtain⟨es,clock,h1,h2,L,h3,h4,h5,h6,h7⟩:=M.map.get
 obtain⟨S,q1,q2,q3⟩:=zo7 (S:=[]) h3 h4 (fun p hp=>(h5 p hp).2) List.nodup_nil
 have hg:zc1 64 [.pointer (some ⟨mb,0,none⟩)] h=some (.int .i64 (S.length:Int),⟨h.tr,h.next+2+es.length⟩):=by
  unfold zc1
  simp only
  rw[hc]
  simp only
  have:(modC s.nx p n c (some bm) s.st s.md)[0+2]?= some (.map (some bm)):=rfl
  rw[this]
  simp only
  rw[h1]
  simp only
  rw[h2,cond_true,q1]
 refine zt1 hv hg (by show h.next≤h.next+2+es.length; omega) ⟨S,rfl,q2,fun x=>?_,by show h.next≤h.next+2+es.length; omega,fun y _=>rfl⟩
 rw[q3]
 constructor
 ·rintro (hx | ⟨h0,p,hp,i,hi,e⟩)
  ·cases hx
  ·exact⟨h0,p.1,i,hi,by rw[h7,zln h6 hp]; exact e⟩
 ·rintro⟨h0,id,i,hi,e⟩
  rw[h7] at e
  by_cases he:∃p∈L,p.1=id
  ·obtain⟨p,hp,rfl⟩:=he
   rw[zln h6 hp] at e
   exact .inr ⟨h0,p,hp,i,hi,e⟩
  ·rw[zlo fun p hp q=>he ⟨p,hp,q⟩,zfr hi] at e
   exact absurd e.symm h0
def za2 (l:List Value) (n:Nat):List Nat:=(List.range n).filter fun i=>!decide (zbr l i=0)
noncomputable def zrY (s:MSt) (f:ByteArray):List Nat:=match lookOf s.rs (spl f) with | none=>[] | some j=>match s.rs[j]? with | none=>[] | some r=>za2 (s.T r.id) 64
theorem zwg:zcZ Tryz.prog 52 3 1 8:=zc0 (by kernel_rfl)
structure zxe (K:Xs):Prop where
 written:K 15=none
 same:K 14=none
theorem zjn (kk:znd K) (kw:zxe K) (M:zaD b h mb bm s) (f:ByteArray) (hf:f.size≤9223372036854775806):
 Wf Tryz.prog K 15 [.pointer (some ⟨mb,0,none⟩),.string f] h fun v h'=>∃p n c,v=.slice p n c∧zaR h' p n 1 (zbY .i64 (zrY s f))∧n≤64∧Old h h':=by
 obtain⟨p,n,c,hc,hbk⟩:=M.cells
 obtain⟨-,xs,B,hx⟩:=id hbk
 have R' : zam s.nx xs:=M.right.cor hx.symm
 have hlt:=M.lt
 refine zes kw.written _ _ h _ (zag ⟨_,_,_,zae hc rfl,(zgK kk.named B.1 R'.calOk (zkj B.1) f hf).mono ?_⟩)
 rintro v6 g6 ⟨q,o6⟩
 obtain⟨r,e,rfl,hq⟩:∃r e,v6=Value.tuple #[.agg (setC r).toArray,.int .i64 e]∧((e=0∧zrY s f=za2 (s.T r.id) 64∧(Lit.int .u64 r.id).wf=true)∨(e≠0∧zrY s f=[])):=by
  rcases q with ⟨a,b',hsp,⟨j,r,p',c',hl,hr,rfl,ok⟩ | ⟨hl,rfl⟩⟩ | ⟨hno,rfl⟩
  ·refine⟨_,_,rfl,.inl ⟨rfl,?_,ok.id⟩⟩
   rcases getc hx j with ⟨h1,h2⟩ | ⟨a1,a2,h1,h2,h3⟩
   ·rw[hr] at h1; cases h1
   ·rw[hr] at h1
    cases h1
    unfold zrY
    rw[←zaP hx,zaH hsp,show lookOf xs (some (a,b'))=some j from hl]
    simp only
    rw[h2]
    simp only
    rw[(zaL h3).1]
  ·refine⟨_,_,rfl,.inr ⟨by decide,?_⟩⟩
   unfold zrY
   rw[←zaP hx,zaH hsp,show lookOf xs (some (a,b'))=none from hl]
  ·refine⟨_,_,rfl,.inr ⟨by decide,?_⟩⟩
   unfold zrY
   rw[zbB hno]
   rfl
 refine⟨_,_,_,_,_,_,_,_,_,_,_,_,_,_,rfl,fun g21 e21=>?_⟩
 obtain⟨g22,k22,n22,o22,v22⟩:=zap e21 (vs:=setC r) rfl
 have w22:=(v22 [] (fun c hc=>by cases hc)).1
 have oh:=o6.trans o22
 refine⟨rfl,g22,k22,fun y=>?_,fun y=>?_⟩
 rotate_left
 ·rcases hq with ⟨h0, -⟩ | ⟨-,hw⟩
  ·exact absurd h0 y
  ·rw[hw]
   exact⟨_,_,_,rfl,⟨rfl,.inl rfl⟩,by omega,oh⟩
 rcases hq with ⟨-,hw,hid⟩ | ⟨h0, -⟩
 rotate_left
 ·exact absurd y h0
 have T:=M.map.ok r.id
 refine zag ⟨_,zae ((oh.2 _ hlt).trans hc) rfl,_,zae w22 rfl,_,(M.old oh).map.lookup hid,fun pp nn cc i k g=>∃t:Nat,i=t∧t≤64∧64 - t=k∧nn≤t∧zaY h.next g 3 1 pp nn cc (zbY .i64 (za2 (s.T r.id) t))∧Old h g,⟨_,0,rfl,by omega,rfl,Nat.le_refl _,zaY.nil _ _ _ _,oh⟩,?_⟩
 rintro k29 g30 p32 n33 c34 i35 ⟨t,rfl,ht,rfl,hnt,G,o30⟩
 refine⟨fun z=>?_,fun z=>?_⟩
 rotate_left
 ·obtain rfl:t=64:=by omega
  rw[hw]
  exact⟨_,_,_,rfl,G.shows,hnt,o30⟩
 have htl:t < 64:=by omega
 have hb129:=(T.2 t htl).len
 refine⟨by omega,z,_,rfl,fun g37 e37=>?_⟩
 rw[Int.toNat_natCast]
 have hbt:List.take 129 (List.drop (t * 129) (s.T r.id))=zdt (s.T r.id) t:=rfl
 rw[hbt]
 obtain⟨g38,k38,n38,o38,v38⟩:=zap e37 (vs:=zdt (s.T r.id) t) (by rw[hb129]; simp)
 have w38:=(v38 [] (fun c hc=>by cases hc)).1
 obtain⟨hv1, -⟩:=(T.2 t htl).ver
 have ht1:za2 (s.T r.id) (t+1)=if zbr (s.T r.id) t=0 then za2 (s.T r.id) t else za2 (s.T r.id) t ++ [t]:=by
  unfold za2
  rw[List.range_succ,List.filter_append]
  by_cases h0:zbr (s.T r.id) t=0
  ·rw[if_pos h0]; simp[h0]
  ·rw[if_neg h0]; simp[h0]
 refine⟨hb129,g38,k38,_,zae w38 hv1,fun h0 i40 e40=>?_,fun h0 g41 e41=>?_⟩
 ·have e40:=zcj e40 (by omega) (by omega)
  refine⟨64 - (t+1),by omega,t+1,by omega,by omega,rfl,by omega,?_,o30.trans o38⟩
  rw[ht1,if_pos (show zbr (s.T r.id) t=0 from h0)]
  exact G.old o38
 ·obtain⟨p42,c44,g45,ha,hg,hob, -, -⟩:=(G.old o38).push zwg (Nat.le_trans o30.1 o38.1) e41 (m:=1) rfl (by have:zaU=140737488355328:=rfl; omega) (by omega)
  refine⟨p42,n33+1,c44,g45,ha,fun i46 e46=>?_⟩
  have e46:=zcj e46 (by omega) (by omega)
  refine⟨64 - (t+1),by omega,t+1,by omega,by omega,rfl,by omega,?_,zha.toOld (((o30.trans o38).toB (Nat.le_refl _)).trans hob)⟩
  rw[ht1,if_neg (show ¬zbr (s.T r.id) t=0 from h0),show zbY .i64 (za2 (s.T r.id) t ++ [t])=zbY .i64 (za2 (s.T r.id) t) ++ [.int .i64 (t:Int)] by simp[zbY]]
  exact hg
theorem zo8 (kw:zxe K) {pa pb:Option Addr} {n m ca cb:Nat} {la lb:List Nat} (Sa:zaR h pa n 1 (zbY .i64 la)) (Sb:zaR h pb m 1 (zbY .i64 lb)) (hn:n≤1000000):
 Wf Tryz.prog K 14 [.slice pa n ca,.slice pb m cb] h fun v h'=>(v=.bool true∨(v=.bool false∧la≠lb))∧h=h':=by
 have ea:=Sa.1
 have eb:=Sb.1
 rw[za7] at ea eb
 refine zdM kw.same _ _ _ _ _ _ h _ ⟨fun hnm=>⟨fun i k g=>∃t:Nat,i=t∧t≤n∧n - t=k∧h=g,⟨_,0,rfl,Nat.zero_le _,rfl,rfl⟩,?_⟩,fun hnm=>⟨.inr ⟨rfl,fun e=>hnm (by rw[e] at ea; omega)⟩,rfl⟩⟩
 rintro k g i ⟨t,rfl,ht,rfl,rfl⟩
 refine⟨fun z=>?_,fun z=>⟨.inl rfl,rfl⟩⟩
 have htn:t < n:=by omega
 obtain⟨b1,o1,rfl,d1⟩:=Sa.get htn
 obtain⟨b2,o2,rfl,d2⟩:=Sb.get (i:=t) (by omega)
 have l1:t < la.length:=by omega
 have l2:t < lb.length:=by omega
 rw[show (zbY .i64 la)[t]?= some (.int .i64 ((la[t]:Nat):Int)) by simp[zbY,l1]] at d1
 rw[show (zbY .i64 lb)[t]?= some (.int .i64 ((lb[t]:Nat):Int)) by simp[zbY,l2]] at d2
 refine zag ⟨by omega,z,_,by rw[Int.toNat_natCast,Nat.mul_one]; exact d1,zag ⟨by omega,by omega,_,by rw[Int.toNat_natCast,Nat.mul_one]; exact d2,fun y i11 e11=>?_,fun y=>⟨.inr ⟨rfl,fun e=>y (by subst e; rfl)⟩,rfl⟩⟩⟩
 have e11:=zcj e11 (by omega) (by omega)
 exact⟨n - (t+1),by omega,t+1,by omega,by omega,rfl,rfl⟩
end
end Go.Am
