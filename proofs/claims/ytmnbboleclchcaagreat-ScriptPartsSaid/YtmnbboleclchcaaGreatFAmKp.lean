/-
  Texts of this proof, part 16. No condition.
-/
import Derived.Test.YtmnbboleclchcaaGreatFAm9e
import Derived.Test.YtmnbboleclchcaaGreatRows
set_option linter.unusedVariables false
set_option linter.unusedSimpArgs false
namespace Go.Am
section
variable {P:Program} {K:Xs}
theorem tlR_eq (l:List Value):tlR l=l.drop 1:=by cases l <;> rfl
theorem zzi (k:Nat):∀l:List Value,Nat.rec (motive:=λ_=>List Value->List Value) (λl=>l) (λ_ g l=>g (tlR l)) k l=l.drop k:=by
 induction k with
 | zero=>intro l; rfl
 | succ k ih=>intro l; exact (ih _).trans (by rw[tlR_eq,QB,Nat.add_comm])
theorem zzj (k:Nat):∀l:List Value,Nat.rec (motive:=λ_=>List Value->List Value) (λl=>l) (λ_ g l=>g (tlR (tlR (tlR (tlR (tlR (tlR (tlR (tlR l))))))))) k l=l.drop (8 * k):=by
 induction k with
 | zero=>intro l; rfl
 | succ k ih=>intro l; exact (ih _).trans (by simp only[tlR_eq,QB]; congr 1; omega)
theorem zek (n:Nat) (l:List Value):zib n l=l.drop n:=by
 refine (zzi _ _).trans ?_
 rw[zzj,QB]
 congr 1
 exact Nat.div_add_mod n 8
theorem zid {α:Type} (n:Nat):∀l:List α,zrr n l=l[n]?:=by
 induction n with
 | zero=>intro l; cases l <;> rfl
 | succ n ih=>intro l; cases l with
   | nil=>rfl
   | cons v t=>exact (ih t).trans (by simp)
theorem zoH (l:List Value):zv3 l=l[0]?:=by cases l <;> rfl
theorem zkt (n:Nat):∀l:List Value,zic n l=if n<=l.length then some (l.take n) else none:=by
 induction n with
 | zero=>intro l; simp; rfl
 | succ n ih=>intro l; cases l with
   | nil=>rfl
   | cons v t=>
     show Option.rec (motive:=λ_=>Option (List Value)) none (λr=>some (v :: r)) (zic n t)=_
     rw[ih]
     by_cases h:n<=t.length <;> simp[h]
theorem zv6 (vs:List Value):∀l:List Value,zzh vs l=if vs.length<=l.length then some (vs ++ l.drop vs.length) else none:=by
 induction vs with
 | nil=>intro l; simp; rfl
 | cons v vs ih=>intro l; cases l with
   | nil=>rfl
   | cons u t=>
     show Option.rec (motive:=λ_=>Option (List Value)) none (λr=>some (v :: r)) (zzh vs t)=_
     rw[ih]
     by_cases h:vs.length<=t.length <;> simp[h]
theorem zlY (vs:List Value) (n:Nat):∀l:List Value,zlX vs n l=if n+vs.length<=l.length then some (l.take n ++ vs ++ l.drop (n+vs.length)) else none:=by
 induction n with
 | zero=>intro l; exact (zv6 vs l).trans (by simp)
 | succ n ih=>intro l; cases l with
   | nil=>simp; rfl
   | cons u t=>
     show Option.rec (motive:=λ_=>Option (List Value)) none (λr=>some (u :: r)) (zlX vs n t)=_
     rw[ih]
     by_cases h:n+vs.length<=t.length
     ·simp[h,show n+1+vs.length<=t.length+1 by omega,show n+1+vs.length=(n+vs.length)+1 by omega]
     ·simp[h,show ¬n+1+vs.length<=t.length+1 by omega]
theorem zf7 (ops:Array Oper) (o:Oper) (e:Env):zeY ops.toList o e=zaI ops o e:=by
 unfold zeY zaI
 simp only[zid,Qy]
 rfl
theorem zoI (h:AH) (t:TypeId) (v:Value):zv4 P h t v=zbJ P h t v:=by
 unfold zv4
 split
 rotate_left
 ·simp_all[zbJ]
 split
 rotate_left
 ·simp_all[zbJ]
 split
 ·split
  ·rename_i h0 h1
   simp only[zbJ, *,zek,zkt,Je] at h1 ⊢
   have:=Nat.ne_of_beq_eq_false h0
   split at h1
   ·cases h1; rw[if_pos (by omega)]
   ·cases h1
  ·rfl
 ·simp[zbJ, *,zoH,zek]
 ·simp[zbJ, *]
theorem zrx (h:AH) (b off:Nat) (vs:List Value):zrs h b off vs=zap h b off vs:=by
 unfold zrs zap
 simp only[zlY]
 split
 ·split <;> simp_all
 ·simp_all
theorem zlZ (h:AH) (t:TypeId) (a v:Value):zrt P h t a v=zbK P h t a v:=by
 unfold zrt zbK
 simp only[zrx]
 rfl
theorem zv7 {cs:Array Value} {n off:Nat} {l:List Value} (h:zic n (zib off cs.toList)=some l):l.toArray=cs.extract off (off+n):=by
 rw[zek,zkt] at h
 split at h <;> cases h
 apply Array.ext'
 simp[List.drop_take]
theorem zt2 (t:TypeId) (cs:Array Value) (off:Nat):zv5 P t cs off=aPart P t cs off:=by
 unfold zv5
 split
 ·split
  ·rename_i h1 _ _ h; simp only[aPart,h1,zv7 h]
  ·rfl
 ·simp_all[aPart,zoH,zek]
 ·simp_all[aPart]
theorem zl0 (t:TypeId) (x:Value) (f:Nat):zru P t x f=zeA P t x f:=by
 unfold zru zeA
 simp only[zid,Qy,zt2]
 rfl
theorem zku {place:Nat->Option (Nat×Nat)}:∀{ps:List (Nat×Value)} {l r:List Value},zt0 place ps l=some r->zdg place l ps=some r
 | [],l,r,h=>h
 | p :: ps,l,r,h=>by
   change (match place p.1 with | some (off,size)=>(match Nat.beq p.2.cells.size size with | true=>(match zlX p.2.cells.toList off l with | some l=>zt0 place ps l | none=>none) | false=>none) | none=>none)=some r at h
   unfold zdg
   split at h
   ·rename_i e
    split at h
    ·rename_i h1
     split at h
     ·rename_i h2
      rw[zlY] at h2
      split at h2 <;> cases h2
      simp only[e]
      rw[if_pos ⟨by simpa using Qb h1,by assumption⟩]
      exact zku h
     ·cases h
    ·cases h
   ·cases h
theorem zl1 (t:TypeId) (parts:Array (Nat×Value)):zrv P t parts=zbA P t parts:=by
 unfold zrv
 split
 ·simp_all[zbA]
 split
 ·split
  ·split
   ·rename_i h1 _ _ _ _ h2 h3 h4 _ _ h5
    have:=zb9 (cs:=_) (zku h5)
    simp_all[zbA,zid]
   ·rfl
  ·grind [zbA]
 ·rfl
theorem zl2 (h:AH) (t:TypeId) (len:Nat) (parts:Array (Nat×Value)):zrw P h t len parts=zas P h t len parts:=by
 unfold zrw
 split
 ·simp_all[zas]
 split
 ·split
  ·split
   ·split
    ·rename_i h5
     have:=zb9 (cs:=(_:List Value).toArray) (zku h5)
     simp_all[zas]
    ·rfl
   ·grind [zas]
  ·simp_all[zas]
 ·simp_all[zas]
theorem zuX (r:Ex) (o:Oper) (e:Env) (h:AH):opK P K r o e h=runOp P K r o e h:=by
 unfold opK zxq
 split
 all_goals first | rfl | (rename_i hq; simp only[runOp,aOp,hq,zoI,zlZ,zl0,zl1,zl2])
theorem zxs (o:Oper) (e:Env) (h:AH):zxq P o e h (aOp P o e h)=aOp P o e h:=by
 unfold zxq
 split
 all_goals first | rfl | (rename_i hq; simp only[aOp,hq,zoI,zlZ,zl0,zl1,zl2])
theorem zry (r:Ex) (ks:List Tmp) (ops:Array Oper):∀(l:List Oper) (e:Env) (h:AH),zxr P K r ks ops l e h=zbi P K r ks ops l e h
 | [],e,h=>rfl
 | o :: l,e,h=>by
   change (match zeY ops.toList o e with
    | some true=>(match (match ks with | []=>opK P K r o e h | _=>runOp P K r o e (preKill ks o.dst e h)) with | some (v,h')=>zxr P K r ks ops l (putO e o.dst v) h' | none=>none)
    | some false=>zxr P K r ks ops l (putO e o.dst zdt) h
    | none=>none)=_
   have hk:(match ks with | []=>opK P K r o e h | _=>runOp P K r o e (preKill ks o.dst e h))=runOp P K r o e (preKill ks o.dst e h):=by
    cases ks with
    | nil=>simp only[zuX]; cases hd:o.dst <;> simp[preKill]
    | cons=>rfl
   simp only[hk,zf7,zry r ks ops l,zbi]
   rfl
theorem zrz (r:Ex) (ops:Array Oper):∀(l:List Nat) (e:Env) (h:AH),zyT P K r ops l e h=zcY P K r ops l e h
 | [],e,h=>rfl
 | j :: l,e,h=>by
   change (match zrr j ops.toList with
    | some o=>
      (match zeY ops.toList o e with
      | some true=>(match opK P K r o e h with | some (v,h')=>(match zyT P K r ops l (putO e o.dst v) h' with | some l=>some ((e,h) :: l) | none=>none) | none=>none)
      | some false=>(match zyT P K r ops l (putO e o.dst zdt) h with | some l=>some ((e,h) :: l) | none=>none)
      | none=>none)
    | none=>none)=_
   simp only[zid,Qy,zf7,zuX,zrz r ops l,zcY]
   rfl
theorem zpT (ops:Array Oper) (ord:List Nat) (l:List (Env×AH)) (p q:Nat):zks P ops ord l p q=za4 P ops ord l p q:=by
 unfold zks za4
 simp only[zid,Qy,zf7,zxs]
 rfl
theorem zt3 (r:Ex) (ops:Array Oper) (e:Env) (h:AH):zt1 P K r ops e h=zb8 P K r ops e h:=by
 unfold zt1 zb8
 simp only[zrz,zpT]
 rfl
theorem zuY:∀n,exQ P K n=ex P K n
 | 0=>rfl
 | n+1=>by
   funext rd ks c e h
   change (match c with
    | .region _ ops false=>(match zxr P K (exQ P K n) ks ops ops.toList e h with | some (e',h')=>some (.normal,e',h') | none=>none)
    | .region _ ops true=>(match zt1 P K (exQ P K n) ops e h with | some (e',h')=>some (.normal,e',h') | none=>none)
    | c=>zaJ P K (exQ P K n) rd ks c e h)=zaJ P K (ex P K n) rd ks c e h
   simp only[zuY n,zry,zt3]
   split <;> rfl
end
set_option linter.unusedSimpArgs false
abbrev Bs:=List Nat
def zc0 (ts:List Bs):Bs:=(ts.map λt=>byB 2 t.length ++ t).flatten
def zft (ts:List Bs):Bs:=byB 2 ts.length ++ zc0 ts
theorem zxt (n:Nat):byB 2 n=[n % 256,n / 256 % 256]:=by grind[byB,List.range_succ]
theorem zrA (ts us:List Bs):zc0 (ts ++ us)=zc0 ts ++ zc0 us:=by simp[zc0]
theorem zrB (t:Bs):zc0 [t]=byB 2 t.length ++ t:=by simp[zc0]
theorem zjD (t:Bs) (ts:List Bs):zc0 (t :: ts)=byB 2 t.length ++ t ++ zc0 ts:=by rfl
def zeZ:Nat->Bs->Option (List Bs)
 | 0,[]=>some []
 | 0,_ :: _=>none
 | k+1,x :: y :: r=>if x+256 * y<=r.length then (zeZ k (r.drop (x+256 * y))).map (r.take (x+256 * y) :: ·) else none
 | _+1,_=>none
def zcP:Bs->Option (List Bs)
 | x :: y :: r=>zeZ (x+256 * y) r
 | _=>none
theorem zjE:∀(ts:List Bs),(∀t∈ts,t.length < 65536)->zeZ ts.length (zc0 ts)=some ts
 | [],_=>rfl
 | t :: ts,h=>by
   have ht:=h t QM
   have e:t.length % 256+256 * (t.length / 256 % 256)=t.length:=by omega
   rw[zjD,zxt]
   show (if t.length % 256+256 * (t.length / 256 % 256)<=(t ++ zc0 ts).length then (zeZ ts.length ((t ++ zc0 ts).drop (t.length % 256+256 * (t.length / 256 % 256)))).map ((t ++ zc0 ts).take (t.length % 256+256 * (t.length / 256 % 256)) :: ·) else none)=_
   rw[e,if_pos (by simp),List.drop_left,List.take_left,zjE ts λu hu=>h u (QG _ hu)]
   rfl
theorem zel {ts:List Bs} (hl:ts.length < 65536) (h:∀t∈ts,t.length < 65536):zcP (zft ts)=some ts:=by
 unfold zft
 rw[zxt]
 show zeZ (ts.length % 256+256 * (ts.length / 256 % 256)) (zc0 ts)=some ts
 grind[zjE]
def zpU (s:ByteArray):Bs:=s.data.toList.map UInt8.toNat
def zcM (b:Bs):ByteArray:=⟨(b.map UInt8.ofNat).toArray⟩
theorem zcQ (s:ByteArray):(zpU s).length=s.size:=by
 rw[zpU,QV,QX]
 rfl
theorem zf8 {s:ByteArray} {x:Nat} (h:x∈zpU s):x < 256:=by grind[zpU,UInt8.toNat_lt]
theorem zrC (s:ByteArray):zcM (zpU s)=s:=by
 obtain⟨d⟩:=s
 simp only[zcM,zpU,Jc]
 congr 1
 apply Array.toList_inj.1
 conv=>rhs; rw[<-List.map_id d.toList]
 exact QW λu _=>by simp
theorem zv8 {b:Bs} (h:∀x∈b,x < 256):zpU (zcM b)=b:=by
 simp only[zcM,zpU,Jc]
 conv=>rhs; rw[<-List.map_id b]
 grind[QW,UInt8.ofNat,UInt8.toNat]
theorem zrD {a b:Bs} (ha:∀x∈a,x < 256) (hb:∀x∈b,x < 256) (h:zcM a=zcM b):a=b:=by grind[zv8]
structure OpP where
 kind:Int
 name:ByteArray
 to:ByteArray
 n:Int
 data:Bs
 keep:List Bool
def zc1 (k:List Bool):Bs:=k.map λb=>if b then 1 else 0
theorem zdh (k:List Bool):(zc1 k).length=k.length:=by simp[zc1]
theorem zfu {k:List Bool} {x:Nat} (h:x∈zc1 k):x<=1:=by grind[zc1]
def zcy (b:Bs):List Bool:=b.map λx=>decide (0 < x)
theorem zt4 (k:List Bool):zcy (zc1 k)=k:=by
 simp only[zcy,zc1,Jc]
 conv=>rhs; rw[<-List.map_id k]
 grind[QW]
def nB (n:Int):Nat:=if n < 0 then 65535 else n.toNat
def nOf (m:Nat):Int:=if m=65535 then -1 else m
def hN (k:Int):Prop:=(0<=k/\k<=3)\/k=10\/k=12
def zjc (k:Int):Prop:=0<=k/\k<=8
def hTo (k:Int):Prop:=k=5
def zjd (k:Int):Prop:=k=1\/k=12
def zje (k:Int):Prop:=k=11
structure zfW (o:OpP):Prop where
 lo:0<=o.kind
 hi:o.kind<=12
 name:zjc o.kind\/o.name.size=0
 nameL:o.name.size<=60
 to:hTo o.kind\/o.to.size=0
 toL:o.to.size<=60
 n:hN o.kind\/o.n=0
 nLo:-1<=o.n
 nHi:o.n<=65534
 data:zjd o.kind\/o.data.length=0
 dataL:o.data.length<=129
 keep:zje o.kind\/o.keep.length=0
 keepL:o.keep.length<=64
def zpV (o:OpP):Bs:=enc [1,2] [o.kind.toNat,nB o.n]
def zmN (o:OpP):List Bs:=[zpV o,zpU o.name,zpU o.to,o.data,zc1 o.keep]
def opB (o:OpP):Bs:=zft (zmN o)
theorem zt5 (o:OpP):zpV o=[o.kind.toNat % 256,nB o.n % 256,nB o.n / 256 % 256]:=by simp[zpV,enc,byB,List.range_succ]
theorem zdR (o:OpP):(zpV o).length=3:=by rfl
theorem zxu {n:Int} (h:n<=65534):nB n < 65536:=by grind[nB]
theorem zzk {n:Int} (h1:-1<=n) (h2:n<=65534):nOf (nB n)=n:=by grind[nB,nOf]
theorem zkv {o:OpP} (k:zfW o):∀t∈zmN o,t.length < 65536:=by grind[zmN,zdR,zcQ,zfW.nameL,zfW.toL,zfW.dataL,zdh,zfW.keepL]
theorem zie:∀(ts:List Bs),(zc0 ts).length=(ts.map λt=>2+t.length).sum
 | []=>rfl
 | t :: ts=>by rw[zjD,QD,List.sum_cons,Qs,Qs,zdz,zie ts]
theorem zif (ts:List Bs):(zft ts).length=2+(ts.map λt=>2+t.length).sum:=by grind[zft,zdz,zie]
theorem zkw {o:OpP} (k:zfW o):(opB o).length<=400:=by
 rw[opB,zif]
 simp only[zmN,QD,Jk,List.sum_cons,List.sum_nil,zdR,zcQ,zdh]
 grind[zfW.nameL,zfW.toL,zfW.dataL,zfW.keepL]
theorem zoJ {ts:List Bs} (h:∀t∈ts,∀x∈t,x < 256):∀x∈zft ts,x < 256:=by grind[zft,zoF,zc0]
theorem zrE {o:OpP} (hd:∀x∈o.data,x < 256):∀x∈opB o,x < 256:=by
 refine zoJ λt ht x hx=>?_
 simp only[zmN,Qz,List.not_mem_nil,or_false] at ht
 rcases ht with rfl | rfl | rfl | rfl | rfl
 ·exact zoG _ _ hx
 ·exact zf8 hx
 ·exact zf8 hx
 ·grind
 ·have:=zfu hx; omega
def opOf (b:Bs):Option OpP:=match zcP b with
 | some [[x,y,z],nm,to,d,k]=>some ⟨x,zcM nm,zcM to,nOf (y+256 * z),d,zcy k⟩
 | _=>none
theorem zxv {o:OpP} (k:zfW o):opOf (opB o)=some o:=by
 unfold opOf
 rw[opB,zel (by simp[zmN]) (zkv k),zmN,zt5]
 simp only[]
 have h1:=k.lo
 have h2:=k.hi
 have h3:=zxu k.nHi
 rw[zrC,zrC,zt4,show nB o.n % 256+256 * (nB o.n / 256 % 256)=nB o.n by omega,zzk k.nLo k.nHi,show ((o.kind.toNat % 256:Nat):Int)=o.kind by omega]
structure zi3 where
 secs:Int
 ops:List OpP
structure zdS (s:zi3):Prop where
 lo:64<=s.secs
 hi:s.secs<=1024
 len:s.ops.length<=200
 ops:∀o∈s.ops,zfW o
def zg6 (s:zi3):List Bs:=byB 2 s.secs.toNat :: s.ops.map opB
def scrB (s:zi3):Bs:=zft (zg6 s)
theorem zkx {s:zi3} (k:zdS s):∀t∈zg6 s,t.length < 65536:=by
 intro t ht
 rcases Qz.1 ht with rfl | ht
 all_goals grind[zdz,zkw,zdS.ops]
def opsOf:List Bs->Option (List OpP)
 | []=>some []
 | t :: ts=>match opOf t with
   | some o=>(opsOf ts).map (o :: ·)
   | none=>none
def zt6 (b:Bs):Option zi3:=match zcP b with
 | some ([x,y] :: ts)=>(opsOf ts).map λos=>⟨(x+256 * y:Nat),os⟩
 | _=>none
theorem zrF:∀{os:List OpP},(∀o∈os,zfW o)->opsOf (os.map opB)=some os
 | [],_=>rfl
 | o :: os,h=>by
   rw[QD,opsOf,zxv (by grind)]
   rw[zrF λx hx=>h x (QG _ hx)]
   rfl
theorem zv9 {s:zi3} (k:zdS s):zt6 (scrB s)=some s:=by
 unfold zt6
 have h1:=k.lo
 have h2:=k.hi
 rw[scrB,zel (by grind[zdS.len,zg6]) (zkx k),zg6,zxt]
 simp only[]
 rw[zrF k.ops]
 simp only[Ql]
 rw[show s.secs.toNat % 256+256 * (s.secs.toNat / 256 % 256)=s.secs.toNat by omega,Int.toNat_of_nonneg (by omega)]
def zjf (b:Bs) (s:zi3):Prop:=zdS s/\scrB s=b
theorem zl3:∀{ts:List Bs} {os:List OpP},opsOf ts=some os->os.length=ts.length
 | [],os,h=>by cases h; rfl
 | t :: ts,os,h=>by
   unfold opsOf at h
   cases ho:opOf t with
   | none=>grind
   | some o=>
     rw[ho] at h
     cases hs:opsOf ts with
     | none=>grind
     | some us=>rw[hs] at h; cases h; rw[QF,QF,zl3 hs]
theorem zl4:∀(ts:List Bs) (t:Bs),opsOf (ts ++ [t])=match opsOf ts,opOf t with | some os,some o=>some (os ++ [o]) | _,_=>none
 | [],t=>by grind[opsOf]
 | u :: ts,t=>by
   show (match opOf u with | some o=>(opsOf (ts ++ [t])).map (o :: ·) | none=>none)=match (match opOf u with | some o=>(opsOf ts).map (o :: ·) | none=>none),opOf t with | some os,some o=>some (os ++ [o]) | _,_=>none
   rw[zl4 ts t]
   cases opOf u <;> cases opsOf ts <;> cases opOf t <;> rfl
open Go.Proofs
attribute [simp] Tryz.underlying0
attribute [simp] Tryz.underlying1
attribute [simp] Tryz.underlying2
@[simp] theorem zAo:Tryz.prog.cellsOf 3=1:=by kernel_rfl
attribute [simp] Tryz.underlying3
attribute [simp] Tryz.underlying4
@[simp] theorem zAp:Tryz.prog.cellsOf 5=1:=by kernel_rfl
attribute [simp] Tryz.underlying5
attribute [simp] Tryz.underlying6
attribute [simp] Tryz.underlying7
attribute [simp] Tryz.underlying8
@[simp] theorem zAq:Tryz.prog.cellsOf 9=1:=by kernel_rfl
attribute [simp] Tryz.underlying9
attribute [simp] Tryz.underlying10
attribute [simp] Tryz.underlying11
attribute [simp] Tryz.underlying12
attribute [simp] Tryz.underlying13
attribute [simp] Tryz.underlying14
attribute [simp] Tryz.underlying15
attribute [simp] Tryz.underlying16
attribute [simp] Tryz.underlying17
attribute [simp] Tryz.underlying18
attribute [simp] Tryz.underlying19
attribute [simp] Tryz.underlying20
attribute [simp] Tryz.underlying21
attribute [simp] Tryz.underlying22
attribute [simp] Tryz.underlying23
attribute [simp] Tryz.underlying24
attribute [simp] Tryz.underlying25
attribute [simp] Tryz.underlying26
attribute [simp] Tryz.underlying27
attribute [simp] Tryz.underlying28
attribute [simp] Tryz.underlying29
attribute [simp] Tryz.underlying30
attribute [simp] Tryz.underlying31
attribute [simp] Tryz.underlying32
attribute [simp] Tryz.underlying33
@[simp] theorem zzl:Tryz.prog.cellsOf 34=1:=by kernel_rfl
attribute [simp] Tryz.underlying34
attribute [simp] Tryz.underlying35
attribute [simp] Tryz.underlying36
attribute [simp] Tryz.underlying37
attribute [simp] Tryz.underlying38
attribute [simp] Tryz.underlying39
attribute [simp] Tryz.underlying40
attribute [simp] Tryz.underlying41
attribute [simp] Tryz.underlying42
attribute [simp] Tryz.underlying43
attribute [simp] Tryz.underlying44
attribute [simp] Tryz.underlying45
attribute [simp] Tryz.underlying46
attribute [simp] Tryz.underlying47
attribute [simp] Tryz.underlying48
attribute [simp] Tryz.underlying49
attribute [simp] Tryz.underlying50
attribute [simp] Tryz.underlying51
attribute [simp] Tryz.underlying52
attribute [simp] Tryz.underlying53
attribute [simp] Tryz.underlying54
attribute [simp] Tryz.underlying55
attribute [simp] Tryz.underlying56
attribute [simp] Tryz.underlying57
attribute [simp] Tryz.underlying58
attribute [simp] Tryz.underlying59
attribute [simp] Tryz.underlying60
attribute [simp] Tryz.underlying61
@[simp] theorem zzm:Tryz.prog.cellsOf 62=1:=by kernel_rfl
attribute [simp] Tryz.underlying62
attribute [simp] Tryz.underlying63
attribute [simp] Tryz.underlying64
attribute [simp] Tryz.underlying65
attribute [simp] Tryz.underlying66
attribute [simp] Tryz.underlying67
attribute [simp] Tryz.underlying68
attribute [simp] Tryz.underlying69
attribute [simp] Tryz.underlying70
attribute [simp] Tryz.underlying71
attribute [simp] Tryz.underlying72
attribute [simp] Tryz.underlying73
attribute [simp] Tryz.underlying74
attribute [simp] Tryz.underlying75
attribute [simp] Tryz.underlying76
attribute [simp] Tryz.underlying77
attribute [simp] Tryz.underlying78
attribute [simp] Tryz.underlying79
attribute [simp] Tryz.underlying80
attribute [simp] Tryz.underlying81
attribute [simp] Tryz.underlying82
attribute [simp] Tryz.underlying83
attribute [simp] Tryz.underlying84
attribute [simp] Tryz.underlying85
attribute [simp] Tryz.underlying86
attribute [simp] Tryz.underlying87
attribute [simp] Tryz.underlying88
attribute [simp] Tryz.underlying89
attribute [simp] Tryz.underlying90
attribute [simp] Tryz.underlying91
attribute [simp] Tryz.underlying92
attribute [simp] Tryz.underlying93
@[simp] theorem zzn:Tryz.prog.cellsOf 94=1:=by kernel_rfl
attribute [simp] Tryz.underlying94
attribute [simp] Tryz.underlying95
@[simp] theorem zzo:Tryz.prog.cellsOf 96=3:=by kernel_rfl
attribute [simp] Tryz.underlying96
attribute [simp] Tryz.underlying97
attribute [simp] Tryz.underlying98
attribute [simp] Tryz.underlying99
attribute [simp] Tryz.underlying100
attribute [simp] Tryz.underlying101
attribute [simp] Tryz.underlying102
attribute [simp] Tryz.underlying103
attribute [simp] Tryz.underlying104
attribute [simp] Tryz.underlying105
attribute [simp] Tryz.underlying106
attribute [simp] Tryz.underlying107
attribute [simp] Tryz.underlying108
attribute [simp] Tryz.underlying109
attribute [simp] Tryz.underlying110
attribute [simp] Tryz.underlying111
attribute [simp] Tryz.underlying112
attribute [simp] Tryz.underlying113
attribute [simp] Tryz.underlying114
attribute [simp] Tryz.underlying115
attribute [simp] Tryz.underlying116
attribute [simp] Tryz.underlying117
attribute [simp] Tryz.underlying118
attribute [simp] Tryz.underlying119
attribute [simp] Tryz.underlying120
attribute [simp] Tryz.underlying121
attribute [simp] Tryz.underlying122
attribute [simp] Tryz.underlying123
attribute [simp] Tryz.underlying124
attribute [simp] Tryz.underlying125
attribute [simp] Tryz.underlying126
attribute [simp] Tryz.underlying127
attribute [simp] Tryz.underlying128
attribute [simp] Tryz.underlying129
attribute [simp] Tryz.underlying130
attribute [simp] Tryz.underlying131
attribute [simp] Tryz.underlying132
attribute [simp] Tryz.underlying133
attribute [simp] Tryz.underlying134
attribute [simp] Tryz.underlying135
attribute [simp] Tryz.underlying136
attribute [simp] Tryz.underlying137
attribute [simp] Tryz.underlying138
attribute [simp] Tryz.underlying139
attribute [simp] Tryz.underlying140
attribute [simp] Tryz.underlying141
attribute [simp] Tryz.underlying142
attribute [simp] Tryz.underlying143
attribute [simp] Tryz.underlying144
attribute [simp] Tryz.underlying145
attribute [simp] Tryz.underlying146
attribute [simp] Tryz.underlying147
attribute [simp] Tryz.underlying148
attribute [simp] Tryz.underlying149
attribute [simp] Tryz.underlying150
attribute [simp] Tryz.underlying151
attribute [simp] Tryz.underlying152
attribute [simp] Tryz.underlying153
attribute [simp] Tryz.underlying154
attribute [simp] Tryz.underlying155
attribute [simp] Tryz.underlying156
attribute [simp] Tryz.underlying157
attribute [simp] Tryz.underlying158
attribute [simp] Tryz.underlying159
attribute [simp] Tryz.underlying160
attribute [simp] Tryz.underlying161
attribute [simp] Tryz.underlying162
attribute [simp] Tryz.underlying163
attribute [simp] Tryz.underlying164
attribute [simp] Tryz.underlying165
attribute [simp] Tryz.underlying166
attribute [simp] Tryz.underlying167
attribute [simp] Tryz.underlying168
attribute [simp] Tryz.underlying169
attribute [simp] Tryz.underlying170
attribute [simp] Tryz.underlying171
attribute [simp] Tryz.underlying172
attribute [simp] Tryz.underlying173
attribute [simp] Tryz.underlying174
attribute [simp] Tryz.underlying175
attribute [simp] Tryz.underlying176
attribute [simp] Tryz.underlying177
attribute [simp] Tryz.underlying178
attribute [simp] Tryz.underlying179
attribute [simp] Tryz.underlying180
attribute [simp] Tryz.underlying181
attribute [simp] Tryz.underlying182
attribute [simp] Tryz.underlying183
attribute [simp] Tryz.underlying184
attribute [simp] Tryz.underlying185
attribute [simp] Tryz.underlying186
attribute [simp] Tryz.underlying187
attribute [simp] Tryz.underlying188
attribute [simp] Tryz.underlying189
attribute [simp] Tryz.underlying190
attribute [simp] Tryz.underlying191
attribute [simp] Tryz.underlying192
attribute [simp] Tryz.underlying193
attribute [simp] Tryz.underlying194
attribute [simp] Tryz.underlying195
attribute [simp] Tryz.underlying196
attribute [simp] Tryz.underlying197
attribute [simp] Tryz.underlying198
attribute [simp] Tryz.underlying199
attribute [simp] Tryz.underlying200
attribute [simp] Tryz.underlying201
attribute [simp] Tryz.underlying202
attribute [simp] Tryz.underlying203
attribute [simp] Tryz.underlying204
attribute [simp] Tryz.underlying205
attribute [simp] Tryz.underlying206
attribute [simp] Tryz.underlying207
attribute [simp] Tryz.underlying208
attribute [simp] Tryz.underlying209
attribute [simp] Tryz.underlying210
attribute [simp] Tryz.underlying211
attribute [simp] Tryz.underlying212
attribute [simp] Tryz.underlying213
attribute [simp] Tryz.underlying214
attribute [simp] Tryz.underlying215
attribute [simp] Tryz.underlying216
attribute [simp] Tryz.underlying217
attribute [simp] Tryz.underlying218
attribute [simp] Tryz.underlying219
attribute [simp] Tryz.underlying220
attribute [simp] Tryz.underlying221
attribute [simp] Tryz.underlying222
attribute [simp] Tryz.underlying223
attribute [simp] Tryz.underlying224
attribute [simp] Tryz.underlying225
attribute [simp] Tryz.underlying226
attribute [simp] Tryz.underlying227
attribute [simp] Tryz.underlying228
attribute [simp] Tryz.underlying229
attribute [simp] Tryz.underlying230
attribute [simp] Tryz.underlying231
attribute [simp] Tryz.underlying232
attribute [simp] Tryz.underlying233
attribute [simp] Tryz.underlying234
attribute [simp] Tryz.underlying235
attribute [simp] Tryz.underlying236
attribute [simp] Tryz.underlying237
attribute [simp] Tryz.underlying238
attribute [simp] Tryz.underlying239
attribute [simp] Tryz.underlying240
attribute [simp] Tryz.underlying241
attribute [simp] Tryz.underlying242
attribute [simp] Tryz.underlying243
attribute [simp] Tryz.underlying244
attribute [simp] Tryz.underlying245
attribute [simp] Tryz.underlying246
attribute [simp] Tryz.underlying247
attribute [simp] Tryz.underlying248
attribute [simp] Tryz.underlying249
attribute [simp] Tryz.underlying250
attribute [simp] Tryz.underlying251
attribute [simp] Tryz.underlying252
attribute [simp] Tryz.underlying253
attribute [simp] Tryz.underlying254
attribute [simp] Tryz.underlying255
attribute [simp] Tryz.underlying256
attribute [simp] Tryz.underlying257
attribute [simp] Tryz.underlying258
attribute [simp] Tryz.underlying259
attribute [simp] Tryz.underlying260
attribute [simp] Tryz.underlying261
attribute [simp] Tryz.underlying262
attribute [simp] Tryz.underlying263
attribute [simp] Tryz.underlying264
@[simp] theorem zyU:Tryz.prog.cellsOf 265=2:=by kernel_rfl
attribute [simp] Tryz.underlying265
attribute [simp] Tryz.underlying266
attribute [simp] Tryz.underlying267
attribute [simp] Tryz.underlying268
attribute [simp] Tryz.underlying269
attribute [simp] Tryz.underlying270
attribute [simp] Tryz.underlying271
attribute [simp] Tryz.underlying272
attribute [simp] Tryz.underlying273
attribute [simp] Tryz.underlying274
attribute [simp] Tryz.underlying275
attribute [simp] Tryz.underlying276
attribute [simp] Tryz.underlying277
attribute [simp] Tryz.underlying278
attribute [simp] Tryz.underlying279
attribute [simp] Tryz.underlying280
attribute [simp] Tryz.underlying281
attribute [simp] Tryz.underlying282
attribute [simp] Tryz.underlying283
attribute [simp] Tryz.underlying284
attribute [simp] Tryz.underlying285
attribute [simp] Tryz.underlying286
attribute [simp] Tryz.underlying287
attribute [simp] Tryz.underlying288
attribute [simp] Tryz.underlying289
attribute [simp] Tryz.underlying290
attribute [simp] Tryz.underlying291
attribute [simp] Tryz.underlying292
attribute [simp] Tryz.underlying293
attribute [simp] Tryz.underlying294
attribute [simp] Tryz.underlying295
attribute [simp] Tryz.underlying296
attribute [simp] Tryz.underlying297
attribute [simp] Tryz.underlying298
attribute [simp] Tryz.underlying299
attribute [simp] Tryz.underlying300
attribute [simp] Tryz.underlying301
attribute [simp] Tryz.underlying302
attribute [simp] Tryz.underlying303
attribute [simp] Tryz.underlying304
attribute [simp] Tryz.underlying305
attribute [simp] Tryz.underlying306
attribute [simp] Tryz.underlying307
attribute [simp] Tryz.underlying308
attribute [simp] Tryz.underlying309
attribute [simp] Tryz.underlying310
attribute [simp] Tryz.underlying311
attribute [simp] Tryz.underlying312
attribute [simp] Tryz.underlying313
attribute [simp] Tryz.underlying314
attribute [simp] Tryz.underlying315
attribute [simp] Tryz.underlying316
attribute [simp] Tryz.underlying317
attribute [simp] Tryz.underlying318
attribute [simp] Tryz.underlying319
attribute [simp] Tryz.underlying320
attribute [simp] Tryz.underlying321
attribute [simp] Tryz.underlying322
attribute [simp] Tryz.underlying323
attribute [simp] Tryz.underlying324
attribute [simp] Tryz.underlying325
attribute [simp] Tryz.underlying326
attribute [simp] Tryz.underlying327
attribute [simp] Tryz.underlying328
attribute [simp] Tryz.underlying329
attribute [simp] Tryz.underlying330
attribute [simp] Tryz.underlying331
attribute [simp] Tryz.underlying332
attribute [simp] Tryz.underlying333
attribute [simp] Tryz.underlying334
attribute [simp] Tryz.underlying335
attribute [simp] Tryz.underlying336
attribute [simp] Tryz.underlying337
attribute [simp] Tryz.underlying338
attribute [simp] Tryz.underlying339
attribute [simp] Tryz.underlying340
attribute [simp] Tryz.underlying341
attribute [simp] Tryz.underlying342
attribute [simp] Tryz.underlying343
attribute [simp] Tryz.underlying344
attribute [simp] Tryz.underlying345
attribute [simp] Tryz.underlying346
attribute [simp] Tryz.underlying347
attribute [simp] Tryz.underlying348
attribute [simp] Tryz.underlying349
attribute [simp] Tryz.underlying350
attribute [simp] Tryz.underlying351
attribute [simp] Tryz.underlying352
attribute [simp] Tryz.underlying353
attribute [simp] Tryz.underlying354
attribute [simp] Tryz.underlying355
attribute [simp] Tryz.underlying356
attribute [simp] Tryz.underlying357
attribute [simp] Tryz.underlying358
attribute [simp] Tryz.underlying359
attribute [simp] Tryz.underlying360
attribute [simp] Tryz.underlying361
attribute [simp] Tryz.underlying362
attribute [simp] Tryz.underlying363
attribute [simp] Tryz.underlying364
attribute [simp] Tryz.underlying365
attribute [simp] Tryz.underlying366
set_option maxRecDepth 100000
theorem eB8:za5 Tryz.prog 34 5 1 1:=zaU (by rfl)
theorem zwa:za5 Tryz.prog 55 4 1 1:=zaU (by rfl)
theorem zuZ:za5 Tryz.prog 63 34 1 24:=zaU (by kernel_rfl)
theorem zzp:za5 Tryz.prog 22 57 6 96:=zaU (by kernel_rfl)
def zho (l:List Bool):List Value:=l.map .bool
theorem zem (l:List Bool):(zho l).length=l.length:=by simp[zho]
theorem zt7 {l:List Bool} {i:Nat} (hi:i < l.length):(zho l)[i]?= some (.bool l[i]):=by grind[zho]
theorem zoK (a b:List Bool):zho (a ++ b)=zho a ++ zho b:=by simp[zho]
def zt8 (p:Option Addr):Prop:=p=none\/∃b off,p=some ⟨b,off,none⟩
def zds (h:AH) (p:Option Addr) (n:Nat) (data:List Nat):Prop:=zt8 p/\n=data.length/\n<=reachBytes/\zaF h p n 1 (za6 .u8 data)/\∀x∈data,x < 256
def zmO (h:AH) (p:Option Addr) (n:Nat) (l:List Bool):Prop:=zt8 p/\n=l.length/\n<=reachBytes/\zaF h p n 1 (zho l)
theorem zds.old {h h' : AH} {p:Option Addr} {n:Nat} {data:List Nat} (t:zds h p n data) (o:Old h h'):zds h' p n data:=⟨t.1,t.2.1,t.2.2.1,t.2.2.2.1.old o,t.2.2.2.2⟩
theorem zmO.old {h h' : AH} {p:Option Addr} {n:Nat} {l:List Bool} (t:zmO h p n l) (o:Old h h'):zmO h' p n l:=⟨t.1,t.2.1,t.2.2.1,t.2.2.2.old o⟩
def zu0 (h:AH) (cs:List Value) (o:OpP):Prop:=∃pd nd cd pk nk ck,cs=[.int .i64 o.kind,.string o.name,.string o.to,.int .i64 o.n,.slice pd nd cd,.slice pk nk ck]/\zds h pd nd o.data/\zmO h pk nk o.keep/\o.name.size<=reachBytes/\o.to.size<=reachBytes
theorem zu0.old {h h' : AH} {cs:List Value} {o:OpP} (t:zu0 h cs o) (k:Old h h'):zu0 h' cs o:=by
 obtain⟨pd,nd,cd,pk,nk,ck,e,t1,t2,t3⟩:=t
 exact⟨pd,nd,cd,pk,nk,ck,e,t1.old k,t2.old k,t3⟩
def Ops (h:AH) (p:Option Addr) (n:Nat) (os:List OpP):Prop:=zt8 p/\n=os.length/\n * 96<=reachBytes/\∃cells,zaF h p n 6 cells/\∀(i:Nat) (hi:i < os.length),zu0 h ((cells.drop (i * 6)).take 6) os[i]
theorem Ops.old {h h' : AH} {p:Option Addr} {n:Nat} {os:List OpP} (t:Ops h p n os) (o:Old h h'):Ops h' p n os:=by
 obtain⟨t1,t2,t3,cells,t4,t5⟩:=t
 exact⟨t1,t2,t3,cells,t4.old o,by grind[zu0.old]⟩
theorem Ops.at {h:AH} {p:Option Addr} {n:Nat} {os:List OpP} (t:Ops h p n os) {i:Nat} (hi:i < n):∃b off,p=some ⟨b,off,none⟩/\∃(hi' : i < os.length),∃pd nd cd pk nk ck,
 ldN h b (off+i * 6) 6=some [.int .i64 os[i].kind,.string os[i].name,.string os[i].to,.int .i64 os[i].n,.slice pd nd cd,.slice pk nk ck]/\
 ld1 h b (off+i * 6)=some (.int .i64 os[i].kind)/\ld1 h b (off+i * 6+1)=some (.string os[i].name)/\ld1 h b (off+i * 6+2)=some (.string os[i].to)/\ld1 h b (off+i * 6+3)=some (.int .i64 os[i].n)/\ld1 h b (off+i * 6+4)=some (.slice pd nd cd)/\ld1 h b (off+i * 6+5)=some (.slice pk nk ck)/\
 zds h pd nd os[i].data/\zmO h pk nk os[i].keep/\os[i].name.size<=reachBytes/\os[i].to.size<=reachBytes/\b < h.next:=by
 obtain⟨t1,t2,t3,cells,t4,t5⟩:=t
 obtain⟨b,off,hp,hld,h1⟩:=t4.getN hi
 have hi' : i < os.length:=by omega
 obtain⟨pd,nd,cd,pk,nk,ck,e,t6,t7,t8,t9⟩:=t5 i hi'
 have hb:b < h.next:=by
  rcases t4.2 with z | ⟨b',off',al,e',ro,hp',hb', -⟩
  all_goals grind
 have ge:∀(j:Nat) (v:Value),j < 6->([Value.int .i64 os[i].kind,.string os[i].name,.string os[i].to,.int .i64 os[i].n,.slice pd nd cd,.slice pk nk ck]:List Value)[j]?= some v->ld1 h b (off+i * 6+j)=some v:=by grind
 exact⟨b,off,hp,hi',pd,nd,cd,pk,nk,ck,by grind,ge 0 _ (by omega) rfl,by grind,by grind,by grind,by grind,by grind,t6,t7,t8,t9,hb⟩
section
variable {h:AH}
end
abbrev zC:List Value:=[.int .u64 0,.string (ByteArray.mk #[]),.bool false,.int .u64 0,.int .u64 0,.int .u64 0,.int .i64 0,.int .i64 0,.int .u64 0,.int .u32 0,.slice none 0 0]
abbrev sC (a:Int) (b:ByteArray) (c:Bool) (d e f g i j k:Int) (l:Option Addr) (m n:Nat):List Value:=[.int .u64 a,.string b,.bool c,.int .u64 d,.int .u64 e,.int .u64 f,.int .i64 g,.int .i64 i,.int .u64 j,.int .u32 k,.slice l m n]
abbrev qL (a b c:Int):List Value:=[.int .i64 a,.int .u64 b,.int .u32 c]
abbrev bC (a:Int) (b:Option Addr) (c d:Nat):List Value:=[.int .u64 a,.slice b c d]
abbrev lI (h:AH) (b o:Nat) (Q:Int->Prop):Prop:=∃x,ld1 h b o=some (.int .i64 x)/\Q x
abbrev lU (h:AH) (b o:Nat) (Q:Int->Prop):Prop:=∃x,ld1 h b o=some (.int .u64 x)/\Q x
abbrev lS (h:AH) (b o:Nat) (Q:Option Addr->Nat->Nat->Prop):Prop:=∃x y z,ld1 h b o=some (.slice x y z)/\Q x y z
abbrev wI (e:Int) (Q:Int->Prop):Prop:=∀x:Int,x=IntKind.wrap .i64 e->Q x
abbrev aL (h:AH) (c:List Value) (e:Nat) (Q:AH->Prop):Prop:=∀x,x=h.alloc (.cells c e false)->Q x
abbrev sT (h:AH) (b o:Nat) (v:Value) (Q:AH->Prop):Prop:=∃x,st1 h b o v=some x/\Q x
abbrev Wt (K:Xs):FuncId->List Value->AH->(Value->AH->Prop)->Prop:=Wf Tryz.prog K
end Go.Am
