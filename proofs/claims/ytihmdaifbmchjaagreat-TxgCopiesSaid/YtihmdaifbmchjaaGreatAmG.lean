/-
  THE WEAKEST CONDITION OF CODE, by computing: what must hold ahead of it, written out. Definitions.
-/
import Derived.Test.YtihmdaifbmchjaaGreatAmD
import Derived.Test.YtihmdaifbmchjaaGreatAmF
set_option linter.unusedVariables false
set_option linter.unusedSimpArgs false
namespace Go.Am
def agr (a e:Env):Prop:=∀t v,a.get t=some v→e.get t=some v
def zmx (a:Env):Operand→Bool
 | .tmp t=>match a.get t with | some _=>true | none=>false
 | _=>true
def zkJ (a:Env) (o:Op):Bool:=o.operands.toList.all (zmx a)
def zai (p:Option Addr) (k:Nat→Nat→Prop):Prop:=match p with | some ⟨b,off,none⟩=>k b off | _=>False
def zrG {α:Type} (p:Option α) (A B:Prop):Prop:=match p with | none=>A | some _=>B
def exV (z:Value) (k:Value→Prop):Prop:=
 match z with
 | .int kd _=>∃x:Int,k (.int kd x)
 | .bool _=>∃x:Bool,k (.bool x)
 | .string _=>∃x:ByteArray,k (.string x)
 | .pointer _=>∃p:Option Addr,k (.pointer p)
 | .slice _ _ _=>∃(p:Option Addr) (n c:Nat),k (.slice p n c)
 | .map _=>∃m:Option Nat,k (.map m)
 | .nilFunc=>∃(g:FuncId) (cap:List Value),k (.func (.func g) #[] cap.toArray)
 | _=>∃v:Value,k v
def exL:List Value→(List Value→Prop)→Prop
 | [],k=>k []
 | z :: zs,k=>exV z fun v=>exL zs fun vs=>k (v :: vs)
def exT (P:Program) (t:TypeId) (k:Value→Prop):Prop:=
 match zhB P t with
 | some true=>cond (Nat.blt 12 (P.cellsOf t)) (∃vs:List Value,k (.agg vs.toArray)) (match zan P t with | some zs=>exL zs fun vs=>k (.agg vs.toArray) | none=>False)
 | some false=>match zan P t with | some [.bool _]=>k (.bool true)∨k (.bool false) | some [z]=>exV z k | _=>∃v:Value,k v
 | none=>∃v:Value,k v
def zBS (P:Program):List TypeId→(List Value→Prop)→Prop
 | [],k=>k []
 | t :: ts,k=>exT P t fun v=>zBS P ts fun vs=>k (v :: vs)
def ld1 (h:AH) (b off:Nat):Option Value:=load1 (h.get b) off
def ldN (h:AH) (b off n:Nat):Option (List Value):=match h.get b with | some (.cells cs _ _)=>if off+n≤cs.length then some ((cs.drop off).take n) else none | _=>none
def st1 (h:AH) (b off:Nat) (v:Value):Option AH:=store1 h b off v (h.get b)
def stN (h:AH) (b off:Nat) (vs:List Value):Option AH:=storeN h b off vs (h.get b)
def ldT (P:Program) (h:AH) (t:TypeId) (b off:Nat) (v:Value):Prop:=
 match zhB P t with
 | some true=>match v with | .agg vs=>ldN h b off (P.cellsOf t)=some vs.toList | _=>False
 | some false=>ld1 h b off=some v
 | none=>False
def zsZ (P:Program) (h:AH) (t:TypeId) (b off:Nat) (v:Value) (k:AH→Prop):Prop:=
 match (P.info? t).isSome with
 | false=>False
 | true=>
   match zhB P t with
   | some true=>match v with | .agg vs=>vs.toList.length=P.cellsOf t∧∃h',stN h b off vs.toList=some h'∧k h' | _=>False
   | some false=>match zzq v && Nat.beq (P.cellsOf t) 1 with | true=>∃h',st1 h b off v=some h'∧k h' | false=>False
   | none=>False
def zvJ (P:Program) (t:TypeId) (cs:List Value) (off:Nat) (k:Value→Prop):Prop:=
 match zhB P t with
 | some true=>exT P t fun v=>(match v with | .agg vs=>(cs.drop off).take (P.cellsOf t)=vs.toList | _=>False)∧k v
 | some false=>exT P t fun v=>cs[off]?= some v∧k v
 | none=>False
def zs0 (P:Program) (t:TypeId) (cs:List Value) (off:Nat) (k:Value→Prop):Prop:=
 match zhB P t with
 | some true=>k (.agg ((cs.drop off).take (P.cellsOf t)).toArray)
 | some false=>match cs[off]? with | some v=>k v | none=>False
 | none=>False
def zBT (P:Program) (op:BinOp) (t:TypeId) (kd:IntKind) (i j:Int) (k:Value→Prop):Prop:=
 match op with
 | .add=>∀c:Int,c=kd.wrap (i+j)→k (.int kd c)
 | .sub=>∀c:Int,c=kd.wrap (i - j)→k (.int kd c)
 | .mul=>∀c:Int,c=kd.wrap (i * j)→k (.int kd c)
 | .quo=>j≠0∧∀c:Int,c=kd.wrap (i.tdiv j)→k (.int kd c)
 | .rem=>j≠0∧∀c:Int,c=i.tmod j→k (.int kd c)
 | .eql=>(i=j→k (.bool true))∧(¬i=j→k (.bool false))
 | .neq=>(i=j→k (.bool false))∧(¬i=j→k (.bool true))
 | .lss=>(i < j→k (.bool true))∧(¬i < j→k (.bool false))
 | .leq=>(i≤j→k (.bool true))∧(¬i≤j→k (.bool false))
 | .gtr=>(j < i→k (.bool true))∧(¬j < i→k (.bool false))
 | .geq=>(j≤i→k (.bool true))∧(¬j≤i→k (.bool false))
 | _=>∃c:Int,zcd op kd i j=some (.int kd c)∧k (.int kd c)
def zBU (P:Program) (op:BinOp) (t:TypeId) (x y:Value) (k:Value→Prop):Prop:=
 match x with
 | .int k1 i=>
   match y with
   | .int k2 j=>
     match op with
     | .shl=>∃c:Int,zba .shl k1 i j=some (.int k1 c)∧k (.int k1 c)
     | .shr=>∃c:Int,zba .shr k1 i j=some (.int k1 c)∧k (.int k1 c)
     | op=>match decide (k1=k2) with | true=>zBT P op t k1 i j k | false=>False
   | _=>False
 | .string a=>
   match y with
   | .string b=>
     match op with
     | .eql=>(a=b→k (.bool true))∧(¬a=b→k (.bool false))
     | .neq=>(a=b→k (.bool false))∧(¬a=b→k (.bool true))
     | .add=>((a.size+b.size:Nat):Int)≤9223372036854775807∧∀s:ByteArray,s=a ++ b→k (.string s)
     | _=>False
   | _=>False
 | .bool a=>
   match y,P.underlying t with
   | .bool b,some .bool=>
     match op with
     | .eql=>cond (a == b) (k (.bool true)) (k (.bool false))
     | .neq=>cond (a == b) (k (.bool false)) (k (.bool true))
     | _=>False
   | _,_=>False
 | .agg xs=>
   match y,P.keyTypeAt 40 t with
   | .agg ys,true=>
     match op with
     | .eql=>∃la lb,zcp P t (.agg xs)=some la∧zcp P t (.agg ys)=some lb∧(zaC la lb=true→k (.bool true))∧(zaC la lb=false→k (.bool false))
     | .neq=>∃la lb,zcp P t (.agg xs)=some la∧zcp P t (.agg ys)=some lb∧(zaC la lb=true→k (.bool false))∧(zaC la lb=false→k (.bool true))
     | _=>False
   | _,_=>False
 | .pointer p=>
   match y,P.underlying t with
   | .pointer none,some (.pointer _)=>
     match op with
     | .eql=>zrG p (k (.bool true)) (k (.bool false))
     | .neq=>zrG p (k (.bool false)) (k (.bool true))
     | _=>False
   | _,_=>False
 | .slice p _ _=>
   match y,P.underlying t with
   | .slice none _ _,some (.slice _)=>
     match op with
     | .eql=>zrG p (k (.bool true)) (k (.bool false))
     | .neq=>zrG p (k (.bool false)) (k (.bool true))
     | _=>False
   | _,_=>False
 | .map p=>
   match y,P.underlying t with
   | .map none,some (.map _ _)=>
     match op with
     | .eql=>zrG p (k (.bool true)) (k (.bool false))
     | .neq=>zrG p (k (.bool false)) (k (.bool true))
     | _=>False
   | _,_=>False
 | _=>False
def Wy (P:Program) (K:Xs) (l:Nat) (args:List Value) (h:AH) (Q:Value→AH→Prop):Prop:=∃n v h',zc4 (ex P K n) l args h=some (v,h')∧Q v h'
def zBV (P:Program) (g:FuncId) (k:Value→AH→Prop):Value→AH→Prop:=
 match P.funcs[g]? with
 | some fn=>
   match fn.resultTypes.toList with
   | []=>k
   | [t]=>fun v h=>exT P t fun x=>v=x∧k x h
   | ts=>fun v h=>zBS P ts fun vs=>v=.tuple vs.toArray∧k (.tuple vs.toArray) h
 | none=>fun _ _=>False
def zkK (P:Program) (s d:TypeId) (x:Value) (h:AH) (k:Value→AH→Prop):Prop:=
 match P.underlying s,P.underlying d with
 | some (.int _),some (.int kd)=>match x with | .int _ n=>∀c:Int,c=kd.wrap n→k (.int kd c) h | _=>False
 | some .string,some .string=>match x with | .string a=>k (.string a) h | _=>False
 | some (.slice _),some .string=>∃a:ByteArray,zaH P h s d x=some (.string a,h)∧k (.string a) h
 | _,some (.slice _)=>∃(p:Option Addr) (n c:Nat) (h' : AH),zaH P h s d x=some (.slice p n c,h')∧k (.slice p n c) h'
 | _,_=>False
def zs1 (P:Program) (t:TypeId) (x:Value) (lo hi mx:Option Value) (h:AH) (k:Value→AH→Prop):Prop:=
 match P.underlying t with
 | some .string=>∃a:ByteArray,zar P h t x lo hi mx=some (.string a)∧k (.string a) h
 | some _=>∃(p:Option Addr) (n c:Nat),zar P h t x lo hi mx=some (.slice p n c)∧k (.slice p n c) h
 | none=>False
def zf9 (P:Program) (t:TypeId) (x i:Value) (k:Value→Prop):Prop:=
 match i with
 | .int _ j=>
   match P.underlying t with
   | some (.array n elem)=>match x with | .pointer p=>zai p (fun b off=>match (P.info? elem).isSome with | true=>0≤j∧j < n∧k (ptr b (off+j.toNat * P.cellsOf elem)) | false=>False) | _=>False
   | some (.slice elem)=>match x with | .slice p n _=>zai p (fun b off=>match (P.info? elem).isSome with | true=>0≤j∧j < n∧k (ptr b (off+j.toNat * P.cellsOf elem)) | false=>False) | _=>False
   | _=>False
 | _=>False
def zs2 (P:Program) (t:TypeId) (x i:Value) (k:Value→Prop):Prop:=
 match i with
 | .int _ j=>
   match P.underlying t with
   | some (.array n elem)=>match x with | .agg cs=>(match (P.info? elem).isSome with | true=>0≤j∧j < n∧zvJ P elem cs.toList (j.toNat * P.cellsOf elem) k | false=>False) | _=>False
   | some .string=>match x with | .string s=>0≤j∧∃c:UInt8,s[j.toNat]?= some c∧k (.int .u8 c.toNat) | _=>False
   | _=>False
 | _=>False
def zoq (P:Program) (t:TypeId) (m key:Value) (ok:Bool) (h:AH) (k:Value→Prop):Prop:=
 match P.underlying t with
 | some (.map _ et)=>
   match ok with
   | true=>exT P et fun v=>∃b:Bool,zbZ P h t m key true=some (.tuple #[v,.bool b])∧k (.tuple #[v,.bool b])
   | false=>exT P et fun v=>zbZ P h t m key false=some v∧k v
 | _=>False
def zyj (P:Program) (t:TypeId) (l c:Value) (h:AH) (k:Value→AH→Prop):Prop:=
 match l,c,P.underlying t with
 | .int _ l,.int _ c,some (.slice elem)=>
   match P.info? elem,zan P elem with
   | some i,some z=>
     match Nat.beq z.length i.size with
     | true=>(0≤l∧l≤c∧c≤9223372036854775807∧i.bytes * c≤281474976710656)∧
        ∀h1,h1=h.alloc (.cells ((List.replicate c.toNat z).flatten) elem false)→k (.slice (some ⟨h.next,0,none⟩) l.toNat c.toNat) h1
     | false=>False
   | _,_=>False
 | _,_,_=>False
def zz1 (it:Value) (h:AH) (k:Value→AH→Prop):Prop:=
 match it with
 | .pointer p=>zai p fun r off=>off=0∧∃(s:ByteArray) (pos:Nat),h.get r=some (.siter s pos)∧
    (pos < s.size→∀h1,h1=h.set r (.siter s (pos+(Utf8.decode s pos).2))→k (.tuple #[.bool true,.int .i64 pos,.int .i32 (Utf8.decode s pos).1]) h1)∧(¬pos < s.size→k (.tuple #[.bool false]) h)
 | _=>False
def zkL (P:Program) (b:Builtin) (ats:Array TypeId) (args:List Value) (h:AH) (k:Value→AH→Prop):Prop:=
 match b with
 | .append=>∃(p:Option Addr) (n c:Nat) (h' : AH),zal P h .append ats args=some (.slice p n c,h')∧k (.slice p n c) h'
 | .copy=>∃(m:Int) (h' : AH),zal P h .copy ats args=some (.int .i64 m,h')∧k (.int .i64 m) h'
 | .clear=>∃h' : AH,zal P h .clear ats args=some (undef,h')∧k undef h'
 | .delete=>∃h' : AH,zal P h .delete ats args=some (undef,h')∧k undef h'
 | .min=>match zdK false args with | some (.int kd c0)=>∀c:Int,c=c0→k (.int kd c) h | _=>False
 | .max=>match zdK true args with | some (.int kd c0)=>∀c:Int,c=c0→k (.int kd c) h | _=>False
 | .len=>
   match ats.toList,args with
   | [t],[.map m]=>∃n:Int,zlz P h t (.map m)=some (.int .i64 n)∧k (.int .i64 n) h
   | [t],[x]=>match zlz P h t x with | some v=>k v h | none=>False
   | _,_=>False
 | .cap=>match ats.toList,args with | [t],[x]=>∃n:Int,zuN P t x=some (.int .i64 n)∧k (.int .i64 n) h | _,_=>False
 | _=>False
def zz2 (P:Program) (K:Xs) (f:Value) (args:List Value) (h:AH) (k:Value→AH→Prop):Prop:=
 match f with
 | .func (.func g) first cap=>Wf P K g (first.toList ++ args ++ cap.toList) h (zBV P g k)
 | .func (.yield l) first _=>Wy P K l (first.toList ++ args) h fun v h'=>∃b:Bool,v=.bool b∧k (.bool b) h'
 | _=>False
def zBW:Op→Bool
 | .alloc _ | .box _ _ | .buildSlice _ _ _ | .makeMap _ _ | .range _ _=>true
 | _=>false
def zil (P:Program) (o:Oper) (a:Env) (h:AH) (k:Value→AH→Prop):Prop:=
 match aOp P o a h with
 | some (v,h')=>match zBW o.op with | true=>∀h1,h1=h'→k v h1 | false=>k v h'
 | none=>False
def vUn (op:UnOp) (x:Value) (k:Value→Prop):Prop:=
 match x with
 | .int kd n=>∃c:Int,aUn op (.int kd n)=some (.int kd c)∧k (.int kd c)
 | x=>match aUn op x with | some v=>k v | none=>False
def zpC (P:Program) (K:Xs) (o:Oper) (a:Env) (h:AH) (k:Value→AH→Prop):Prop:=
 match o.op with
 | .load t x=>match ev a x with | .pointer p=>zai p fun b off=>exT P t fun v=>ldT P h t b off v∧k v h | _=>False
 | .store t x y=>match ev a x with | .pointer p=>zai p fun b off=>zsZ P h t b off (ev a y) fun h'=>k undef h' | _=>False
 | .binOp op t x y _=>zBU P op t (ev a x) (ev a y) fun v=>k v h
 | .pick c x y=>match ev a c with | .bool b=>cond b (k (ev a x) h) (k (ev a y) h) | _=>False
 | .unOp op _ x=>vUn op (ev a x) fun v=>k v h
 | .nilCheck x=>match ev a x with | .pointer p=>zai p fun b off=>k (ptr b off) h | _=>zil P o a h k
 | .build t parts=>cond (Nat.blt 12 (P.cellsOf t)) (∃vs:List Value,za1 P t (parts.map fun (i,x)=>(i,ev a x))=some (.agg vs.toArray)∧k (.agg vs.toArray) h) (zil P o a h k)
 | .buildSlice t n parts=>match P.underlying t with
   | some (.slice elem)=>cond (Nat.blt 12 (P.cellsOf elem)) (∃(p:Option Addr) (m c:Nat) (h' : AH),zay P h t n (parts.map fun (i,x)=>(i,ev a x))=some (.slice p m c,h')∧k (.slice p m c) h') (zil P o a h k)
   | _=>False
 | .alloc t=>cond (Nat.blt 200 (P.cellsOf t)) (∃z:List Value,zan P t=some z∧∀h1,h1=h.alloc (.cells z t false)→k (ptr h.next 0) h1) (zil P o a h k)
 | .fieldAddr s x f=>match ev a x with | .pointer p=>zai p (fun b off=>match zb2 P s (ptr b off) f with | some v=>k v h | none=>False) | _=>False
 | .indexAddr t x i=>zf9 P t (ev a x) (ev a i) fun v=>k v h
 | .slice t x lo hi mx=>zs1 P t (ev a x) (lo.map (ev a)) (hi.map (ev a)) (mx.map (ev a)) h k
 | .field t x f=>match P.underlying t with | some (.struct fs)=>(match ev a x with | .agg cs=>(match fs[f]? with | some fd=>cond (Nat.blt 12 (P.cellsOf t)) (zvJ P fd.type cs.toList fd.offset fun v=>k v h) (zs0 P fd.type cs.toList fd.offset fun v=>k v h) | none=>False) | _=>False) | _=>False
 | .index t x i=>zs2 P t (ev a x) (ev a i) fun v=>k v h
 | .lookup t m key ok=>zoq P t (ev a m) (ev a key) ok h fun v=>k v h
 | .mapUpdate t m key v=>∃h' : AH,zbs P h t (ev a m) (ev a key) (ev a v)=some h'∧k undef h'
 | .convert s d x=>zkK P s d (ev a x) h k
 | .makeSlice t l c=>zyj P t (ev a l) (ev a c) h k
 | .next it true=>zz1 (ev a it) h k
 | .call c=>
   match c.callee with
   | .value f=>zz2 P K (ev a f) (c.args.toList.map (ev a)) h k
   | .builtin b=>zkL P b c.argTypes (c.args.toList.map (ev a)) h k
   | _=>False
 | _=>zil P o a h k
def vOp (P:Program) (K:Xs) (o:Oper) (a:Env) (h:AH) (k:Value→AH→Prop):Prop:=match zkJ a o.op with | true=>zpC P K o a h k | false=>False
def vG (ops:Array Oper) (o:Oper) (a:Env) (A B:Prop):Prop:=
 match o.guard with
 | none=>A
 | some (j,w)=>match (ops[j]?).bind (·.dst) with | some d=>(match a.get d with | some (.bool b)=>cond (b == w) A B | some v=>(match isSkip v with | true=>B | false=>False) | none=>False) | none=>False
def zA9 (P:Program) (K:Xs) (ops:Array Oper):List Oper→Env→AH→(Env→AH→Prop)→Prop
 | [],a,h,k=>k a h
 | o :: os,a,h,k=>vG ops o a (vOp P K o a h fun v h'=>zA9 P K ops os (putO a o.dst v) h' k) (zA9 P K ops os (putO a o.dst zct) h k)
def vL (P:Program) (K:Xs) (ops:Array Oper):List Nat→Env→AH→(List (Env×AH)→Prop)→Prop
 | [],a,h,k=>k [(a,h)]
 | j :: js,a,h,k=>
   match ops[j]? with
   | some o=>vG ops o a (vOp P K o a h fun v h'=>vL P K ops js (putO a o.dst v) h' fun l=>k ((a,h) :: l)) (vL P K ops js (putO a o.dst zct) h fun l=>k ((a,h) :: l))
   | none=>False
def zvK:Value→Bool
 | .bool _ | .int _ _ | .string _ | .pointer _ | .slice _ _ _ | .map _ | .nilFunc | .nilIface=>true
 | _=>false
def zgQ:List Value→Prop→Prop
 | [],X=>X
 | v :: vs,X=>match zvK v with | true=>zgQ vs X | false=>False
def zyk (v:Value) (X:Prop):Prop:=match v with | .agg vs=>zgQ vs.toList X | .tuple vs=>zgQ vs.toList X | v=>match zvK v with | true=>X | false=>False
def zBX (P:Program) (o:Oper) (a:Env) (h:AH) (v:Value):Prop:=
 match zkJ a o.op with
 | true=>
   match o.op with
   | .load t x=>(match ev a x with | .pointer p=>zai p fun b off=>ldT P h t b off v | _=>False)
   | .slice t x lo hi mx=>zar P h t (ev a x) (lo.map (ev a)) (hi.map (ev a)) (mx.map (ev a))=some v
   | .lookup t m key ok=>zbZ P h t (ev a m) (ev a key) ok=some v
   | .convert s d x=>∃h',zaH P h s d (ev a x)=some (v,h')
   | .call c=>match c.callee with | .builtin b=>(∃h',zal P h b c.argTypes (c.args.toList.map (ev a))=some (v,h')) | _=>False
   | _=>False
 | false=>False
def rr (P:Program) (ops:Array Oper) (ord:List Nat) (l:List (Env×AH)) (p q:Nat) (X:Prop):Prop:=
 match (ord[p]?).bind (ops[·]?),l[p]?,l[p+1]?,l[q]? with
 | some o,some (a,_),some (a1,_),some (_,h)=>vG ops o a (match o.dst with | some d=>(match a1.get d with | some v=>zyk v (zBX P o a h v∧X) | none=>False) | none=>False) X
 | _,_,_,_=>False
def rrs (P:Program) (ops:Array Oper) (ord:List Nat) (l:List (Env×AH)) (X:Prop):List (Nat×Nat)→Prop
 | []=>X
 | (p,q) :: ps=>rr P ops ord l p q (rr P ops ord l p (q+1) (rrs P ops ord l X ps))
def zyl (P:Program) (K:Xs) (ops:Array Oper) (a:Env) (h:AH) (k:Env→AH→Prop):Prop:=
 match zuO P ops with
 | some (ord,ps)=>vL P K ops ord a h fun l=>rrs P ops ord l (match l.getLast? with | some (a',h')=>k a' h' | none=>False) ps
 | none=>False
abbrev zrb:=List (Tmp×Value)
def LT:zrb→Type
 | []=>Nat→AH→Prop
 | (_,.int _ _) :: r=>Int→LT r
 | (_,.bool _) :: r=>Bool→LT r
 | (_,.string _) :: r=>ByteArray→LT r
 | (_,.pointer _) :: r=>Option Addr→LT r
 | (_,.slice _ _ _) :: r=>Option Addr→Nat→Nat→LT r
 | (_,.map _) :: r=>Option Nat→LT r
 | (_,_) :: r=>Value→LT r
def zkM:(l:zrb)→LT l→Env→Nat→AH→Prop
 | [],I,_,n,h=>I n h
 | (t,.int kd _) :: r,I,a,n,h=>match a.get t with | some (.int kd' x)=>(match decide (kd=kd') with | true=>zkM r (I x) a n h | false=>False) | _=>False
 | (t,.bool _) :: r,I,a,n,h=>match a.get t with | some (.bool x)=>zkM r (I x) a n h | _=>False
 | (t,.string _) :: r,I,a,n,h=>match a.get t with | some (.string x)=>zkM r (I x) a n h | _=>False
 | (t,.pointer _) :: r,I,a,n,h=>match a.get t with | some (.pointer x)=>zkM r (I x) a n h | _=>False
 | (t,.slice _ _ _) :: r,I,a,n,h=>match a.get t with | some (.slice x y z)=>zkM r (I x y z) a n h | _=>False
 | (t,.map _) :: r,I,a,n,h=>match a.get t with | some (.map x)=>zkM r (I x) a n h | _=>False
 | (t,.func f x y) :: r,I,a,n,h=>match a.get t with | some v=>zkM r (I v) a n h | _=>False
 | (t,.nilFunc) :: r,I,a,n,h=>match a.get t with | some v=>zkM r (I v) a n h | _=>False
 | (t,.agg _) :: r,I,a,n,h=>match a.get t with | some v=>zkM r (I v) a n h | _=>False
 | (_,_) :: r,I,a,n,h=>False
def znw:(l:zrb)→LT l→Env→Nat→AH→(Env→Prop)→Prop
 | [],I,a,n,h,k=>I n h→k a
 | (t,.int kd _) :: r,I,a,n,h,k=>∀x:Int,znw r (I x) (a.set t (.int kd x)) n h k
 | (t,.bool true) :: r,I,a,n,h,k=>znw r (I true) (a.set t (.bool true)) n h k∧znw r (I false) (a.set t (.bool false)) n h k
 | (t,.bool false) :: r,I,a,n,h,k=>∀x:Bool,znw r (I x) (a.set t (.bool x)) n h k
 | (t,.string _) :: r,I,a,n,h,k=>∀x:ByteArray,znw r (I x) (a.set t (.string x)) n h k
 | (t,.pointer _) :: r,I,a,n,h,k=>∀x:Option Addr,znw r (I x) (a.set t (.pointer x)) n h k
 | (t,.slice _ _ _) :: r,I,a,n,h,k=>∀(x:Option Addr) (y z:Nat),znw r (I x y z) (a.set t (.slice x y z)) n h k
 | (t,.map _) :: r,I,a,n,h,k=>∀x:Option Nat,znw r (I x) (a.set t (.map x)) n h k
 | (t,.func f x y) :: r,I,a,n,h,k=>∀v:Value,znw r (I v) (a.set t v) n h k
 | (t,.nilFunc) :: r,I,a,n,h,k=>∀v:Value,znw r (I v) (a.set t v) n h k
 | (t,.agg _) :: r,I,a,n,h,k=>∀v:Value,znw r (I v) (a.set t v) n h k
 | (_,_) :: r,I,a,n,h,k=>True
def zmy:Code→List Tmp
 | .region _ ops _=>ops.toList.filterMap (·.dst)
 | .seq a b=>zmy a ++ zmy b
 | .cond _ a b=>zmy a ++ zmy b
 | .block _ c=>zmy c
 | .loop c=>zmy c
 | .scope c=>zmy c
 | _=>[]
def zpD (a:Env):List Tmp→Env
 | []=>a
 | t :: ts=>zpD (a.del t) ts
def zgZ:Code→Option Nat
 | .region id _ _=>some id
 | .seq a b=>match zgZ a with | some k=>some k | none=>zgZ b
 | .cond _ a b=>match zgZ a with | some k=>some k | none=>zgZ b
 | .block _ c=>zgZ c
 | .loop c=>zgZ c
 | .scope c=>zgZ c
 | .rangeFunc _ _ a b=>match zgZ a with | some k=>some k | none=>zgZ b
 | _=>none
def zs3:List (Nat×zrb)→Option Nat→Option zrb
 | (i,l) :: r,some k=>cond (Nat.beq i k) (some l) (zs3 r (some k))
 | _,_=>none
def zrH:zrb→Env→(List Value→Env→Prop)→Prop
 | [],a,k=>k [] a
 | (t,.int kd _) :: r,a,k=>∀x:Int,zrH r (a.set t (.int kd x)) fun vs a'=>k (.int kd x :: vs) a'
 | (t,.bool _) :: r,a,k=>∀x:Bool,zrH r (a.set t (.bool x)) fun vs a'=>k (.bool x :: vs) a'
 | (t,.string _) :: r,a,k=>∀x:ByteArray,zrH r (a.set t (.string x)) fun vs a'=>k (.string x :: vs) a'
 | (t,.pointer _) :: r,a,k=>∀x:Option Addr,zrH r (a.set t (.pointer x)) fun vs a'=>k (.pointer x :: vs) a'
 | (t,.slice _ _ _) :: r,a,k=>∀(x:Option Addr) (y z:Nat),zrH r (a.set t (.slice x y z)) fun vs a'=>k (.slice x y z :: vs) a'
 | (t,.map _) :: r,a,k=>∀x:Option Nat,zrH r (a.set t (.map x)) fun vs a'=>k (.map x :: vs) a'
 | (t,_) :: r,a,k=>∀v:Value,zrH r (a.set t v) fun vs a'=>k (v :: vs) a'
def za9 (l:Nat) (h h' : AH):Prop:=h'.next=h.next∧∀c,c≠l→h'.get c=h.get c
def zz3:AX→AX→Bool
 | .normal,.normal=>true
 | .exit i,.exit j=>Nat.beq i j
 | .ret,.ret=>true
 | _,_=>false
def zg0 (x:AX):List AX→Bool
 | []=>false
 | y :: ys=>zz3 x y || zg0 x ys
def zvL:List AX→List AX→List AX
 | [],l=>l
 | x :: xs,l=>cond (zg0 x l) (zvL xs l) (x :: zvL xs l)
def zeI:Code→List AX
 | .seq a b=>zvL (zeI a) (zeI b)
 | .cond _ a b=>zvL (zeI a) (zeI b)
 | .block id c=>(zeI c).filter fun x=>!zz3 x (.exit id)
 | .loop c=>zeI c
 | .scope c=>zeI c
 | .exit id=>[.exit id]
 | .ret=>[.ret]
 | .rangeFunc _ _ _ b=>zeI b
 | _=>[]
def zym (l:List AX) (k:AX→Prop) (rest:Prop):Prop:=match l with | []=>rest | x :: xs=>k x∧zym xs k rest
def zs4 (rd:Option Nat) (h:AH) (X:Prop):Prop:=match rd with | none=>X | some l=>(∃L,h.get l=some (.loop L))∧X
def vc (P:Program) (K:Xs) (hs:List (Nat×zrb)) (rd:Option Nat):Code→Env→AH→(AX→Env→AH→Prop)→Prop
 | .skip,a,h,Q=>Q .normal a h
 | .label _,a,h,Q=>Q .normal a h
 | .region _ ops draw,a,h,Q=>match draw with | false=>zA9 P K ops ops.toList a h fun a' h'=>Q .normal a' h' | true=>zyl P K ops a h fun a' h'=>Q .normal a' h'
 | .seq c d,a,h,Q=>vc P K hs rd c a h (onN (fun a' h'=>vc P K hs rd d a' h' Q) Q)
 | .cond c x y,a,h,Q=>match zmx a c with | true=>(match ev a c with | .bool t=>cond t (vc P K hs rd x a h Q) (vc P K hs rd y a h Q) | _=>False) | false=>False
 | .block id c,a,h,Q=>vc P K hs rd c a h (zfX id Q)
 | .loop c,a,h,Q=>
   match zs3 hs (zgZ c) with
   | some l=>∃I:LT l,(∃n,zkM l I a n h)∧∀n h',znw l I (zpD a (zmy c)) n h' fun a'=>vc P K hs rd c a' h' (onN (fun a2 h2=>∃j,j < n∧zkM l I a2 j h2) Q)
   | none=>False
 | .scope c,a,h,Q=>vc P K hs rd c a h Q
 | .exit id,a,h,Q=>Q (.exit id) a h
 | .ret,a,h,Q=>Q .ret a h
 | .rangeFunc f ps assign body,a,h,Q=>
   zs4 rd h (match zmx a f with
   | true=>
     match ev a f,zs3 hs (match zgZ assign with | some k=>some k | none=>zgZ body) with
     | .func (.func g) first cap,some pl=>
       ∃(J:Nat→AH→Prop) (D:AX→AH→Prop) (N:Nat) (item:Nat→List Value) (G B:AH→AH→Prop),
        (K g=none∧ps.toList=pl.map (·.1))∧
        (∀i,i < N→exL (pl.map (·.2)) fun vs=>item i=vs)∧
        (∀h1,h1.next=h.next+1→(∀c,c≠h.next→h1.get c=h.get c)→J 0 h1)∧
        (∀i h1 h2,J i h1→za9 h.next h1 h2→J i h2)∧
        (∀x h1 h2,D x h1→za9 h.next h1 h2→D x h2)∧
        (∀i h1 h2,J i h1→G h1 h2→J i h2)∧(∀x h1 h2,D x h1→G h1 h2→D x h2)∧(∀h1 h2,G h1 h2→h2.get h.next=h1.get h.next)∧
        (∀i h1,i < N→J i h1→(∃L,h1.get h.next=some (.loop L))→zrH pl a fun vs a'=>item i=vs→
          vc P K hs (some h.next) assign a' h1 fun x a2 h2=>x=.normal∧h2.get h.next=h1.get h.next∧
           ∀h3,za9 h.next h2 h3→(∃L,h3.get h.next=some (.loop L))→vc P K hs (some h.next) body a2 h3 fun x a4 h4=>h4.get h.next=h3.get h.next∧(match x with | .normal=>J (i+1) h4 | x=>D x h4)∧∀h5,za9 h.next h4 h5→B h1 h5)∧
        (∀(JJ:Nat→AH→Prop) (DD:AH→Prop),(∀i h1,JJ i h1→J i h1)→(∀i h1 h2,JJ i h1→G h1 h2→JJ i h2)→(∀h1 h2,DD h1→G h1 h2→DD h2)→
          (∀i h1,i < N→JJ i h1→Wy P K h.next (item i) h1 fun v h2=>((v=.bool true∧JJ (i+1) h2)∨(v=.bool false∧DD h2))∧B h1 h2)→
          ∀h1,JJ 0 h1→Wf P K g (first.toList ++ [Value.func (Fn.yield h.next) #[] #[]] ++ cap.toList) h1 fun _ h2=>JJ N h2∨DD h2)∧
        (∀h1,J N h1→Q .normal a (h1.del h.next))∧
        zym (zeI body) (fun x=>∀h1,D x h1→Q x a (h1.del h.next)) (∀x h1,x≠.normal→D x h1→zg0 x (zeI body)=true)
     | _,_=>False
   | false=>False)
 | _,_,_,_=>False
def zvM (P:Program) (a:Env) (h:AH) (r:ResultVar) (k:Value→Prop):Prop:=
 match r with
 | .tmp t=>match a.get t with | some v=>k v | none=>False
 | .cell x t=>match a.get x with | some (.pointer p)=>zai p fun b off=>exT P t fun v=>ldT P h t b off v∧k v | _=>False
def zBa (P:Program) (a:Env) (h:AH):List ResultVar→(List Value→Prop)→Prop
 | [],k=>k []
 | r :: rs,k=>zvM P a h r fun v=>zBa P a h rs fun vs=>k (v :: vs)
def one (vs:List Value):Value:=match vs with | [v]=>v | vs=>.tuple vs.toArray
def vcF (P:Program) (K:Xs) (hs:List (Nat×zrb)) (f:FuncId) (args:List Value) (h:AH) (Q:Value→AH→Prop):Prop:=
 match P.funcs[f]? with
 | some fn=>
   match fn.body with
   | some c=>vc P K hs none c (Tr.ofList args) h fun x a h'=>match x with | .exit _=>False | _=>zBa P a h' fn.results.toList fun vs=>Q (one vs) h'
   | none=>False
 | none=>False
section
variable {P:Program} {K:Xs}
theorem zeW {r:Ex} {ks:List Tmp} {ops:Array Oper}:∀{os:List Oper} {e e' : Env} {h h' : AH},zbh P K r ks ops os e h=some (e',h')→∀t,t∉os.filterMap (·.dst)→e'.get t=e.get t
 | [],e,e',h,h',hs,t,ht=>by
   simp only[zbh,Option.some.injEq,Prod.mk.injEq] at hs
   rw[hs.1]
 | o :: os,e,e',h,h',hs,t,ht=>by
   have hput:∀v,(putO e o.dst v).get t=e.get t:=by
    intro v
    cases hd:o.dst with
    | none=>rfl
    | some d=>
      simp only[zh6,Tr.get_set]
      rw[if_neg]
      rintro rfl
      exact ht (by simp[hd])
   have ht2:t∉os.filterMap (·.dst):=fun q=>ht (by
    cases hd:o.dst with
    | none=>rw[List.filterMap_cons_none hd]; exact q
    | some d=>rw[List.filterMap_cons_some hd]; exact List.mem_cons_of_mem _ q)
   unfold zbh at hs
   split at hs
   ·split at hs
    ·rw[zeW hs t ht2,hput]
    ·simp at hs
   ·rw[zeW hs t ht2,hput]
   ·simp at hs
theorem zim {r:Ex} {ops:Array Oper}:∀{os:List Nat} {e:Env} {h:AH} {l:List (Env×AH)},zc5 P K r ops os e h=some l→∀y,l.getLast?= some y→∀t,t∉ops.toList.filterMap (·.dst)→y.1.get t=e.get t
 | [],e,h,l,hs,y,hy,t,ht=>by
   simp only[zc5,Option.some.injEq] at hs
   subst hs
   simp only[List.getLast?_singleton,Option.some.injEq] at hy
   rw[←hy]
 | j :: js,e,h,l,hs,y,hy,t,ht=>by
   unfold zc5 at hs
   split at hs
   rotate_left
   ·simp at hs
   rename_i o ho
   have hmem:o∈ops.toList:=by
    rw[Array.mem_toList_iff]
    exact Array.mem_of_getElem? ho
   have hput:∀v,(putO e o.dst v).get t=e.get t:=by
    intro v
    cases hd:o.dst with
    | none=>rfl
    | some d=>
      simp only[zh6,Tr.get_set]
      rw[if_neg]
      rintro rfl
      exact ht (List.mem_filterMap.2 ⟨o,hmem,hd⟩)
   have last:∀{e1 h1 l1},zc5 P K r ops js e1 h1=some l1→((e,h) :: l1).getLast?= some y→l1.getLast?= some y:=by
    intro e1 h1 l1 hr hg
    cases l1 with
    | nil=>exact absurd rfl (znV hr)
    | cons a l1=>simpa[List.getLast?_cons] using hg
   split at hs
   ·split at hs
    ·split at hs
     ·rename_i l1 hl1
      simp only[Option.some.injEq] at hs
      subst hs
      rw[zim hl1 y (last hl1 hy) t ht,hput]
     ·simp at hs
    ·simp at hs
   ·split at hs
    ·rename_i l1 hl1
     simp only[Option.some.injEq] at hs
     subst hs
     rw[zim hl1 y (last hl1 hy) t ht,hput]
    ·simp at hs
   ·simp at hs
theorem zor {r:Ex} {ops:Array Oper} {e e' : Env} {h h' : AH} (hs:zcr P K r ops e h=some (e',h')) (t:Tmp) (ht:t∉ops.toList.filterMap (·.dst)):e'.get t=e.get t:=by
 unfold zcr at hs
 split at hs
 rotate_left
 ·simp at hs
 split at hs
 rotate_left
 ·simp at hs
 rename_i l hl
 split at hs
 ·exact zim hl (e',h') hs t ht
 ·simp at hs
def zs5 (r:Ex):Prop:=∀rd ks c e h x e' h',r rd ks c e h=some (x,e',h')→∀t,t∉zmy c→e'.get t=e.get t
theorem zos {r:Ex} (F:zs5 r):zs5 (zaz P K r):=by
 intro rd ks c e h x e' h' hs t ht
 cases c with
 | skip=>simp[zaz] at hs; rw[hs.2.1]
 | label _=>simp[zaz] at hs; rw[hs.2.1]
 | region id ops draw=>
   cases draw with
   | false=>
     simp only[zaz] at hs
     split at hs
     ·rename_i e1 h1 hr
      simp only[Option.some.injEq,Prod.mk.injEq] at hs
      rw[←hs.2.1]
      exact zeW hr t ht
     ·simp at hs
   | true=>
     simp only[zaz] at hs
     split at hs
     ·rename_i e1 h1 hr
      simp only[Option.some.injEq,Prod.mk.injEq] at hs
      rw[←hs.2.1]
      exact zor hr t ht
     ·simp at hs
 | seq a b=>
   simp only[zmy,List.mem_append,not_or] at ht
   simp only[zaz] at hs
   split at hs
   ·rename_i e1 h1 hr
    rw[F _ _ _ _ _ _ _ _ hs t ht.2,F _ _ _ _ _ _ _ _ hr t ht.1]
   ·exact F _ _ _ _ _ _ _ _ hs t ht.1
 | cond c a b=>
   simp only[zmy,List.mem_append,not_or] at ht
   simp only[zaz] at hs
   split at hs
   ·rename_i tt _
    cases tt
    ·exact F _ _ _ _ _ _ _ _ hs t ht.2
    ·exact F _ _ _ _ _ _ _ _ hs t ht.1
   ·simp at hs
 | block id c=>
   simp only[zmy] at ht
   simp only[zaz] at hs
   split at hs
   ·rename_i i e1 h1 hr
    have:=F _ _ _ _ _ _ _ _ hr t ht
    cases hb:Nat.beq i id <;> rw[hb] at hs <;> simp only[cond_true,cond_false,Option.some.injEq,Prod.mk.injEq] at hs <;> rw[←hs.2.1] <;> exact this
   ·exact F _ _ _ _ _ _ _ _ hs t ht
 | loop c=>
   simp only[zmy] at ht
   simp only[zaz] at hs
   split at hs
   ·rename_i e1 h1 hr
    rw[F _ _ _ _ _ _ _ _ hs t (by simpa only[zmy] using ht),F _ _ _ _ _ _ _ _ hr t ht]
   ·exact F _ _ _ _ _ _ _ _ hs t ht
 | scope c=>exact F _ _ _ _ _ _ _ _ hs t (by simpa only[zmy] using ht)
 | exit id=>simp[zaz] at hs; rw[hs.2.1]
 | ret=>simp[zaz] at hs; rw[hs.2.1]
 | rangeFunc f ps as b=>
   simp only[zaz] at hs
   split at hs
   ·simp at hs
   ·unfold zcq at hs
    split at hs
    rotate_left
    ·simp at hs
    split at hs
    rotate_left
    ·simp at hs
    split at hs
    ·simp at hs
    ·split at hs <;> first | (simp only[Option.some.injEq,Prod.mk.injEq] at hs; rw[←hs.2.1]) | (simp at hs)
 | goto _=>simp[zaz] at hs
 | refuse _=>simp[zaz] at hs
theorem zs6:∀n,zs5 (ex P K n)
 | 0=>fun rd ks c e h x e' h' hs=>by simp[ex] at hs
 | n+1=>zos (zs6 n)
theorem zyn {rd:Option Nat} {c:Code} {e:Env} {h:AH} {Q:AX→Env→AH→Prop} (w:Wc P K rd c e h Q):Wc P K rd c e h fun x e' h'=>Q x e' h'∧∀t,t∉zmy c→e'.get t=e.get t:=by
 obtain⟨n,x,e',h',h1,h2⟩:=w
 exact⟨n,x,e',h',h1,h2,zs6 n _ _ _ _ _ _ _ _ h1⟩
theorem zpE {z:Value} {k:Value→Prop} (w:exV z k):∃v,k v:=by
 unfold exV at w
 split at w <;> first | (obtain⟨x,y,z,w⟩:=w; exact⟨_,w⟩) | (obtain⟨x,y,w⟩:=w; exact⟨_,w⟩) | (obtain⟨x,w⟩:=w; exact⟨_,w⟩)
theorem zpF:∀{zs:List Value} {k:List Value→Prop},exL zs k→∃vs,k vs
 | [],k,w=>⟨_,w⟩
 | z :: zs,k,w=>by
   obtain⟨v,w⟩:=zpE w
   obtain⟨vs,w⟩:=zpF w
   exact⟨_,w⟩
theorem zkN {b:Bool} {A B:Prop} (w:cond b A B):A∨B:=by cases b; exact .inr w; exact .inl w
theorem zcU {t:TypeId} {k:Value→Prop} (w:exT P t k):∃v,k v:=by
 unfold exT at w
 split at w
 ·rcases zkN w with w | w
  ·obtain⟨vs,w⟩:=w; exact⟨_,w⟩
  ·split at w
   ·obtain⟨vs,w⟩:=zpF w; exact⟨_,w⟩
   ·exact w.elim
 ·split at w
  ·rcases w with w | w <;> exact⟨_,w⟩
  ·exact zpE w
  ·exact w
 ·exact w
theorem zmz:∀{ts:List TypeId} {k:List Value→Prop},zBS P ts k→∃vs,k vs
 | [],k,w=>⟨_,w⟩
 | t :: ts,k,w=>by
   obtain⟨v,w⟩:=zcU w
   obtain⟨vs,w⟩:=zmz w
   exact⟨_,w⟩
theorem zbp {p:Option Addr} {k:Nat→Nat→Prop} (w:zai p k):∃b off,p=some ⟨b,off,none⟩∧k b off:=by
 unfold zai at w
 split at w
 ·exact⟨_,_,rfl,w⟩
 ·exact w.elim
theorem zkO {h:AH} {t:TypeId} {b off:Nat} {v:Value} (w:ldT P h t b off v):zfQ P h t (.pointer (some ⟨b,off,none⟩))=some v:=by
 unfold ldT at w
 split at w
 ·rename_i ht
  split at w
  ·rename_i vs
   rw[zsn ht]
   unfold ldN at w
   unfold loadN
   split at w
   ·rename_i hb
    rw[hb]
    split at w
    ·rename_i hle
     simp only[Option.some.injEq] at w
     simp only[if_pos hle,w,Option.some.injEq]
    ·simp at w
   ·simp at w
  ·exact w.elim
 ·rename_i ht
  rw[zsm ht]
  exact w
 ·exact w.elim
theorem zmA {h:AH} {t:TypeId} {b off:Nat} {v:Value} {k:AH→Prop} (w:zsZ P h t b off v k):∃h',zcc P h t (.pointer (some ⟨b,off,none⟩)) v=some h'∧k h':=by
 unfold zsZ at w
 split at w
 ·exact w.elim
 rename_i hi
 split at w
 ·split at w
  ·rename_i vs
   obtain⟨hl,h',hs,hk⟩:=w
   refine⟨h',?_,hk⟩
   rw[zqQ hi,if_pos (by simpa using hl)]
   exact hs
  ·exact w.elim
 ·split at w
  ·rename_i hc
   rw[Bool.and_eq_true] at hc
   obtain⟨h',hs,hk⟩:=w
   exact⟨h',by rw[zdc (Nat.eq_of_beq_eq_true hc.2) hi hc.1]; exact hs,hk⟩
  ·exact w.elim
 ·exact w.elim
theorem zjV {t:TypeId} {cs:Array Value} {off:Nat} {k:Value→Prop} (w:zvJ P t cs.toList off k):∃v,zhC P t cs off=some v∧k v:=by
 unfold zvJ at w
 split at w
 ·rename_i ht
  obtain⟨v,hv,hk⟩:=zcU w
  refine⟨v,?_,hk⟩
  split at hv
  ·rename_i vs
   unfold zhC
   rw[ht]
   simp only[Option.some.injEq,Value.agg.injEq]
   apply Array.ext'
   rw[←hv,Array.toList_extract]
   rw[List.extract_eq_take_drop]
   congr 1
   omega
  ·exact hv.elim
 ·rename_i ht
  obtain⟨v,hv,hk⟩:=zcU w
  refine⟨v,?_,hk⟩
  unfold zhC
  rw[ht]
  simpa using hv
 ·exact w.elim
theorem zot {t:TypeId} {cs:Array Value} {off:Nat} {k:Value→Prop} (w:zs0 P t cs.toList off k):∃v,zhC P t cs off=some v∧k v:=by
 unfold zs0 at w
 split at w
 ·rename_i ht
  refine⟨_,?_,w⟩
  unfold zhC
  rw[ht]
  simp only[Option.some.injEq,Value.agg.injEq]
  apply Array.ext'
  rw[Array.toList_extract,List.extract_eq_take_drop]
  simp
 ·rename_i ht
  split at w
  ·rename_i v hv
   refine⟨v,?_,w⟩
   unfold zhC
   rw[ht]
   simpa using hv
  ·exact w.elim
 ·exact w.elim
end
section
variable {P:Program} {K:Xs}
theorem baT {a b:ByteArray} (q:a=b):(a == b)=true:=by
 subst q
 cases a with
 | mk a=>
   show (a == a)=true
   simp
theorem baF {a b:ByteArray} (q:¬a=b):(a == b)=false:=by
 cases h:a == b with
 | true=>exact absurd (zzh h) q
 | false=>rfl
theorem zvN {op:BinOp} {t:TypeId} {kd:IntKind} {i j:Int} {k:Value→Prop} (w:zBT P op t kd i j k):∃v,zcd op kd i j=some v∧k v:=by
 unfold zBT at w
 split at w
 ·exact⟨_,rfl,w _ rfl⟩
 ·exact⟨_,rfl,w _ rfl⟩
 ·exact⟨_,rfl,w _ rfl⟩
 ·exact⟨_,by simp only[zcd,if_neg w.1],w.2 _ rfl⟩
 ·exact⟨_,by simp only[zcd,if_neg w.1],w.2 _ rfl⟩
 ·by_cases q:i=j
  ·exact⟨_,by simp only[zcd]; rw[beq_iff_eq.2 q],w.1 q⟩
  ·exact⟨_,by simp only[zcd]; rw[beq_eq_false_iff_ne.2 q],w.2 q⟩
 ·by_cases q:i=j
  ·exact⟨_,by simp only[zcd,bne]; rw[beq_iff_eq.2 q]; rfl,w.1 q⟩
  ·exact⟨_,by simp only[zcd,bne]; rw[beq_eq_false_iff_ne.2 q]; rfl,w.2 q⟩
 ·by_cases q:i < j
  ·exact⟨_,by simp only[zcd]; rw[decide_eq_true q],w.1 q⟩
  ·exact⟨_,by simp only[zcd]; rw[decide_eq_false q],w.2 q⟩
 ·by_cases q:i≤j
  ·exact⟨_,by simp only[zcd]; rw[decide_eq_true q],w.1 q⟩
  ·exact⟨_,by simp only[zcd]; rw[decide_eq_false q],w.2 q⟩
 ·by_cases q:j < i
  ·exact⟨_,by simp only[zcd]; rw[decide_eq_true (show i > j from q)],w.1 q⟩
  ·exact⟨_,by simp only[zcd]; rw[decide_eq_false (show ¬i > j from q)],w.2 q⟩
 ·by_cases q:j≤i
  ·exact⟨_,by simp only[zcd]; rw[decide_eq_true (show i≥j from q)],w.1 q⟩
  ·exact⟨_,by simp only[zcd]; rw[decide_eq_false (show ¬i≥j from q)],w.2 q⟩
 ·obtain⟨c,hc,hk⟩:=w
  exact⟨_,hc,hk⟩
theorem zou {op:BinOp} {t:TypeId} {x y:Value} {α:Type} {p:Option α} {k:Value→Prop}
 (w:match op with | .eql=>zrG p (k (.bool true)) (k (.bool false)) | .neq=>zrG p (k (.bool false)) (k (.bool true)) | _=>False)
 (ha:∀op,(op=.eql∨op=.neq)→zbq P op t x y=match op with | .eql=>(aEq P t x y).map .bool | .neq=>(aEq P t x y).map fun b=>.bool (!b) | _=>none)
 (he:aEq P t x y=some p.isNone):∃v,zbq P op t x y=some v∧k v:=by
 split at w
 ·rw[ha _ (.inl rfl),he]
  cases p <;> exact⟨_,rfl,w⟩
 ·rw[ha _ (.inr rfl),he]
  cases p <;> exact⟨_,rfl,w⟩
 ·exact w.elim
theorem zvO {op:BinOp} {t:TypeId} {x y:Value} {k:Value→Prop} (w:zBU P op t x y k):∃v,zbq P op t x y=some v∧k v:=by
 unfold zBU at w
 split at w
 ·rename_i k1 i
  split at w
  ·rename_i k2 j
   split at w
   ·obtain⟨c,hc,hk⟩:=w; exact⟨_,hc,hk⟩
   ·obtain⟨c,hc,hk⟩:=w; exact⟨_,hc,hk⟩
   ·rename_i hn1 hn2
    split at w
    ·rename_i hd
     have hd:=of_decide_eq_true hd
     obtain⟨v,hv,hk⟩:=zvN w
     refine⟨v,?_,hk⟩
     have:zbq P op t (.int k1 i) (.int k2 j)=if k1=k2 then zcd op k1 i j else none:=by cases op <;> first | rfl | exact (hn1 rfl).elim | exact (hn2 rfl).elim
     rw[this,if_pos hd]
     exact hv
    ·exact w.elim
  ·exact w.elim
 ·rename_i a
  split at w
  ·rename_i b
   split at w
   ·by_cases q:a=b
    ·exact⟨_,by simp only[zbq,zxq]; rw[baT q],w.1 q⟩
    ·exact⟨_,by simp only[zbq,zxq]; rw[baF q],w.2 q⟩
   ·by_cases q:a=b
    ·exact⟨_,by simp only[zbq,zxq]; rw[baT q]; rfl,w.1 q⟩
    ·exact⟨_,by simp only[zbq,zxq]; rw[baF q]; rfl,w.2 q⟩
   ·exact⟨_,by simp only[zbq,zxq]; rw[if_pos w.1],w.2 _ rfl⟩
   ·exact w.elim
  ·exact w.elim
 ·rename_i a
  split at w
  ·rename_i b ht
   split at w
   ·cases q:a == b with
    | true=>rw[q] at w; exact⟨_,by simp only[zbq,aEq,ht,Option.map]; rw[q],w⟩
    | false=>rw[q] at w; exact⟨_,by simp only[zbq,aEq,ht,Option.map]; rw[q],w⟩
   ·cases q:a == b with
    | true=>rw[q] at w; exact⟨_,by simp only[zbq,aEq,ht,Option.map]; rw[q]; rfl,w⟩
    | false=>rw[q] at w; exact⟨_,by simp only[zbq,aEq,ht,Option.map]; rw[q]; rfl,w⟩
   ·exact w.elim
  ·exact w.elim
 ·rename_i xs
  split at w
  ·rename_i ys ht
   split at w
   ·obtain⟨la,lb,h1,h2,h3,h4⟩:=w
    cases q:zaC la lb with
    | true=>exact⟨_,by simp only[zbq,aEq,ht,h1,h2,Option.map,q],h3 q⟩
    | false=>exact⟨_,by simp only[zbq,aEq,ht,h1,h2,Option.map,q],h4 q⟩
   ·obtain⟨la,lb,h1,h2,h3,h4⟩:=w
    cases q:zaC la lb with
    | true=>exact⟨_,by simp only[zbq,aEq,ht,h1,h2,Option.map,q]; rfl,h3 q⟩
    | false=>exact⟨_,by simp only[zbq,aEq,ht,h1,h2,Option.map,q]; rfl,h4 q⟩
   ·exact w.elim
  ·exact w.elim
 ·rename_i p
  split at w
  ·rename_i u ht
   refine zou w (fun op ho=>by rcases ho with rfl | rfl <;> rfl) ?_
   cases p <;> simp only[aEq,ht] <;> rfl
  ·exact w.elim
 ·rename_i p n c
  split at w
  ·rename_i u m d ht
   refine zou w (fun op ho=>by rcases ho with rfl | rfl <;> rfl) ?_
   simp only[aEq,ht]
  ·exact w.elim
 ·rename_i p
  split at w
  ·rename_i u v ht
   refine zou w (fun op ho=>by rcases ho with rfl | rfl <;> rfl) ?_
   simp only[aEq,ht]
  ·exact w.elim
 ·exact w.elim
theorem zcv {o:Oper} {a:Env} {h h' : AH} {v:Value} {k:Value→AH→Prop} (hc:zjI o.op=false) (ha:aOp P o a h=some (v,h')) (hk:k v h'):Wo P K o a h k:=(zpi hc ha).2 hk
theorem zs7 {g:FuncId} {k:Value→AH→Prop} {v:Value} {h:AH} (w:zBV P g k v h):k v h:=by
 unfold zBV at w
 cases hf:P.funcs[g]? with
 | none=>rw[hf] at w; exact w.elim
 | some fn=>
   rw[hf] at w
   simp only at w
   cases ht:fn.resultTypes.toList with
   | nil=>rw[ht] at w; exact w
   | cons t ts=>
     rw[ht] at w
     cases ts with
     | nil=>
       obtain⟨x,hx,hk⟩:=zcU w
       rw[hx]; exact hk
     | cons t2 ts=>
       obtain⟨x,hx,hk⟩:=zmz w
       rw[hx]; exact hk
theorem zvP {d:Option Tmp} {f:Operand} {args:Array Operand} {ats:Array TypeId} {t:TypeId} {p:String} {af:Array Edge} {gd:Option (Nat×Bool)} {e:Env} {h:AH} {Q:Value→AH→Prop} {l:Nat} {first cap:Array Value} (hf:ev e f=.func (.yield l) first cap):
 Wo P K ⟨d,.call ⟨.value f,args,ats⟩,t,p,af,gd⟩ e h Q↔Wy P K l (first.toList ++ args.toList.map (ev e)) h Q:=by
 unfold Wo Wy
 simp only[zbS,zcC,hf]
theorem zdh {o:Oper} {a:Env} {h:AH} {k:Value→AH→Prop} (hc:zjI o.op=false) (w:zil P o a h k):Wo P K o a h k:=by
 unfold zil at w
 cases ha:aOp P o a h with
 | none=>rw[ha] at w; exact w.elim
 | some y=>
   obtain⟨v,h'⟩:=y
   rw[ha] at w
   refine zcv hc ha ?_
   simp only at w
   split at w
   ·exact w _ rfl
   ·exact w
theorem zov {s d:TypeId} {x:Value} {h:AH} {k:Value→AH→Prop} (w:zkK P s d x h k):∃v h',zaH P h s d x=some (v,h')∧k v h':=by
 unfold zkK at w
 split at w
 ·rename_i hs hd
  split at w
  ·exact⟨_,_,by simp only[zaH,hs,hd],w _ rfl⟩
  ·exact w.elim
 ·rename_i hs hd
  split at w
  ·exact⟨_,_,by simp only[zaH,hs,hd],w⟩
  ·exact w.elim
 ·obtain⟨a,h1,h2⟩:=w; exact⟨_,_,h1,h2⟩
 ·obtain⟨p,n,c,h',h1,h2⟩:=w; exact⟨_,_,h1,h2⟩
 ·exact w.elim
theorem zs8 {t:TypeId} {x:Value} {lo hi mx:Option Value} {h:AH} {k:Value→AH→Prop} (w:zs1 P t x lo hi mx h k):∃v,zar P h t x lo hi mx=some v∧k v h:=by
 unfold zs1 at w
 split at w
 ·obtain⟨a,h1,h2⟩:=w; exact⟨_,h1,h2⟩
 ·obtain⟨p,n,c,h1,h2⟩:=w; exact⟨_,h1,h2⟩
 ·exact w.elim
theorem zkP {t:TypeId} {x i:Value} {k:Value→Prop} (w:zf9 P t x i k):∃v,za4 P t x i=some v∧k v:=by
 unfold zf9 at w
 split at w
 ·rename_i kd j
  split at w
  ·rename_i n elem ht
   split at w
   ·obtain⟨b,off,rfl,w⟩:=zbp w
    split at w
    ·rename_i hi
     exact⟨_,by simp only[za4,ht]; rw[if_pos ⟨w.1,w.2.1,hi⟩],w.2.2⟩
    ·exact w.elim
   ·exact w.elim
  ·rename_i elem ht
   split at w
   ·obtain⟨b,off,rfl,w⟩:=zbp w
    split at w
    ·rename_i hi
     exact⟨_,by simp only[za4,ht]; rw[if_pos ⟨w.1,w.2.1,hi⟩],w.2.2⟩
    ·exact w.elim
   ·exact w.elim
  ·exact w.elim
 ·exact w.elim
theorem zs9 {t:TypeId} {x i:Value} {k:Value→Prop} (w:zs2 P t x i k):∃v,zhD P t x i=some v∧k v:=by
 unfold zs2 at w
 split at w
 ·rename_i kd j
  split at w
  ·rename_i n elem ht
   split at w
   ·split at w
    ·rename_i hi
     obtain⟨w1,w2,w3⟩:=w
     obtain⟨v,hv,hk⟩:=zjV w3
     exact⟨v,by simp only[zhD,ht]; rw[if_pos ⟨w1,w2,hi⟩]; exact hv,hk⟩
    ·exact w.elim
   ·exact w.elim
  ·rename_i ht
   split at w
   ·obtain⟨h0,c,hc,hk⟩:=w
    exact⟨_,by simp only[zhD,ht]; rw[if_pos h0,hc]; rfl,hk⟩
   ·exact w.elim
  ·exact w.elim
 ·exact w.elim
theorem zrc {t:TypeId} {m key:Value} {ok:Bool} {h:AH} {k:Value→Prop} (w:zoq P t m key ok h k):∃v,zbZ P h t m key ok=some v∧k v:=by
 unfold zoq at w
 split at w
 ·split at w
  ·obtain⟨v,b,h1,h2⟩:=zcU w; exact⟨_,h1,h2⟩
  ·obtain⟨v,h1,h2⟩:=zcU w; exact⟨_,h1,h2⟩
 ·exact w.elim
theorem zvQ {t:TypeId} {l c:Value} {h:AH} {k:Value→AH→Prop} (w:zyj P t l c h k):∃v h',zbg P h t l c=some (v,h')∧k v h':=by
 unfold zyj at w
 split at w
 ·rename_i ht
  split at w
  ·rename_i hi hz
   split at w
   ·rename_i hb
    obtain⟨⟨w1,w2,w3,w4⟩,w5⟩:=w
    exact⟨_,_,by simp only[zbg,ht,hi,hz]; rw[if_pos ⟨w1,w2,w3,w4,Nat.eq_of_beq_eq_true hb⟩],w5 _ rfl⟩
   ·exact w.elim
  ·exact w.elim
 ·exact w.elim
theorem zow {b:Builtin} {ats:Array TypeId} {args:List Value} {h:AH} {k:Value→AH→Prop} (w:zkL P b ats args h k):∃v h',zal P h b ats args=some (v,h')∧k v h':=by
 unfold zkL at w
 split at w
 ·obtain⟨p,n,c,h',h1,h2⟩:=w; exact⟨_,_,h1,h2⟩
 ·obtain⟨m,h',h1,h2⟩:=w; exact⟨_,_,h1,h2⟩
 ·obtain⟨h',h1,h2⟩:=w; exact⟨_,_,h1,h2⟩
 ·obtain⟨h',h1,h2⟩:=w; exact⟨_,_,h1,h2⟩
 ·split at w
  ·rename_i hm
   exact⟨_,_,by simp only[zal,hm]; rfl,w _ rfl⟩
  ·exact w.elim
 ·split at w
  ·rename_i hm
   exact⟨_,_,by simp only[zal,hm]; rfl,w _ rfl⟩
  ·exact w.elim
 ·split at w
  ·rename_i t m hats
   obtain⟨n,h1,h2⟩:=w
   exact⟨_,_,by unfold zal; simp only[*,Option.map],h2⟩
  ·rename_i t x hats _
   split at w
   ·rename_i v hv
    exact⟨_,_,by unfold zal; simp only[*,Option.map],w⟩
   ·exact w.elim
  ·exact w.elim
 ·split at w
  ·obtain⟨n,h1,h2⟩:=w
   exact⟨_,_,by unfold zal; simp only[*,Option.map],h2⟩
  ·exact w.elim
 ·exact w.elim
theorem zta {o:Oper} {a:Env} {h:AH} {k:Value→AH→Prop} (w:zpC P K o a h k):Wo P K o a h k:=by
 obtain⟨d,op,t0,p0,af,gd⟩:=o
 cases op with
 | load t x=>
   simp only[zpC] at w
   split at w
   ·rename_i p hx
    obtain⟨b,off,rfl,w2⟩:=zbp w
    obtain⟨v,hv,hk⟩:=zcU w2
    exact zcv rfl (by simp only[aOp,hx,zkO hv]; rfl) hk
   ·exact w.elim
 | store t x y=>
   simp only[zpC] at w
   split at w
   ·rename_i p hx
    obtain⟨b,off,rfl,w2⟩:=zbp w
    obtain⟨h',hs,hk⟩:=zmA w2
    exact zcv rfl (by simp only[aOp,hx,hs]; rfl) hk
   ·exact w.elim
 | binOp op t x y u=>
   obtain⟨v,hv,hk⟩:=zvO (k:=fun v=>k v h) w
   exact zcv rfl (by simp only[aOp,hv]; rfl) hk
 | alloc t=>
   simp only[zpC] at w
   cases hb:Nat.blt 200 (P.cellsOf t) with
   | true=>
     rw[hb] at w
     obtain⟨z,hz,hk⟩:=w
     exact zcv (v:=ptr h.next 0) (h':=h.alloc (.cells z t false)) rfl (by simp only[aOp,hz]; rfl) (hk _ rfl)
   | false=>
     rw[hb] at w
     exact zdh rfl w
 | fieldAddr s x f=>
   simp only[zpC] at w
   split at w
   ·rename_i p hx
    obtain⟨b,off,rfl,w2⟩:=zbp w
    split at w2
    ·rename_i v hv
     exact zcv rfl (by simp only[aOp,hx]; rw[show Value.pointer (some ⟨b,off,none⟩)=ptr b off from rfl,hv]; rfl) w2
    ·exact w2.elim
   ·exact w.elim
 | pick c x y=>
   simp only[zpC] at w
   split at w
   ·rename_i b hb
    cases b with
    | true=>exact zcv rfl (by simp only[aOp,hb]; rfl) w
    | false=>exact zcv rfl (by simp only[aOp,hb]; rfl) w
   ·exact w.elim
 | unOp op t x=>
   simp only[zpC,vUn] at w
   split at w
   ·rename_i kd n hx
    obtain⟨c,hc,hk⟩:=w
    exact zcv rfl (by simp only[aOp,hx,hc]; rfl) hk
   ·rename_i hx
    split at w
    ·rename_i v hv
     exact zcv rfl (by simp only[aOp,hv]; rfl) w
    ·exact w.elim
 | nilCheck x=>
   simp only[zpC] at w
   split at w
   ·rename_i p hx
    obtain⟨b,off,rfl,w2⟩:=zbp w
    exact zcv rfl (by simp only[aOp,hx]; rfl) w2
   ·exact zdh rfl w
 | build t parts=>
   simp only[zpC] at w
   rcases zkN w with w | w
   ·obtain⟨vs,hv,hk⟩:=w
    exact zcv rfl (by simp only[aOp,hv]; rfl) hk
   ·exact zdh rfl w
 | buildSlice t n parts=>
   simp only[zpC] at w
   split at w
   ·rcases zkN w with w | w
    ·obtain⟨p,m,c,h',hv,hk⟩:=w
     exact zcv rfl (by simp only[aOp,hv]) hk
    ·exact zdh rfl w
   ·exact w.elim
 | indexAddr t x i=>
   obtain⟨v,hv,hk⟩:=zkP (k:=fun v=>k v h) w
   exact zcv rfl (by simp only[aOp,hv]; rfl) hk
 | slice t x lo hi mx=>
   obtain⟨v,hv,hk⟩:=zs8 (k:=k) w
   exact zcv rfl (by simp only[aOp,hv]; rfl) hk
 | field t x f=>
   simp only[zpC] at w
   split at w
   ·rename_i fs ht
    split at w
    ·rename_i cs hx
     split at w
     ·rename_i fd hf
      have key:∃v,zhC P fd.type cs fd.offset=some v∧k v h:=by
       rcases zkN w with w | w
       ·exact zjV w
       ·exact zot w
      obtain⟨v,hv,hk⟩:=key
      exact zcv rfl (by simp only[aOp,zly,ht,hx,hf,hv]; rfl) hk
     ·exact w.elim
    ·exact w.elim
   ·exact w.elim
 | index t x i=>
   obtain⟨v,hv,hk⟩:=zs9 (k:=fun v=>k v h) w
   exact zcv rfl (by simp only[aOp,hv]; rfl) hk
 | lookup t m key ok=>
   obtain⟨v,hv,hk⟩:=zrc (k:=fun v=>k v h) w
   exact zcv rfl (by simp only[aOp,hv]; rfl) hk
 | mapUpdate t m key v=>
   obtain⟨h',hv,hk⟩:=w
   exact zcv rfl (by simp only[aOp,hv]; rfl) hk
 | convert s d x=>
   obtain⟨v,h',hv,hk⟩:=zov (k:=k) w
   exact zcv rfl (by simp only[aOp,hv]) hk
 | makeSlice t l c=>
   obtain⟨v,h',hv,hk⟩:=zvQ (k:=k) w
   exact zcv rfl (by simp only[aOp,hv]) hk
 | next it s=>
   cases s with
   | false=>exact zdh rfl w
   | true=>
     simp only[zpC,zz1] at w
     split at w
     ·rename_i p hx
      obtain⟨b,off,rfl,rfl,s,pos,hg,w1,w2⟩:=zbp w
      by_cases q:pos < s.size
      ·exact zcv rfl (by simp only[aOp,hx,hg,if_pos q]) (w1 q _ rfl)
      ·exact zcv rfl (by simp only[aOp,hx,hg,if_neg q]) (w2 q)
     ·exact w.elim
 | call c=>
   obtain⟨callee,args,ats⟩:=c
   cases callee with
   | value f=>
     simp only[zpC,zz2] at w
     split at w
     ·rename_i hf
      exact (zsh hf).2 (w.mono fun _ _ hq=>zs7 hq)
     ·rename_i hf
      refine (zvP hf).2 ?_
      obtain⟨n,v,h',h1,b,rfl,h3⟩:=w
      exact⟨n,_,h',h1,h3⟩
     ·exact w.elim
   | builtin b=>
     obtain⟨v,h',hv,hk⟩:=zow (k:=k) w
     exact zcv rfl (by simp only[aOp]; exact hv) hk
   | _=>exact w.elim
 | _=>exact zdh rfl w
theorem zkQ {a e:Env} (ha:agr a e) {x:Operand} (hk:zmx a x=true):ev a x=ev e x:=by
 cases x with
 | tmp t=>
   simp only[zmx] at hk
   split at hk
   ·rename_i v hv
    rw[zeC,zeC,hv,ha t v hv]
   ·cases hk
 | _=>rfl
theorem zmB {a e:Env} (ha:agr a e) {o:Op} (hk:zkJ a o=true):∀x∈o.operands,ev a x=ev e x:=by
 intro x hx
 unfold zkJ at hk
 rw[List.all_eq_true] at hk
 exact zkQ ha (hk x (by simpa using hx))
theorem zw3 {o:Oper} {a e:Env} {h:AH} {k:Value→AH→Prop} (ha:agr a e) (w:vOp P K o a h k):Wo P K o e h k:=by
 unfold vOp at w
 split at w
 ·rename_i hk
  obtain⟨n,v,h',h1,h2⟩:=zta w
  exact⟨n,v,h',by rw[←zdr h (zmB ha hk)]; exact h1,h2⟩
 ·exact w.elim
end
section
variable {P:Program} {K:Xs}
theorem Wo.mono {o:Oper} {e:Env} {h:AH} {Q Q' : Value→AH→Prop} (w:Wo P K o e h Q) (hq:∀v h',Q v h'→Q' v h'):Wo P K o e h Q':=by
 obtain⟨n,v,h',h1,h2⟩:=w
 exact⟨n,v,h',h1,hq _ _ h2⟩
theorem Wl.mono {ops:Array Oper} {os:List Nat} {e:Env} {h:AH} {Q Q' : List (Env×AH)→Prop} (w:Wl P K ops os e h Q) (hq:∀l,Q l→Q' l):Wl P K ops os e h Q':=by
 obtain⟨n,l,h1,h2⟩:=w
 exact⟨n,l,h1,hq _ h2⟩
theorem zox {ops:Array Oper} {o:Oper} {a e:Env} {A B:Prop} (ha:agr a e) (w:vG ops o a A B):(zap ops o e=some true∧A)∨(zap ops o e=some false∧B):=by
 unfold vG at w
 unfold zap
 cases hg:o.guard with
 | none=>rw[hg] at w; exact .inl ⟨rfl,w⟩
 | some jw=>
   obtain⟨j,q⟩:=jw
   rw[hg] at w
   simp only at w ⊢
   cases hd:(ops[j]?).bind (·.dst) with
   | none=>rw[hd] at w; exact w.elim
   | some d=>
     rw[hd] at w
     simp only at w ⊢
     cases hv:a.get d with
     | none=>rw[hv] at w; exact w.elim
     | some v=>
       rw[hv] at w
       cases v with
       | bool b=>
         rw[ha _ _ hv]
         simp only at w ⊢
         cases hb:b == q with
         | true=>rw[hb] at w; exact .inl ⟨rfl,w⟩
         | false=>rw[hb] at w; exact .inr ⟨rfl,w⟩
       | tuple vs=>
         rw[ha _ _ hv]
         simp only at w ⊢
         cases hsk:isSkip (.tuple vs) with
         | true=>rw[hsk] at w; exact .inr ⟨rfl,w⟩
         | false=>rw[hsk] at w; exact w.elim
       | _=>exact w.elim
theorem zin {a e:Env} (ha:agr a e) (d:Option Tmp) (v:Value):agr (putO a d v) (putO e d v):=by
 cases d with
 | none=>exact ha
 | some d=>
   intro t u ht
   simp only[zh6,Tr.get_set] at ht ⊢
   split at ht
   ·rename_i q; rw[if_pos q]; exact ht
   ·rename_i q; rw[if_neg q]; exact ha _ _ ht
theorem zyo {a e:Env} (ha:agr a e) (d:Tmp) (v:Value):agr (a.set d v) (e.set d v):=zin ha (some d) v
theorem zga {ops:Array Oper}:∀{os:List Oper} {a e:Env} {h:AH} {k:Env→AH→Prop},agr a e→zA9 P K ops os a h k→Ws P K ops os e h fun e' h'=>∃a',agr a' e'∧k a' h'
 | [],a,e,h,k,ha,w=>zwJ.2 ⟨a,ha,w⟩
 | o :: os,a,e,h,k,ha,w=>by
   rcases zox ha w with ⟨hw,w⟩ | ⟨hw,w⟩
   ·exact (zxB hw).2 ((zw3 ha w).mono fun v h' hq=>zga (zin ha _ _) hq)
   ·exact (zsg hw).2 (zga (zin ha _ _) w)
def RL:List (Env×AH)→List (Env×AH)→Prop
 | [],[]=>True
 | x :: xs,y :: ys=>(agr x.1 y.1∧x.2=y.2)∧RL xs ys
 | _,_=>False
theorem zmC:∀{la l:List (Env×AH)},RL la l→∀(i:Nat) (a:Env) (h:AH),la[i]?= some (a,h)→∃e:Env,l[i]?= some (e,h)∧agr a e
 | [],[],_,i,a,h,hi=>by simp at hi
 | x :: xs,y :: ys,⟨⟨h1,h2⟩,h3⟩,i,a,h,hi=>by
   cases i with
   | zero=>
     simp only[List.getElem?_cons_zero,Option.some.injEq] at hi ⊢
     subst hi
     exact⟨y.1,by simp only at h2; rw[h2],h1⟩
   | succ i=>
     simp only[List.getElem?_cons_succ] at hi ⊢
     exact zmC h3 i a h hi
 | [],_ :: _,w,_,_,_,_=>w.elim
 | _ :: _,[],w,_,_,_,_=>w.elim
theorem zw4:∀{la l:List (Env×AH)},RL la l→la.length=l.length
 | [],[],_=>rfl
 | x :: xs,y :: ys,⟨_,h3⟩=>by simp only[List.length_cons,zw4 h3]
 | [],_ :: _,w=>w.elim
 | _ :: _,[],w=>w.elim
theorem zyp {la l:List (Env×AH)} (r:RL la l) {a:Env} {h:AH} (hl:la.getLast?= some (a,h)):∃e,l.getLast?= some (e,h)∧agr a e:=by
 rw[List.getLast?_eq_getElem?] at hl ⊢
 rw[←zw4 r]
 exact zmC r _ _ _ hl
theorem zkR {ops:Array Oper}:∀{js:List Nat} {a e:Env} {h:AH} {k:List (Env×AH)→Prop},agr a e→vL P K ops js a h k→Wl P K ops js e h fun l=>∃la,RL la l∧k la
 | [],a,e,h,k,ha,w=>by
   rw[zwK]
   exact⟨[(a,h)],⟨⟨ha,rfl⟩,trivial⟩,w⟩
 | j :: js,a,e,h0,k,ha,w=>by
   rw[znU]
   unfold vL at w
   cases ho:ops[j]? with
   | none=>rw[ho] at w; exact w.elim
   | some o=>
     rw[ho] at w
     simp only at w
     rw[zvg,zxH]
     rcases zox ha w with ⟨hw,w⟩ | ⟨hw,w⟩
     ·rw[hw]
      refine (zw3 ha w).mono fun v h' hq=>?_
      rw[zzm]
      refine (zkR (zin ha _ _) hq).mono fun l hl=>?_
      rw[zzn]
      obtain⟨la,r,hk⟩:=hl
      exact⟨(a,h0) :: la,⟨⟨ha,rfl⟩,r⟩,hk⟩
     ·rw[hw]
      refine (zkR (zin ha _ _) w).mono fun l hl=>?_
      rw[zzn]
      obtain⟨la,r,hk⟩:=hl
      exact⟨(a,h0) :: la,⟨⟨ha,rfl⟩,r⟩,hk⟩
theorem zpG {v:Value} (hs:zvK v=true):eqS v v=true:=by
 cases v <;> first | (simp[zvK] at hs; done) | simp[eqS]
 all_goals first | exact baT rfl | rfl
theorem zeX:∀{vs:List Value} {X:Prop},zgQ vs X→eqL vs vs=true∧X
 | [],X,w=>⟨rfl,w⟩
 | v :: vs,X,w=>by
   unfold zgQ at w
   split at w
   ·rename_i hs
    obtain⟨h1,h2⟩:=zeX w
    exact⟨by simp only[eqL,zpG hs,h1,Bool.and_self],h2⟩
   ·exact w.elim
theorem zrd {v:Value} {X:Prop} (w:zyk v X):eqV v v=true∧X:=by
 cases v with
 | agg vs=>exact zeX w
 | tuple vs=>exact zeX w
 | _=>
   simp only[zyk] at w
   split at w
   ·rename_i hs
    exact⟨by simp only[eqV]; exact zpG hs,w⟩
   ·exact w.elim
theorem ztb {o:Oper} {a e:Env} {h:AH} {v:Value} (ha:agr a e) (w:zBX P o a h v):∃h',aOp P o e h=some (v,h'):=by
 unfold zBX at w
 split at w
 ·rename_i hk
  rw[←zhX h (zmB ha hk)]
  split at w
  ·rename_i t x ho
   split at w
   ·rename_i p hx
    obtain⟨b,off,rfl,w2⟩:=zbp w
    obtain⟨d,op,t0,p0,af,gd⟩:=o
    simp only at ho
    subst ho
    exact⟨h,by simp only[aOp,hx,zkO w2]; rfl⟩
   ·exact w.elim
  ·rename_i ho
   exact⟨h,by simp only[aOp,ho,w]; rfl⟩
  ·rename_i ho
   exact⟨h,by simp only[aOp,ho,w]; rfl⟩
  ·rename_i ho
   obtain⟨h',w⟩:=w
   exact⟨h',by simp only[aOp,ho,w]⟩
  ·rename_i c ho
   split at w
   ·rename_i b hb
    obtain⟨h',w⟩:=w
    obtain⟨callee,args,ats⟩:=c
    simp only at hb
    subst hb
    exact⟨h',by simp only[aOp,ho]; exact w⟩
   ·exact w.elim
  ·exact w.elim
 ·exact w.elim
theorem ztc {ops:Array Oper} {ord:List Nat} {la l:List (Env×AH)} (r:RL la l) {p q:Nat} {X:Prop} (w:rr P ops ord la p q X):zbf P ops ord l p q=true∧X:=by
 unfold rr at w
 split at w
 ·rename_i o a h0 a1 h1 a2 h ho hp hp1 hq
  obtain⟨e,he,ha⟩:=zmC r _ _ _ hp
  obtain⟨e1,he1,ha1⟩:=zmC r _ _ _ hp1
  obtain⟨e2,he2,_⟩:=zmC r _ _ _ hq
  unfold zbf
  rw[ho,he,he1,he2]
  simp only
  rcases zox ha w with ⟨hw,w⟩ | ⟨hw,w⟩
  ·rw[hw]
   simp only
   split at w
   ·rename_i d hd
    split at w
    ·rename_i v hv
     obtain⟨hs,hr,hX⟩:=zrd w
     obtain⟨h',hop⟩:=ztb ha hr
     rw[hd,hop]
     refine⟨?_,hX⟩
     simp only[zeC,ha1 _ _ hv,Option.getD_some]
     exact hs
    ·exact w.elim
   ·exact w.elim
  ·rw[hw]
   exact⟨rfl,w⟩
 ·exact w.elim
theorem zpH {ops:Array Oper} {ord:List Nat} {la l:List (Env×AH)} (r:RL la l) {X:Prop}:∀{ps:List (Nat×Nat)},rrs P ops ord la X ps→ps.all (fun p=>zbf P ops ord l p.1 p.2 && zbf P ops ord l p.1 (p.2+1))=true∧X
 | [],w=>⟨rfl,w⟩
 | (p,q) :: ps,w=>by
   obtain⟨h1,w⟩:=ztc r w
   obtain⟨h2,w⟩:=ztc r w
   obtain⟨h3,hX⟩:=zpH r w
   exact⟨by simp only[List.all_cons,h1,h2,h3,Bool.and_self],hX⟩
theorem zoy {ops:Array Oper} {a e:Env} {h:AH} {k:Env→AH→Prop} (ha:agr a e) (w:zyl P K ops a h k):Wd P K ops e h fun e' h'=>∃a',agr a' e'∧k a' h':=by
 unfold zyl at w
 split at w
 ·rename_i ord ps hp
  rw[zsk hp]
  refine (zkR ha w).mono fun l hl=>?_
  obtain⟨la,r,hk⟩:=hl
  obtain⟨h1,h2⟩:=zpH r hk
  refine⟨h1,?_⟩
  split at h2
  ·rename_i a' h' hl
   obtain⟨e',he',ha'⟩:=zyp r hl
   exact⟨(e',h'),he',a',ha',h2⟩
  ·exact h2.elim
 ·exact w.elim
theorem zdT:∀{l:zrb} {I:LT l} {a e:Env} {n:Nat} {h:AH},agr a e→zkM l I a n h→zkM l I e n h
 | [],I,a,e,n,h,ha,w=>w
 | (t,z) :: r,I,a,e,n,h,ha,w=>by
   cases z <;> simp only[zkM] at w ⊢ <;> first
    | exact w
    | (split at w
       ·rename_i hv
        rw[ha _ _ hv]
        first
         | exact zdT ha w
         | (try simp only at w ⊢
            split at w
            ·rename_i hd
             first | exact zdT ha w | (rw[hd]; exact zdT ha w)
            ·exact w.elim)
       ·exact w.elim)
theorem zaQ {a e:Env} (ha:agr a e) {t:Tmp} {v:Value} (hv:e.get t=some v):agr (a.set t v) e:=by
 intro u x hx
 rw[Tr.get_set] at hx
 split at hx
 ·rename_i q; subst q; rw[hv]; exact hx
 ·exact ha _ _ hx
theorem zcH:∀{l:zrb} {I:LT l} {a e:Env} {n:Nat} {h:AH} {k:Env→Prop},agr a e→znw l I a n h k→zkM l I e n h→∃a',agr a' e∧k a'
 | [],I,a,e,n,h,k,ha,w,hi=>⟨a,ha,w hi⟩
 | (t,z) :: r,I,a,e,n,h,k,ha,w,hi=>by
   cases z with
   | bool x=>
     cases x with
     | true=>
       simp only[zkM] at hi
       simp only[znw] at w
       split at hi
       ·rename_i y hv
        cases y with
        | true=>exact zcH (zaQ ha hv) w.1 hi
        | false=>exact zcH (zaQ ha hv) w.2 hi
       ·exact hi.elim
     | false=>
       simp only[zkM] at hi
       simp only[znw] at w
       split at hi
       ·rename_i y hv
        exact zcH (zaQ ha hv) (w y) hi
       ·exact hi.elim
   | _=>
   simp only[zkM] at hi <;> simp only[znw] at w <;> first
    | exact hi.elim
    | (split at hi
       ·rename_i hv
        first
         | exact zcH (zaQ ha hv) (w _) hi
         | exact zcH (zaQ ha hv) (w _ _ _) hi
         | (try simp only at hi
            split at hi
            ·rename_i hd
             have hd:=of_decide_eq_true hd
             subst hd
             exact zcH (zaQ ha hv) (w _) hi
            ·exact hi.elim)
       ·exact hi.elim)
theorem zgb:∀{ts:List Tmp} {a:Env} {t:Tmp} {v:Value},(zpD a ts).get t=some v→t∉ts∧a.get t=some v
 | [],a,t,v,h=>⟨by simp,h⟩
 | u :: ts,a,t,v,h=>by
   obtain⟨h1,h2⟩:=zgb (ts:=ts) h
   rw[Tr.get_del] at h2
   split at h2
   ·cases h2
   ·rename_i q
    exact⟨by simp only[List.mem_cons,not_or]; exact⟨q,h1⟩,h2⟩
def zw5 (z v:Value):Prop:=∀k:Value→Prop,(match z with
 | .int kd _=>∀x:Int,k (.int kd x)
 | .bool _=>∀x:Bool,k (.bool x)
 | .string _=>∀x:ByteArray,k (.string x)
 | .pointer _=>∀p:Option Addr,k (.pointer p)
 | .slice _ _ _=>∀(p:Option Addr) (n c:Nat),k (.slice p n c)
 | .map _=>∀m:Option Nat,k (.map m)
 | .nilFunc=>∀v:Value,k v
 | _=>∀v:Value,k v)→k v
def zkS:List Value→List Value→Prop
 | [],[]=>True
 | z :: zs,v :: vs=>zw5 z v∧zkS zs vs
 | _,_=>False
theorem zvR {z:Value} {k:Value→Prop} (w:exV z k):∃v,zw5 z v∧k v:=by
 unfold exV at w
 split at w
 ·obtain⟨x,w⟩:=w; exact⟨_,fun k q=>q x,w⟩
 ·obtain⟨x,w⟩:=w; exact⟨_,fun k q=>q x,w⟩
 ·obtain⟨x,w⟩:=w; exact⟨_,fun k q=>q x,w⟩
 ·obtain⟨x,w⟩:=w; exact⟨_,fun k q=>q x,w⟩
 ·obtain⟨x,y,z,w⟩:=w; exact⟨_,fun k q=>q x y z,w⟩
 ·obtain⟨x,w⟩:=w; exact⟨_,fun k q=>q x,w⟩
 ·obtain⟨x,y,w⟩:=w; exact⟨_,fun k q=>q _,w⟩
 ·rename_i h1 h2 h3 h4 h5 h6 h7
  obtain⟨x,w⟩:=w
  refine⟨x,fun k q=>?_,w⟩
  cases z
  case bool b=>exact (h2 _ rfl).elim
  case int kd n=>exact (h1 _ _ rfl).elim
  case string b=>exact (h3 _ rfl).elim
  case pointer b=>exact (h4 _ rfl).elim
  case slice a b c=>exact (h5 _ _ _ rfl).elim
  case map b=>exact (h6 _ rfl).elim
  case nilFunc=>exact (h7 rfl).elim
  all_goals exact q x
theorem zpI:∀{zs:List Value} {k:List Value→Prop},exL zs k→∃vs,zkS zs vs∧k vs
 | [],k,w=>⟨[],trivial,w⟩
 | z :: zs,k,w=>by
   obtain⟨v,h1,w⟩:=zvR w
   obtain⟨vs,h2,w⟩:=zpI w
   exact⟨v :: vs,⟨h1,h2⟩,w⟩
theorem zmD:∀{pl:zrb} {a e:Env} {k:List Value→Env→Prop} {vs:List Value},agr a e→zrH pl a k→zkS (pl.map (·.2)) vs→∃a',agr a' (putAll e (pl.map (·.1)) vs)∧k vs a'
 | [],a,e,k,vs,ha,w,hk=>by
   cases vs with
   | nil=>exact⟨a,ha,w⟩
   | cons _ _=>exact hk.elim
 | (t,z) :: r,a,e,k,vs,ha,w,hk=>by
   cases vs with
   | nil=>exact hk.elim
   | cons v vs=>
     obtain⟨h1,h2⟩:=hk
     have key:zrH r (a.set t v) fun ws a'=>k (v :: ws) a':=by
      refine h1 (fun v=>zrH r (a.set t v) fun ws a'=>k (v :: ws) a') ?_
      cases z <;> simp only[zrH] at w ⊢ <;> exact w
     exact zmD (pl:=r) (zyo ha t v) key h2
theorem zmE:∀{zs vs:List Value},zkS zs vs→zs.length=vs.length
 | [],[],_=>rfl
 | _ :: _,_ :: _,w=>by simp only[List.length_cons,zmE w.2]
 | [],_ :: _,w=>w.elim
 | _ :: _,[],w=>w.elim
end
section
variable {P:Program} {K:Xs} {hs:List (Nat×zrb)}
theorem zaj (l:Nat) (h:AH) (o:zb7):za9 l h (h.set l o):=⟨rfl,fun c hc=>by rw[AH.get_set,if_neg hc]⟩
theorem zag (l:Nat) (h:AH) (o:zb7):(h.set l o).get l=some o:=by rw[AH.get_set,if_pos rfl]
def zDi (l:Nat) (L0:znA) (h4:AH):AX→Option (Value×AH)
 | .normal=>some (.bool true,h4.set l (.loop L0))
 | .exit id=>some (.bool false,h4.set l (.loop { L0 with state:=.done,pending:=some (.exit id) }))
 | .ret=>some (.bool false,h4.set l (.loop { L0 with state:=.done,pending:=some .ret }))
theorem zmF {rd:Option Nat} {h:AH} {X:Prop} (w:zs4 rd h X):zdn rd h=true∧X:=by
 cases rd with
 | none=>exact⟨rfl,w⟩
 | some l=>
   obtain⟨⟨L,hL⟩,w⟩:=w
   exact⟨by simp only[zdn,hL],w⟩
theorem zyq {x y:AX} (h:zz3 x y=true):x=y:=by
 cases x <;> cases y <;> first | rfl | (simp[zz3] at h; done) | skip
 rename_i i j
 simp only[zz3] at h
 rw[Nat.eq_of_beq_eq_true h]
theorem zjW:∀{l:List AX} {k:AX→Prop} {rest:Prop},zym l k rest→(∀x,zg0 x l=true→k x)∧rest
 | [],k,rest,w=>⟨fun x hx=>by simp[zg0] at hx,w⟩
 | y :: ys,k,rest,w=>by
   obtain⟨h1,w⟩:=w
   obtain⟨h2,h3⟩:=zjW w
   refine⟨fun x hx=>?_,h3⟩
   simp only[zg0,Bool.or_eq_true] at hx
   rcases hx with hx | hx
   ·rw[zyq hx]; exact h1
   ·exact h2 x hx
theorem zmG {f:Operand} {ps:Array Tmp} {assign body:Code}
 (ihA:∀{rd:Option Nat} {a e:Env} {h:AH} {Q:AX→Env→AH→Prop},agr a e→vc P K hs rd assign a h Q→Wc P K rd assign e h fun x e' h'=>∃a',agr a' e'∧Q x a' h')
 (ihB:∀{rd:Option Nat} {a e:Env} {h:AH} {Q:AX→Env→AH→Prop},agr a e→vc P K hs rd body a h Q→Wc P K rd body e h fun x e' h'=>∃a',agr a' e'∧Q x a' h')
 {rd:Option Nat} {a e:Env} {h:AH} {Q:AX→Env→AH→Prop} (ha:agr a e) (w:vc P K hs rd (.rangeFunc f ps assign body) a h Q):
 Wc P K rd (.rangeFunc f ps assign body) e h fun x e' h'=>∃a',agr a' e'∧Q x a' h':=by
 unfold vc at w
 obtain⟨har,w⟩:=zmF w
 split at w
 rotate_left
 ·exact w.elim
 rename_i hkn
 split at w
 rotate_left
 ·exact w.elim
 rename_i g first cap pl hf hpl
 obtain⟨J,D,N,item,G,B,⟨hK,hps⟩,hkind,hJ0,hJn,hDn,hJG,hDG,hG,hround,hiter,hend,hexit0⟩:=w
 obtain⟨hexit1,hexit2⟩:=zjW hexit0
 have hexit:∀x h1,x≠.normal→D x h1→Q x a (h1.del h.next):=fun x h1 hx hd=>hexit1 x (hexit2 x h1 hx hd) h1 hd
 have hfe:ev e f=.func (.func g) first cap:=by rw[←zkQ ha hkn,hf]
 obtain⟨L0,hL0⟩:∃L0:znA,L0={ state:=.ready,pending:=none,env:=e,params:=ps.toList,assign:=assign,body:=body,ks:=[] }:=⟨_,rfl⟩
 obtain⟨n,v,h2,hc,hq⟩:=hiter (fun i h1=>J i h1∧h1.get h.next=some (.loop L0))
  (fun h1=>∃x p,x≠.normal∧D x h1∧h1.get h.next=some (.loop { L0 with state:=.done,pending:=some p })∧((∃id,x=.exit id∧p=.exit id)∨(x=.ret∧p=.ret)))
  (fun i h1 q=>q.1)
  (fun i h1 h2 q g=>⟨hJG _ _ _ q.1 g,(hG _ _ g).trans q.2⟩)
  (fun h1 h2 q g=>q.imp fun x q=>q.imp fun p q=>⟨q.1,hDG _ _ _ q.2.1 g,(hG _ _ g).trans q.2.2.1,q.2.2.2⟩)
  (by
    intro i h1 hi ⟨hJ,hl⟩
    obtain⟨vs,hks,hvs⟩:=zpI (hkind i hi)
    obtain⟨a',ha',hr⟩:=zmD (vs:=vs) ha (hround i h1 hi hJ ⟨L0,hl⟩) hks
    have hr:=hr hvs
    obtain⟨n1,x1,e2,h2,r1,a2,ha2,rfl,hl2,hbody⟩:=ihA ha' hr
    have hl2' : h2.get h.next=some (.loop L0):=by rw[hl2,hl]
    obtain⟨n2,x2,e4,h4,r2,a4,ha4,hl4,hres,hB⟩:=ihB ha2 (hbody (h2.set h.next (.loop { L0 with state:=.busy })) (zaj _ _ _) ⟨_,zag _ _ _⟩)
    rw[zag] at hl4
    have r1':=zjb (Nat.le_max_left n1 n2) _ _ _ _ _ _ r1
    have r2':=zjb (Nat.le_max_right n1 n2) _ _ _ _ _ _ r2
    have e1:L0.params=pl.map (·.1):=by rw[hL0]; exact hps
    have e2' : L0.env=e:=by rw[hL0]
    have e3:L0.assign=assign:=by rw[hL0]
    have e4' : L0.body=body:=by rw[hL0]
    have e5:L0.state=.ready:=by rw[hL0]
    have e6:L0.pending=none:=by rw[hL0]
    have hlen:(item i).length=L0.params.length:=by
     rw[hvs,e1]
     have:=zmE hks
     simpa using this.symm
    have q1:ex P K (max n1 n2) (some h.next) [] L0.assign (putAll L0.env L0.params (item i)) h1=some (.normal,e2,h2):=by rw[e1,e2',e3,hvs]; exact r1'
    have q2:ex P K (max n1 n2) (some h.next) [] L0.body e2 (h2.set h.next (.loop { L0 with state:=.busy }))=some (x2,e4,h4):=by rw[←e4'] at r2'; exact r2'
    have hy:zc4 (ex P K (max n1 n2)) h.next (item i) h1=zDi h.next L0 h4 x2:=by
     unfold zc4
     simp only[hl]
     rw[if_pos hlen,q1]
     simp only[hl2']
     rw[if_pos e5,q2]
     simp only[hl4]
     cases x2 with
     | normal=>
       have:({ L0 with state:=.ready,pending:=none }:znA)=L0:=by rw[←e5,←e6]
       simp only[this,zDi]
     | _=>rfl
    cases x2 with
    | normal=>exact⟨_,_,_,hy,.inl ⟨rfl,hJn _ _ _ hres (zaj _ _ _),zag _ _ _⟩,hB _ (zaj _ _ _)⟩
    | exit id=>exact⟨_,_,_,hy,.inr ⟨rfl,.exit id,.exit id,by simp,hDn _ _ _ hres (zaj _ _ _),zag _ _ _,.inl ⟨id,rfl,rfl⟩⟩,hB _ (zaj _ _ _)⟩
    | ret=>exact⟨_,_,_,hy,.inr ⟨rfl,.ret,.ret,by simp,hDn _ _ _ hres (zaj _ _ _),zag _ _ _,.inr ⟨rfl,rfl⟩⟩,hB _ (zaj _ _ _)⟩)
  (h.alloc (.loop L0)) ⟨hJ0 _ rfl fun c hc=>by rw[AH.get_alloc,if_neg hc],by rw[AH.get_alloc,if_pos rfl]⟩
 have hcall:zbr P K (ex P K n) (ev e f) h.next (h.alloc (.loop L0))=some (v,h2):=by
  unfold zbr
  rw[hfe]
  simp only
  rw[←hc]
  unfold zfa zce
  rw[hK]
 rw[zb0]
 have hst:zaz P K (ex P K n) rd [] (.rangeFunc f ps assign body) e h=zcq P K (ex P K n) [] f ps.toList assign body e h:=by
  simp only[zaz,har]
 have e5:L0.state=.ready:=by rw[hL0]
 have e6:L0.pending=none:=by rw[hL0]
 rcases hq with ⟨hJ,hl⟩ | ⟨x,p,hx,hD,hl,hxp⟩
 ·refine⟨n,.normal,e,h2.del h.next,?_,a,ha,hend _ hJ⟩
  rw[hst]
  unfold zcq
  rw[←hL0,hcall]
  simp only[hl,e5,e6]
 ·refine⟨n,x,e,h2.del h.next,?_,a,ha,hexit _ _ hx hD⟩
  rw[hst]
  unfold zcq
  rw[←hL0,hcall]
  rcases hxp with ⟨id,rfl,rfl⟩ | ⟨rfl,rfl⟩ <;> simp only[hl]
theorem zfx:∀{c:Code} {rd:Option Nat} {a e:Env} {h:AH} {Q:AX→Env→AH→Prop},agr a e→vc P K hs rd c a h Q→Wc P K rd c e h fun x e' h'=>∃a',agr a' e'∧Q x a' h':=by
 intro c
 induction c with
 | skip=>intro rd a e h Q ha w; exact zsb.2 ⟨a,ha,w⟩
 | label l=>intro rd a e h Q ha w; exact zpg.2 ⟨a,ha,w⟩
 | region id ops draw=>
   intro rd a e h Q ha w
   cases draw with
   | false=>exact zl1.2 (zga ha w)
   | true=>exact zsf.2 (zoy ha w)
 | seq c d ihc ihd=>
   intro rd a e h Q ha w
   refine zjH.2 ((ihc ha w).mono fun x e' h' hq=>?_)
   obtain⟨a',ha',hq⟩:=hq
   cases x with
   | normal=>exact ihd ha' hq
   | exit i=>exact⟨a',ha',hq⟩
   | ret=>exact⟨a',ha',hq⟩
 | cond o x y ihx ihy=>
   intro rd a e h Q ha w
   unfold vc at w
   split at w
   rotate_left
   ·exact w.elim
   rename_i hk
   split at w
   rotate_left
   ·exact w.elim
   rename_i t ht
   rw[zkQ ha hk] at ht
   refine (zsd ht).2 ?_
   cases t with
   | true=>exact ihx ha w
   | false=>exact ihy ha w
 | block id c ih=>
   intro rd a e h Q ha w
   refine zhn.2 ((ih ha w).mono fun x e' h' hq=>?_)
   obtain⟨a',ha',hq⟩:=hq
   cases x with
   | normal=>exact⟨a',ha',hq⟩
   | ret=>exact⟨a',ha',hq⟩
   | exit i=>
     simp only[zfX] at hq ⊢
     cases hb:Nat.beq i id with
     | true=>rw[hb] at hq; exact⟨a',ha',hq⟩
     | false=>rw[hb] at hq; exact⟨a',ha',hq⟩
 | loop c ih=>
   intro rd a e h Q ha w
   unfold vc at w
   split at w
   rotate_left
   ·exact w.elim
   rename_i l hl
   obtain⟨I,⟨n,hn⟩,hb⟩:=w
   refine zch (fun n e1 h1=>agr (zpD a (zmy c)) e1∧zkM l I e1 n h1) ?_ n e h ⟨fun t v ht=>ha _ _ (zgb ht).2,zdT ha hn⟩
   rintro k e1 h1 ⟨ha1,hi⟩
   obtain⟨a',ha',hv⟩:=zcH ha1 (hb k h1) hi
   refine (zyn (ih ha' hv)).mono fun x e2 h2 hq=>?_
   obtain⟨⟨a2,ha2,hq⟩,hm⟩:=hq
   cases x with
   | normal=>
     obtain⟨j,hj,hq⟩:=hq
     exact⟨j,hj,fun t v ht=>by rw[hm t (zgb ht).1]; exact ha1 t v ht,zdT ha2 hq⟩
   | exit i=>exact⟨a2,ha2,hq⟩
   | ret=>exact⟨a2,ha2,hq⟩
 | scope c ih=>intro rd a e h Q ha w; exact zph.2 (ih ha w)
 | exit i=>intro rd a e h Q ha w; exact zsc.2 ⟨a,ha,w⟩
 | ret=>intro rd a e h Q ha w; exact Wc_ret.2 ⟨a,ha,w⟩
 | rangeFunc f ps assign body ihA ihB=>intro rd a e h Q ha w; exact zmG ihA ihB ha w
 | goto l=>intro rd a e h Q ha w; exact w.elim
 | refuse s=>intro rd a e h Q ha w; exact w.elim
theorem zre {a e:Env} {h:AH} {r:ResultVar} {k:Value→Prop} (ha:agr a e) (w:zvM P a h r k):∃v,zbt P e h r=some v∧k v:=by
 cases r with
 | tmp t=>
   simp only[zvM] at w
   split at w
   ·rename_i v hv
    exact⟨v,by simp only[zbt,zeC,ha _ _ hv,Option.getD_some],w⟩
   ·exact w.elim
 | cell x t=>
   simp only[zvM] at w
   split at w
   ·rename_i p hp
    obtain⟨b,off,rfl,w2⟩:=zbp w
    obtain⟨v,hv,hk⟩:=zcU w2
    exact⟨v,by simp only[zbt,zeC,ha _ _ hp,Option.getD_some]; exact zkO hv,hk⟩
   ·exact w.elim
theorem zmH {a e:Env} {h:AH} (ha:agr a e):∀{rs:List ResultVar} {k:List Value→Prop},zBa P a h rs k→∃vs,rs.mapM (zbt P e h)=some vs∧k vs
 | [],k,w=>⟨[],rfl,w⟩
 | r :: rs,k,w=>by
   obtain⟨v,hv,w⟩:=zre ha w
   obtain⟨vs,hvs,hk⟩:=zmH ha w
   exact⟨v :: vs,by simp[List.mapM_cons,hv,hvs],hk⟩
theorem zaf {f:FuncId} {args:List Value} {h:AH} {Q:Value→AH→Prop} (hk:K f=none) (w:vcF P K hs f args h Q):Wf P K f args h Q:=by
 unfold vcF at w
 split at w
 rotate_left
 ·exact w.elim
 rename_i fn hf
 split at w
 rotate_left
 ·exact w.elim
 rename_i c hc
 refine (zcR hk hf hc).2 ((zfx (fun _ _ q=>q) w).mono fun x e' h' hq=>?_)
 obtain⟨a',ha',hq⟩:=hq
 have key:∀(q:zBa P a' h' fn.results.toList fun vs=>Q (one vs) h'),∃v,zbn P e' h' fn.results.toList=some v∧Q v h':=by
  intro q
  obtain⟨vs,hvs,hq⟩:=zmH ha' q
  refine⟨one vs,?_,hq⟩
  unfold zbn
  rw[hvs]
  cases vs with
  | nil=>rfl
  | cons v t=>cases t <;> rfl
 cases x with
 | normal=>exact⟨.inl rfl,key hq⟩
 | ret=>exact⟨.inr rfl,key hq⟩
 | exit i=>exact hq.elim
end
def zkT (r:Nat):Code→Option Code
 | .seq (.region id ops d) b=>cond (Nat.beq id r) (some (.seq (.region id ops d) b)) (zkT r b)
 | .seq a b=>match zkT r a with | some c=>some c | none=>zkT r b
 | .cond _ a b=>match zkT r a with | some c=>some c | none=>zkT r b
 | .block _ c=>zkT r c
 | .loop c=>zkT r c
 | .scope c=>zkT r c
 | _=>none
def ztd (P:Program) (f r:Nat):Option Code:=match P.funcs[f]? with | some fn=>(match fn.body with | some c=>zkT r c | none=>none) | none=>none
theorem zvS {P:Program} {K:Xs} {hs:List (Nat×zrb)} {f r:Nat} {c:Code} (hc:ztd P f r=some c) {a e:Env} (ha:agr a e) {h:AH} {Q:AX→AH→Prop} (w:vc P K hs none ((ztd P f r).getD .skip) a h fun x _ h'=>Q x h'):Wc P K none c e h fun x _ h'=>Q x h':=by
 rw[hc] at w
 exact (zfx ha w).mono fun x e' h' ⟨_,_,q⟩=>q
end Go.Am
