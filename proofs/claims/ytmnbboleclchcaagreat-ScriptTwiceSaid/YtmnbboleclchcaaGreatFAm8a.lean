/-
  Texts of this proof, part 12. No condition.
-/
import Derived.Test.YtmnbboleclchcaaGreatFAm4b
set_option linter.unusedVariables false
set_option linter.unusedSimpArgs false
namespace Go.Am
noncomputable section
def agr (a e:Env):Prop:=∀t v,a.get t=some v->e.get t=some v
def zlP (a:Env):Operand->Bool
 | .tmp t=>match a.get t with | some _=>true | none=>false
 | _=>true
def zkr (a:Env) (o:Op):Bool:=o.operands.toList.all (zlP a)
def zag (p:Option Addr) (k:Nat->Nat->Prop):Prop:=match p with | some ⟨b,off,none⟩=>k b off | _=>False
def zti {α:Type} (p:Option α) (A B:Prop):Prop:=match p with | none=>A | some _=>B
def exV (z:Value) (k:Value->Prop):Prop:=
 match z with
 | .int kd _=>∃x:Int,k (.int kd x)
 | .bool _=>∃x:Bool,k (.bool x)
 | .string _=>∃x:ByteArray,k (.string x)
 | .pointer _=>∃p:Option Addr,k (.pointer p)
 | .slice _ _ _=>∃(p:Option Addr) (n c:Nat),k (.slice p n c)
 | .map _=>∃m:Option Nat,k (.map m)
 | .nilFunc=>∃(g:FuncId) (cap:List Value),k (.func (.func g) #[] cap.toArray)
 | _=>∃v:Value,k v
def exL:List Value->(List Value->Prop)->Prop
 | [],k=>k []
 | z :: zs,k=>exV z λv=>exL zs λvs=>k (v :: vs)
def exT (P:Program) (t:TypeId) (k:Value->Prop):Prop:=
 match aggT P t with
 | some true=>cond (Nat.blt 12 (P.cellsOf t)) (∃vs:List Value,k (.agg vs.toArray)) (match zao P t with | some zs=>exL zs λvs=>k (.agg vs.toArray) | none=>False)
 | some false=>match zao P t with | some [.bool _]=>k (.bool true)\/k (.bool false) | some [z]=>exV z k | _=>∃v:Value,k v
 | none=>∃v:Value,k v
def zzq (P:Program):List TypeId->(List Value->Prop)->Prop
 | [],k=>k []
 | t :: ts,k=>exT P t λv=>zzq P ts λvs=>k (v :: vs)
def ld1 (h:AH) (b off:Nat):Option Value:=zvY (h.get b) off
def ldN (h:AH) (b off n:Nat):Option (List Value):=match h.get b with | some (.cells cs _ _)=>if off+n<=cs.length then some ((cs.drop off).take n) else none | _=>none
def st1 (h:AH) (b off:Nat) (v:Value):Option AH:=zlN h b off v (h.get b)
def stN (h:AH) (b off:Nat) (vs:List Value):Option AH:=zlO h b off vs (h.get b)
def ldT (P:Program) (h:AH) (t:TypeId) (b off:Nat) (v:Value):Prop:=
 match aggT P t with
 | some true=>match v with | .agg vs=>ldN h b off (P.cellsOf t)=some vs.toList | _=>False
 | some false=>ld1 h b off=some v
 | none=>False
def zq3 (P:Program) (h:AH) (t:TypeId) (b off:Nat) (v:Value) (k:AH->Prop):Prop:=
 match (P.info? t).isSome with
 | false=>False
 | true=>
   match aggT P t with
   | some true=>match v with | .agg vs=>vs.toList.length=P.cellsOf t/\∃h',stN h b off vs.toList=some h'/\k h' | _=>False
   | some false=>match zxt v && Nat.beq (P.cellsOf t) 1 with | true=>∃h',st1 h b off v=some h'/\k h' | false=>False
   | none=>False
def ztM (P:Program) (t:TypeId) (cs:List Value) (off:Nat) (k:Value->Prop):Prop:=
 match aggT P t with
 | some true=>exT P t λv=>(match v with | .agg vs=>(cs.drop off).take (P.cellsOf t)=vs.toList | _=>False)/\k v
 | some false=>exT P t λv=>cs[off]?= some v/\k v
 | none=>False
def zq4 (P:Program) (t:TypeId) (cs:List Value) (off:Nat) (k:Value->Prop):Prop:=
 match aggT P t with
 | some true=>k (.agg ((cs.drop off).take (P.cellsOf t)).toArray)
 | some false=>match cs[off]? with | some v=>k v | none=>False
 | none=>False
def zzr (P:Program) (op:BinOp) (t:TypeId) (kd:IntKind) (i j:Int) (k:Value->Prop):Prop:=
 match op with
 | .add=>∀c:Int,c=kd.wrap (i+j)->k (.int kd c)
 | .sub=>∀c:Int,c=kd.wrap (i - j)->k (.int kd c)
 | .mul=>∀c:Int,c=kd.wrap (i * j)->k (.int kd c)
 | .quo=>j≠0/\∀c:Int,c=kd.wrap (i.tdiv j)->k (.int kd c)
 | .rem=>j≠0/\∀c:Int,c=i.tmod j->k (.int kd c)
 | .eql=>(i=j->k (.bool true))/\(¬i=j->k (.bool false))
 | .neq=>(i=j->k (.bool false))/\(¬i=j->k (.bool true))
 | .lss=>(i < j->k (.bool true))/\(¬i < j->k (.bool false))
 | .leq=>(i<=j->k (.bool true))/\(¬i<=j->k (.bool false))
 | .gtr=>(j < i->k (.bool true))/\(¬j < i->k (.bool false))
 | .geq=>(j<=i->k (.bool true))/\(¬j<=i->k (.bool false))
 | _=>∃c:Int,zgK op kd i j=some (.int kd c)/\k (.int kd c)
def zzs (P:Program) (op:BinOp) (t:TypeId) (x y:Value) (k:Value->Prop):Prop:=
 match x with
 | .int k1 i=>
   match y with
   | .int k2 j=>
     match op with
     | .shl=>∃c:Int,zaV .shl k1 i j=some (.int k1 c)/\k (.int k1 c)
     | .shr=>∃c:Int,zaV .shr k1 i j=some (.int k1 c)/\k (.int k1 c)
     | op=>match decide (k1=k2) with | true=>zzr P op t k1 i j k | false=>False
   | _=>False
 | .string a=>
   match y with
   | .string b=>
     match op with
     | .eql=>(a=b->k (.bool true))/\(¬a=b->k (.bool false))
     | .neq=>(a=b->k (.bool false))/\(¬a=b->k (.bool true))
     | .add=>((a.size+b.size:Nat):Int)<=9223372036854775807/\∀s:ByteArray,s=a ++ b->k (.string s)
     | _=>False
   | _=>False
 | .bool a=>
   match y,P.underlying t with
   | .bool b,some .bool=>
     match op with
     | .eql=>cond (a == b) (k (.bool true)) (k (.bool false))
     | .neq=>cond (a == b) (k (.bool false)) (k (.bool true))
     | _=>False
   | _,_=>False
 | .agg xs=>
   match y,P.keyTypeAt 40 t with
   | .agg ys,true=>
     match op with
     | .eql=>∃la lb,zdL P t (.agg xs)=some la/\zdL P t (.agg ys)=some lb/\(litsEq la lb=true->k (.bool true))/\(litsEq la lb=false->k (.bool false))
     | .neq=>∃la lb,zdL P t (.agg xs)=some la/\zdL P t (.agg ys)=some lb/\(litsEq la lb=true->k (.bool false))/\(litsEq la lb=false->k (.bool true))
     | _=>False
   | _,_=>False
 | .pointer p=>
   match y,P.underlying t with
   | .pointer none,some (.pointer _)=>
     match op with
     | .eql=>zti p (k (.bool true)) (k (.bool false))
     | .neq=>zti p (k (.bool false)) (k (.bool true))
     | _=>False
   | _,_=>False
 | .slice p n c=>
   match y,P.underlying t with
   | .slice none _ _,some (.slice _)=>
     match op with
     | .eql=>zti p (k (.bool true)) (0 < n+c/\k (.bool false))
     | _=>False
   | _,_=>False
 | .map p=>
   match y,P.underlying t with
   | .map none,some (.map _ _)=>
     match op with
     | .eql=>zti p (k (.bool true)) (k (.bool false))
     | .neq=>zti p (k (.bool false)) (k (.bool true))
     | _=>False
   | _,_=>False
 | _=>False
def Wy (P:Program) (K:Xs) (l:Nat) (args:List Value) (h:AH) (Q:Value->AH->Prop):Prop:=∃n v h',zc6 (ex P K n) l args h=some (v,h')/\Q v h'
def zzt (P:Program) (g:FuncId) (k:Value->AH->Prop):Value->AH->Prop:=
 match P.funcs[g]? with
 | some fn=>
   match fn.resultTypes.toList with
   | []=>k
   | [t]=>λv h=>exT P t λx=>v=x/\k x h
   | ts=>λv h=>zzq P ts λvs=>v=.tuple vs.toArray/\k (.tuple vs.toArray) h
 | none=>λ_ _=>False
def zks (P:Program) (s d:TypeId) (x:Value) (h:AH) (k:Value->AH->Prop):Prop:=
 match P.underlying s,P.underlying d with
 | some (.int _),some (.int kd)=>match x with | .int _ n=>∀c:Int,c=kd.wrap n->k (.int kd c) h | _=>False
 | some .string,some .string=>match x with | .string a=>k (.string a) h | _=>False
 | some (.slice _),some .string=>∃a:ByteArray,zav P h s d x=some (.string a,h)/\k (.string a) h
 | _,some (.slice _)=>∃(p:Option Addr) (n c:Nat) (h' : AH),zav P h s d x=some (.slice p n c,h')/\k (.slice p n c) h'
 | _,_=>False
def zq5 (P:Program) (t:TypeId) (x:Value) (lo hi mx:Option Value) (h:AH) (k:Value->AH->Prop):Prop:=
 match P.underlying t with
 | some .string=>∃a:ByteArray,zay P h t x lo hi mx=some (.string a)/\k (.string a) h
 | some _=>∃(p:Option Addr) (n c:Nat),zay P h t x lo hi mx=some (.slice p n c)/\k (.slice p n c) h
 | none=>False
def zf0 (P:Program) (t:TypeId) (x i:Value) (k:Value->Prop):Prop:=
 match i with
 | .int _ j=>
   match P.underlying t with
   | some (.array n elem)=>match x with | .pointer p=>zag p (λb off=>match (P.info? elem).isSome with | true=>0<=j/\j < n/\k (ptr b (off+j.toNat * P.cellsOf elem)) | false=>False) | _=>False
   | some (.slice elem)=>match x with | .slice p n _=>zag p (λb off=>match (P.info? elem).isSome with | true=>0<=j/\j < n/\k (ptr b (off+j.toNat * P.cellsOf elem)) | false=>False) | _=>False
   | _=>False
 | _=>False
def zq6 (P:Program) (t:TypeId) (x i:Value) (k:Value->Prop):Prop:=
 match i with
 | .int _ j=>
   match P.underlying t with
   | some (.array n elem)=>match x with | .agg cs=>(match (P.info? elem).isSome with | true=>0<=j/\j < n/\ztM P elem cs.toList (j.toNat * P.cellsOf elem) k | false=>False) | _=>False
   | some .string=>match x with | .string s=>0<=j/\∃c:UInt8,s[j.toNat]?= some c/\k (.int .u8 c.toNat) | _=>False
   | _=>False
 | _=>False
def znh (P:Program) (t:TypeId) (m key:Value) (ok:Bool) (h:AH) (k:Value->Prop):Prop:=
 match P.underlying t with
 | some (.map _ et)=>
   match ok with
   | true=>exT P et λv=>∃b:Bool,zcr P h t m key true=some (.tuple #[v,.bool b])/\k (.tuple #[v,.bool b])
   | false=>exT P et λv=>zcr P h t m key false=some v/\k v
 | _=>False
def zv0 (P:Program) (t:TypeId) (l c:Value) (h:AH) (k:Value->AH->Prop):Prop:=
 match l,c,P.underlying t with
 | .int _ l,.int _ c,some (.slice elem)=>
   match P.info? elem,zao P elem with
   | some i,some z=>
     match Nat.beq z.length i.size with
     | true=>(0<=l/\l<=c/\c<=9223372036854775807/\i.bytes * c<=281474976710656)/\
        ∀h1,h1=h.alloc (.cells ((List.replicate c.toNat z).flatten) elem false)->k (.slice (some ⟨h.next,0,none⟩) l.toNat c.toNat) h1
     | false=>False
   | _,_=>False
 | _,_,_=>False
def zxu (it:Value) (h:AH) (k:Value->AH->Prop):Prop:=
 match it with
 | .pointer p=>zag p λr off=>off=0/\∃(s:ByteArray) (pos:Nat),h.get r=some (.siter s pos)/\
    (pos < s.size->∀h1,h1=h.set r (.siter s (pos+(Utf8.decode s pos).2))->k (.tuple #[.bool true,.int .i64 pos,.int .i32 (Utf8.decode s pos).1]) h1)/\(¬pos < s.size->k (.tuple #[.bool false]) h)
 | _=>False
def zkt (P:Program) (b:Builtin) (ats:Array TypeId) (args:List Value) (h:AH) (k:Value->AH->Prop):Prop:=
 match b with
 | .append=>∃(p:Option Addr) (n c:Nat) (h' : AH),zak P h .append ats args=some (.slice p n c,h')/\k (.slice p n c) h'
 | .copy=>∃(m:Int) (h' : AH),zak P h .copy ats args=some (.int .i64 m,h')/\k (.int .i64 m) h'
 | .clear=>∃h' : AH,zak P h .clear ats args=some (undef,h')/\k undef h'
 | .delete=>∃h' : AH,zak P h .delete ats args=some (undef,h')/\k undef h'
 | .min=>match zdP false args with | some (.int kd c0)=>∀c:Int,c=c0->k (.int kd c) h | _=>False
 | .max=>match zdP true args with | some (.int kd c0)=>∀c:Int,c=c0->k (.int kd c) h | _=>False
 | .len=>
   match ats.toList,args with
   | [t],[.map m]=>∃n:Int,zjz P h t (.map m)=some (.int .i64 n)/\k (.int .i64 n) h
   | [t],[x]=>match zjz P h t x with | some v=>k v h | none=>False
   | _,_=>False
 | .cap=>match ats.toList,args with | [t],[x]=>∃n:Int,zuU P t x=some (.int .i64 n)/\k (.int .i64 n) h | _,_=>False
 | _=>False
def zxv (P:Program) (K:Xs) (f:Value) (args:List Value) (h:AH) (k:Value->AH->Prop):Prop:=
 match f with
 | .func (.func g) first cap=>Wf P K g (first.toList ++ args ++ cap.toList) h (zzt P g k)
 | .func (.yield l) first _=>Wy P K l (first.toList ++ args) h λv h'=>∃b:Bool,v=.bool b/\k (.bool b) h'
 | _=>False
def zzu:Op->Bool
 | .alloc _ | .box _ _ | .buildSlice _ _ _ | .makeMap _ _ | .range _ _=>true
 | _=>false
def zh4 (P:Program) (o:Oper) (a:Env) (h:AH) (k:Value->AH->Prop):Prop:=
 match aOp P o a h with
 | some (v,h')=>match zzu o.op with | true=>∀h1,h1=h'->k v h1 | false=>k v h'
 | none=>False
def vUn (op:UnOp) (x:Value) (k:Value->Prop):Prop:=
 match x with
 | .int kd n=>∃c:Int,aUn op (.int kd n)=some (.int kd c)/\k (.int kd c)
 | x=>match aUn op x with | some v=>k v | none=>False
def zpL (P:Program) (K:Xs) (o:Oper) (a:Env) (h:AH) (k:Value->AH->Prop):Prop:=
 match o.op with
 | .load t x=>match ev a x with | .pointer p=>zag p λb off=>exT P t λv=>ldT P h t b off v/\k v h | _=>False
 | .store t x y=>match ev a x with | .pointer p=>zag p λb off=>zq3 P h t b off (ev a y) λh'=>k undef h' | _=>False
 | .binOp op t x y _=>zzs P op t (ev a x) (ev a y) λv=>k v h
 | .pick c x y=>match ev a c with | .bool b=>cond b (k (ev a x) h) (k (ev a y) h) | _=>False
 | .unOp op _ x=>vUn op (ev a x) λv=>k v h
 | .nilCheck x=>match ev a x with | .pointer p=>zag p λb off=>k (ptr b off) h | _=>zh4 P o a h k
 | .build t parts=>cond (Nat.blt 12 (P.cellsOf t)) (∃vs:List Value,zbA P t (parts.map λ(i,x)=>(i,ev a x))=some (.agg vs.toArray)/\k (.agg vs.toArray) h) (zh4 P o a h k)
 | .buildSlice t n parts=>match P.underlying t with
   | some (.slice elem)=>cond (Nat.blt 12 (P.cellsOf elem)) (∃(p:Option Addr) (m c:Nat) (h' : AH),zar P h t n (parts.map λ(i,x)=>(i,ev a x))=some (.slice p m c,h')/\k (.slice p m c) h') (zh4 P o a h k)
   | _=>False
 | .alloc t=>cond (Nat.blt 200 (P.cellsOf t)) (∃z:List Value,zao P t=some z/\∀h1,h1=h.alloc (.cells z t false)->k (ptr h.next 0) h1) (zh4 P o a h k)
 | .fieldAddr s x f=>match ev a x with | .pointer p=>zag p (λb off=>match zbI P s (ptr b off) f with | some v=>k v h | none=>False) | _=>False
 | .indexAddr t x i=>zf0 P t (ev a x) (ev a i) λv=>k v h
 | .slice t x lo hi mx=>zq5 P t (ev a x) (lo.map (ev a)) (hi.map (ev a)) (mx.map (ev a)) h k
 | .field t x f=>match P.underlying t with | some (.struct fs)=>(match ev a x with | .agg cs=>(match fs[f]? with | some fd=>cond (Nat.blt 12 (P.cellsOf t)) (ztM P fd.type cs.toList fd.offset λv=>k v h) (zq4 P fd.type cs.toList fd.offset λv=>k v h) | none=>False) | _=>False) | _=>False
 | .index t x i=>zq6 P t (ev a x) (ev a i) λv=>k v h
 | .lookup t m key ok=>znh P t (ev a m) (ev a key) ok h λv=>k v h
 | .mapUpdate t m key v=>∃h' : AH,zba P h t (ev a m) (ev a key) (ev a v)=some h'/\k undef h'
 | .convert s d x=>zks P s d (ev a x) h k
 | .makeSlice t l c=>zv0 P t (ev a l) (ev a c) h k
 | .next it true=>zxu (ev a it) h k
 | .call c=>
   match c.callee with
   | .value f=>zxv P K (ev a f) (c.args.toList.map (ev a)) h k
   | .builtin b=>zkt P b c.argTypes (c.args.toList.map (ev a)) h k
   | _=>False
 | _=>zh4 P o a h k
def vOp (P:Program) (K:Xs) (o:Oper) (a:Env) (h:AH) (k:Value->AH->Prop):Prop:=match zkr a o.op with | true=>zpL P K o a h k | false=>False
def vG (ops:Array Oper) (o:Oper) (a:Env) (A B:Prop):Prop:=
 match o.guard with
 | none=>A
 | some (j,w)=>match (ops[j]?).bind (·.dst) with | some d=>(match a.get d with | some (.bool b)=>cond (b == w) A B | some v=>(match isSkip v with | true=>B | false=>False) | none=>False) | none=>False
def zy7 (P:Program) (K:Xs) (ops:Array Oper):List Oper->Env->AH->(Env->AH->Prop)->Prop
 | [],a,h,k=>k a h
 | o :: os,a,h,k=>vG ops o a (vOp P K o a h λv h'=>zy7 P K ops os (putO a o.dst v) h' k) (zy7 P K ops os (putO a o.dst zdq) h k)
def vL (P:Program) (K:Xs) (ops:Array Oper):List Nat->Env->AH->(List (Env×AH)->Prop)->Prop
 | [],a,h,k=>k [(a,h)]
 | j :: js,a,h,k=>
   match ops[j]? with
   | some o=>vG ops o a (vOp P K o a h λv h'=>vL P K ops js (putO a o.dst v) h' λl=>k ((a,h) :: l)) (vL P K ops js (putO a o.dst zdq) h λl=>k ((a,h) :: l))
   | none=>False
def zbi:Value->Bool
 | .bool _ | .int _ _ | .string _ | .pointer _ | .slice _ _ _ | .map _ | .nilFunc | .nilIface=>true
 | _=>false
def zlQ:List Value->Prop->Prop
 | [],X=>X
 | v :: vs,X=>match zbi v with | true=>zlQ vs X | false=>False
def zv1 (v:Value) (X:Prop):Prop:=match v with | .agg vs=>zlQ vs.toList X | .tuple vs=>zlQ vs.toList X | v=>match zbi v with | true=>X | false=>False
def zzv (P:Program) (o:Oper) (a:Env) (h:AH) (v:Value):Prop:=
 match zkr a o.op with
 | true=>
   match o.op with
   | .load t x=>(match ev a x with | .pointer p=>zag p λb off=>ldT P h t b off v | _=>False)
   | .slice t x lo hi mx=>zay P h t (ev a x) (lo.map (ev a)) (hi.map (ev a)) (mx.map (ev a))=some v
   | .lookup t m key ok=>zcr P h t (ev a m) (ev a key) ok=some v
   | .convert s d x=>∃h',zav P h s d (ev a x)=some (v,h')
   | .call c=>match c.callee with | .builtin b=>(∃h',zak P h b c.argTypes (c.args.toList.map (ev a))=some (v,h')) | _=>False
   | _=>False
 | false=>False
def rr (P:Program) (ops:Array Oper) (ord:List Nat) (l:List (Env×AH)) (p q:Nat) (X:Prop):Prop:=
 match (ord[p]?).bind (ops[·]?),l[p]?,l[p+1]?,l[q]? with
 | some o,some (a,_),some (a1,_),some (_,h)=>vG ops o a (match o.dst with | some d=>(match a1.get d with | some v=>zv1 v (zzv P o a h v/\X) | none=>False) | none=>False) X
 | _,_,_,_=>False
def rrs (P:Program) (ops:Array Oper) (ord:List Nat) (l:List (Env×AH)) (X:Prop):List (Nat×Nat)->Prop
 | []=>X
 | (p,q) :: ps=>rr P ops ord l p q (rr P ops ord l p (q+1) (rrs P ops ord l X ps))
def zv2 (P:Program) (K:Xs) (ops:Array Oper) (a:Env) (h:AH) (k:Env->AH->Prop):Prop:=
 match zvF P ops with
 | some (ord,ps)=>vL P K ops ord a h λl=>rrs P ops ord l (match l.getLast? with | some (a',h')=>k a' h' | none=>False) ps
 | none=>False
abbrev zqq:=List (Tmp×Value)
def LT:zqq->Type
 | []=>Nat->AH->Prop
 | (_,.int _ _) :: r=>Int->LT r
 | (_,.bool _) :: r=>Bool->LT r
 | (_,.string _) :: r=>ByteArray->LT r
 | (_,.pointer _) :: r=>Option Addr->LT r
 | (_,.slice _ _ _) :: r=>Option Addr->Nat->Nat->LT r
 | (_,.map _) :: r=>Option Nat->LT r
 | (_,_) :: r=>Value->LT r
def zku:(l:zqq)->LT l->Env->Nat->AH->Prop
 | [],I,_,n,h=>I n h
 | (t,.int kd _) :: r,I,a,n,h=>match a.get t with | some (.int kd' x)=>(match decide (kd=kd') with | true=>zku r (I x) a n h | false=>False) | _=>False
 | (t,.bool _) :: r,I,a,n,h=>match a.get t with | some (.bool x)=>zku r (I x) a n h | _=>False
 | (t,.string _) :: r,I,a,n,h=>match a.get t with | some (.string x)=>zku r (I x) a n h | _=>False
 | (t,.pointer _) :: r,I,a,n,h=>match a.get t with | some (.pointer x)=>zku r (I x) a n h | _=>False
 | (t,.slice _ _ _) :: r,I,a,n,h=>match a.get t with | some (.slice x y z)=>zku r (I x y z) a n h | _=>False
 | (t,.map _) :: r,I,a,n,h=>match a.get t with | some (.map x)=>zku r (I x) a n h | _=>False
 | (t,.func f x y) :: r,I,a,n,h=>match a.get t with | some v=>zku r (I v) a n h | _=>False
 | (t,.nilFunc) :: r,I,a,n,h=>match a.get t with | some v=>zku r (I v) a n h | _=>False
 | (t,.agg _) :: r,I,a,n,h=>match a.get t with | some v=>zku r (I v) a n h | _=>False
 | (_,_) :: r,I,a,n,h=>False
def zov:(l:zqq)->LT l->Env->Nat->AH->(Env->Prop)->Prop
 | [],I,a,n,h,k=>I n h->k a
 | (t,.int kd _) :: r,I,a,n,h,k=>∀x:Int,zov r (I x) (a.set t (.int kd x)) n h k
 | (t,.bool true) :: r,I,a,n,h,k=>zov r (I true) (a.set t (.bool true)) n h k/\zov r (I false) (a.set t (.bool false)) n h k
 | (t,.bool false) :: r,I,a,n,h,k=>∀x:Bool,zov r (I x) (a.set t (.bool x)) n h k
 | (t,.string _) :: r,I,a,n,h,k=>∀x:ByteArray,zov r (I x) (a.set t (.string x)) n h k
 | (t,.pointer _) :: r,I,a,n,h,k=>∀x:Option Addr,zov r (I x) (a.set t (.pointer x)) n h k
 | (t,.slice _ _ _) :: r,I,a,n,h,k=>∀(x:Option Addr) (y z:Nat),zov r (I x y z) (a.set t (.slice x y z)) n h k
 | (t,.map _) :: r,I,a,n,h,k=>∀x:Option Nat,zov r (I x) (a.set t (.map x)) n h k
 | (t,.func f x y) :: r,I,a,n,h,k=>∀v:Value,zov r (I v) (a.set t v) n h k
 | (t,.nilFunc) :: r,I,a,n,h,k=>∀v:Value,zov r (I v) (a.set t v) n h k
 | (t,.agg _) :: r,I,a,n,h,k=>∀v:Value,zov r (I v) (a.set t v) n h k
 | (_,_) :: r,I,a,n,h,k=>True
def zni:Code->List Tmp
 | .region _ ops _=>ops.toList.filterMap (·.dst)
 | .seq a b=>zni a ++ zni b
 | .cond _ a b=>zni a ++ zni b
 | .block _ c=>zni c
 | .loop c=>zni c
 | .scope c=>zni c
 | _=>[]
def zow (a:Env):List Tmp->Env
 | []=>a
 | t :: ts=>zow (a.del t) ts
def zf1:Code->Option Nat
 | .region id _ _=>some id
 | .seq a b=>match zf1 a with | some k=>some k | none=>zf1 b
 | .cond _ a b=>match zf1 a with | some k=>some k | none=>zf1 b
 | .block _ c=>zf1 c
 | .loop c=>zf1 c
 | .scope c=>zf1 c
 | .rangeFunc _ _ a b=>match zf1 a with | some k=>some k | none=>zf1 b
 | _=>none
def zq7:List (Nat×zqq)->Option Nat->Option zqq
 | (i,l) :: r,some k=>cond (Nat.beq i k) (some l) (zq7 r (some k))
 | _,_=>none
def zqr:zqq->Env->(List Value->Env->Prop)->Prop
 | [],a,k=>k [] a
 | (t,.int kd _) :: r,a,k=>∀x:Int,zqr r (a.set t (.int kd x)) λvs a'=>k (.int kd x :: vs) a'
 | (t,.bool _) :: r,a,k=>∀x:Bool,zqr r (a.set t (.bool x)) λvs a'=>k (.bool x :: vs) a'
 | (t,.string _) :: r,a,k=>∀x:ByteArray,zqr r (a.set t (.string x)) λvs a'=>k (.string x :: vs) a'
 | (t,.pointer _) :: r,a,k=>∀x:Option Addr,zqr r (a.set t (.pointer x)) λvs a'=>k (.pointer x :: vs) a'
 | (t,.slice _ _ _) :: r,a,k=>∀(x:Option Addr) (y z:Nat),zqr r (a.set t (.slice x y z)) λvs a'=>k (.slice x y z :: vs) a'
 | (t,.map _) :: r,a,k=>∀x:Option Nat,zqr r (a.set t (.map x)) λvs a'=>k (.map x :: vs) a'
 | (t,_) :: r,a,k=>∀v:Value,zqr r (a.set t v) λvs a'=>k (v :: vs) a'
def zaZ (l:Nat) (h h' : AH):Prop:=h'.next=h.next/\∀c,c≠l->h'.get c=h.get c
def zxw:AX->AX->Bool
 | .normal,.normal=>true
 | .exit i,.exit j=>Nat.beq i j
 | .ret,.ret=>true
 | _,_=>false
def zeX (x:AX):List AX->Bool
 | []=>false
 | y :: ys=>zxw x y || zeX x ys
def ztN:List AX->List AX->List AX
 | [],l=>l
 | x :: xs,l=>cond (zeX x l) (ztN xs l) (x :: ztN xs l)
def zeF:Code->List AX
 | .seq a b=>ztN (zeF a) (zeF b)
 | .cond _ a b=>ztN (zeF a) (zeF b)
 | .block id c=>(zeF c).filter λx=>!zxw x (.exit id)
 | .loop c=>zeF c
 | .scope c=>zeF c
 | .exit id=>[.exit id]
 | .ret=>[.ret]
 | .rangeFunc _ _ _ b=>zeF b
 | _=>[]
def zv3 (l:List AX) (k:AX->Prop) (rest:Prop):Prop:=match l with | []=>rest | x :: xs=>k x/\zv3 xs k rest
def zq8 (rd:Option Nat) (h:AH) (X:Prop):Prop:=match rd with | none=>X | some l=>(∃L,h.get l=some (.loop L))/\X
def vc (P:Program) (K:Xs) (hs:List (Nat×zqq)) (rd:Option Nat):Code->Env->AH->(AX->Env->AH->Prop)->Prop
 | .skip,a,h,Q=>Q .normal a h
 | .label _,a,h,Q=>Q .normal a h
 | .region _ ops draw,a,h,Q=>match draw with | false=>zy7 P K ops ops.toList a h λa' h'=>Q .normal a' h' | true=>zv2 P K ops a h λa' h'=>Q .normal a' h'
 | .seq c d,a,h,Q=>vc P K hs rd c a h (onN (λa' h'=>vc P K hs rd d a' h' Q) Q)
 | .cond c x y,a,h,Q=>match zlP a c with | true=>(match ev a c with | .bool t=>cond t (vc P K hs rd x a h Q) (vc P K hs rd y a h Q) | _=>False) | false=>False
 | .block id c,a,h,Q=>vc P K hs rd c a h (zji id Q)
 | .loop c,a,h,Q=>
   match zq7 hs (zf1 c) with
   | some l=>∃I:LT l,(∃n,zku l I a n h)/\∀n h',zov l I (zow a (zni c)) n h' λa'=>vc P K hs rd c a' h' (onN (λa2 h2=>∃j,j < n/\zku l I a2 j h2) Q)
   | none=>False
 | .scope c,a,h,Q=>vc P K hs rd c a h Q
 | .exit id,a,h,Q=>Q (.exit id) a h
 | .ret,a,h,Q=>Q .ret a h
 | .rangeFunc f ps assign body,a,h,Q=>
   zq8 rd h (match zlP a f with
   | true=>
     match ev a f,zq7 hs (match zf1 assign with | some k=>some k | none=>zf1 body) with
     | .func (.func g) first cap,some pl=>
       ∃(J:Nat->AH->Prop) (D:AX->AH->Prop) (N:Nat) (item:Nat->List Value) (G B:AH->AH->Prop),
        (K g=none/\ps.toList=pl.map (·.1))/\
        (∀i,i < N->exL (pl.map (·.2)) λvs=>item i=vs)/\
        (∀h1,h1.next=h.next+1->(∀c,c≠h.next->h1.get c=h.get c)->J 0 h1)/\
        (∀i h1 h2,J i h1->zaZ h.next h1 h2->J i h2)/\
        (∀x h1 h2,D x h1->zaZ h.next h1 h2->D x h2)/\
        (∀i h1 h2,J i h1->G h1 h2->J i h2)/\(∀x h1 h2,D x h1->G h1 h2->D x h2)/\(∀h1 h2,G h1 h2->h2.get h.next=h1.get h.next)/\
        (∀i h1,i < N->J i h1->(∃L,h1.get h.next=some (.loop L))->zqr pl a λvs a'=>item i=vs->
          vc P K hs (some h.next) assign a' h1 λx a2 h2=>x=.normal/\h2.get h.next=h1.get h.next/\
           ∀h3,zaZ h.next h2 h3->(∃L,h3.get h.next=some (.loop L))->vc P K hs (some h.next) body a2 h3 λx a4 h4=>h4.get h.next=h3.get h.next/\(match x with | .normal=>J (i+1) h4 | x=>D x h4)/\∀h5,zaZ h.next h4 h5->B h1 h5)/\
        (∀(JJ:Nat->AH->Prop) (DD:AH->Prop),(∀i h1,JJ i h1->J i h1)->(∀i h1 h2,JJ i h1->G h1 h2->JJ i h2)->(∀h1 h2,DD h1->G h1 h2->DD h2)->
          (∀i h1,i < N->JJ i h1->Wy P K h.next (item i) h1 λv h2=>((v=.bool true/\JJ (i+1) h2)\/(v=.bool false/\DD h2))/\B h1 h2)->
          ∀h1,JJ 0 h1->Wf P K g (first.toList ++ [Value.func (Fn.yield h.next) #[] #[]] ++ cap.toList) h1 λ_ h2=>JJ N h2\/DD h2)/\
        (∀h1,J N h1->Q .normal a (h1.del h.next))/\
        zv3 (zeF body) (λx=>∀h1,D x h1->Q x a (h1.del h.next)) (∀x h1,x≠.normal->D x h1->zeX x (zeF body)=true)
     | _,_=>False
   | false=>False)
 | _,_,_,_=>False
def ztO (P:Program) (a:Env) (h:AH) (r:ResultVar) (k:Value->Prop):Prop:=
 match r with
 | .tmp t=>match a.get t with | some v=>k v | none=>False
 | .cell x t=>match a.get x with | some (.pointer p)=>zag p λb off=>exT P t λv=>ldT P h t b off v/\k v | _=>False
def zy8 (P:Program) (a:Env) (h:AH):List ResultVar->(List Value->Prop)->Prop
 | [],k=>k []
 | r :: rs,k=>ztO P a h r λv=>zy8 P a h rs λvs=>k (v :: vs)
def one (vs:List Value):Value:=match vs with | [v]=>v | vs=>.tuple vs.toArray
def vcF (P:Program) (K:Xs) (hs:List (Nat×zqq)) (f:FuncId) (args:List Value) (h:AH) (Q:Value->AH->Prop):Prop:=
 match P.funcs[f]? with
 | some fn=>
   match fn.body with
   | some c=>vc P K hs none c (Tr.ofList args) h λx a h'=>match x with | .exit _=>False | _=>zy8 P a h' fn.results.toList λvs=>Q (one vs) h'
   | none=>False
 | none=>False
end
section
variable {P:Program} {K:Xs}
theorem zeY {r:Ex} {ks:List Tmp} {ops:Array Oper}:∀{os:List Oper} {e e' : Env} {h h' : AH},zbj P K r ks ops os e h=some (e',h')->∀t,t∉os.filterMap (·.dst)->e'.get t=e.get t
 | [],e,e',h,h',hs,t,ht=>by grind[zbj]
 | o :: os,e,e',h,h',hs,t,ht=>by
   have hput:∀v,(putO e o.dst v).get t=e.get t:=by
    intro v
    cases hd:o.dst with
    | none=>rfl
    | some d=>grind[zdT,Tr.get_set]
   have ht2:t∉os.filterMap (·.dst):=by grind
   unfold zbj at hs
   split at hs
   ·split at hs
    ·rw[zeY hs t ht2,hput]
    grind
   ·rw[zeY hs t ht2,hput]
   grind
theorem zh5 {r:Ex} {ops:Array Oper}:∀{os:List Nat} {e:Env} {h:AH} {l:List (Env×AH)},zcU P K r ops os e h=some l->∀y,l.getLast?= some y->∀t,t∉ops.toList.filterMap (·.dst)->y.1.get t=e.get t
 | [],e,h,l,hs,y,hy,t,ht=>by grind[zcU]
 | j :: js,e,h,l,hs,y,hy,t,ht=>by
   unfold zcU at hs
   split at hs
   rotate_left
   ·grind
   rename_i o ho
   have hput:∀v,(putO e o.dst v).get t=e.get t:=by
    intro v
    cases hd:o.dst with
    | none=>rfl
    | some d=>grind[zdT,Tr.get_set]
   have last:∀{e1 h1 l1},zcU P K r ops js e1 h1=some l1->((e,h) :: l1).getLast?= some y->l1.getLast?= some y:=by grind[zvX]
   split at hs
   ·split at hs
    ·split at hs
     ·rename_i l1 hl1
      simp only[Qa] at hs
      subst hs
      rw[zh5 hl1 y (last hl1 hy) t ht,hput]
     grind
    grind
   ·split at hs
    ·rename_i l1 hl1
     simp only[Qa] at hs
     subst hs
     rw[zh5 hl1 y (last hl1 hy) t ht,hput]
    grind
   grind
theorem znj {r:Ex} {ops:Array Oper} {e e' : Env} {h h' : AH} (hs:zcb P K r ops e h=some (e',h')) (t:Tmp) (ht:t∉ops.toList.filterMap (·.dst)):e'.get t=e.get t:=by
 unfold zcb at hs
 grind[zh5]
def zq9 (r:Ex):Prop:=∀rd ks c e h x e' h',r rd ks c e h=some (x,e',h')->∀t,t∉zni c->e'.get t=e.get t
theorem znk {r:Ex} (F:zq9 r):zq9 (zaK P K r):=by
 intro rd ks c e h x e' h' hs t ht
 cases c with
 | skip=>grind[zaK]
 | label _=>grind[zaK]
 | region id ops draw=>
   cases draw with
   | false=>
     simp only[zaK] at hs
     split at hs
     ·rename_i e1 h1 hr
      simp only[Qa,Qf] at hs
      rw[<-hs.2.1]
      exact zeY hr t ht
     grind
   | true=>
     simp only[zaK] at hs
     split at hs
     ·rename_i e1 h1 hr
      simp only[Qa,Qf] at hs
      rw[<-hs.2.1]
      exact znj hr t ht
     grind
 | seq a b=>
   simp only[zni,QI,not_or] at ht
   simp only[zaK] at hs
   split at hs
   ·rename_i e1 h1 hr
    rw[F _ _ _ _ _ _ _ _ hs t ht.2,F _ _ _ _ _ _ _ _ hr t ht.1]
   ·exact F _ _ _ _ _ _ _ _ hs t ht.1
 | cond c a b=>
   simp only[zni,QI,not_or] at ht
   simp only[zaK] at hs
   split at hs
   ·rename_i tt _
    cases tt
    ·exact F _ _ _ _ _ _ _ _ hs t ht.2
    ·exact F _ _ _ _ _ _ _ _ hs t ht.1
   grind
 | block id c=>
   simp only[zaK] at hs
   split at hs
   ·rename_i i e1 h1 hr
    have:=F _ _ _ _ _ _ _ _ hr t ht
    grind
   ·exact F _ _ _ _ _ _ _ _ hs t ht
 | loop c=>
   simp only[zaK] at hs
   split at hs
   ·rename_i e1 h1 hr
    rw[F _ _ _ _ _ _ _ _ hs t (by grind[zni]),F _ _ _ _ _ _ _ _ hr t ht]
   ·exact F _ _ _ _ _ _ _ _ hs t ht
 | scope c=>exact F _ _ _ _ _ _ _ _ hs t (by grind[zni])
 | exit id=>grind[zaK]
 | ret=>grind[zaK]
 | rangeFunc f ps as b=>
   simp only[zaK] at hs
   split at hs
   all_goals grind[zct]
 | goto _=>grind[zaK]
 | refuse _=>grind[zaK]
theorem zra:∀n,zq9 (ex P K n)
 | 0=>λrd ks c e h x e' h' hs=>by grind[ex]
 | n+1=>znk (zra n)
theorem zv4 {rd:Option Nat} {c:Code} {e:Env} {h:AH} {Q:AX->Env->AH->Prop} (w:Wc P K rd c e h Q):Wc P K rd c e h λx e' h'=>Q x e' h'/\∀t,t∉zni c->e'.get t=e.get t:=by
 obtain⟨n,x,e',h',h1,h2⟩:=w
 exact⟨n,x,e',h',h1,h2,zra n _ _ _ _ _ _ _ _ h1⟩
theorem zox {z:Value} {k:Value->Prop} (w:exV z k):∃v,k v:=by
 unfold exV at w
 grind
theorem zoy:∀{zs:List Value} {k:List Value->Prop},exL zs k->∃vs,k vs
 | [],k,w=>⟨_,w⟩
 | z :: zs,k,w=>by
   obtain⟨v,w⟩:=zox w
   obtain⟨vs,w⟩:=zoy w
   grind
theorem znl {b:Bool} {A B:Prop} (w:cond b A B):A\/B:=by grind
theorem zcM {t:TypeId} {k:Value->Prop} (w:exT P t k):∃v,k v:=by
 unfold exT at w
 split at w
 ·rcases znl w with w | w
  ·grind
  ·split at w
   ·obtain⟨vs,w⟩:=zoy w; grind
   grind
 all_goals grind[zox]
theorem zlR:∀{ts:List TypeId} {k:List Value->Prop},zzq P ts k->∃vs,k vs
 | [],k,w=>⟨_,w⟩
 | t :: ts,k,w=>by
   obtain⟨v,w⟩:=zcM w
   obtain⟨vs,w⟩:=zlR w
   grind
theorem zbo {p:Option Addr} {k:Nat->Nat->Prop} (w:zag p k):∃b off,p=some ⟨b,off,none⟩/\k b off:=by
 unfold zag at w
 grind
theorem zkv {h:AH} {t:TypeId} {b off:Nat} {v:Value} (w:ldT P h t b off v):zbL P h t (.pointer (some ⟨b,off,none⟩))=some v:=by
 unfold ldT at w
 split at w
 ·rename_i ht
  split at w
  ·rw[zq2 ht]
   unfold ldN at w
   unfold zvZ
   split at w
   all_goals simp_all
  grind
 ·rename_i ht
  rw[zq1 ht]
  exact w
 grind
theorem zlS {h:AH} {t:TypeId} {b off:Nat} {v:Value} {k:AH->Prop} (w:zq3 P h t b off v k):∃h',zbM P h t (.pointer (some ⟨b,off,none⟩)) v=some h'/\k h':=by
 unfold zq3 at w
 split at w
 ·grind
 rename_i hi
 split at w
 ·split at w
  ·obtain⟨hl,h',hs,hk⟩:=w
   refine⟨h',?_,hk⟩
   rw[zpK hi,if_pos (by omega)]
   exact hs
  grind
 ·split at w
  ·rename_i hc
   rw[Qd] at hc
   obtain⟨h',hs,hk⟩:=w
   exact⟨h',by rw[zpJ (by simp_all) hi hc.1]; exact hs,hk⟩
  grind
 grind
theorem zjJ {t:TypeId} {cs:Array Value} {off:Nat} {k:Value->Prop} (w:ztM P t cs.toList off k):∃v,aPart P t cs off=some v/\k v:=by
 unfold ztM at w
 split at w
 ·obtain⟨v,hv,hk⟩:=zcM w
  grind[aPart,Array.ext',Array.toList_extract]
 ·obtain⟨v,hv,hk⟩:=zcM w
  grind[aPart]
 grind
theorem znm {t:TypeId} {cs:Array Value} {off:Nat} {k:Value->Prop} (w:zq4 P t cs.toList off k):∃v,aPart P t cs off=some v/\k v:=by
 unfold zq4 at w
 grind[aPart,Value.agg.injEq,Array.toList_extract]
end
end Go.Am
