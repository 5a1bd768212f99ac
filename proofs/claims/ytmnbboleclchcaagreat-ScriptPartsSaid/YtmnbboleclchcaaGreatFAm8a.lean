/-
  Texts of this proof, part 12. No condition.
-/
import Derived.Test.YtmnbboleclchcaaGreatFAm4b
set_option linter.unusedVariables false
set_option linter.unusedSimpArgs false
namespace Go.Am
noncomputable section
def agr (a e:Env):Prop:=∀t v,a.get t=some v->e.get t=some v
def zlI (a:Env):Operand->Bool
 | .tmp t=>match a.get t with | some _=>true | none=>false
 | _=>true
def zki (a:Env) (o:Op):Bool:=o.operands.toList.all (zlI a)
def zag (p:Option Addr) (k:Nat->Nat->Prop):Prop:=match p with | some ⟨b,off,none⟩=>k b off | _=>False
def ztJ {α:Type} (p:Option α) (A B:Prop):Prop:=match p with | none=>A | some _=>B
def exV (z:Value) (k:Value->Prop):Prop:=
 match z with
 | .int kd _=>∃x:Int,k (.int kd x)
 | .bool _=>∃x:Bool,k (.bool x)
 | .string _=>∃x:ByteArray,k (.string x)
 | .pointer _=>∃p:Option Addr,k (.pointer p)
 | .slice _ _ _=>∃(p:Option Addr) (n c:Nat),k (.slice p n c)
 | .map _=>∃m:Option Nat,k (.map m)
 | .nilFunc=>∃(g:FuncId) (cap:List Value),k (.func (.func g) #[] cap.toArray)
 | _=>∃v:Value,k v
def exL:List Value->(List Value->Prop)->Prop
 | [],k=>k []
 | z :: zs,k=>exV z λv=>exL zs λvs=>k (v :: vs)
def exT (P:Program) (t:TypeId) (k:Value->Prop):Prop:=
 match aggT P t with
 | some true=>cond (Nat.blt 12 (P.cellsOf t)) (∃vs:List Value,k (.agg vs.toArray)) (match zan P t with | some zs=>exL zs λvs=>k (.agg vs.toArray) | none=>False)
 | some false=>match zan P t with | some [.bool _]=>k (.bool true)\/k (.bool false) | some [z]=>exV z k | _=>∃v:Value,k v
 | none=>∃v:Value,k v
def zza (P:Program):List TypeId->(List Value->Prop)->Prop
 | [],k=>k []
 | t :: ts,k=>exT P t λv=>zza P ts λvs=>k (v :: vs)
def ld1 (h:AH) (b off:Nat):Option Value:=zvQ (h.get b) off
def ldN (h:AH) (b off n:Nat):Option (List Value):=match h.get b with | some (.cells cs _ _)=>if off+n<=cs.length then some ((cs.drop off).take n) else none | _=>none
def st1 (h:AH) (b off:Nat) (v:Value):Option AH:=zlG h b off v (h.get b)
def stN (h:AH) (b off:Nat) (vs:List Value):Option AH:=zlH h b off vs (h.get b)
def ldT (P:Program) (h:AH) (t:TypeId) (b off:Nat) (v:Value):Prop:=
 match aggT P t with
 | some true=>match v with | .agg vs=>ldN h b off (P.cellsOf t)=some vs.toList | _=>False
 | some false=>ld1 h b off=some v
 | none=>False
def zq4 (P:Program) (h:AH) (t:TypeId) (b off:Nat) (v:Value) (k:AH->Prop):Prop:=
 match (P.info? t).isSome with
 | false=>False
 | true=>
   match aggT P t with
   | some true=>match v with | .agg vs=>vs.toList.length=P.cellsOf t/\∃h',stN h b off vs.toList=some h'/\k h' | _=>False
   | some false=>match zxk v && Nat.beq (P.cellsOf t) 1 with | true=>∃h',st1 h b off v=some h'/\k h' | false=>False
   | none=>False
def ztK (P:Program) (t:TypeId) (cs:List Value) (off:Nat) (k:Value->Prop):Prop:=
 match aggT P t with
 | some true=>exT P t λv=>(match v with | .agg vs=>(cs.drop off).take (P.cellsOf t)=vs.toList | _=>False)/\k v
 | some false=>exT P t λv=>cs[off]?= some v/\k v
 | none=>False
def zq5 (P:Program) (t:TypeId) (cs:List Value) (off:Nat) (k:Value->Prop):Prop:=
 match aggT P t with
 | some true=>k (.agg ((cs.drop off).take (P.cellsOf t)).toArray)
 | some false=>match cs[off]? with | some v=>k v | none=>False
 | none=>False
def zzb (P:Program) (op:BinOp) (t:TypeId) (kd:IntKind) (i j:Int) (k:Value->Prop):Prop:=
 match op with
 | .add=>∀c:Int,c=kd.wrap (i+j)->k (.int kd c)
 | .sub=>∀c:Int,c=kd.wrap (i - j)->k (.int kd c)
 | .mul=>∀c:Int,c=kd.wrap (i * j)->k (.int kd c)
 | .quo=>j≠0/\∀c:Int,c=kd.wrap (i.tdiv j)->k (.int kd c)
 | .rem=>j≠0/\∀c:Int,c=i.tmod j->k (.int kd c)
 | .eql=>(i=j->k (.bool true))/\(¬i=j->k (.bool false))
 | .neq=>(i=j->k (.bool false))/\(¬i=j->k (.bool true))
 | .lss=>(i < j->k (.bool true))/\(¬i < j->k (.bool false))
 | .leq=>(i<=j->k (.bool true))/\(¬i<=j->k (.bool false))
 | .gtr=>(j < i->k (.bool true))/\(¬j < i->k (.bool false))
 | .geq=>(j<=i->k (.bool true))/\(¬j<=i->k (.bool false))
 | _=>∃c:Int,zgI op kd i j=some (.int kd c)/\k (.int kd c)
def zzc (P:Program) (op:BinOp) (t:TypeId) (x y:Value) (k:Value->Prop):Prop:=
 match x with
 | .int k1 i=>
   match y with
   | .int k2 j=>
     match op with
     | .shl=>∃c:Int,zaT .shl k1 i j=some (.int k1 c)/\k (.int k1 c)
     | .shr=>∃c:Int,zaT .shr k1 i j=some (.int k1 c)/\k (.int k1 c)
     | op=>match decide (k1=k2) with | true=>zzb P op t k1 i j k | false=>False
   | _=>False
 | .string a=>
   match y with
   | .string b=>
     match op with
     | .eql=>(a=b->k (.bool true))/\(¬a=b->k (.bool false))
     | .neq=>(a=b->k (.bool false))/\(¬a=b->k (.bool true))
     | .add=>((a.size+b.size:Nat):Int)<=9223372036854775807/\∀s:ByteArray,s=a ++ b->k (.string s)
     | _=>False
   | _=>False
 | .bool a=>
   match y,P.underlying t with
   | .bool b,some .bool=>
     match op with
     | .eql=>cond (a == b) (k (.bool true)) (k (.bool false))
     | .neq=>cond (a == b) (k (.bool false)) (k (.bool true))
     | _=>False
   | _,_=>False
 | .agg xs=>
   match y,P.keyTypeAt 40 t with
   | .agg ys,true=>
     match op with
     | .eql=>∃la lb,zev P t (.agg xs)=some la/\zev P t (.agg ys)=some lb/\(litsEq la lb=true->k (.bool true))/\(litsEq la lb=false->k (.bool false))
     | .neq=>∃la lb,zev P t (.agg xs)=some la/\zev P t (.agg ys)=some lb/\(litsEq la lb=true->k (.bool false))/\(litsEq la lb=false->k (.bool true))
     | _=>False
   | _,_=>False
 | .pointer p=>
   match y,P.underlying t with
   | .pointer none,some (.pointer _)=>
     match op with
     | .eql=>ztJ p (k (.bool true)) (k (.bool false))
     | .neq=>ztJ p (k (.bool false)) (k (.bool true))
     | _=>False
   | _,_=>False
 | .slice p _ _=>
   match y,P.underlying t with
   | .slice none _ _,some (.slice _)=>
     match op with
     | .eql=>ztJ p (k (.bool true)) (k (.bool false))
     | .neq=>ztJ p (k (.bool false)) (k (.bool true))
     | _=>False
   | _,_=>False
 | .map p=>
   match y,P.underlying t with
   | .map none,some (.map _ _)=>
     match op with
     | .eql=>ztJ p (k (.bool true)) (k (.bool false))
     | .neq=>ztJ p (k (.bool false)) (k (.bool true))
     | _=>False
   | _,_=>False
 | _=>False
def Wy (P:Program) (K:Xs) (l:Nat) (args:List Value) (h:AH) (Q:Value->AH->Prop):Prop:=∃n v h',zc9 (ex P K n) l args h=some (v,h')/\Q v h'
def zzd (P:Program) (g:FuncId) (k:Value->AH->Prop):Value->AH->Prop:=
 match P.funcs[g]? with
 | some fn=>
   match fn.resultTypes.toList with
   | []=>k
   | [t]=>λv h=>exT P t λx=>v=x/\k x h
   | ts=>λv h=>zza P ts λvs=>v=.tuple vs.toArray/\k (.tuple vs.toArray) h
 | none=>λ_ _=>False
def zkj (P:Program) (s d:TypeId) (x:Value) (h:AH) (k:Value->AH->Prop):Prop:=
 match P.underlying s,P.underlying d with
 | some (.int _),some (.int kd)=>match x with | .int _ n=>∀c:Int,c=kd.wrap n->k (.int kd c) h | _=>False
 | some .string,some .string=>match x with | .string a=>k (.string a) h | _=>False
 | some (.slice _),some .string=>∃a:ByteArray,zav P h s d x=some (.string a,h)/\k (.string a) h
 | _,some (.slice _)=>∃(p:Option Addr) (n c:Nat) (h' : AH),zav P h s d x=some (.slice p n c,h')/\k (.slice p n c) h'
 | _,_=>False
def zq6 (P:Program) (t:TypeId) (x:Value) (lo hi mx:Option Value) (h:AH) (k:Value->AH->Prop):Prop:=
 match P.underlying t with
 | some .string=>∃a:ByteArray,zau P h t x lo hi mx=some (.string a)/\k (.string a) h
 | some _=>∃(p:Option Addr) (n c:Nat),zau P h t x lo hi mx=some (.slice p n c)/\k (.slice p n c) h
 | none=>False
def zf2 (P:Program) (t:TypeId) (x i:Value) (k:Value->Prop):Prop:=
 match i with
 | .int _ j=>
   match P.underlying t with
   | some (.array n elem)=>match x with | .pointer p=>zag p (λb off=>match (P.info? elem).isSome with | true=>0<=j/\j < n/\k (ptr b (off+j.toNat * P.cellsOf elem)) | false=>False) | _=>False
   | some (.slice elem)=>match x with | .slice p n _=>zag p (λb off=>match (P.info? elem).isSome with | true=>0<=j/\j < n/\k (ptr b (off+j.toNat * P.cellsOf elem)) | false=>False) | _=>False
   | _=>False
 | _=>False
def zq7 (P:Program) (t:TypeId) (x i:Value) (k:Value->Prop):Prop:=
 match i with
 | .int _ j=>
   match P.underlying t with
   | some (.array n elem)=>match x with | .agg cs=>(match (P.info? elem).isSome with | true=>0<=j/\j < n/\ztK P elem cs.toList (j.toNat * P.cellsOf elem) k | false=>False) | _=>False
   | some .string=>match x with | .string s=>0<=j/\∃c:UInt8,s[j.toNat]?= some c/\k (.int .u8 c.toNat) | _=>False
   | _=>False
 | _=>False
def znc (P:Program) (t:TypeId) (m key:Value) (ok:Bool) (h:AH) (k:Value->Prop):Prop:=
 match P.underlying t with
 | some (.map _ et)=>
   match ok with
   | true=>exT P et λv=>∃b:Bool,zcq P h t m key true=some (.tuple #[v,.bool b])/\k (.tuple #[v,.bool b])
   | false=>exT P et λv=>zcq P h t m key false=some v/\k v
 | _=>False
def zvS (P:Program) (t:TypeId) (l c:Value) (h:AH) (k:Value->AH->Prop):Prop:=
 match l,c,P.underlying t with
 | .int _ l,.int _ c,some (.slice elem)=>
   match P.info? elem,zan P elem with
   | some i,some z=>
     match Nat.beq z.length i.size with
     | true=>(0<=l/\l<=c/\c<=9223372036854775807/\i.bytes * c<=281474976710656)/\
        ∀h1,h1=h.alloc (.cells ((List.replicate c.toNat z).flatten) elem false)->k (.slice (some ⟨h.next,0,none⟩) l.toNat c.toNat) h1
     | false=>False
   | _,_=>False
 | _,_,_=>False
def zxl (it:Value) (h:AH) (k:Value->AH->Prop):Prop:=
 match it with
 | .pointer p=>zag p λr off=>off=0/\∃(s:ByteArray) (pos:Nat),h.get r=some (.siter s pos)/\
    (pos < s.size->∀h1,h1=h.set r (.siter s (pos+(Utf8.decode s pos).2))->k (.tuple #[.bool true,.int .i64 pos,.int .i32 (Utf8.decode s pos).1]) h1)/\(¬pos < s.size->k (.tuple #[.bool false]) h)
 | _=>False
def zkk (P:Program) (b:Builtin) (ats:Array TypeId) (args:List Value) (h:AH) (k:Value->AH->Prop):Prop:=
 match b with
 | .append=>∃(p:Option Addr) (n c:Nat) (h' : AH),zak P h .append ats args=some (.slice p n c,h')/\k (.slice p n c) h'
 | .copy=>∃(m:Int) (h' : AH),zak P h .copy ats args=some (.int .i64 m,h')/\k (.int .i64 m) h'
 | .clear=>∃h' : AH,zak P h .clear ats args=some (undef,h')/\k undef h'
 | .delete=>∃h' : AH,zak P h .delete ats args=some (undef,h')/\k undef h'
 | .min=>match zdK false args with | some (.int kd c0)=>∀c:Int,c=c0->k (.int kd c) h | _=>False
 | .max=>match zdK true args with | some (.int kd c0)=>∀c:Int,c=c0->k (.int kd c) h | _=>False
 | .len=>
   match ats.toList,args with
   | [t],[.map m]=>∃n:Int,zjp P h t (.map m)=some (.int .i64 n)/\k (.int .i64 n) h
   | [t],[x]=>match zjp P h t x with | some v=>k v h | none=>False
   | _,_=>False
 | .cap=>match ats.toList,args with | [t],[x]=>∃n:Int,zuN P t x=some (.int .i64 n)/\k (.int .i64 n) h | _,_=>False
 | _=>False
def zxm (P:Program) (K:Xs) (f:Value) (args:List Value) (h:AH) (k:Value->AH->Prop):Prop:=
 match f with
 | .func (.func g) first cap=>Wf P K g (first.toList ++ args ++ cap.toList) h (zzd P g k)
 | .func (.yield l) first _=>Wy P K l (first.toList ++ args) h λv h'=>∃b:Bool,v=.bool b/\k (.bool b) h'
 | _=>False
def zze:Op->Bool
 | .alloc _ | .box _ _ | .buildSlice _ _ _ | .makeMap _ _ | .range _ _=>true
 | _=>false
def zh1 (P:Program) (o:Oper) (a:Env) (h:AH) (k:Value->AH->Prop):Prop:=
 match aOp P o a h with
 | some (v,h')=>match zze o.op with | true=>∀h1,h1=h'->k v h1 | false=>k v h'
 | none=>False
def vUn (op:UnOp) (x:Value) (k:Value->Prop):Prop:=
 match x with
 | .int kd n=>∃c:Int,aUn op (.int kd n)=some (.int kd c)/\k (.int kd c)
 | x=>match aUn op x with | some v=>k v | none=>False
def zpN (P:Program) (K:Xs) (o:Oper) (a:Env) (h:AH) (k:Value->AH->Prop):Prop:=
 match o.op with
 | .load t x=>match ev a x with | .pointer p=>zag p λb off=>exT P t λv=>ldT P h t b off v/\k v h | _=>False
 | .store t x y=>match ev a x with | .pointer p=>zag p λb off=>zq4 P h t b off (ev a y) λh'=>k undef h' | _=>False
 | .binOp op t x y _=>zzc P op t (ev a x) (ev a y) λv=>k v h
 | .pick c x y=>match ev a c with | .bool b=>cond b (k (ev a x) h) (k (ev a y) h) | _=>False
 | .unOp op _ x=>vUn op (ev a x) λv=>k v h
 | .nilCheck x=>match ev a x with | .pointer p=>zag p λb off=>k (ptr b off) h | _=>zh1 P o a h k
 | .build t parts=>cond (Nat.blt 12 (P.cellsOf t)) (∃vs:List Value,zbA P t (parts.map λ(i,x)=>(i,ev a x))=some (.agg vs.toArray)/\k (.agg vs.toArray) h) (zh1 P o a h k)
 | .buildSlice t n parts=>match P.underlying t with
   | some (.slice elem)=>cond (Nat.blt 12 (P.cellsOf elem)) (∃(p:Option Addr) (m c:Nat) (h' : AH),zas P h t n (parts.map λ(i,x)=>(i,ev a x))=some (.slice p m c,h')/\k (.slice p m c) h') (zh1 P o a h k)
   | _=>False
 | .alloc t=>cond (Nat.blt 200 (P.cellsOf t)) (∃z:List Value,zan P t=some z/\∀h1,h1=h.alloc (.cells z t false)->k (ptr h.next 0) h1) (zh1 P o a h k)
 | .fieldAddr s x f=>match ev a x with | .pointer p=>zag p (λb off=>match zbH P s (ptr b off) f with | some v=>k v h | none=>False) | _=>False
 | .indexAddr t x i=>zf2 P t (ev a x) (ev a i) λv=>k v h
 | .slice t x lo hi mx=>zq6 P t (ev a x) (lo.map (ev a)) (hi.map (ev a)) (mx.map (ev a)) h k
 | .field t x f=>match P.underlying t with | some (.struct fs)=>(match ev a x with | .agg cs=>(match fs[f]? with | some fd=>cond (Nat.blt 12 (P.cellsOf t)) (ztK P fd.type cs.toList fd.offset λv=>k v h) (zq5 P fd.type cs.toList fd.offset λv=>k v h) | none=>False) | _=>False) | _=>False
 | .index t x i=>zq7 P t (ev a x) (ev a i) λv=>k v h
 | .lookup t m key ok=>znc P t (ev a m) (ev a key) ok h λv=>k v h
 | .mapUpdate t m key v=>∃h' : AH,za9 P h t (ev a m) (ev a key) (ev a v)=some h'/\k undef h'
 | .convert s d x=>zkj P s d (ev a x) h k
 | .makeSlice t l c=>zvS P t (ev a l) (ev a c) h k
 | .next it true=>zxl (ev a it) h k
 | .call c=>
   match c.callee with
   | .value f=>zxm P K (ev a f) (c.args.toList.map (ev a)) h k
   | .builtin b=>zkk P b c.argTypes (c.args.toList.map (ev a)) h k
   | _=>False
 | _=>zh1 P o a h k
def vOp (P:Program) (K:Xs) (o:Oper) (a:Env) (h:AH) (k:Value->AH->Prop):Prop:=match zki a o.op with | true=>zpN P K o a h k | false=>False
def vG (ops:Array Oper) (o:Oper) (a:Env) (A B:Prop):Prop:=
 match o.guard with
 | none=>A
 | some (j,w)=>match (ops[j]?).bind (·.dst) with | some d=>(match a.get d with | some (.bool b)=>cond (b == w) A B | some v=>(match isSkip v with | true=>B | false=>False) | none=>False) | none=>False
def zyR (P:Program) (K:Xs) (ops:Array Oper):List Oper->Env->AH->(Env->AH->Prop)->Prop
 | [],a,h,k=>k a h
 | o :: os,a,h,k=>vG ops o a (vOp P K o a h λv h'=>zyR P K ops os (putO a o.dst v) h' k) (zyR P K ops os (putO a o.dst zdt) h k)
def vL (P:Program) (K:Xs) (ops:Array Oper):List Nat->Env->AH->(List (Env×AH)->Prop)->Prop
 | [],a,h,k=>k [(a,h)]
 | j :: js,a,h,k=>
   match ops[j]? with
   | some o=>vG ops o a (vOp P K o a h λv h'=>vL P K ops js (putO a o.dst v) h' λl=>k ((a,h) :: l)) (vL P K ops js (putO a o.dst zdt) h λl=>k ((a,h) :: l))
   | none=>False
def zbh:Value->Bool
 | .bool _ | .int _ _ | .string _ | .pointer _ | .slice _ _ _ | .map _ | .nilFunc | .nilIface=>true
 | _=>false
def zlJ:List Value->Prop->Prop
 | [],X=>X
 | v :: vs,X=>match zbh v with | true=>zlJ vs X | false=>False
def zvT (v:Value) (X:Prop):Prop:=match v with | .agg vs=>zlJ vs.toList X | .tuple vs=>zlJ vs.toList X | v=>match zbh v with | true=>X | false=>False
def zzf (P:Program) (o:Oper) (a:Env) (h:AH) (v:Value):Prop:=
 match zki a o.op with
 | true=>
   match o.op with
   | .load t x=>(match ev a x with | .pointer p=>zag p λb off=>ldT P h t b off v | _=>False)
   | .slice t x lo hi mx=>zau P h t (ev a x) (lo.map (ev a)) (hi.map (ev a)) (mx.map (ev a))=some v
   | .lookup t m key ok=>zcq P h t (ev a m) (ev a key) ok=some v
   | .convert s d x=>∃h',zav P h s d (ev a x)=some (v,h')
   | .call c=>match c.callee with | .builtin b=>(∃h',zak P h b c.argTypes (c.args.toList.map (ev a))=some (v,h')) | _=>False
   | _=>False
 | false=>False
def rr (P:Program) (ops:Array Oper) (ord:List Nat) (l:List (Env×AH)) (p q:Nat) (X:Prop):Prop:=
 match (ord[p]?).bind (ops[·]?),l[p]?,l[p+1]?,l[q]? with
 | some o,some (a,_),some (a1,_),some (_,h)=>vG ops o a (match o.dst with | some d=>(match a1.get d with | some v=>zvT v (zzf P o a h v/\X) | none=>False) | none=>False) X
 | _,_,_,_=>False
def rrs (P:Program) (ops:Array Oper) (ord:List Nat) (l:List (Env×AH)) (X:Prop):List (Nat×Nat)->Prop
 | []=>X
 | (p,q) :: ps=>rr P ops ord l p q (rr P ops ord l p (q+1) (rrs P ops ord l X ps))
def zvU (P:Program) (K:Xs) (ops:Array Oper) (a:Env) (h:AH) (k:Env->AH->Prop):Prop:=
 match zvx P ops with
 | some (ord,ps)=>vL P K ops ord a h λl=>rrs P ops ord l (match l.getLast? with | some (a',h')=>k a' h' | none=>False) ps
 | none=>False
abbrev zqr:=List (Tmp×Value)
def LT:zqr->Type
 | []=>Nat->AH->Prop
 | (_,.int _ _) :: r=>Int->LT r
 | (_,.bool _) :: r=>Bool->LT r
 | (_,.string _) :: r=>ByteArray->LT r
 | (_,.pointer _) :: r=>Option Addr->LT r
 | (_,.slice _ _ _) :: r=>Option Addr->Nat->Nat->LT r
 | (_,.map _) :: r=>Option Nat->LT r
 | (_,_) :: r=>Value->LT r
def zkl:(l:zqr)->LT l->Env->Nat->AH->Prop
 | [],I,_,n,h=>I n h
 | (t,.int kd _) :: r,I,a,n,h=>match a.get t with | some (.int kd' x)=>(match decide (kd=kd') with | true=>zkl r (I x) a n h | false=>False) | _=>False
 | (t,.bool _) :: r,I,a,n,h=>match a.get t with | some (.bool x)=>zkl r (I x) a n h | _=>False
 | (t,.string _) :: r,I,a,n,h=>match a.get t with | some (.string x)=>zkl r (I x) a n h | _=>False
 | (t,.pointer _) :: r,I,a,n,h=>match a.get t with | some (.pointer x)=>zkl r (I x) a n h | _=>False
 | (t,.slice _ _ _) :: r,I,a,n,h=>match a.get t with | some (.slice x y z)=>zkl r (I x y z) a n h | _=>False
 | (t,.map _) :: r,I,a,n,h=>match a.get t with | some (.map x)=>zkl r (I x) a n h | _=>False
 | (t,.func f x y) :: r,I,a,n,h=>match a.get t with | some v=>zkl r (I v) a n h | _=>False
 | (t,.nilFunc) :: r,I,a,n,h=>match a.get t with | some v=>zkl r (I v) a n h | _=>False
 | (t,.agg _) :: r,I,a,n,h=>match a.get t with | some v=>zkl r (I v) a n h | _=>False
 | (_,_) :: r,I,a,n,h=>False
def zov:(l:zqr)->LT l->Env->Nat->AH->(Env->Prop)->Prop
 | [],I,a,n,h,k=>I n h->k a
 | (t,.int kd _) :: r,I,a,n,h,k=>∀x:Int,zov r (I x) (a.set t (.int kd x)) n h k
 | (t,.bool true) :: r,I,a,n,h,k=>zov r (I true) (a.set t (.bool true)) n h k/\zov r (I false) (a.set t (.bool false)) n h k
 | (t,.bool false) :: r,I,a,n,h,k=>∀x:Bool,zov r (I x) (a.set t (.bool x)) n h k
 | (t,.string _) :: r,I,a,n,h,k=>∀x:ByteArray,zov r (I x) (a.set t (.string x)) n h k
 | (t,.pointer _) :: r,I,a,n,h,k=>∀x:Option Addr,zov r (I x) (a.set t (.pointer x)) n h k
 | (t,.slice _ _ _) :: r,I,a,n,h,k=>∀(x:Option Addr) (y z:Nat),zov r (I x y z) (a.set t (.slice x y z)) n h k
 | (t,.map _) :: r,I,a,n,h,k=>∀x:Option Nat,zov r (I x) (a.set t (.map x)) n h k
 | (t,.func f x y) :: r,I,a,n,h,k=>∀v:Value,zov r (I v) (a.set t v) n h k
 | (t,.nilFunc) :: r,I,a,n,h,k=>∀v:Value,zov r (I v) (a.set t v) n h k
 | (t,.agg _) :: r,I,a,n,h,k=>∀v:Value,zov r (I v) (a.set t v) n h k
 | (_,_) :: r,I,a,n,h,k=>True
def znd:Code->List Tmp
 | .region _ ops _=>ops.toList.filterMap (·.dst)
 | .seq a b=>znd a ++ znd b
 | .cond _ a b=>znd a ++ znd b
 | .block _ c=>znd c
 | .loop c=>znd c
 | .scope c=>znd c
 | _=>[]
def zow (a:Env):List Tmp->Env
 | []=>a
 | t :: ts=>zow (a.del t) ts
def zf3:Code->Option Nat
 | .region id _ _=>some id
 | .seq a b=>match zf3 a with | some k=>some k | none=>zf3 b
 | .cond _ a b=>match zf3 a with | some k=>some k | none=>zf3 b
 | .block _ c=>zf3 c
 | .loop c=>zf3 c
 | .scope c=>zf3 c
 | .rangeFunc _ _ a b=>match zf3 a with | some k=>some k | none=>zf3 b
 | _=>none
def zq8:List (Nat×zqr)->Option Nat->Option zqr
 | (i,l) :: r,some k=>cond (Nat.beq i k) (some l) (zq8 r (some k))
 | _,_=>none
def zqs:zqr->Env->(List Value->Env->Prop)->Prop
 | [],a,k=>k [] a
 | (t,.int kd _) :: r,a,k=>∀x:Int,zqs r (a.set t (.int kd x)) λvs a'=>k (.int kd x :: vs) a'
 | (t,.bool _) :: r,a,k=>∀x:Bool,zqs r (a.set t (.bool x)) λvs a'=>k (.bool x :: vs) a'
 | (t,.string _) :: r,a,k=>∀x:ByteArray,zqs r (a.set t (.string x)) λvs a'=>k (.string x :: vs) a'
 | (t,.pointer _) :: r,a,k=>∀x:Option Addr,zqs r (a.set t (.pointer x)) λvs a'=>k (.pointer x :: vs) a'
 | (t,.slice _ _ _) :: r,a,k=>∀(x:Option Addr) (y z:Nat),zqs r (a.set t (.slice x y z)) λvs a'=>k (.slice x y z :: vs) a'
 | (t,.map _) :: r,a,k=>∀x:Option Nat,zqs r (a.set t (.map x)) λvs a'=>k (.map x :: vs) a'
 | (t,_) :: r,a,k=>∀v:Value,zqs r (a.set t v) λvs a'=>k (v :: vs) a'
def zaY (l:Nat) (h h' : AH):Prop:=h'.next=h.next/\∀c,c≠l->h'.get c=h.get c
def zxn:AX->AX->Bool
 | .normal,.normal=>true
 | .exit i,.exit j=>Nat.beq i j
 | .ret,.ret=>true
 | _,_=>false
def zeW (x:AX):List AX->Bool
 | []=>false
 | y :: ys=>zxn x y || zeW x ys
def ztL:List AX->List AX->List AX
 | [],l=>l
 | x :: xs,l=>cond (zeW x l) (ztL xs l) (x :: ztL xs l)
def zeE:Code->List AX
 | .seq a b=>ztL (zeE a) (zeE b)
 | .cond _ a b=>ztL (zeE a) (zeE b)
 | .block id c=>(zeE c).filter λx=>!zxn x (.exit id)
 | .loop c=>zeE c
 | .scope c=>zeE c
 | .exit id=>[.exit id]
 | .ret=>[.ret]
 | .rangeFunc _ _ _ b=>zeE b
 | _=>[]
def zvV (l:List AX) (k:AX->Prop) (rest:Prop):Prop:=match l with | []=>rest | x :: xs=>k x/\zvV xs k rest
def zq9 (rd:Option Nat) (h:AH) (X:Prop):Prop:=match rd with | none=>X | some l=>(∃L,h.get l=some (.loop L))/\X
def vc (P:Program) (K:Xs) (hs:List (Nat×zqr)) (rd:Option Nat):Code->Env->AH->(AX->Env->AH->Prop)->Prop
 | .skip,a,h,Q=>Q .normal a h
 | .label _,a,h,Q=>Q .normal a h
 | .region _ ops draw,a,h,Q=>match draw with | false=>zyR P K ops ops.toList a h λa' h'=>Q .normal a' h' | true=>zvU P K ops a h λa' h'=>Q .normal a' h'
 | .seq c d,a,h,Q=>vc P K hs rd c a h (onN (λa' h'=>vc P K hs rd d a' h' Q) Q)
 | .cond c x y,a,h,Q=>match zlI a c with | true=>(match ev a c with | .bool t=>cond t (vc P K hs rd x a h Q) (vc P K hs rd y a h Q) | _=>False) | false=>False
 | .block id c,a,h,Q=>vc P K hs rd c a h (zi9 id Q)
 | .loop c,a,h,Q=>
   match zq8 hs (zf3 c) with
   | some l=>∃I:LT l,(∃n,zkl l I a n h)/\∀n h',zov l I (zow a (znd c)) n h' λa'=>vc P K hs rd c a' h' (onN (λa2 h2=>∃j,j < n/\zkl l I a2 j h2) Q)
   | none=>False
 | .scope c,a,h,Q=>vc P K hs rd c a h Q
 | .exit id,a,h,Q=>Q (.exit id) a h
 | .ret,a,h,Q=>Q .ret a h
 | .rangeFunc f ps assign body,a,h,Q=>
   zq9 rd h (match zlI a f with
   | true=>
     match ev a f,zq8 hs (match zf3 assign with | some k=>some k | none=>zf3 body) with
     | .func (.func g) first cap,some pl=>
       ∃(J:Nat->AH->Prop) (D:AX->AH->Prop) (N:Nat) (item:Nat->List Value) (G B:AH->AH->Prop),
        (K g=none/\ps.toList=pl.map (·.1))/\
        (∀i,i < N->exL (pl.map (·.2)) λvs=>item i=vs)/\
        (∀h1,h1.next=h.next+1->(∀c,c≠h.next->h1.get c=h.get c)->J 0 h1)/\
        (∀i h1 h2,J i h1->zaY h.next h1 h2->J i h2)/\
        (∀x h1 h2,D x h1->zaY h.next h1 h2->D x h2)/\
        (∀i h1 h2,J i h1->G h1 h2->J i h2)/\(∀x h1 h2,D x h1->G h1 h2->D x h2)/\(∀h1 h2,G h1 h2->h2.get h.next=h1.get h.next)/\
        (∀i h1,i < N->J i h1->(∃L,h1.get h.next=some (.loop L))->zqs pl a λvs a'=>item i=vs->
          vc P K hs (some h.next) assign a' h1 λx a2 h2=>x=.normal/\h2.get h.next=h1.get h.next/\
           ∀h3,zaY h.next h2 h3->(∃L,h3.get h.next=some (.loop L))->vc P K hs (some h.next) body a2 h3 λx a4 h4=>h4.get h.next=h3.get h.next/\(match x with | .normal=>J (i+1) h4 | x=>D x h4)/\∀h5,zaY h.next h4 h5->B h1 h5)/\
        (∀(JJ:Nat->AH->Prop) (DD:AH->Prop),(∀i h1,JJ i h1->J i h1)->(∀i h1 h2,JJ i h1->G h1 h2->JJ i h2)->(∀h1 h2,DD h1->G h1 h2->DD h2)->
          (∀i h1,i < N->JJ i h1->Wy P K h.next (item i) h1 λv h2=>((v=.bool true/\JJ (i+1) h2)\/(v=.bool false/\DD h2))/\B h1 h2)->
          ∀h1,JJ 0 h1->Wf P K g (first.toList ++ [Value.func (Fn.yield h.next) #[] #[]] ++ cap.toList) h1 λ_ h2=>JJ N h2\/DD h2)/\
        (∀h1,J N h1->Q .normal a (h1.del h.next))/\
        zvV (zeE body) (λx=>∀h1,D x h1->Q x a (h1.del h.next)) (∀x h1,x≠.normal->D x h1->zeW x (zeE body)=true)
     | _,_=>False
   | false=>False)
 | _,_,_,_=>False
def ztM (P:Program) (a:Env) (h:AH) (r:ResultVar) (k:Value->Prop):Prop:=
 match r with
 | .tmp t=>match a.get t with | some v=>k v | none=>False
 | .cell x t=>match a.get x with | some (.pointer p)=>zag p λb off=>exT P t λv=>ldT P h t b off v/\k v | _=>False
def zyS (P:Program) (a:Env) (h:AH):List ResultVar->(List Value->Prop)->Prop
 | [],k=>k []
 | r :: rs,k=>ztM P a h r λv=>zyS P a h rs λvs=>k (v :: vs)
def one (vs:List Value):Value:=match vs with | [v]=>v | vs=>.tuple vs.toArray
def vcF (P:Program) (K:Xs) (hs:List (Nat×zqr)) (f:FuncId) (args:List Value) (h:AH) (Q:Value->AH->Prop):Prop:=
 match P.funcs[f]? with
 | some fn=>
   match fn.body with
   | some c=>vc P K hs none c (Tr.ofList args) h λx a h'=>match x with | .exit _=>False | _=>zyS P a h' fn.results.toList λvs=>Q (one vs) h'
   | none=>False
 | none=>False
end
section
variable {P:Program} {K:Xs}
theorem zeX {r:Ex} {ks:List Tmp} {ops:Array Oper}:∀{os:List Oper} {e e' : Env} {h h' : AH},zbi P K r ks ops os e h=some (e',h')->∀t,t∉os.filterMap (·.dst)->e'.get t=e.get t
 | [],e,e',h,h',hs,t,ht=>by grind[zbi]
 | o :: os,e,e',h,h',hs,t,ht=>by
   have hput:∀v,(putO e o.dst v).get t=e.get t:=by
    intro v
    cases hd:o.dst with
    | none=>rfl
    | some d=>grind[zdO,Tr.get_set]
   have ht2:t∉os.filterMap (·.dst):=by grind
   unfold zbi at hs
   split at hs
   ·split at hs
    ·rw[zeX hs t ht2,hput]
    grind
   ·rw[zeX hs t ht2,hput]
   grind
theorem zh2 {r:Ex} {ops:Array Oper}:∀{os:List Nat} {e:Env} {h:AH} {l:List (Env×AH)},zcY P K r ops os e h=some l->∀y,l.getLast?= some y->∀t,t∉ops.toList.filterMap (·.dst)->y.1.get t=e.get t
 | [],e,h,l,hs,y,hy,t,ht=>by grind[zcY]
 | j :: js,e,h,l,hs,y,hy,t,ht=>by
   unfold zcY at hs
   split at hs
   rotate_left
   ·grind
   rename_i o ho
   have hput:∀v,(putO e o.dst v).get t=e.get t:=by
    intro v
    cases hd:o.dst with
    | none=>rfl
    | some d=>grind[zdO,Tr.get_set]
   have last:∀{e1 h1 l1},zcY P K r ops js e1 h1=some l1->((e,h) :: l1).getLast?= some y->l1.getLast?= some y:=by grind[zvP]
   split at hs
   ·split at hs
    ·split at hs
     ·rename_i l1 hl1
      simp only[Qa] at hs
      subst hs
      rw[zh2 hl1 y (last hl1 hy) t ht,hput]
     grind
    grind
   ·split at hs
    ·rename_i l1 hl1
     simp only[Qa] at hs
     subst hs
     rw[zh2 hl1 y (last hl1 hy) t ht,hput]
    grind
   grind
theorem zne {r:Ex} {ops:Array Oper} {e e' : Env} {h h' : AH} (hs:zb8 P K r ops e h=some (e',h')) (t:Tmp) (ht:t∉ops.toList.filterMap (·.dst)):e'.get t=e.get t:=by
 unfold zb8 at hs
 grind[zh2]
def zra (r:Ex):Prop:=∀rd ks c e h x e' h',r rd ks c e h=some (x,e',h')->∀t,t∉znd c->e'.get t=e.get t
theorem znf {r:Ex} (F:zra r):zra (zaJ P K r):=by
 intro rd ks c e h x e' h' hs t ht
 cases c with
 | skip=>grind[zaJ]
 | label _=>grind[zaJ]
 | region id ops draw=>
   cases draw with
   | false=>
     simp only[zaJ] at hs
     split at hs
     ·rename_i e1 h1 hr
      simp only[Qa,Qg] at hs
      rw[<-hs.2.1]
      exact zeX hr t ht
     grind
   | true=>
     simp only[zaJ] at hs
     split at hs
     ·rename_i e1 h1 hr
      simp only[Qa,Qg] at hs
      rw[<-hs.2.1]
      exact zne hr t ht
     grind
 | seq a b=>
   simp only[znd,QE,not_or] at ht
   simp only[zaJ] at hs
   split at hs
   ·rename_i e1 h1 hr
    rw[F _ _ _ _ _ _ _ _ hs t ht.2,F _ _ _ _ _ _ _ _ hr t ht.1]
   ·exact F _ _ _ _ _ _ _ _ hs t ht.1
 | cond c a b=>
   simp only[znd,QE,not_or] at ht
   simp only[zaJ] at hs
   split at hs
   ·rename_i tt _
    cases tt
    ·exact F _ _ _ _ _ _ _ _ hs t ht.2
    ·exact F _ _ _ _ _ _ _ _ hs t ht.1
   grind
 | block id c=>
   simp only[zaJ] at hs
   split at hs
   ·rename_i i e1 h1 hr
    have:=F _ _ _ _ _ _ _ _ hr t ht
    grind
   ·exact F _ _ _ _ _ _ _ _ hs t ht
 | loop c=>
   simp only[zaJ] at hs
   split at hs
   ·rename_i e1 h1 hr
    rw[F _ _ _ _ _ _ _ _ hs t (by grind[znd]),F _ _ _ _ _ _ _ _ hr t ht]
   ·exact F _ _ _ _ _ _ _ _ hs t ht
 | scope c=>exact F _ _ _ _ _ _ _ _ hs t (by grind[znd])
 | exit id=>grind[zaJ]
 | ret=>grind[zaJ]
 | rangeFunc f ps as b=>
   simp only[zaJ] at hs
   split at hs
   all_goals grind[zct]
 | goto _=>grind[zaJ]
 | refuse _=>grind[zaJ]
theorem zrb:∀n,zra (ex P K n)
 | 0=>λrd ks c e h x e' h' hs=>by grind[ex]
 | n+1=>znf (zrb n)
theorem zvW {rd:Option Nat} {c:Code} {e:Env} {h:AH} {Q:AX->Env->AH->Prop} (w:Wc P K rd c e h Q):Wc P K rd c e h λx e' h'=>Q x e' h'/\∀t,t∉znd c->e'.get t=e.get t:=by
 obtain⟨n,x,e',h',h1,h2⟩:=w
 exact⟨n,x,e',h',h1,h2,zrb n _ _ _ _ _ _ _ _ h1⟩
theorem zox {z:Value} {k:Value->Prop} (w:exV z k):∃v,k v:=by
 unfold exV at w
 grind
theorem zoy:∀{zs:List Value} {k:List Value->Prop},exL zs k->∃vs,k vs
 | [],k,w=>⟨_,w⟩
 | z :: zs,k,w=>by
   obtain⟨v,w⟩:=zox w
   obtain⟨vs,w⟩:=zoy w
   grind
theorem zng {b:Bool} {A B:Prop} (w:cond b A B):A\/B:=by grind
theorem zcO {t:TypeId} {k:Value->Prop} (w:exT P t k):∃v,k v:=by
 unfold exT at w
 split at w
 ·rcases zng w with w | w
  ·grind
  ·split at w
   ·obtain⟨vs,w⟩:=zoy w; grind
   grind
 all_goals grind[zox]
theorem zlK:∀{ts:List TypeId} {k:List Value->Prop},zza P ts k->∃vs,k vs
 | [],k,w=>⟨_,w⟩
 | t :: ts,k,w=>by
   obtain⟨v,w⟩:=zcO w
   obtain⟨vs,w⟩:=zlK w
   grind
theorem zbm {p:Option Addr} {k:Nat->Nat->Prop} (w:zag p k):∃b off,p=some ⟨b,off,none⟩/\k b off:=by
 unfold zag at w
 grind
theorem zkm {h:AH} {t:TypeId} {b off:Nat} {v:Value} (w:ldT P h t b off v):zbJ P h t (.pointer (some ⟨b,off,none⟩))=some v:=by
 unfold ldT at w
 split at w
 ·rename_i ht
  split at w
  ·rw[zq3 ht]
   unfold ldN at w
   unfold zvR
   split at w
   all_goals simp_all
  grind
 ·rename_i ht
  rw[zq2 ht]
  exact w
 grind
theorem zlL {h:AH} {t:TypeId} {b off:Nat} {v:Value} {k:AH->Prop} (w:zq4 P h t b off v k):∃h',zbK P h t (.pointer (some ⟨b,off,none⟩)) v=some h'/\k h':=by
 unfold zq4 at w
 split at w
 ·grind
 rename_i hi
 split at w
 ·split at w
  ·obtain⟨hl,h',hs,hk⟩:=w
   refine⟨h',?_,hk⟩
   rw[zpM hi,if_pos (by omega)]
   exact hs
  grind
 ·split at w
  ·rename_i hc
   rw[Qd] at hc
   obtain⟨h',hs,hk⟩:=w
   exact⟨h',by rw[zpL (by simp_all) hi hc.1]; exact hs,hk⟩
  grind
 grind
theorem zjz {t:TypeId} {cs:Array Value} {off:Nat} {k:Value->Prop} (w:ztK P t cs.toList off k):∃v,aPart P t cs off=some v/\k v:=by
 unfold ztK at w
 split at w
 ·obtain⟨v,hv,hk⟩:=zcO w
  grind[aPart,Array.ext',Array.toList_extract]
 ·obtain⟨v,hv,hk⟩:=zcO w
  grind[aPart]
 grind
theorem znh {t:TypeId} {cs:Array Value} {off:Nat} {k:Value->Prop} (w:zq5 P t cs.toList off k):∃v,aPart P t cs off=some v/\k v:=by
 unfold zq5 at w
 grind[aPart,Value.agg.injEq,Array.toList_extract]
end
end Go.Am
