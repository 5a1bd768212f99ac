/-
  Texts of this proof, part 19. No condition.
-/
import Derived.Test.YtmnbboleclchcaaGreatFVScr
set_option linter.unusedSimpArgs false
set_option linter.unusedVariables false
namespace Go.Am
noncomputable section
def InR (k:IntKind) (x:Int):Prop:=kLo k<=x/\x<=kHi k
def AI (k:IntKind) (v:Int) (q:Int->Prop):Prop:=∀c:Int,InR k c->(kLo k<=v->v<=kHi k->c=v)->q c
def AN (k:IntKind) (q:Int->Prop):Prop:=∀c:Int,InR k c->q c
def IT (p A B:Prop):Prop:=(p->A)/\(¬p->B)
def AL (n:Nat) (q:Prop):Prop:=(n:Int)<=281474976710656->q
def IX (j:Int) (n:Nat) (q:Prop):Prop:=(0<=j/\j < n)/\q
def RM (n b:Nat) (q:Prop):Prop:=n * b<=zaA/\q
def EI (y x:Int) (q:Prop):Prop:=y=x/\q
def EN (y x:Nat) (q:Prop):Prop:=y=x/\q
def zoL (q:TV->Prop):Prop:=q (.bool true)/\q (.bool false)
def zjq (f:TV->Option TV):Tr TV->Tr TV
 | .nil=>.nil
 | .node v l r=>.node (match v with | some v=>f v | none=>none) (zjq f l) (zjq f r)
mutual
def zas (tag:Nat):TV->Bool
 | .loc t _ _=>Nat.beq t tag
 | .pp t _=>Nat.beq t tag
 | .ap t _ _ _=>Nat.beq t tag
 | .sp t _ _=>Nat.beq t tag
 | .agg l=>mentionsL tag l
 | .tup l=>mentionsL tag l
 | .fn _ a c=>mentionsL tag a || mentionsL tag c
 | _=>false
def mentionsL (tag:Nat):List TV->Bool
 | []=>false
 | v :: l=>zas tag v || mentionsL tag l
end
mutual
def tagsOf:TV->List Nat
 | .loc t _ _=>[t]
 | .pp t _=>[t]
 | .ap t _ _ _=>[t]
 | .sp t _ _=>[t]
 | .fn _ a c=>tagsOfL a ++ tagsOfL c
 | .agg l=>tagsOfL l
 | .tup l=>tagsOfL l
 | _=>[]
def tagsOfL:List TV->List Nat
 | []=>[]
 | v :: l=>tagsOf v ++ tagsOfL l
end
def zwn (tag:Nat) (v:TV):Option TV:=match zas tag v with | true=>none | false=>some v
def zd0 (tag:Nat):List (Nat×PC)->List (Nat×PC)
 | []=>[]
 | (t,c) :: l=>match Nat.beq t tag with | true=>zd0 tag l | false=>(t,c) :: zd0 tag l
def zaD:List (Nat×PC)->Nat->Option PC
 | [],_=>none
 | (t,c) :: l,tag=>match Nat.beq t tag with | true=>some c | false=>zaD l tag
def zpX:List (Nat×PC)->Nat->PC->List (Nat×PC)
 | [],_,_=>[]
 | (t,c) :: l,tag,d=>match Nat.beq t tag with | true=>(t,d) :: l | false=>(t,c) :: zpX l tag d
def zd1 (tag:Nat) (σ:Sx):Sx:={ σ with a:=zjq (zwn tag) σ.a,pv:=zd0 tag σ.pv }
def zbf (tag:Nat) (c:PC) (σ:Sx):Sx:={ a:=zjq (zwn tag) σ.a,pv:=(tag,c) :: zd0 tag σ.pv,g:=σ.g }
def zu8 (σ:Sx) (d:Option Tmp) (v:TV):Sx:=match d with | some t=>{ σ with a:=σ.a.set t v } | none=>σ
def zzc (off T:Nat) (t:Option Nat):Bool:=match t with | some t=>Nat.beq off 0 && Nat.beq T t | none=>false
mutual
def zcY (tag:Nat) (t:Option Nat):TV->TV
 | .loc g off T=>match Nat.beq g tag with | true=>(match zzc off T t with | true=>.hp T | false=>.cp true true T) | false=>.loc g off T
 | .pp g T=>match Nat.beq g tag with | true=>.cp true true T | false=>.pp g T
 | .ap g T n kc=>match Nat.beq g tag with | true=>.sl true true kc T n | false=>.ap g T n kc
 | .sp g T n=>match Nat.beq g tag with | true=>.sl true true true T n | false=>.sp g T n
 | .fn f a c=>.fn f (pubL tag t a) (pubL tag t c)
 | .agg l=>.agg (pubL tag t l)
 | .tup l=>.tup (pubL tag t l)
 | v=>v
def pubL (tag:Nat) (t:Option Nat):List TV->List TV
 | []=>[]
 | v :: l=>zcY tag t v :: pubL tag t l
end
def zzI (s:ByteArray):Bool:=Nat.ble s.size za8
def zu9:Value->Option TV
 | .bool b=>some (.bool b)
 | .int k n=>match decide (kLo k<=n) && decide (n<=kHi k) with | true=>some (.int k n) | false=>none
 | .string s=>match zzI s with | true=>some (.str s) | false=>none
 | .pointer none=>some .nilp
 | .slice none 0 0=>some .nils
 | _=>none
def evT (a:Tr TV):Operand->Option TV
 | .tmp t=>a.get t
 | .const v=>zu9 v
 | .func f=>some (.fn f [] [])
 | .global _=>none
def evs (a:Tr TV):List Operand->Option (List TV)
 | []=>some []
 | x :: xs=>match evT a x with | some v=>(match evs a xs with | some l=>some (v :: l) | none=>none) | none=>none
def onV (x:Option TV) (k:TV->Prop):Prop:=match x with | some v=>k v | none=>False
section
variable (X:Cx)
def zzd (T:Nat) (k:TV->Prop):Prop:=
 match ck X T with
 | .int kd lo hi=>match spN T with | true=>∀x:Int,lo<=x->x<=hi->k (.int kd x) | false=>AN kd λx=>k (.int kd x)
 | .bool=>zoL k
 | .str=>∀s:ByteArray,s.size<=za8->k (.str s)
 | .ptr t=>k (.hp t)
 | .sl e=>∀n:Nat,n<=big->k (.sl false false false e n)
 | .ss e=>∀n:Nat,n<=za8->k (.sl false false false e n)
 | .no=>False
def zxF:List Nat->(List TV->Prop)->Prop
 | [],k=>k []
 | T :: Ts,k=>zzd X T λv=>zxF Ts λvs=>k (v :: vs)
def zrN (T t:Nat) (k:TV->Prop):Prop:=
 match isAgg X t with
 | some true=>match Nat.beq T t with | true=>k (.aggT T) | false=>False
 | some false=>match Nat.beq T t || Nat.beq T r4 || (shB T && Nat.beq T (shK t)) with | true=>zzd X T k | false=>False
 | none=>False
def fit (T:Nat) (v:TV) (q:Prop):Prop:=
 match ck X T with
 | .int k lo hi=>match v with | .int k' x=>(match decide (k=k') with | true=>(match spN T with | true=>(lo<=x/\x<=hi)/\q | false=>q) | false=>False) | _=>False
 | .bool=>match v with | .bool _=>q | _=>False
 | .str=>match v with | .str _=>q | _=>False
 | .ptr t=>match v with | .hp T'=>(match Nat.beq t T' with | true=>q | false=>False) | _=>False
 | .sl e=>match v with | .sl _ _ _ T' n=>(match Nat.beq e T' with | true=>n<=big/\q | false=>False) | .nils=>q | _=>False
 | .ss e=>match v with | .sl _ _ _ T' n=>(match Nat.beq e T' with | true=>n<=za8/\q | false=>False) | .nils=>q | _=>False
 | .no=>False
def zxe:List Nat->List TV->Prop->Prop
 | [],[],q=>q
 | T :: Ts,v :: vs,q=>fit X T v (zxe Ts vs q)
 | _,_,_=>False
def zpY (T:Nat) (v:TV) (q:Prop):Prop:=
 match v with
 | .aggT T'=>match Nat.beq T T' && (match isAgg X T with | some true=>true | _=>false) with | true=>q | false=>False
 | .agg l=>match isAgg X T with | some true=>zxe X (X.fl T) l q | _=>False
 | v=>match isAgg X T with | some true=>False | _=>(match X.fl T with | [T']=>(match Nat.beq T T' with | true=>fit X T v q | false=>False) | _=>False)
def pub1 (tag:Nat) (σ:Sx) (k:Sx->Prop):Prop:=
 match zaD σ.pv tag with
 | some (.tv t l)=>match Nat.beq t X.dt with | true=>False | false=>zxe X (X.fl t) l (k { a:=zjq (λv=>some (zcY tag (some t) v)) σ.a,pv:=zd0 tag σ.pv,g:=σ.g })
 | some (.ty t)=>match Nat.beq t X.dt with | true=>False | false=>k { a:=zjq (λv=>some (zcY tag (some t) v)) σ.a,pv:=zd0 tag σ.pv,g:=σ.g }
 | some (.rows T _)=>k { a:=zjq (λv=>some (zcY tag none v)) σ.a,pv:=zd0 tag σ.pv,g:=σ.g }
 | none=>False
def pubs:List Nat->Sx->(Sx->Prop)->Prop
 | [],σ,k=>k σ
 | t :: ts,σ,k=>match zaD σ.pv t with | none=>pubs ts σ k | some _=>pub1 X t σ λσ'=>pubs ts σ' k
def openV (σ:Sx) (x:Operand) (k:TV->Sx->Prop):Prop:=
 onV (evT σ.a x) λv=>pubs X (tagsOf v) σ λσ'=>onV (evT σ'.a x) λv'=>match tagsOf v' with | []=>k v' σ' | _=>False
def zzJ (op:BinOp) (k:IntKind) (i j:Int) (q:TV->Prop):Prop:=
 match op with
 | .add=>AI k (i+j) λc=>q (.int k c)
 | .sub=>AI k (i - j) λc=>q (.int k c)
 | .mul=>AI k (i * j) λc=>q (.int k c)
 | .quo=>j≠0/\∀c:Int,InR k c->(0<=i->0 < j->c=i / j)->q (.int k c)
 | .rem=>j≠0/\∀c:Int,InR k c->(0<=i->0 < j->c=i % j)->q (.int k c)
 | .and=>AN k λc=>q (.int k c)
 | .or=>AN k λc=>q (.int k c)
 | .xor=>AN k λc=>q (.int k c)
 | .andNot=>AN k λc=>q (.int k c)
 | .eql=>IT (i=j) (q (.bool true)) (q (.bool false))
 | .neq=>IT (i=j) (q (.bool false)) (q (.bool true))
 | .lss=>IT (i < j) (q (.bool true)) (q (.bool false))
 | .leq=>IT (i<=j) (q (.bool true)) (q (.bool false))
 | .gtr=>IT (j < i) (q (.bool true)) (q (.bool false))
 | .geq=>IT (j<=i) (q (.bool true)) (q (.bool false))
 | _=>False
def zxG (op:BinOp):Option Bool:=match op with | .eql=>some true | .neq=>some false | _=>none
def tEq (op:BinOp) (z:Bool) (q:TV->Prop):Prop:=match zxG op with | some w=>q (.bool (z == w)) | none=>False
def zzK (op:BinOp) (t:TypeId) (x y:TV) (q:TV->Prop):Prop:=
 match x with
 | .int k i=>
   match y with
   | .int k' j=>
     match op with
     | .shl=>0<=j/\AN k λc=>q (.int k c)
     | .shr=>0<=j/\∀c:Int,InR k c->(0<=i->0<=c/\c<=i)->q (.int k c)
     | op=>match decide (k=k') with | true=>zzJ op k i j q | false=>False
   | _=>False
 | .str a=>
   match y with
   | .str b=>match op with | .add=>a.size+b.size<=za8/\∀s:ByteArray,s.size=a.size+b.size->q (.str s) | .eql=>(a.size=b.size->q (.bool true))/\q (.bool false) | .neq=>(a.size=b.size->q (.bool false))/\q (.bool true) | .lss=>zoL q | _=>False
   | _=>False
 | .bool a=>match y,und X t with | .bool b,some .bool=>tEq op (a == b) q | _,_=>False
 | .np T z=>match y,und X t with | .nilp,some (.pointer _)=>tEq op z q | _,_=>False
 | .hp T=>match y,und X t with | .nilp,some (.pointer _)=>tEq op false q | _,_=>False
 | .nilp=>match y,und X t with | .nilp,some (.pointer _)=>tEq op true q | _,_=>False
 | .aggT T=>match Nat.beq T t,X.ke t,zxG op with | true,true,some _=>zpY X t y (zoL q) | _,_,_=>False
 | .agg l=>match X.ke t,zxG op with | true,some _=>zpY X t (.agg l) (zpY X t y (zoL q)) | _,_=>False
 | _=>False
def zbC (σ:Sx) (tag:Nat):Bool:=match zaD σ.pv tag with | some (.ty _)=>true | some (.rows _ _)=>true | _=>false
def zwo (s d:TypeId) (dst:Option Tmp) (x:Operand) (σ:Sx) (k:TV->Sx->Prop):Prop:=
 match und X s,und X d with
 | some (.int _),some (.int kd)=>onV (evT σ.a x) λv=>match v with | .int _ n=>AI kd n λc=>k (.int kd c) σ | _=>False
 | some .string,some .string=>onV (evT σ.a x) λv=>match v with | .str a=>k (.str a) σ | _=>False
 | some .string,some (.slice e)=>onV (evT σ.a x) λv=>match v,dst,ck X e with | .str a,some t,.int .u8 _ _=>(match Nat.beq (sz X e) 1 with | true=>k (.ap t e a.size false) (zbf t (.rows e e) σ) | false=>False) | _,_,_=>False
 | some (.slice e),some .string=>onV (evT σ.a x) λv=>match ck X e with
   | .int .u8 _ _=>(match v with | .sl _ _ _ T n=>(match Nat.beq T e with | true=>n<=za8/\∀a:ByteArray,a.size=n->k (.str a) σ | false=>False) | .ap tag T n _=>(match Nat.beq T e && zbC σ tag with | true=>n<=za8/\∀a:ByteArray,a.size=n->k (.str a) σ | false=>False) | _=>False)
   | _=>False
 | _,_=>False
def zrO (T:Nat):Option TV:=match ck X T with | .int k _ _=>some (.int k 0) | .bool=>some (.bool false) | .str=>some (.str ⟨#[]⟩) | .ptr _=>some .nilp | .sl _=>some .nils | .ss _=>none | .no=>none
def zeros:List Nat->Option (List TV)
 | []=>some []
 | T :: Ts=>match zrO X T with | some v=>(match zeros Ts with | some l=>some (v :: l) | none=>none) | none=>none
def zg7 (t:TypeId):Bool:=(X.fl t).all λT=>match ck X T with | .ptr _=>false | .ss _=>false | .no=>false | _=>true
def zkJ (t:TypeId):Bool:=Nat.ble (X.fl t).length 12 && (match und X t with | some (.array _ _)=>false | some _=>true | none=>false)
def zrP (t:TypeId) (dst:Option Tmp) (σ:Sx) (k:TV->Sx->Prop):Prop:=
 match dst with
 | some d=>
   match zkJ X t with
   | true=>match zeros X (X.fl t) with | some l=>k (.loc d 0 t) (zbf d (.tv t l) σ) | none=>False
   | false=>match zg7 X t && (inf X t).isSome with | true=>k (.loc d 0 t) (zbf d (.ty t) σ) | false=>False
 | none=>False
def zoM (t:TypeId) (v:TV) (k:List TV->Prop):Prop:=
 match v with
 | .aggT T=>match Nat.beq T t,isAgg X t with | true,some true=>zxF X (X.fl t) k | _,_=>False
 | .agg l=>match isAgg X t,Nat.beq l.length (sz X t) with | some true,true=>k l | _,_=>False
 | .tup _=>False
 | .fn _ _ _=>False
 | .skip=>False
 | .any=>False
 | v=>match isAgg X t,Nat.beq (sz X t) 1 with | some false,true=>k [v] | _,_=>False
def zzL (t:TypeId) (x:Operand) (dst:Option Tmp) (σ:Sx) (k:TV->Sx->Prop):Prop:=
 match dst with
 | some d=>openV X σ x λv σ'=>
   match zkJ X t with
   | true=>zoM X t v λl=>k (.loc d 0 t) (zbf d (.tv t l) σ')
   | false=>zpY X t v (k (.loc d 0 t) (zbf d (.ty t) σ'))
 | none=>False
def zwp (t:TypeId) (x:Operand) (σ:Sx) (k:TV->Sx->Prop):Prop:=
 onV (evT σ.a x) λv=>
 match v with
 | .loc tag off T=>
   match zaD σ.pv tag with
   | some (.tv _ l)=>
     (match isAgg X t with
     | some false=>onV l[off]? λv=>k v σ
     | some true=>match Nat.ble (off+sz X t) l.length with | true=>k (.agg ((l.drop off).take (sz X t))) σ | false=>False
     | none=>False)
   | some (.ty _)=>zrN X T t λv=>k v σ
   | _=>False
 | .pp tag T=>match zbC σ tag with | true=>zrN X T t λv=>k v σ | false=>False
 | .cp _ _ T=>zrN X T t λv=>k v σ
 | .xp x=>match isAgg X t,ck X t with | some false,.int .i64 _ _=>k (.int .i64 x) σ | _,_=>False
 | .hp T=>match Nat.beq T X.dt with | false=>zrN X T t λv=>k v σ | true=>False
 | _=>False
def zgW (l:List TV) (off:Nat) (m:List TV):List TV:=l.take off ++ m ++ l.drop (off+m.length)
def zrQ (pu:Bool) (t:TypeId) (x y:Operand) (σ:Sx) (k:TV->Sx->Prop):Prop:=
 match Nat.blt 0 (sz X t) && (isAgg X t).isSome with
 | false=>False
 | true=>
 openV X σ y λv σ=>
 onV (evT σ.a x) λp=>
 match p with
 | .loc tag off T=>
   match zaD σ.pv tag with
   | some (.tv t0 l)=>zoM X t v λm=>match Nat.ble (off+m.length) l.length with | true=>k .any { σ with pv:=zpX σ.pv tag (.tv t0 (zgW l off m)) } | false=>False
   | some (.ty _)=>match Nat.beq T t with | true=>zpY X t v (k .any σ) | false=>False
   | _=>False
 | .pp tag T=>match zbC σ tag,Nat.beq T t with | true,true=>zpY X t v (k .any σ) | _,_=>False
 | .cp w fr T=>match w && (fr || !pu),Nat.beq T t with | true,true=>zpY X t v (k .any σ) | _,_=>False
 | .hp T=>match !Nat.beq T X.dt && !pu,Nat.beq T t with | true,true=>zpY X t v (k .any σ) | _,_=>False
 | _=>False
def zgd (s:TypeId) (x:TV) (f:Nat) (q:TV->Prop):Prop:=
 match und X s with
 | some (.struct fs)=>
   match fs[f]? with
   | some fd=>
     match Nat.beq (X.P.cellsOf fd.type) 0 with
     | true=>False
     | false=>
       match x with
       | .loc tag off T=>match Nat.beq T s with | true=>q (.loc tag (off+fd.offset) fd.type) | false=>False
       | .pp tag T=>match Nat.beq T s with | true=>q (.pp tag fd.type) | false=>False
       | .cp w fr T=>match Nat.beq T s with | true=>q (.cp w fr fd.type) | false=>False
       | .hp T=>match Nat.beq T s && !Nat.beq T X.dt with | true=>q (.cp true false fd.type) | false=>False
       | _=>False
   | none=>False
 | _=>False
def zrR (t:TypeId) (x:TV) (f:Nat) (q:TV->Prop):Prop:=
 match und X t with
 | some (.struct fs)=>
   match fs[f]? with
   | some fd=>
     match x with
     | .aggT T=>match Nat.beq T t with | true=>zrN X fd.type fd.type q | false=>False
     | .agg l=>(match isAgg X fd.type with | some false=>onV l[fd.offset]? q | some true=>(match Nat.ble (fd.offset+sz X fd.type) l.length with | true=>q (.agg ((l.drop fd.offset).take (sz X fd.type))) | false=>False) | none=>False)
     | _=>False
   | none=>False
 | _=>False
def zcj (T elem:Nat):Bool:=Nat.beq T elem || (shB T && Nat.beq T (shK elem) && (match isAgg X elem with | some false=>true | _=>false)) || (Nat.beq T r4 && (match ck X elem with | .int .i64 _ _=>true | _=>false))
def zfT (l:List Int) (j:Int):Int:=l.getD j.toNat 0
def zge (t:TypeId) (x i:TV) (q:TV->Prop):Prop:=
 match i with
 | .int _ j=>
   match und X t with
   | some (.array n elem)=>
     match (inf X elem).isSome with
     | false=>False
     | true=>
       match x with
       | .loc tag _ T=>match Nat.beq T t with | true=>IX j n<|q (.pp tag elem) | false=>False
       | .pp tag T=>match Nat.beq T t with | true=>IX j n<|q (.pp tag elem) | false=>False
       | .cp w fr T=>match Nat.beq T t with | true=>IX j n<|q (.cp w fr elem) | false=>False
       | .hp T=>match Nat.beq T t && !Nat.beq T X.dt with | true=>IX j n<|q (.cp true false elem) | false=>False
       | _=>False
   | some (.slice elem)=>
     match (inf X elem).isSome with
     | false=>False
     | true=>
       match x with
       | .sl w fr _ T n=>match zcj X T elem with | true=>IX j n<|q (.cp w fr T) | false=>False
       | .ap tag T n _=>match zcj X T elem with | true=>IX j n<|q (.pp tag T) | false=>False
       | .sp tag T n=>match zcj X T elem with | true=>IX j n<|q (.pp tag T) | false=>False
       | .xs l=>match ck X elem with | .int .i64 _ _=>IX j l.length<|q (.xp (zfT l j)) | _=>False
       | _=>False
   | _=>False
 | _=>False
def zrS (t:TypeId) (x i:TV) (q:TV->Prop):Prop:=
 match i with
 | .int _ j=>
   match und X t with
   | some .string=>match x with | .str s=>IX j s.size (AN .u8 λc=>q (.int .u8 c)) | _=>False
   | some (.array n elem)=>match x with | .aggT T=>(match Nat.beq T t,(inf X elem).isSome with | true,true=>IX j n<|zrN X elem elem q | _,_=>False) | _=>False
   | _=>False
 | _=>False
def zrT (a:Tr TV) (x:Option Operand) (d:Int) (q:Int->Prop):Prop:=match x with | none=>q d | some x=>onV (evT a x) λv=>match v with | .int _ i=>q i | _=>False
def zwq (t:TypeId) (d:Option TypeDesc):Option (TypeId×Nat×TypeId):=
 match d with
 | some (.pointer arr)=>(match und X arr with | some (.array n elem)=>some (arr,n,elem) | _=>none)
 | some (.array n elem)=>some (t,n,elem)
 | _=>none
def zrU (t:TypeId) (x:Operand) (lo hi mx:Option Operand) (σ:Sx) (k:TV->Sx->Prop):Prop:=
 match und X t with
 | some .string=>onV (evT σ.a x) λv=>match v,mx with | .str s,none=>zrT σ.a lo 0 λl=>zrT σ.a hi s.size λu=>(0<=l/\l<=u/\u<=s.size)/\∀r:ByteArray,(r.size:Int)=u - l->k (.str r) σ | _,_=>False
 | some (.slice elem)=>
   openV X σ x λv σ=>
   match v,(inf X elem).isSome with
   | .sl w fr kc T n,true=>(match zcj X T elem with
     | true=>zrT σ.a lo 0 λl=>zrT σ.a hi n λu=>
       (match mx with
       | none=>(0<=l/\l<=u/\u<=n)/\k (.sl w fr kc T (u - l).toNat) σ
       | some _=>match hi with | none=>False | some _=>zrT σ.a mx n λm=>(0<=l/\l<=u/\u<=m/\m<=n/\0 < n)/\k (.sl w fr false T (u - l).toNat) σ)
     | false=>False)
   | .nils,true=>zrT σ.a lo 0 λl=>zrT σ.a hi 0 λu=>(match mx with | none=>(l=0/\u=0)/\k .nils σ | some _=>False)
   | _,_=>False
 | d=>
   match zwq X t d with
   | some (arr,n,elem)=>
     onV (evT σ.a x) λv=>match mx,(inf X elem).isSome && Nat.ble n big with
     | none,true=>zrT σ.a lo 0 λl=>zrT σ.a hi n λu=>(0<=l/\l<=u/\u<=n)/\
        (match v with
        | .loc tag _ T=>(match Nat.beq T arr with | true=>k (.sp tag elem (u - l).toNat) σ | false=>False)
        | .pp tag T=>(match Nat.beq T arr with | true=>k (.sp tag elem (u - l).toNat) σ | false=>False)
        | .cp w fr T=>(match Nat.beq T arr with | true=>k (.sl w fr true elem (u - l).toNat) σ | false=>False)
        | .hp T=>(match Nat.beq T arr && !Nat.beq T X.dt with | true=>k (.sl true false true elem (u - l).toNat) σ | false=>False)
        | _=>False)
     | _,_=>False
   | none=>False
def zwr (elem:Nat) (v:TV):Option (Nat×Nat×Option Nat):=
 match v with
 | .sl _ _ _ T n=>some (T,n,none)
 | .sp tag T n=>some (T,n,some tag)
 | .ap tag T n _=>some (T,n,some tag)
 | .str s=>match ck X elem with | .int .u8 _ _=>some (elem,s.size,none) | _=>none
 | .nils=>some (elem,0,none)
 | .xs l=>match ck X elem,spN elem with | .int .i64 _ _,false=>some (elem,l.length,none) | _,_=>none
 | _=>none
def znA (pu:Bool) (st xt:TypeId) (s x:Operand) (dst:Option Tmp) (σ:Sx) (k:TV->Sx->Prop):Prop:=
 match und X st,(match und X xt with | some (.slice _)=>true | some .string=>true | _=>false),dst with
 | some (.slice elem),true,some d=>
   match inf X elem with
   | some i=>
     onV (evT σ.a x) λxv=>match zwr X elem xv with
     | some (T,m,stag)=>
       (match zcj X T elem && Nat.blt 0 (sz X T) && Nat.blt 0 i.bytes && zg7 X elem && (match stag with | some g=>zbC σ g | none=>true) with
       | true=>onV (evT σ.a s) λsv=>match sv with
         | .nils=>RM m i.bytes<|k (.ap d T m false) (zbf d (.rows T elem) σ)
         | .ap tag T' n _=>(match Nat.beq T T' && (match stag with | some g=>!Nat.beq g tag | none=>true) && (match zaD σ.pv tag with | some (.rows _ e)=>Nat.beq e elem | _=>false) with | true=>RM (n+m) i.bytes<|k (.ap d T (n+m) false) (zbf d (.rows T elem) (zd1 tag σ)) | false=>False)
         | .sl true fr true T' n=>(match Nat.beq T T' && (fr || !pu) with | true=>RM (n+m) i.bytes<|k (.sl true fr false T (n+m)) σ | false=>False)
         | _=>False
       | false=>False)
     | none=>False
   | none=>False
 | _,_,_=>False
def zws (pu:Bool) (t:TypeId) (d s:Operand) (σ:Sx) (k:TV->Sx->Prop):Prop:=
 match und X t with
 | some (.slice elem)=>
   onV (evT σ.a s) λsv=>match zwr X elem sv with
   | some (T,m,stag)=>
     onV (evT σ.a d) λdv=>match zwr X elem dv,(match dv with | .sl w fr _ _ _=>w && (fr || !pu) | .sp tag _ _=>zbC σ tag | .ap tag _ _ _=>zbC σ tag | _=>false),(inf X elem).isSome with
     | some (T',n,_),true,true=>(match Nat.beq T T' && zcj X T elem && (match stag with | some g=>zbC σ g | none=>true) with | true=>∀c:Int,0<=c->c<=n->c<=m->k (.int .i64 c) σ | false=>False)
     | _,_,_=>False
   | none=>False
 | _=>False
def zwt (t:TypeId) (l c:TV) (dst:Option Tmp) (σ:Sx) (k:TV->Sx->Prop):Prop:=
 match l,c,dst with
 | .int _ l,.int _ c,some d=>
   match und X t with
   | some (.slice elem)=>
     match inf X elem with
     | some i=>
       match zg7 X elem && Nat.blt 0 (sz X elem) && Nat.blt 0 i.bytes with
       | true=>(0<=l/\l<=c/\c<=9223372036854775807/\i.bytes * c<=281474976710656)/\k (.ap d elem l.toNat true) (zbf d (.rows elem elem) σ)
       | false=>False
     | none=>False
   | _=>False
 | _,_,_=>False
def zme:List TV->Option (List Int)
 | []=>some []
 | .int .i64 x :: r=>match zme r with | some l=>some (x :: l) | none=>none
 | _=>none
def zzM:List Int->Prop->Prop
 | [],q=>q
 | x :: r,q=>(0<=x/\x < 1000000)/\zzM r q
def zcm (elem:Nat):List TV->Prop->Prop
 | [],q=>q
 | v :: r,q=>zpY X elem v (zcm elem r q)
def zgf:Nat->List Nat->Bool
 | _,[]=>true
 | n,i :: r=>Nat.beq i n && zgf (n+1) r
def ze0 (t:TypeId) (n:Nat) (parts:List (Nat×Operand)) (dst:Option Tmp) (σ:Sx) (k:TV->Sx->Prop):Prop:=
 match und X t,dst,evs σ.a (parts.map (·.2)) with
 | some (.slice elem),some d,some vs0=>
   pubs X (tagsOfL vs0) σ λσ=>
   match evs σ.a (parts.map (·.2)),inf X elem with
   | some vs,some i=>
     match zgf 0 (parts.map (·.1)) && Nat.beq vs.length n && Nat.blt 0 (sz X elem) && Nat.ble (n * i.size) 16777216 && zg7 X elem with
     | true=>
       (match ck X elem,zme vs with
       | .int .i64 _ _,some l=>zzM l (k (.xs l) σ)
       | .sl _,_=>(match isAgg X elem,Nat.blt elem 1000000 with | some false,true=>zcm X (shK elem) vs (k (.ap d (shK elem) n true) (zbf d (.rows (shK elem) elem) σ)) | _,_=>False)
       | _,_=>zcm X elem vs (k (.ap d elem n true) (zbf d (.rows elem elem) σ)))
     | false=>False
   | _,_=>False
 | _,_,_=>False
def zcP (fs:List Field):List (Nat×TV)->List TV->Option (List TV)
 | [],l=>some l
 | (i,v) :: r,l=>
   match fs[i]? with
   | some fd=>
     (match v with
     | .agg m=>(match isAgg X fd.type,Nat.beq m.length (sz X fd.type) with | some true,true=>zcP fs r (zgW l fd.offset m) | _,_=>none)
     | .aggT _=>none
     | .tup _=>none
     | .skip=>none
     | .any=>none
     | .fn _ _ _=>none
     | v=>(match isAgg X fd.type with | some false=>zcP fs r (zgW l fd.offset [v]) | _=>none))
   | none=>none
def zfu (fs:List Field):List (Nat×TV)->Prop->Prop
 | [],q=>q
 | (i,v) :: r,q=>match fs[i]? with | some fd=>zpY X fd.type v (zfu fs r q) | none=>False
def zd2 (fs:List Field):List (Nat×TV)->(List (Nat×TV)->Prop)->Prop
 | [],k=>k []
 | (i,.aggT T) :: r,k=>match fs[i]? with | some fd=>(match Nat.beq T fd.type with | true=>zxF X (X.fl T) λl=>zd2 fs r λps=>k ((i,.agg l) :: ps) | false=>False) | none=>False
 | p :: r,k=>zd2 fs r λps=>k (p :: ps)
def zrV (t:TypeId) (parts:List (Nat×Operand)) (σ:Sx) (k:TV->Sx->Prop):Prop:=
 match evs σ.a (parts.map (·.2)) with
 | some vs0=>
   pubs X (tagsOfL vs0) σ λσ=>
   match evs σ.a (parts.map (·.2)) with
   | some vs=>
     match tagsOfL vs with
     | []=>
       (match und X t with
       | some (.struct fs)=>
         (match fs.toList.all (λf=>(inf X f.type).isSome) with
         | true=>
           (match zkJ X t with
           | true=>zd2 X fs.toList ((parts.map (·.1)).zip vs) λps=>(match zeros X (X.fl t) with | some z=>(match zcP X fs.toList ps z with | some l=>k (.agg l) σ | none=>False) | none=>False)
           | false=>(match zg7 X t with | true=>zfu X fs.toList ((parts.map (·.1)).zip vs) (k (.aggT t) σ) | false=>False))
         | false=>False)
       | some (.array n elem)=>(match zg7 X t && (inf X elem).isSome && (parts.map (·.1)).all (λi=>Nat.blt i n) with | true=>zcm X elem vs (k (.aggT t) σ) | false=>False)
       | _=>False)
     | _=>False
   | none=>False
 | none=>False
def zxH (t:TypeId) (x:TV) (q:TV->Prop):Prop:=
 match und X t with
 | some .string=>match x with | .str s=>q (.int .i64 (s.size:Int)) | _=>False
 | some (.array n _)=>match Nat.ble n big with | true=>q (.int .i64 (n:Int)) | false=>False
 | some (.pointer arr)=>match und X arr with | some (.array n _)=>(match Nat.ble n big with | true=>q (.int .i64 (n:Int)) | false=>False) | _=>False
 | some (.slice _)=>match x with
   | .sl _ _ _ _ n=>AL n (q (.int .i64 (n:Int)))
   | .ap _ _ n _=>AL n (q (.int .i64 (n:Int)))
   | .sp _ _ n=>AL n (q (.int .i64 (n:Int)))
   | .nils=>q (.int .i64 0)
   | .xs l=>AL l.length (q (.int .i64 (l.length:Int)))
   | _=>False
 | _=>False
def zkK (mx:Bool) (x y:TV) (q:TV->Prop):Prop:=
 match x,y with
 | .int k a,.int k' b=>match decide (k=k') with
   | true=>∀c:Int,InR k c->(c=a\/c=b)->cond mx (a<=c/\b<=c) (c<=a/\c<=b)->q (.int k c)
   | false=>False
 | _,_=>False
def tUn (op:UnOp) (x:TV) (q:TV->Prop):Prop:=
 match op,x with
 | .not,.bool b=>q (.bool (!b))
 | .neg,.int k n=>AI k (-n) λc=>q (.int k c)
 | .xor,.int k n=>AN k λc=>q (.int k c)
 | _,_=>False
def leK (a b:Bool):Bool:=!a || b
def zxI:TV->TV
 | .cp w _ T=>.cp w false T
 | .sl w _ kc T n=>.sl w false kc T n
 | .int k x=>.int k x
 | .bool b=>.bool b
 | .str s=>.str s
 | .hp T=>.hp T
 | .np T z=>.np T z
 | .xs l=>.xs l
 | .xp x=>.xp x
 | .aggT T=>.aggT T
 | .nilp=>.nilp
 | .nils=>.nils
 | _=>.any
mutual
def zpZ (p:AP) (v:TV) (k:AT p->Prop):Prop:=
 match p,k with
 | .int kd,k=>match v with | .int kd' x=>(match decide (kd=kd') with | true=>k x | false=>False) | _=>False
 | .bool,k=>match v with | .bool b=>k b | _=>False
 | .str,k=>match v with | .str s=>k s | _=>False
 | .np T,k=>match v with | .np T' z=>(match Nat.beq T T' with | true=>k z | false=>False) | .hp T'=>(match Nat.beq T T' with | true=>k false | false=>False) | .nilp=>k true | _=>False
 | .sl w kc T,k=>match v with | .sl w' _ kc' T' n=>(match leK w w' && leK kc kc' && Nat.beq T T' with | true=>k n | false=>False) | .nils=>k (0:Nat) | _=>False
 | .fn,k=>match v with | .fn f a c=>k (f,a.map zxI,c.map zxI) | _=>False
 | .xs,k=>match v with | .xs l=>k l | _=>False
 | .aggT T,k=>match v with
   | .aggT T'=>(match Nat.beq T T' with | true=>k () | false=>False)
   | .agg l=>(match isAgg X T with | some true=>zxe X (X.fl T) l (k ()) | _=>False)
   | _=>False
 | .st w,k=>match v,w with
   | .hp T,.hp T'=>(match Nat.beq T T' with | true=>k () | false=>False)
   | .hp T,.cp false false T'=>(match Nat.beq T T' && !Nat.beq T X.dt with | true=>k () | false=>False)
   | .hp T,.cp true false T'=>(match Nat.beq T T' && !Nat.beq T X.dt with | true=>k () | false=>False)
   | .cp a b T,.cp a' b' T'=>(match leK a' a && leK b' b && !b' && Nat.beq T T' with | true=>k () | false=>False)
   | _,_=>False
 | .agg l,k=>match v with | .agg vs=>matAs l vs k | .aggT T=>(match isAgg X T with | some true=>zxF X (X.fl T) λvs=>matAs l vs k | _=>False) | _=>False
 | .cl f la lc,k=>match v with | .fn f' a c=>(match Nat.beq f f' with | true=>matAs la a λr=>matAs lc c λs=>k (r,s) | false=>False) | _=>False
def matAs (ps:List AP) (vs:List TV) (k:ATs ps->Prop):Prop:=
 match ps,vs,k with
 | [],[],k=>k ()
 | p :: ps,v :: vs,k=>zpZ p v λr=>matAs ps vs λrs=>k (r,rs)
 | _,_,_=>False
end
def zwu (pu:Bool) (f:FuncId) (args:List TV) (σ:Sx) (k:TV->Sx->Prop):Prop:=
 match X.sp f with
 | some s=>
   match !pu || s.pu with
   | true=>matAs X s.ps args λρ=>s.s ρ σ.g λr g=>match tagsOf r with | []=>k r { σ with g:=g } | _=>False
   | false=>False
 | none=>False
def zxJ (pu:Bool) (f:Operand) (args:List Operand) (σ:Sx) (k:TV->Sx->Prop):Prop:=
 onV (evT σ.a f) λfv=>
 match evs σ.a args with
 | some vs0=>
   pubs X (tagsOf fv ++ tagsOfL vs0) σ λσ=>
   onV (evT σ.a f) λfv=>
   (match fv,evs σ.a args with
   | .fn g a c,some vs=>zwu X pu g (a ++ vs ++ c) σ k
   | _,_=>False)
 | none=>False
def zhs (pu:Bool) (b:Builtin) (ats:List TypeId) (args:List Operand) (dst:Option Tmp) (σ:Sx) (k:TV->Sx->Prop):Prop:=
 match b,ats,args with
 | .len,[t],[x]=>onV (evT σ.a x) λv=>zxH X t v λv=>k v σ
 | .append,[st,xt],[s,x]=>znA X pu st xt s x dst σ k
 | .copy,t :: _,[d,s]=>zws X pu t d s σ k
 | .min,_,[x,y]=>onV (evT σ.a x) λa=>onV (evT σ.a y) λb=>zkK false a b λv=>k v σ
 | .max,_,[x,y]=>onV (evT σ.a x) λa=>onV (evT σ.a y) λb=>zkK true a b λv=>k v σ
 | _,_,_=>False
def tOp (pu:Bool) (o:Oper) (σ:Sx) (k:TV->Sx->Prop):Prop:=
 match o.op with
 | .move x=>onV (evT σ.a x) λv=>k v σ
 | .assign x=>onV (evT σ.a x) λv=>k v σ
 | .pick c x y=>onV (evT σ.a c) λv=>match v with | .bool b=>cond b (onV (evT σ.a x) λv=>k v σ) (onV (evT σ.a y) λv=>k v σ) | _=>False
 | .alloc t=>zrP X t o.dst σ k
 | .box t x=>zzL X t x o.dst σ k
 | .build t parts=>zrV X t parts.toList σ k
 | .buildSlice t n parts=>ze0 X t n parts.toList o.dst σ k
 | .load t x=>zwp X t x σ k
 | .store t x y=>zrQ X pu t x y σ k
 | .nilCheck x=>onV (evT σ.a x) λv=>match v with
   | .loc a b c=>k (.loc a b c) σ
   | .pp a b=>k (.pp a b) σ
   | .cp a b c=>k (.cp a b c) σ
   | .xp x=>k (.xp x) σ
   | .hp T=>k (.hp T) σ
   | .np T z=>z=false/\k (.hp T) σ
   | .fn a b c=>k (.fn a b c) σ
   | _=>False
 | .binOp op t x y _=>onV (evT σ.a x) λa=>onV (evT σ.a y) λb=>zzK X op t a b λv=>k v σ
 | .unOp op _ x=>onV (evT σ.a x) λa=>tUn op a λv=>k v σ
 | .convert s d x=>zwo X s d o.dst x σ k
 | .makeFunc fn a b=>match fn,evs σ.a a.toList,evs σ.a b.toList with | .func f,some va,some vb=>k (.fn f va vb) σ | _,_,_=>False
 | .makeSlice t l c=>onV (evT σ.a l) λl=>onV (evT σ.a c) λc=>zwt X t l c o.dst σ k
 | .slice t x lo hi mx=>zrU X t x lo hi mx σ k
 | .fieldAddr s x f=>onV (evT σ.a x) λv=>zgd X s v f λv=>k v σ
 | .field t x f=>onV (evT σ.a x) λv=>match tagsOf v with | []=>zrR X t v f λv=>k v σ | _=>False
 | .indexAddr t x i=>onV (evT σ.a x) λv=>onV (evT σ.a i) λj=>zge X t v j λv=>k v σ
 | .index t x i=>onV (evT σ.a x) λv=>onV (evT σ.a i) λj=>zrS X t v j λv=>k v σ
 | .extract t i=>onV (evT σ.a t) λv=>match v with | .tup l=>onV l[i]? λv=>k v σ | _=>False
 | .call c=>
   match c.callee with
   | .value f=>zxJ X pu f c.args.toList σ k
   | .builtin b=>zhs X pu b c.argTypes.toList c.args.toList o.dst σ k
   | _=>False
 | _=>False
end
end
end Go.Am
