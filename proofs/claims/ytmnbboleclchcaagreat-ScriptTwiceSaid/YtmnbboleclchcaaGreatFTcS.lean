/-
  Texts of this proof, part 30. No condition.
-/
import Derived.Test.YtmnbboleclchcaaGreatFCDevQ
set_option linter.unusedSimpArgs false
set_option linter.unusedVariables false
namespace Go.Am
open Go.Proofs
inductive RT where
 | int (k:IntKind) | bool | str | np (T:Nat) | hp (T:Nat) | sl (w fr kc:Bool) (T:Nat) | ty (T:Nat)
def zAN:RT->RS
 | .np _=>.np
 | .sl w fr kc _=>.sl w fr kc
 | .ty T=>.ty T
 | _=>.keep
def znW:List RT->(List TV->Prop)->Prop
 | [],k=>k []
 | .int kd :: r,k=>AN kd λx=>znW r λl=>k (.int kd x :: l)
 | .bool :: r,k=>zoL λv=>znW r λl=>k (v :: l)
 | .str :: r,k=>∀s:ByteArray,s.size<=za8->znW r λl=>k (.str s :: l)
 | .np T :: r,k=>(znW r λl=>k (.np T true :: l))/\znW r λl=>k (.np T false :: l)
 | .hp T :: r,k=>znW r λl=>k (.hp T :: l)
 | .sl w fr kc T :: r,k=>∀n:Nat,n<=big->znW r λl=>k (.sl w fr kc T n :: l)
 | .ty T :: r,k=>znW r λl=>k (.aggT T :: l)
mutual
def zqc:(p:AP)->AT p->Prop->Prop
 | .sl _ _ _,n,q=>@LE.le Nat _ n big/\q
 | .agg l,r,q=>preA l r q
 | _,_,q=>q
def preA:(ps:List AP)->ATs ps->Prop->Prop
 | [],_,q=>q
 | p :: ps,(r,rs),q=>zqc p r (preA ps rs q)
end
def dfl (pu:Bool) (ps:List AP) (rts:List RT):FS:=⟨pu,rts.map zAN,ps,λρ g Q=>preA ps ρ (znW rts λl=>Q (zqs l) g)⟩
def dfn (pu:Bool) (ps:List AP) (rs:List RS) (s:ATs ps->Int->(TV->Int->Prop)->Prop):FS:=⟨pu,rs,ps,λρ g Q=>preA ps ρ (s ρ g Q)⟩
abbrev aB:AP:=.agg [.int .u64,.sl false false 99]
abbrev rB:RS:=.agg [.keep,.sl true true false]
def bk (w fr kc:Bool) (x:Int) (n:Nat):TV:=.agg [.int .u64 x,.sl w fr kc 99 n]
def zbS:List Int->Int
 | []=>0
 | x :: l=>x+zbS l
def zzg:Nat->List Int->Prop
 | _,[]=>True
 | k+1,x :: l=>(1<=x/\x<=8)/\zzg k l
 | 0,_ :: _=>False
def wok (l:List Int):Prop:=zzg 64 l
def upF (n b:Int):Int:=(n+b - 1) / b
def zhc:Nat->Int->List Int
 | 0,_=>[]
 | f+1,s=>if 1 < s then upF s 8 :: zhc f (upF s 8) else []
def za0 (n:Int):List Int:=if n < 1\/65535 < n then [] else upF n 128 :: zhc 10 (upF n 128)
def zcg (n:Int):Int:=zbS (za0 n)
def znX (n j:Int):Int:=zbS ((za0 n).take j.toNat)
def zeL (n:Int):Int:=if n < 64\/1024 < n then 0 else 2+5 * ((n+1) / 2)
def dfg (pu:Bool) (ps:List AP) (rts:List RT) (w:Int):FS:=⟨pu,rts.map zAN,ps,λρ g Q=>preA ps ρ (g+w<=1000000000/\∀g' : Int,g<=g'->g'<=g+w->znW rts λl=>Q (zqs l) g')⟩
def dfw (ps:List AP) (rs:List RS) (w:Int) (s:ATs ps->(TV->Prop)->Prop):FS:=⟨false,rs,ps,λρ g Q=>preA ps ρ (g+w<=1000000000/\s ρ λv=>∀g' : Int,g<=g'->g'<=g+w->Q v g')⟩
noncomputable def s42:FS:=dfl true [.st (.hp 79)] [.int .i64]
noncomputable def s43:FS:=dfl true [.st (.hp 79),.st (.hp 144),.int .u64,.int .u64] [.hp 139]
noncomputable def s62:FS:=dfn false [.st (.hp 144),.int .i64,.int .u8] [] λ(_,(i:Int),_) g Q=>(0<=i/\i < 1024)/\Q (.tup []) g
noncomputable def s44:FS:=dfl false [.int .i64] [.hp 144]
noncomputable def s37:FS:=dfl true [.st (.hp 139)] [.hp 144]
noncomputable def s38:FS:=dfl true [.st (.hp 144)] [.int .i64]
noncomputable def s64:FS:=dfl true [.st (.hp 139)] [.hp 79]
noncomputable def s18:FS:=⟨true,[.sl true true true],[.xs,.sl false false 62],λ((l:List Int),(k:Nat),()) g Q=>wok l/\∀n:Nat,n<=8 * l.length->AN .i64 λe=>(e=0->(n:Int)=zbS l)->Q (.tup [.sl true true true 5 n,.int .i64 e]) g⟩
noncomputable def s20:FS:=dfn true [.sl false false 4000034] [.sl true true false] λ((k:Nat),()) g Q=>∀n:Nat,n<=2+k * 65537->AN .i64 λe=>Q (.tup [.sl true true false 5 n,.int .i64 e]) g
noncomputable def zBZ:FS:=dfl true [.aggT 96] [.bool]
noncomputable def zB0:FS:=⟨true,[],[],λ_ g Q=>Q (.xs [4,8,4]) g⟩
noncomputable def zB1:FS:=dfn true [.aggT 96] [.sl true true false] λ_ g Q=>∀n:Nat,n<=24->AN .i64 λe=>(e=0->n=16)->Q (.tup [.sl true true false 5 n,.int .i64 e]) g
noncomputable def zAO:FS:=dfn true [.str] [] λ((s:ByteArray),()) g Q=>(s.size<=24->Q (.bool true) g)/\Q (.bool false) g
noncomputable def zzW:FS:=dfl true [.aggT 96,.aggT 96] [.bool]
noncomputable def zAP:FS:=dfl true [.aggT 96] [.bool]
noncomputable def zB2:FS:=dfl true [.sl false false 96] [.bool]
noncomputable def zAQ:FS:=dfl true [.aggT 99] [.bool]
noncomputable def zB3:FS:=dfn true [.sl false false 96] [.sl false false false] λ_ g Q=>∀n:Nat,n<=64000->AN .i64 λe=>Q (.tup [.sl false false false 5 n,.int .i64 e]) g
noncomputable def zB4:FS:=dfn true [.aggT 99] [.sl false false false] λ_ g Q=>∀n:Nat,n<=200000->AN .i64 λe=>Q (.tup [.sl false false false 5 n,.int .i64 e]) g
noncomputable def zB5:FS:=dfn true [.int .u64,.sl false false 99] [.sl false false false] λ_ g Q=>∀n:Nat,n<=3000000->AN .i64 λe=>Q (.tup [.sl false false false 5 n,.int .i64 e]) g
noncomputable def zB6:FS:=dfn true [aB] [.sl false false false] λ_ g Q=>∀n:Nat,AN .i64 λe=>(e=0->n<=65535)->Q (.tup [.sl false false false 5 n,.int .i64 e]) g
noncomputable def zB7:FS:=dfn true [.st (.hp 144),.int .i64,.int .u8] [] λ(_,(i:Int),_) g Q=>(0<=i->i < 1024->Q (.bool true) g)/\Q (.bool false) g
noncomputable def zB8:FS:=dfl false [.st (.hp 144),.int .i64,.int .u8,.int .u8] [.int .i64]
noncomputable def zB9:FS:=dfl false [.st (.hp 144),.int .i64] [.int .i64]
noncomputable def zCa:FS:=dfl false [.st (.hp 144),.int .i64] [.int .i64]
noncomputable def zCb:FS:=dfl false [.st (.hp 139),.aggT 96] [.int .i64]
noncomputable def zAR:FS:=⟨true,[],[.int .i64],λ((n:Int),()) g Q=>IT (n < 1\/65535 < n) (Q .nils g) (Q (.xs (za0 n)) g)⟩
noncomputable def zAS:FS:=dfn true [.int .i64] [] λ((n:Int),()) g Q=>∀c:Int,c=zcg n->0<=c->c<=700->Q (.int .i64 c) g
noncomputable def zAT:FS:=dfn true [.int .i64] [] λ((n:Int),()) g Q=>∀c:Int,c=zeL n->(c=0\/162<=c)->c<=3000->Q (.int .i64 c) g
noncomputable def zCc:FS:=dfn true [.sl false false 5,.int .i64] [] λ((k:Nat),(n:Int),()) g Q=>∀c:Int,c=1+zcg k+zcg (zeL n)->1<=c->c<=1401->zcg k < c->Q (.int .i64 c) g
noncomputable def zCd:FS:=dfn false [.st (.hp 144)] [] λ_ g Q=>∀i:Int,0<=i->i < 1024->AN .i64 λe=>Q (.tup [.int .i64 i,.int .i64 e]) g
noncomputable def zCe:FS:=dfn false [.st (.hp 144),.int .i64] [.sl false false false] λ(_,(k:Int),()) g Q=>k<=100000/\∀n:Nat,n<=100000->AN .i64 λe=>(e=0->0<=k->(n:Int)=k)->Q (.tup [.sl false false false 3 n,.int .i64 e]) g
noncomputable def zCf:FS:=dfl true [.int .u32,.sl false false 5] [.int .u32]
noncomputable def zCg:FS:=dfl true [.sl false false 5] [.int .u32]
noncomputable def zAU:FS:=dfl false [.st (.hp 79),.int .i64] [.ty 41,.int .i64]
noncomputable def zCh:FS:=dfl false [.st (.hp 139),.aggT 96] [.ty 41,.int .i64]
noncomputable def s24:FS:=⟨true,[.sl true true false],[.xs,.sl false false 5],λ((l:List Int),(k:Nat),()) g Q=>wok l/\∀n:Nat,n<=l.length->AN .i64 λe=>(e=0->n=l.length)->Q (.tup [.sl true true false 62 n,.int .i64 e]) g⟩
noncomputable def zAV:FS:=dfl true [.sl false false 5] [.ty 96,.int .i64]
noncomputable def zCi:FS:=dfl true [.aggT 41] [.ty 212,.int .i64]
noncomputable def zCj:FS:=dfn false [.st (.hp 139),.sl false false 96,.int .i64] [.sl false false false] λ(_,(a:Nat),(w:Int),()) g Q=>(0<=w/\w<=8 * a/\w<=100000)/\∀n:Nat,n<=100000->AN .i64 λe=>(e=0->(n:Int)=w)->Q (.tup [.sl false false false 96 n,.int .i64 e]) g
noncomputable def zCk:FS:=dfn false [.st (.hp 139),.sl false false 96,.int .i64] [.sl false false false] λ(_,(a:Nat),(n:Int),()) g Q=>(1<=n/\n<=128 * a/\a<=100000)/\∀m:Nat,m<=13000000->AN .i64 λe=>(e=0->(m:Int)=n)->Q (.tup [.sl false false false 5 m,.int .i64 e]) g
noncomputable def zCl:FS:=dfn false [.st (.hp 139),.aggT 96,.int .i64] [.sl false false false,.sl false false false] λ(_,_,(n:Int),()) g Q=>∀m:Nat,m<=100000->∀k:Nat,k<=100000->AN .i64 λe=>(e=0->(m:Int)=n)->Q (.tup [.sl false false false 5 m,.sl false false false 96 k,.int .i64 e]) g
noncomputable def zAW:FS:=dfn true [.sl false false 4000097] [.sl true true false] λ((k:Nat),()) g Q=>∀n:Nat,n<=k * 262144->Q (.sl true true false 96 n) g
noncomputable def zAX:FS:=dfn true [.st (.hp 336)] [.sl false false false] λ_ g Q=>∀n:Nat,n<=4096->Q (.sl false false false 294 n) g
noncomputable def zCm:FS:=dfn true [.sl false false 3] [.sl false false false] λ_ g Q=>∀n:Nat,n<=4096->Q (.sl false false false 294 n) g
noncomputable def zCn:FS:=dfn true [.st (.hp 144),.int .u8] [.sl false false false] λ_ g Q=>∀n:Nat,n<=4096->Q (.sl false false false 294 n) g
noncomputable def zCo:FS:=dfn true [.st (.hp 144)] [.sl false false false] λ_ g Q=>∀n:Nat,n<=4096->Q (.sl false false false 294 n) g
noncomputable def zAY:FS:=dfg false [.st (.hp 79),.int .i64,.aggT 41] [.int .i64] 1
noncomputable def zCp:FS:=dfg false [.st (.hp 139),.int .i64,.sl false false 5] [.ty 96,.int .i64] 1
noncomputable def zCq:FS:=dfl true [.aggT 294] [.bool]
noncomputable def zCr:FS:=dfl true [.sl false false 294] [.bool]
noncomputable def zAZ:FS:=dfl true [.sl false false 294,.int .i64] [.bool]
noncomputable def zxf:FS:=dfg false [.st (.hp 139),.int .i64,.sl false false 5] [.ty 96,.int .i64] 1
noncomputable def zzX:FS:=dfw [.st (.hp 139),.sl false false 5,.sl false false 3] [.sl false false false] 600 λ(_,(n:Nat),(m:Nat),()) k=>(1<=n/\n<=65535/\upF n 128<=m)/\∀j:Nat,AN .i64 λe=>(e=0->(j:Int)=upF n 128)->(¬e=0->j=0)->k (.tup [.sl false false false 96 j,.int .i64 e])
noncomputable def zA0:FS:=dfl true [.aggT 212] [.ty 41,.int .i64]
noncomputable def zzY:FS:=dfw [.st (.hp 139),.sl false false 96,.sl false false 3] [.sl false false false] 600 λ(_,(n:Nat),(m:Nat),()) k=>(1<=n/\n<=600/\upF n 8<=m)/\∀j:Nat,AN .i64 λe=>(e=0->(j:Int)=upF n 8)->(¬e=0->j=0)->k (.tup [.sl false false false 96 j,.int .i64 e])
noncomputable def zA1:FS:=dfw [.st (.hp 139),.sl false false 5,.sl false false 3] [] 3000 λ(_,(n:Nat),(m:Nat),()) k=>n<=100000/\AN .i64 λe=>k (.tup [.aggT 96,.int .i64 e])
noncomputable def zA2:FS:=dfn true [.sl false false 294,.sl false false 294] [.sl false false false] λ_ g Q=>∀n:Nat,n<=4096->Q (.sl false false false 294 n) g
noncomputable def zCs:FS:=dfn true [.sl false false 294,.sl false false 294] [.sl false false false] λ_ g Q=>∀n:Nat,n<=8192->Q (.sl false false false 312 n) g
noncomputable def zCt:FS:=dfn true [.sl false false 294] [.sl false false false] λ_ g Q=>∀n:Nat,n<=8192->Q (.sl false false false 312 n) g
noncomputable def zCu:FS:=⟨true,[],[],λ_ g Q=>Q (.xs [1,2,2]) g⟩
noncomputable def zA3:FS:=dfn true [.agg [.bool,.int .i64,.int .i64]] [] λ((_,(a:Int),(b:Int),()),()) g Q=>(0<=a->1<=b->a+b<=4096->Q (.bool true) g)/\Q (.bool false) g
noncomputable def zCv:FS:=dfn true [.sl false false 312] [.sl true true false] λ_ g Q=>∀n:Nat,n<=100000->AN .i64 λe=>Q (.tup [.sl true true false 5 n,.int .i64 e]) g
noncomputable def zA4:FS:=dfn true [.int .i64,.sl false false 294] [.sl false false false] λ((t:Int),_) g Q=>∀n:Nat,n<=100000->AN .i64 λe=>(e=0->(n:Int)=zeL t)->Q (.tup [.sl false false false 5 n,.int .i64 e]) g
noncomputable def zCw:FS:=dfn true [.aggT 96,.int .i64,.aggT 96,.int .i64] [.sl false false false] λ_ g Q=>∀n:Nat,n<=100000->AN .i64 λe=>Q (.tup [.sl false false false 5 n,.int .i64 e]) g
noncomputable def zCx:FS:=dfw [.st (.hp 139),.sl false false 5,.sl false false 3] [.ty 96,.sl true true false] 7000 λ(_,(n:Nat),(m:Nat),()) k=>(n<=65535/\zcg n < m/\m<=100000)/\∀n:Nat,n<=big->AN .i64 λe=>k (.tup [.aggT 96,.sl true true false 96 n,.int .i64 e])
noncomputable def s63:FS:=dfg false [.st (.hp 139),aB,.sl false false 96] [.ty 96,.sl false false false 96,.int .i64] 7000
noncomputable def s65:FS:=dfl true [.st (.hp 139)] [.int .u64]
noncomputable def zCy:FS:=dfl true [.aggT 120] [.bool]
noncomputable def zCz:FS:=dfl false [.aggT 120] [.ty 41,.int .i64]
noncomputable def zA5:FS:=dfl false [.st (.hp 79)] [.int .i64]
noncomputable def zCA:FS:=dfn true [.aggT 120] [] λ_ g Q=>∀i:Int,0<=i->i < 4->Q (.int .i64 i) g
noncomputable def s66:FS:=dfg false [.st (.hp 79),.aggT 120] [.int .i64] 1
noncomputable def zCB:FS:=dfl false [.st (.hp 144)] []
noncomputable def s67:FS:=dfl false [.st (.hp 139)] []
noncomputable def s45:FS:=dfg false [.st (.hp 122)] [.int .i64] 7001
noncomputable def s27:FS:=⟨false,[],[.st (.hp 79)],λ_ g Q=>g+7001<=1000000000/\(∀g' : Int,g<=g'->g'<=g+7001->Q (.tup [.hp 122,.int .i64 0]) g')/\(∀g' : Int,g<=g'->g'<=g+7001->∀e:Int,InR .i64 e->¬e=0->Q (.tup [.np 122 true,.int .i64 e]) g')⟩
noncomputable def s14:FS:=⟨false,[],[.st (.hp 79)],λ_ g Q=>g+7001<=1000000000/\(∀g' : Int,g<=g'->g'<=g+7001->Q (.tup [.hp 84,.int .i64 0]) g')/\(∀g' : Int,g<=g'->g'<=g+7001->∀e:Int,InR .i64 e->¬e=0->Q (.tup [.np 84 true,.int .i64 e]) g')⟩
noncomputable def s28:FS:=dfl false [.st (.hp 79),.int .i64] []
noncomputable def s29:FS:=dfl false [.st (.hp 79),.sl false false 4] []
noncomputable def s68:FS:=dfl true [.st (.hp 79)] [.bool]
noncomputable def zCC:FS:=dfl false [.aggT 41] [.ty 120,.bool]
noncomputable def zCD:FS:=⟨false,[],[.sl true false 120,.int .i64,.int .i64,.cl 182 [] []],λ((n:Nat),(a:Int),(b:Int),_) g Q=>(a=0/\b=n/\n<=12)/\Q (.tup []) g⟩
noncomputable def zCE:FS:=dfl true [.int .u32] [.int .i64]
noncomputable def zCF:FS:=dfl true [.int .u64] [.int .i64]
noncomputable def zCG:FS:=dfl true [.int .u64] [.int .i64]
noncomputable def zCH:FS:=⟨false,[],[.sl true false 120,.int .i64,.int .i64,.int .i64,.cl 182 [] []],λ((n:Nat),(a:Int),(b:Int),_) g Q=>(a=0/\b=n/\n<=12)/\Q (.tup []) g⟩
noncomputable def zCI:FS:=⟨false,[],[.sl true false 120,.cl 182 [] []],λ((n:Nat),_) g Q=>n<=12/\Q (.tup []) g⟩
noncomputable def zCJ:FS:=dfl true [.int .u64] [.bool]
noncomputable def zCK:FS:=dfl true [.int .u64,.int .u64] [.int .i64]
noncomputable def zCL:FS:=dfl true [.aggT 120,.aggT 120] [.int .i64]
noncomputable def zCM:FS:=dfn false [.st (.hp 79)] [.sl false false false] λ_ g Q=>∀n:Nat,n<=4->Q (.sl false false false 120 n) g
noncomputable def s69:FS:=dfl false [.st (.hp 79)] [.ty 120,.bool]
noncomputable def zCN:FS:=dfl true [.int .i64] [.int .i64]
noncomputable def zCO:FS:=dfn false [.st (.hp 139),.sl false false 5] [.sl false false false,.sl false false false] λ(_,(n:Nat),()) g Q=>n=20/\∀m:Nat,m<=big->∀k:Nat,k<=100000->AN .i64 λe=>Q (.tup [.sl false false false 5 m,.sl false false false 96 k,.int .i64 e]) g
noncomputable def s41:FS:=dfn true [.sl false false 5] [.keep,.sl false false false] λ((n:Nat),()) g Q=>(∀m:Nat,Q (.tup [.int .i64 0,.sl false false false 5 0,.bool false]) g)/\∀i:Int,0<=i->i<=65535->∀m:Nat,m+2=n->Q (.tup [.int .i64 i,.sl false false false 5 m,.bool true]) g
noncomputable def s23:FS:=dfn true [.sl false false 5] [.sl false false false] λ_ g Q=>(∀e:Int,InR .i64 e->¬e=0->Q (.tup [.sl false false false 34 0,.int .i64 e]) g)/\∀n:Nat,n<=65535->Q (.tup [.sl false false false 4000034 n,.int .i64 0]) g
noncomputable def s26:FS:=⟨true,[],[.sl false false 5,.sl false false 5],λ_ g Q=>zoL λv=>Q v g⟩
noncomputable def zA6:FS:=dfl true [.sl false false 5] [.sl false false false 96,.int .i64]
noncomputable def zA7:FS:=dfl true [.sl false false 5] [.ty 99,.int .i64]
noncomputable def zCP:FS:=dfl true [.sl false false 5] [.int .u64,.sl false false false 99,.int .i64]
noncomputable def zA8:FS:=dfl true [.st (.cp false false 99)] [.ty 265]
noncomputable def s59:FS:=dfn true [.sl false false 99,.int .u64] [] λ((n:Nat),(_:Int),()) g Q=>∀i:Int, -1<=i->i < (n:Int)->Q (.int .i64 i) g
noncomputable def zA9:FS:=dfl true [.sl false false 99,.st (.cp false false 99)] [.bool]
noncomputable def zzZ:FS:=dfl true [.sl false false 99,.st (.cp false false 99)] [.bool]
noncomputable def zBa:FS:=dfl true [.int .u64,.sl false false 99] [.bool]
noncomputable def zBb:FS:=dfl true [.sl false false 5] [.sl false false false 312,.int .i64]
noncomputable def zBc:FS:=dfn true [.sl false false 294] [.sl true true false] λ_ g Q=>∀n:Nat,n<=4096->Q (.sl true true false 1000000 n) g
noncomputable def zBd:FS:=dfl true [.sl false false 294,.sl false false 312] [.sl false false false 294,.int .i64]
noncomputable def zBe:FS:=dfl true [.int .i64,.sl false false 5] [.sl false false false 294,.int .i64]
noncomputable def s70:FS:=dfl false [.st (.hp 139),.aggT 96] [.ty 91,.sl false false false 294,.sl false false false 96,.int .i64]
noncomputable def s71:FS:=dfn false [.sl false false 294,.cl 72 [.st (.hp 144)] []] [] λ_ g Q=>Q (.tup []) g
noncomputable def s72:FS:=dfl false [.st (.hp 144),.int .i64] [.int .i64]
noncomputable def s46:FS:=⟨false,[],[.st (.hp 79)],λ_ g Q=>(Q (.tup [.hp 122,.int .i64 0]) g)/\(∀e:Int,InR .i64 e->¬e=0->Q (.tup [.np 122 true,.int .i64 e]) g)⟩
noncomputable def s30:FS:=⟨false,[],[.st (.hp 79)],λ_ g Q=>(Q (.tup [.hp 84,.int .i64 0]) g)/\(∀e:Int,InR .i64 e->¬e=0->Q (.tup [.np 84 true,.int .i64 e]) g)⟩
noncomputable def s31:FS:=dfl false [.st (.hp 79),.int .i64,.aggT 41] [.int .i64]
noncomputable def s36:FS:=dfl true [.st (.hp 122)] [.hp 139]
noncomputable def s86:FS:=dfl true [.st (.hp 84)] [.bool]
noncomputable def zCQ:FS:=dfl true [.aggT 99] [.ty 99]
noncomputable def s58:FS:=dfn true [aB] [.agg [.keep,.sl true true true]] λ(((x:Int),(n:Nat),()),()) g Q=>Q (bk true true true x n) g
noncomputable def zCR:FS:=dfl true [.st (.hp 144)] [.hp 144]
noncomputable def zCS:FS:=dfl true [.st (.hp 139)] [.int .u64]
noncomputable def zxZ:FS:=dfn true [.sl false false 96] [.sl true true false] λ_ g Q=>∀n:Nat,n<=big->Q (.sl true true false 96 n) g
noncomputable def zCT:FS:=dfl true [.st (.hp 122)] [.hp 122]
noncomputable def s33:FS:=dfn true [.st (.hp 122)] [.agg [.keep,.sl true true true]] λ_ g Q=>AN .u64 λx=>∀n:Nat,n<=big->Q (bk true true true x n) g
noncomputable def s75:FS:=dfl true [.aggT 160] [.bool]
noncomputable def zBf:FS:=dfn true [.str,.int .u8] [] λ((s:ByteArray),_) g Q=>∀i:Int, -1<=i->i < (s.size:Int)->Q (.int .i64 i) g
noncomputable def zCU:FS:=dfn true [.str,.int .u8] [] λ((s:ByteArray),_) g Q=>∀i:Int, -1<=i->i < (s.size:Int)->Q (.int .i64 i) g
noncomputable def zCV:FS:=dfn true [.str,.str] [] λ((s:ByteArray),(t:ByteArray),()) g Q=>t.size=1/\∀i:Int, -1<=i->i < (s.size:Int)->Q (.int .i64 i) g
noncomputable def zCW:FS:=dfn true [.str,.str] [] λ((s:ByteArray),(t:ByteArray),()) g Q=>t.size=1/\∀a:ByteArray,a.size<=za8->∀b:ByteArray,b.size<=za8->Q (.tup [.str a,.str b,.bool true]) g/\(b.size=0->Q (.tup [.str a,.str b,.bool false]) g)
noncomputable def zCX:FS:=dfn true [.str,.str] [] λ((s:ByteArray),(t:ByteArray),()) g Q=>t.size=1/\∀a:ByteArray,a.size<=za8->∀b:ByteArray,b.size<=za8->Q (.tup [.str a,.str b,.bool true]) g/\(b.size=0->Q (.tup [.str a,.str b,.bool false]) g)
noncomputable def zCY:FS:=dfn true [.str] [] λ_ g Q=>∀a:ByteArray,a.size<=24->∀b:ByteArray,b.size<=24->AN .i64 λe=>Q (.tup [.str a,.str b,.int .i64 e]) g
noncomputable def zCZ:FS:=dfn true [.str] [] λ_ g Q=>∀a:ByteArray,a.size<=24->AN .i64 λe=>Q (.tup [.str a,.int .i64 e]) g
noncomputable def zBg:FS:=dfn true [aB] [.agg [.keep,.sl true true true]] λ(((x:Int),(n:Nat),()),()) g Q=>Q (bk true true true x n) g
noncomputable def zC0:FS:=dfn true [.sl false false 99,.aggT 265] [] λ((n:Nat),(_:Unit),()) g Q=>∀i:Int, -1<=i->i < (n:Int)->Q (.int .i64 i) g
noncomputable def zC1:FS:=dfl true [.sl false false 99,.str] [.ty 99,.int .i64]
noncomputable def zC2:FS:=dfn true [.sl false false 99,.cl 205 [] [.st (.hp 62)]] [] λ((n:Nat),_) g Q=>∀i:Int, -1<=i->i < (n:Int)->Q (.int .i64 i) g
noncomputable def zC3:FS:=dfl true [.aggT 99,.st (.hp 62)] [.bool]
noncomputable def zC4:FS:=dfn true [.sl false false 99,.int .u64] [] λ((n:Nat),(_:Int),()) g Q=>∀i:Int, -1<=i->i < (n:Int)->Q (.int .i64 i) g
noncomputable def zC5:FS:=dfn true [aB,.str] [] λ(((_:Int),(n:Nat),()),(_:ByteArray),()) g Q=>∀i:Int, -1<=i->i < (n:Int)->Q (.int .i64 i) g
noncomputable def zC6:FS:=dfn true [aB,.aggT 99] [.agg [.keep,.sl true true false]] λ(((x:Int),(n:Nat),()),_) g Q=>AN .u64 λx=>Q (bk true true false x (n+1)) g
noncomputable def s76:FS:=dfn true [aB,.str,.int .i64] [rB] λ_ g Q=>AN .u64 λx=>∀n:Nat,n<=big->AN .i64 λe=>Q (.tup [bk true true false x n,.int .i64 e]) g
noncomputable def s77:FS:=dfl false [.st (.hp 122),aB] []
noncomputable def zC7:FS:=dfl true [aB,.int .i64] [.int .i64]
noncomputable def zC8:FS:=dfl true [.st (.hp 122)] [.int .i64]
noncomputable def zC9:FS:=dfl true [.st (.hp 122)] [.int .i64]
noncomputable def zDa:FS:=dfl true [.st (.hp 122)] [.bool]
noncomputable def s78:FS:=dfl true [.aggT 160] [.int .i64]
noncomputable def s74:FS:=dfl false [.aggT 160,.st (.hp 9),.st (.hp 3)] [.int .i64]
noncomputable def s48:FS:=dfl false [.st (.hp 84),.str,.int .i64] [.int .i64]
noncomputable def s87:FS:=dfl true [aB,.str,.int .i64] [.ty 99,.int .i64]
noncomputable def s80:FS:=dfl true [.aggT 160,.str,.int .i64] [.ty 99,.int .i64]
noncomputable def zDb:FS:=dfn true [.int .i64] [] λ((i:Int),()) g Q=>IT (0<=i/\i < 64) (Q (.bool true) g) (Q (.bool false) g)
noncomputable def zDc:FS:=dfl false [.st (.hp 139),.aggT 96] [.ty 212,.int .i64]
noncomputable def zDd:FS:=dfn false [.st (.hp 139),.aggT 96,.int .i64] [.ty 214] λ(_,_,(i:Int),()) g Q=>(0<=i/\i < 64)/\AN .i64 λe=>Q (.tup [.aggT 214,.int .i64 e]) g
noncomputable def zDe:FS:=dfg false [.st (.hp 139),.sl false false 5] [.ty 96,.int .i64] 1
noncomputable def zDf:FS:=dfg false [.st (.hp 139),.aggT 212] [.ty 96,.int .i64] 1
noncomputable def zDg:FS:=dfn true [.aggT 214,.aggT 96,.int .i64] [.sl true true false] λ(_,_,(i:Int),()) g Q=>(0<=i/\i < 64)/\∀n:Nat,n<=3->Q (.sl true true false 96 n) g
noncomputable def s81:FS:=dfg false [.st (.hp 139),.aggT 96,.int .i64,.sl false false 5] [.ty 96,.sl false false false 96,.int .i64] 3
noncomputable def s82:FS:=dfl true [.int .i64] [.int .i64]
noncomputable def zDh:FS:=dfl false [.aggT 160,.sl false false 96] []
noncomputable def zDi:FS:=dfl true [.sl false false 99,.int .u64] [.int .u64]
noncomputable def zBh:FS:=dfn true [.sl false false 96,.aggT 96] [.sl false false false] λ((n:Nat),_,()) g Q=>∀m:Nat,m<=n+1->AN .i64 λe=>Q (.tup [.sl false false false 96 m,.int .i64 e]) g
noncomputable def zDj:FS:=dfn true [aB,.int .u64,.sl false false 96] [rB,.sl false false false] λ_ g Q=>AN .u64 λx=>∀n:Nat,n<=big->∀m:Nat,m<=big->AN .i64 λe=>Q (.tup [bk true true false x n,.sl false false false 96 m,.int .i64 e]) g
noncomputable def s83:FS:=dfl false [.aggT 160,.int .u64,.aggT 96,.sl false false 96] [.int .i64]
noncomputable def s79:FS:=dfg false [.aggT 160,.st (.hp 9),.st (.hp 3),.st (.hp 34)] [.int .i64] 3
noncomputable def s49:FS:=dfg false [.st (.hp 84),.str,.int .i64,.sl false false 5] [.int .i64] 3
noncomputable def zDk:FS:=dfl true [.aggT 212] [.bool]
noncomputable def s85:FS:=dfg false [.st (.hp 139),.aggT 96,.int .i64] [.ty 96,.sl false false false 96,.int .i64] 2
noncomputable def s84:FS:=dfg false [.aggT 160,.st (.hp 9),.st (.hp 3)] [.int .i64] 2
noncomputable def s50:FS:=dfg false [.st (.hp 84),.str,.int .i64] [.int .i64] 3
noncomputable def s88:FS:=dfl false [.st (.hp 139),.aggT 96,.int .i64] [.ty 41,.int .i64]
noncomputable def s51:FS:=dfl false [.st (.hp 84),.str,.int .i64] [.ty 41,.int .i64]
noncomputable def zDl:FS:=dfn true [.str] [] λ_ g Q=>∀a:ByteArray,a.size<=24->∀b:ByteArray,b.size<=24->AN .i64 λe=>Q (.tup [.str a,.str b,.int .i64 e]) g
noncomputable def s90:FS:=dfn true [aB,.str,.int .u64] [rB] λ_ g Q=>AN .u64 λx=>∀n:Nat,n<=big->AN .i64 λe=>Q (.tup [bk true true false x n,.int .i64 e]) g
noncomputable def s91:FS:=dfl false [.st (.hp 139)] []
noncomputable def s89:FS:=dfl false [.aggT 160,.st (.hp 9)] [.int .i64]
noncomputable def s52:FS:=dfl false [.st (.hp 84),.str] [.int .i64]
noncomputable def s93:FS:=dfn true [aB,.str,.str] [rB] λ_ g Q=>AN .u64 λx=>∀n:Nat,n<=big->AN .i64 λe=>Q (.tup [bk true true false x n,.int .i64 e]) g
noncomputable def s92:FS:=dfl false [.aggT 160,.st (.hp 9),.st (.hp 9)] [.int .i64]
noncomputable def s53:FS:=dfl false [.st (.hp 84),.str,.str] [.int .i64]
noncomputable def s61:FS:=dfn true [.sl false false 99,.int .u64] [.sl true true false] λ_ g Q=>∀n:Nat,n<=32->AN .u64 λx=>Q (.tup [.sl true true false 62 n,.int .u64 x]) g
noncomputable def s35:FS:=dfl true [.sl false false 99,.int .u64] [.int .u64]
noncomputable def zBi:FS:=dfn true [aB,.str] [] λ(((_:Int),(n:Nat),()),(_:ByteArray),()) g Q=>∀i:Int, -1<=i->i < (n:Int)->AN .i64 λe=>(e=0->0<=i)->Q (.tup [.int .i64 i,.int .i64 e]) g
noncomputable def zBj:FS:=dfl true [.sl false false 99,.int .u64] [.ty 99,.bool]
noncomputable def zBk:FS:=dfn true [.sl false false 99,.int .u64] [.sl true true false] λ_ g Q=>∀n:Nat,n<=32->Q (.sl true true false 62 n) g
noncomputable def zBl:FS:=dfn true [.sl false false 62,.int .u64] [] λ((n:Nat),(_:Int),()) g Q=>∀i:Int, -1<=i->i < (n:Int)->Q (.int .i64 i) g
noncomputable def s95:FS:=dfn true [aB,.str] [rB] λ_ g Q=>AN .u64 λx=>∀n:Nat,n<=big->AN .i64 λe=>Q (.tup [bk true true false x n,.int .i64 e]) g
noncomputable def s94:FS:=dfl false [.aggT 160,.st (.hp 9)] [.int .i64]
noncomputable def s54:FS:=dfl false [.st (.hp 84),.str] [.int .i64]
noncomputable def s97:FS:=dfn true [aB,.str] [rB,.ty 99] λ_ g Q=>AN .u64 λx=>∀n:Nat,n<=big->AN .i64 λe=>Q (.tup [bk true true false x n,.aggT 99,.int .i64 e]) g
noncomputable def zDm:FS:=dfl true [.aggT 96,.int .u64] [.bool]
noncomputable def zDn:FS:=dfl false [.st (.hp 139),.aggT 96,.int .u64] [.sl false false false 96,.int .i64]
noncomputable def s98:FS:=dfl false [.aggT 160,aB,.aggT 99] [.int .i64]
noncomputable def s96:FS:=dfl false [.aggT 160,.st (.hp 9)] [.int .i64]
noncomputable def s55:FS:=dfl false [.st (.hp 84),.str] [.int .i64]
noncomputable def zBm:FS:=dfn false [.sl true true 99,.int .i64,.int .i64] [.sl true false false] λ((n:Nat),(i:Int),(j:Int),()) g Q=>(0<=i/\i<=j/\j<=n/\0 < n)/\Q (.sl true false false 99 ((n:Int) - j+i).toNat) g
noncomputable def zDo:FS:=dfn false [aB,.str] [.agg [.keep,.sl true false false],.ty 99] λ_ g Q=>AN .u64 λx=>∀n:Nat,n<=big->AN .i64 λe=>Q (.tup [bk true false false x n,.aggT 99,.int .i64 e]) g
noncomputable def zBn:FS:=dfl true [.sl false false 99,.int .u64] [.sl false false false 62]
noncomputable def zBo:FS:=dfl true [.sl false false 99,.int .u64] [.int .u64]
noncomputable def zDp:FS:=dfl true [.sl false false 96,.int .u64] [.sl false false false 96,.sl false false false 96]
noncomputable def zDq:FS:=dfn true [.sl false false 96,.sl false false 96] [.sl false false false] λ_ g Q=>∀n:Nat,n<=2097152->AN .i64 λe=>Q (.tup [.sl false false false 96 n,.int .i64 e]) g
noncomputable def zDr:FS:=dfn false [aB,.str] [.agg [.keep,.sl true false false],.sl false false false] λ_ g Q=>AN .u64 λx=>∀n:Nat,n<=big->∀m:Nat,m<=big->AN .i64 λe=>Q (.tup [bk true false false x n,.sl false false false 96 m,.int .i64 e]) g
noncomputable def s99:FS:=dfl false [.aggT 160,.st (.hp 9)] [.int .i64]
noncomputable def s56:FS:=dfl false [.st (.hp 84),.str] [.int .i64]
noncomputable def zDs:FS:=dfg false [.st (.hp 122)] [.int .i64] 7001
noncomputable def s57:FS:=dfg false [.st (.hp 84)] [.int .i64] 7001
noncomputable def s32:FS:=dfg false [.st (.hp 84),.st (.cp false false 57)] [.ty 43] 7001
noncomputable def s15:FS:=dfg false [.st (.hp 79),.st (.hp 84),.st (.cp false false 57)] [.ty 43,.np 84] 8000
noncomputable def s60:FS:=dfn true [.str,.str] [] λ_ g Q=>∀a:ByteArray,a.size<=49->Q (.str a) g
noncomputable def s34:FS:=dfl true [.sl false false 99,.int .u64] [.str]
noncomputable def s16:FS:=dfl true [.st (.hp 84)] [.sl false false false 102]
noncomputable def s17:FS:=dfl true [.st (.hp 84)] [.int .i64]
noncomputable def zx0:FS:=dfl false [.st (.hp 84),.cl 74 [] [.st (.hp 9),.st (.hp 3)]] [.int .i64]
noncomputable def zx1:FS:=dfg false [.st (.hp 84),.cl 79 [] [.st (.hp 9),.st (.hp 3),.st (.hp 34)]] [.int .i64] 3
noncomputable def zx2:FS:=dfg false [.st (.hp 84),.cl 84 [] [.st (.hp 9),.st (.hp 3)]] [.int .i64] 2
noncomputable def zx3:FS:=dfl false [.st (.hp 84),.cl 89 [] [.st (.hp 9)]] [.int .i64]
noncomputable def zx4:FS:=dfl false [.st (.hp 84),.cl 92 [] [.st (.hp 9),.st (.hp 9)]] [.int .i64]
noncomputable def zx5:FS:=dfl false [.st (.hp 84),.cl 94 [] [.st (.hp 9)]] [.int .i64]
noncomputable def zx6:FS:=dfl false [.st (.hp 84),.cl 96 [] [.st (.hp 9)]] [.int .i64]
noncomputable def zx7:FS:=dfl false [.st (.hp 84),.cl 99 [] [.st (.hp 9)]] [.int .i64]
noncomputable def zz0:FS:=dfg false [.st (.hp 79),.st .nilp,.st (.cp false false 57)] [.ty 43,.np 84] 8000
set_option maxRecDepth 100000
abbrev L0:Loc:=λ_=>none
theorem ziL:XOk cx0:=zjW.sp cx0.sp
theorem Xt.refl (base:Nat) (S:TY):Xt base S S:=⟨λ_ _ h=>h,λ_ _=>rfl,λ_ h=>h,λ_ _ h=>h,rfl⟩
abbrev Fin (S:TY) (g:Int) (hp:AH) (pu:Bool) (Q:TV->Int->Prop) (v:Value) (h' : AH):Prop:=∃S' r g',Xt hp.next S S'/\WT cx0 S' g' h'/\hp.next<=h'.next/\(∀b,b < hp.next->(pu=true\/(S.ty b=none/\¬S.dv b))->h'.get b=hp.get b)/\gam cx0 S' h' L0 hp.next r v/\tagsOf r=[]/\Q r g'
theorem zaY {f:FuncId} {s:FS} (h:∀ρ g Q,s.s ρ g Q->∀S hp vs,WT cx0 S g hp->gams cx0 S hp L0 hp.next (instAs s.ps ρ) vs->Wf Tryz.prog KB f vs hp (Fin S g hp s.pu Q)):Vl f s:=h
theorem WT.old {S:TY} {g:Int} {hp h' : AH} (w:WT cx0 S g hp) (o:Old hp h'):WT cx0 S g h':=w.keep ziL o.1 λb hb _=>o.2 b hb
theorem za5 {S:TY} {g:Int} {hp h' : AH} {pu:Bool} {Q:TV->Int->Prop} {v:Value} {r:TV} (w:WT cx0 S g hp) (o:Old hp h') (hg:gam cx0 S h' L0 hp.next r v) (ht:tagsOf r=[]) (hq:Q r g):Fin S g hp pu Q v h':=
 ⟨S,r,g,Xt.refl _ _,w.old o,o.1,λb hb _=>o.2 b hb,hg,ht,hq⟩
theorem zc0 {S:TY} {g:Int} {hp h' : AH} {pu:Bool} {Q:TV->Int->Prop} {v:Value} {r:TV} {b:Nat} {cs:List Value} {e:TypeId} {cc:Nat->Option Nat} (w:WT cx0 S g hp) (o:Old hp h') (h1:hp.next<=b) (h2:b < h'.next) (h3:h'.get b=some (.cells cs e false)) (h4:zau cx0 S cc cs)
 (hg:gam cx0 (zeI S b (false,e,cc)) h' L0 hp.next r v) (ht:tagsOf r=[]) (hq:Q r g):Fin S g hp pu Q v h':=by
 have hl:Le2 S (zeI S b (false,e,cc)):=⟨λc q hc=>by
  have:=(w.1 c q.1 q.2.1 q.2.2 hc).1
  show (if c=b then _ else S.ty c)=some q
  grind,rfl⟩
 have w':=w.old o
 refine⟨_,r,g,⟨hl.ty,λc hc=>if_neg (by omega),λ_ h=>h,λ_ _ h=>h,rfl⟩,⟨λc ro e' c' hc=>?_,w'.2.1,zjW.d2 S _ g h' w'.2.2 rfl λ_=>Iff.rfl⟩,o.1,λc hc _=>o.2 c hc,hg,ht,hq⟩
 have hc' : (if c=b then some (false,e,cc) else S.ty c)=some (ro,e',c'):=hc
 split at hc'
 ·rename_i q
  subst q
  cases hc'
  exact⟨h2,λq=>by have:=w.2.1 c q; omega,cs,false,h3,λ_=>rfl,h4.mono hl⟩
 ·obtain⟨k1,k2,cs',r',k3,k4,k5⟩:=w'.1 c ro e' c' hc'
  exact⟨k1,k2,cs',r',k3,k4,k5.mono hl⟩
theorem zgx {S:TY} {g g' : Int} {hp h' : AH} {Q:TV->Int->Prop} {v:Value} {r:TV} {n:Nat} {x x' : Dd} (w:WT cx0 S g hp) (h4:∀c∈x.bk S.dev,S.dv c) (D:DV h' S.dev n x') (f:Fr (x.bk S.dev) hp h' (x'.bk S.dev)) (h1:(x'.pn:Int)<=g') (h2:g'<=1000000000) (h3:n<=1024)
 (hg:∀S',gam cx0 S' h' L0 hp.next r v) (ht:tagsOf r=[]) (hq:Q r g'):Fin S g hp false Q v h':=by
 have hd:∀b,b < hp.next->b∈x'.bk S.dev->b∈x.bk S.dev:=λb hb hc=>(f.2.2 b hc).resolve_right (by omega)
 refine⟨{ S with dv:=λc=>S.dv c\/c∈x'.bk S.dev },r,g',⟨λ_ _ h=>h,λ_ _=>rfl,λ_ h=>.inl h,by grind,rfl⟩,⟨λc ro e c' hc=>?_,λb hb=>hb.elim (λq=>Qi (w.2.1 b q) f.1) λq=>D.lt b q,⟨n,x',D,h1,h2,h3,λc hc=>.inr hc⟩⟩,f.1,λb hb q=>?_,hg _,ht,hq⟩
 ·obtain⟨k1,k2,cs,r',k3,k4,k5⟩:=w.1 c ro e c' hc
  refine⟨Qi k1 f.1,by grind,cs,r',?_,k4,k5.mono ⟨λ_ _ h=>h,rfl⟩⟩
  rw[f.2.1 c k1 λz=>k2 (h4 c z)]
  omega
 ·rcases q with q | ⟨_,q⟩
  ·grind
  ·exact f.2.1 b hb λz=>q (h4 b z)
theorem zgy {S:TY} {hp:AH} {a:TV} {vs:List Value} (g:gams cx0 S hp L0 hp.next [a] vs):∃x,vs=[x]/\gam cx0 S hp L0 hp.next a x:=by
 match vs,g with
 | [x],g=>grind[gams]
 | [],g=>grind[gams]
 | _ :: _ :: _,g=>grind[gams]
theorem zec {S:TY} {hp:AH} {a b:TV} {vs:List Value} (g:gams cx0 S hp L0 hp.next [a,b] vs):∃x y,vs=[x,y]/\gam cx0 S hp L0 hp.next a x/\gam cx0 S hp L0 hp.next b y:=by
 match vs,g with
 | [],g=>grind[gams]
 | x :: vs,g=>grind[gams,zgy]
theorem zqd {S:TY} {hp:AH} {a b c:TV} {vs:List Value} (g:gams cx0 S hp L0 hp.next [a,b,c] vs):∃x y z,vs=[x,y,z]/\gam cx0 S hp L0 hp.next a x/\gam cx0 S hp L0 hp.next b y/\gam cx0 S hp L0 hp.next c z:=by
 match vs,g with
 | [],g=>grind[gams]
 | x :: vs,g=>grind[gams,zec]
theorem zed {S:TY} {hp:AH} {v:Value} (g:gam cx0 S hp L0 hp.next (.hp 79) v):v=ptr S.dev 0:=by
 exact g
theorem xb {f:FuncId} (h:(Nat.beq f 5 || (Nat.beq f 160 || Nat.beq f 266))=false):KB f=none:=by
 unfold KB zmS zjh
 grind
end Go.Am
