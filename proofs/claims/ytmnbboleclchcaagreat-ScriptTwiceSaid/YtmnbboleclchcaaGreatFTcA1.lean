/-
  Texts of this proof, part 43. No condition.
-/
import Derived.Test.YtmnbboleclchcaaGreatFTcSx
set_option linter.unusedSimpArgs false
set_option linter.unusedVariables false
set_option maxRecDepth 100000
namespace Go.Am
open Go.Proofs
theorem z42:Vl 42 s42:=v42
theorem z43:Vl 43 s43:=vt [] vn λ((),((),((a:Int),((b:Int),())))) g Q=>{c:=Q (.hp 139) g}
theorem z62:Vl 62 s62:=vt [] vn λ((),((a:Int),((b:Int),()))) g Q=>{c:=IX a 1024 (U8n λc=>IT (c=1) ((64:Int)≠0/\∀d:Int,InR .i64 d->(0<=a->(0:Int)<64->d=a/64)->IX d 16 (I6 λe=>AI .i64 (e-1) λf=>IX d 16 (IX a 1024 (IT (b=1) ((64:Int)≠0/\∀i:Int,InR .i64 i->(0<=a->(0:Int)<64->i=a/64)->IX i 16 (I6 λj=>AI .i64 (j+1) λk=>IX i 16 (Q (.tup []) g))) (Q (.tup []) g))))) (IX a 1024 (IT (b=1) ((64:Int)≠0/\∀l:Int,InR .i64 l->(0<=a->(0:Int)<64->l=a/64)->IX l 16 (I6 λm=>AI .i64 (m+1) λn=>IX l 16 (Q (.tup []) g))) (Q (.tup []) g))))}
theorem z37:Vl 37 s37:=vt [] vn λ((),()) g Q=>{c:=Q (.hp 144) g}
theorem z38:Vl 38 s38:=vt [⟨3,[(3,.int .i64),(9,.same),(10,.int .i64)],[],false,[],λl=>match l with|[m0,m1]=>0<=m1/\m1<=16|_=>False,λl=>match l with|[m0,m1]=>16-m1|_=>0⟩] vn λ((),()) g Q=>{c:=EI g g ((0:Int)<=0/\(0:Int)<=16)/\I6 λa=>I6 λb=>0<=b/\b<=16->IT (b<16) (IX b 16 (I6 λc=>AI .i64 (a+c) λd=>AI .i64 (b+1) λe=>EI g g ((0<=e/\e<=16)/\0<=16-e/\16-e<16-b))) (Q (Ie a) g)}
theorem z64:Vl 64 s64:=vt [] vn λ((),()) g Q=>{c:=Q (.hp 79) g}
theorem z18:Vl 18 s18:=v18
theorem z20:Vl 20 s20:=v20
theorem zDZ:Vl 219 zBZ:=vt [] vn λ((),()) g Q=>{c:=I6 λa=>U6 λb=>U3 λc=>Q (.bool true) g/\IT (4<=a) (IT (a<1024) (IT (1<=b) (IT (b<=281474976710655) (Q (.bool true) g) (Q (.bool false) g)) (Q (.bool false) g)) (Q (.bool false) g)) (Q (.bool false) g)}
theorem zD0:Vl 220 zB0:=vt [] vn λ() g Q=>{c:=N6 4/\N6 8/\N6 4/\Q (.xs [4,8,4]) g}
theorem zD1:Vl 107 zAO:=zDx
theorem zBu:Vl 209 zzW:=vt [] vn λ((),((),())) g Q=>{c:=I6 λa=>U6 λb=>U3 λc=>I6 λd=>U6 λe=>U3 λf=>IT (b=e) (IT (a=d) (IT (c<f) (Q (.bool true) g) (Q (.bool false) g)) (IT (a<d) (Q (.bool true) g) (Q (.bool false) g))) (IT (b<e) (Q (.bool true) g) (Q (.bool false) g))}
theorem zD2:Vl 178 zB7:=vt [] vn λ((),((a:Int),((b:Int),()))) g Q=>{c:=IT (0<=a) (IT (a<1024) (IX a 1024 (U8n λc=>IT (c=b) (Q (.bool true) g) (Q (.bool false) g))) (Q (.bool false) g)) (Q (.bool false) g)}
theorem zD3:Vl 184 zAR:=zDS
theorem zBv:Vl 166 zAT:=vt [] vn λ((a:Int),()) g Q=>⟨IT (a<64) (Q (Ie 0) g) (IT (1024<a) (Q (Ie 0) g) (AI .i64 (a+1) λb=>(2:Int)≠0/\∀c:Int,InR .i64 c->(0<=b->(0:Int)<2->c=b/2)->AI .i64 (5*c) λd=>AI .i64 (2+d) λe=>Q (Ie e) g)),by
 intro H K
 conv at H=>whnf
 conv at K=>whnf
 try dsimp only[BG,AM,AB,AG,GW,N6,I6,I3,U6,U3,U8n,Ie,Ue,Sf,P2,P3,pk,pk1,dfl,dfn,dfg,dfw,preA,zqc,znW,zqs,bk,wok,zbS,AI,AN,IT,AL,IX,RM,EI,EN,zoL,InR,kLo,kHi,big,za8,zbT,zaA] at H K ⊢
 try simp only[forall_and,imp_and] at H
 repeat' (first | (refine And.intro ?_ ?_) | intro _)
 all_goals first | (first | with_reducible assumption | omega | rfl | decide) | (apply H <;> first | (first | with_reducible assumption | omega | rfl | decide) | (unfold zeL; split <;> omega))⟩
theorem zD4:Vl 221 zCf:=vt [⟨3,[(0,.int .u32),(10,.see),(11,.see),(12,.int .i64)],[],false,[],λl=>match l with|[m0,m1,m2,m3]=>0<=m3/\m3<=m2|_=>False,λl=>match l with|[m0,m1,m2,m3]=>m2-m3|_=>0⟩,⟨7,[(0,.int .u32),(10,.see),(11,.see),(12,.see),(20,.int .i64)],[],false,[],λl=>match l with|[m0,m1,m2,m3,m4]=>0<=m4/\m4<=8|_=>False,λl=>match l with|[m0,m1,m2,m3,m4]=>8-m4|_=>0⟩] vn λ((a:Int),((b:Nat),())) g Q=>{c:=U3 λc=>AL b (EN b b (EI b b (EI g g ((0:Int)<=0/\(0:Int)<=b)))/\U3 λd=>I6 λe=>0<=e/\e<=b->IT (e<b) (IX e b (U8n λf=>AI .u32 f λi=>U3 λj=>EN b b (EI b b (EI e e (EI g g ((0:Int)<=0/\(0:Int)<=8))))/\U3 λk=>I6 λl=>0<=l/\l<=8->IT (l<8) (U3 λm=>(0:Int)<=1/\∀n:Int,InR .u32 n->(0<=k->0<=n/\n<=k)->IT (m=1) (U3 λo=>AI .i64 (l+1) λp=>EN b b (EI b b (EI e e (EI g g ((0<=p/\p<=8)/\0<=8-p/\8-p<8-l))))) (AI .i64 (l+1) λq=>EN b b (EI b b (EI e e (EI g g ((0<=q/\q<=8)/\0<=8-q/\8-q<8-l)))))) (AI .i64 (e+1) λr=>EN b b (EI b b (EI g g ((0<=r/\r<=b)/\0<=b-r/\b-r<b-e)))))) (U3 λs=>Q (.int .u32 s) g))}
theorem zD5:Vl 179 zAU:=zDt
theorem z24:Vl 24 s24:=v24
theorem zD6:Vl 125 zAW:=zDH
theorem zBw:Vl 253 zAX:=vt [⟨3,[(3,.ap 903 294 294 false),(7,.same),(8,.int .i64)],[],false,[],λl=>match l with|[m0,m1]=>0<=m1/\m1<=4096/\m0<=m1|_=>False,λl=>match l with|[m0,m1]=>4096-m1|_=>0⟩] vn λ((),()) g Q=>{c:=EI g g ((0:Int)<=0/\(0:Int)<=4096/\(0:Int)<=0)/\∀a:Nat,I6 λb=>0<=b/\b<=4096/\a<=b->IT (b<4096) (IX b 4096 (AL a (AI .i64 (a-1) λc=>IT (0<=c) (IX c a (I6 λd=>IX c a (I6 λe=>AI .i64 (d+e) λf=>IT (f=b) (IX c a (I6 λi=>AI .i64 (i+1) λj=>IX c a (AI .i64 (b+1) λk=>EI g g ((0<=k/\k<=4096/\a<=k)/\0<=4096-k/\4096-k<4096-b)))) (RM (a+1) 16 (AI .i64 (b+1) λl=>EI g g ((0<=l/\l<=4096/\a+1<=l)/\0<=4096-l/\4096-l<4096-b)))))) (RM (a+1) 16 (AI .i64 (b+1) λm=>EI g g ((0<=m/\m<=4096/\a+1<=m)/\0<=4096-m/\4096-m<4096-b))))/\AI .i64 (b+1) λn=>EI g g ((0<=n/\n<=4096/\a<=n)/\0<=4096-n/\4096-n<4096-b))) (Q (Sf 294 a) g)}
theorem zD7:Vl 115 zAY:=zDu
theorem zD8:Vl 218 zAZ:=zDA
theorem zD9:Vl 241 zCq:=vt [] vn λ((),()) g Q=>{c:=I6 λa=>I6 λb=>IT (0<=a) (IT (a<4096) (IT (1<=b) (AI .i64 (4096-a) λc=>IT (b<=c) (Q (.bool true) g) (Q (.bool false) g)) (Q (.bool false) g)) (Q (.bool false) g)) (Q (.bool false) g)}
theorem zEa:Vl 229 zCu:=vt [] vn λ() g Q=>{c:=N6 1/\N6 2/\N6 2/\Q (.xs [1,2,2]) g}
theorem zEb:Vl 230 zA3:=zDz
theorem z65:Vl 65 s65:=vt [] vn λ((),()) g Q=>{c:=U6 λa=>Q (Ue a) g}
theorem zEc:Vl 114 zA5:=zDv
theorem zEd:Vl 116 zCA:=vt [] vn λ((),()) g Q=>{c:=U6 λa=>U6 λb=>I6 λc=>U6 λd=>U3 λe=>I6 λf=>I6 λi=>(4:Int)≠0/\∀j:Int,InR .u64 j->(0<=a->(0:Int)<4->j=a%4)->AI .i64 j λk=>Q (Ie k) g}
theorem zEe:Vl 106 zCQ:=vt [] vn λ((),()) g Q=>{c:=U6 λa=>∀b:ByteArray,b.size<=262144->(U6 λc=>U6 λd=>U6 λe=>I6 λf=>I6 λi=>U6 λj=>U3 λk=>AB λl=>RM l 24 (BG l/\Q (.aggT 99) g))/\U6 λm=>U6 λn=>U6 λo=>I6 λp=>I6 λq=>U6 λr=>U3 λs=>AB λt=>RM t 24 (BG t/\Q (.aggT 99) g)}
theorem z59:Vl 59 s59:=vt [⟨2,[(0,.see),(1,.see),(7,.see),(8,.int .i64)],[],false,[],λl=>match l with|[m0,m1,m2,m3]=>0<=m3/\m3<=m2|_=>False,λl=>match l with|[m0,m1,m2,m3]=>m2-m3|_=>0⟩] vn λ((a:Nat),((b:Int),())) g Q=>{c:=AL a (EN a a (EI b b (EI a a (EI g g ((0:Int)<=0/\(0:Int)<=a))))/\I6 λc=>0<=c/\c<=a->IT (c<a) (IX c a (U6 λd=>IT (d=b) (Q (Ie c) g) (AI .i64 (c+1) λe=>EN a a (EI b b (EI a a (EI g g ((0<=e/\e<=a)/\0<=a-e/\a-e<a-c))))))) (Q (Ie (-1)) g))}
theorem z36:Vl 36 s36:=vt [] vn λ((),()) g Q=>{c:=Q (.hp 139) g}
theorem z28:Vl 28 s28:=v28
theorem z29:Vl 29 s29:=v29
theorem z68:Vl 68 s68:=v68
theorem zEf:Vl 224 zCJ:=vt [] vn λ((a:Int),()) g Q=>{c:=IT (a=a) (Q (.bool false) g) (Q (.bool true) g)}
theorem zEg:Vl 251 zCE:=vt [] vn λ((a:Int),()) g Q=>{c:=IT (65536<=a) ((0:Int)<=16/\∀b:Int,InR .u32 b->(0<=a->0<=b/\b<=a)->IT (256<=b) ((0:Int)<=8/\∀c:Int,InR .u32 c->(0<=b->0<=c/\c<=b)->AI .i64 24 λd=>AI .u8 c λe=>IX e 256 (U8n λf=>AI .i64 f λi=>AI .i64 (d+i) λj=>Q (Ie j) g)) (AI .u8 b λk=>IX k 256 (U8n λl=>AI .i64 l λm=>AI .i64 (16+m) λn=>Q (Ie n) g))) (IT (256<=a) ((0:Int)<=8/\∀o:Int,InR .u32 o->(0<=a->0<=o/\o<=a)->AI .i64 8 λp=>AI .u8 o λq=>IX q 256 (U8n λr=>AI .i64 r λs=>AI .i64 (p+s) λt=>Q (Ie t) g)) (AI .u8 a λu=>IX u 256 (U8n λv=>AI .i64 v λw=>AI .i64 (0+w) λx=>Q (Ie x) g)))}
theorem zEh:Vl 252 zCF:=vt [] vn λ((a:Int),()) g Q=>{c:=IT (4294967296<=a) ((0:Int)<=32/\∀b:Int,InR .u64 b->(0<=a->0<=b/\b<=a)->IT (65536<=b) ((0:Int)<=16/\∀c:Int,InR .u64 c->(0<=b->0<=c/\c<=b)->AI .i64 48 λd=>IT (256<=c) ((0:Int)<=8/\∀e:Int,InR .u64 e->(0<=c->0<=e/\e<=c)->AI .i64 (d+8) λf=>AI .u8 e λi=>IX i 256 (U8n λj=>AI .i64 j λk=>AI .i64 (f+k) λl=>Q (Ie l) g)) (AI .u8 c λm=>IX m 256 (U8n λn=>AI .i64 n λo=>AI .i64 (d+o) λp=>Q (Ie p) g))) (IT (256<=b) ((0:Int)<=8/\∀q:Int,InR .u64 q->(0<=b->0<=q/\q<=b)->AI .i64 40 λr=>AI .u8 q λs=>IX s 256 (U8n λt=>AI .i64 t λu=>AI .i64 (r+u) λv=>Q (Ie v) g)) (AI .u8 b λw=>IX w 256 (U8n λx=>AI .i64 x λy=>AI .i64 (32+y) λz=>Q (Ie z) g)))) (IT (65536<=a) ((0:Int)<=16/\∀a1:Int,InR .u64 a1->(0<=a->0<=a1/\a1<=a)->AI .i64 16 λb1=>IT (256<=a1) ((0:Int)<=8/\∀c1:Int,InR .u64 c1->(0<=a1->0<=c1/\c1<=a1)->AI .i64 (b1+8) λd1=>AI .u8 c1 λe1=>IX e1 256 (U8n λf1=>AI .i64 f1 λi1=>AI .i64 (d1+i1) λj1=>Q (Ie j1) g)) (AI .u8 a1 λk1=>IX k1 256 (U8n λl1=>AI .i64 l1 λm1=>AI .i64 (b1+m1) λn1=>Q (Ie n1) g))) (IT (256<=a) ((0:Int)<=8/\∀o1:Int,InR .u64 o1->(0<=a->0<=o1/\o1<=a)->AI .i64 8 λp1=>AI .u8 o1 λq1=>IX q1 256 (U8n λr1=>AI .i64 r1 λs1=>AI .i64 (p1+s1) λt1=>Q (Ie t1) g)) (AI .u8 a λu1=>IX u1 256 (U8n λv1=>AI .i64 v1 λw1=>AI .i64 (0+w1) λx1=>Q (Ie x1) g))))}
theorem zEi:Vl 120 zCN:=vt [] vn λ((a:Int),()) g Q=>{c:=IT (a=42) (Q (Ie a) g) (Q (Ie 91) g)}
theorem z41:Vl 41 s41:=v41
theorem z26:Vl 26 s26:=v26
theorem zBx:Vl 190 zA8:=vt [] vn λ((),()) g Q=>{c:=(U6 λa=>∀b:ByteArray,b.size<=262144->Q (.aggT 265) g)/\∀c:ByteArray,c.size<=262144->Q (.aggT 265) g}
theorem zEj:Vl 126 zBc:=zDN
theorem z31:Vl 31 s31:=v31
theorem zEk:Vl 158 zCR:=vt [] vn λ((),()) g Q=>{c:=Q (.hp 144) g}
theorem zEl:Vl 159 zCS:=vt [] vn λ((),()) g Q=>{c:=U6 λa=>Q (Ue a) g}
theorem zEm:Vl 160 zxZ:=zDL
theorem zEn:Vl 266 zBf:=zDy
theorem zEo:Vl 205 zC3:=vt [] vn λ((),((),())) g Q=>{c:=U6 λa=>∀b:ByteArray,b.size<=262144->(U6 λc=>U6 λd=>U6 λe=>I6 λf=>I6 λi=>U6 λj=>U3 λk=>AB λl=>U6 λm=>IT (a=m) (Q (.bool true) g) (Q (.bool false) g))/\U6 λn=>U6 λo=>U6 λp=>I6 λq=>I6 λr=>U6 λs=>U3 λt=>AB λu=>U6 λv=>IT (a=v) (Q (.bool true) g) (Q (.bool false) g)}
theorem zEp:Vl 198 zC9:=vt [] vn λ((),()) g Q=>{c:=AB λa=>AL a (Q (Ie a) g)}
theorem zEq:Vl 133 zDb:=vt [] vn λ((a:Int),()) g Q=>{c:=IT (0<=a) (IT (a<64) (Q (.bool true) g) (Q (.bool false) g)) (Q (.bool false) g)}
theorem zEr:Vl 137 zDg:=vt [⟨3,[(7,.ap 907 96 96 false),(18,.same),(19,.int .i64)],[],false,[],λl=>match l with|[m0,m1]=>0<=m1/\m1<=3/\m0<=m1|_=>False,λl=>match l with|[m0,m1]=>3-m1|_=>0⟩] vn λ((),((),((a:Int),()))) g Q=>{c:=I6 λb=>U6 λc=>U3 λd=>(8:Int)≠0/\∀e:Int,InR .i64 e->(0<=a->(0:Int)<8->e=a/8)->IX e 8 (EI g g ((0:Int)<=0/\(0:Int)<=3/\(0:Int)<=0)/\∀f:Nat,I6 λi=>0<=i/\i<=3/\f<=i->IT (i<3) (IX i 3 (I6 λj=>U6 λk=>U3 λl=>RM (f+1) 24 (AI .i64 (i+1) λm=>EI g g ((0<=m/\m<=3/\f+1<=m)/\0<=3-m/\3-m<3-i))/\AI .i64 (i+1) λn=>EI g g ((0<=n/\n<=3/\f<=n)/\0<=3-n/\3-n<3-i))) (Q (.sl true true false 96 f) g))}
theorem z82:Vl 82 s82:=vt [] vn λ((a:Int),()) g Q=>{c:=IT (a=0) (Q (Ie a) g) (IT (a=42) (Q (Ie a) g) (IT (a=71) (Q (Ie a) g) (Q (Ie 91) g)))}
theorem zEs:Vl 139 zDk:=vt [] vn λ((),()) g Q=>{c:=Q (.bool true) g/\Q (.bool false) g}
theorem z91:Vl 91 s91:=vt [] vn λ((),()) g Q=>{c:=U6 λa=>AI .u64 (a+1) λb=>Q (.tup []) g}
theorem zBy:Vl 147 zBl:=vt [⟨2,[(0,.see),(1,.see),(7,.see),(8,.int .i64)],[],false,[],λl=>match l with|[m0,m1,m2,m3]=>0<=m3/\m3<=m2|_=>False,λl=>match l with|[m0,m1,m2,m3]=>m2-m3|_=>0⟩] vn λ((a:Nat),((b:Int),())) g Q=>{c:=AL a (EN a a (EI b b (EI a a (EI g g ((0:Int)<=0/\(0:Int)<=a))))/\I6 λc=>0<=c/\c<=a->IT (c<a) (IX c a (U6 λd=>IT (b=d) (Q (Ie c) g) (AI .i64 (c+1) λe=>EN a a (EI b b (EI a a (EI g g ((0<=e/\e<=a)/\0<=a-e/\a-e<a-c))))))) (Q (Ie (-1)) g))}
theorem zEt:Vl 206 zDm:=vt [] vn λ((),((a:Int),())) g Q=>{c:=I6 λb=>U6 λc=>U3 λd=>IT (a<c) (Q (.bool true) g) (Q (.bool false) g)/\Q (.bool false) g}
theorem zEu:Vl 153 zBm:=zDE
def t0:=PLift.up<|va zEu<|va zEt<|va zBy<|va z91<|va zEs<|va z82<|va zEr<|va zEq<|va zEp<|va zEo<|va zEn<|va zEm<|va zEl<|va zEk<|va z31<|va zEj<|va zBx<|va z26<|va z41<|va zEi<|va zEh<|va zEg<|va zEf<|va z68<|va z29<|va z28<|va z36<|va z59<|va zEe<|va zEd<|va zEc<|va z65<|va zEb<|va zEa<|va zD9<|va zD8<|va zD7<|va zBw<|va zD6<|va z24<|va zD5<|va zD4<|va zBv<|va zD3<|va zD2<|va zBu<|va zD1<|va zD0<|va zDZ<|va z20<|va z18<|va z64<|va z38<|va z37<|va z62<|va z43<|va z42<|vn
theorem z44:Vl 44 s44:=vt [⟨3,[(0,.see),(3,.same),(4,.int .i64)],[],false,[6],λl=>match l with|[m0,m1]=>0<=m1/\m1<=1024|_=>False,λl=>match l with|[m0,m1]=>1024-m1|_=>0⟩] t0.1 λ((a:Int),()) g Q=>{c:=EI a a (EI g g ((0:Int)<=4/\(4:Int)<=1024))/\I6 λb=>0<=b/\b<=1024->∀c:Int,InR .i64 c->c=a\/c=1024->c<=a/\c<=1024->IT (b<c) ((0<=b/\b<1024)/\AI .i64 (b+1) λd=>EI a a (EI g g ((0<=d/\d<=1024)/\0<=1024-d/\1024-d<1024-b))) (Q (.hp 144) g)}
theorem zEv:Vl 174 zB1:=vt [] t0.1 λ((),()) g Q=>{c:=I6 λa=>U6 λb=>U3 λc=>(AI .u64 a λd=>AI .u64 c λe=>(((1:Int)<=4/\(4:Int)<=8)/\((1:Int)<=8/\(8:Int)<=8)/\((1:Int)<=4/\(4:Int)<=8)/\True)/\AM 24 λf=>I6 λi=>(i=0->(f:Int)=16)->IT (i=0) (Q (P2 (.sl true true false 5 f) (Ie 0)) g) (Q (P2 (.sl true true false 5 0) (Ie 51)) g))/\Q (P2 (.sl true true false 5 0) (Ie 51)) g}
end Go.Am
