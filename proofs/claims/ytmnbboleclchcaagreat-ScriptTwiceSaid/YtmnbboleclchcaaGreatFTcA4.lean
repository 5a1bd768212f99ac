/-
  Texts of this proof, part 46. No condition.
-/
import Derived.Test.YtmnbboleclchcaaGreatFTcA3
set_option linter.unusedSimpArgs false
set_option linter.unusedVariables false
set_option maxRecDepth 100000
namespace Go.Am
open Go.Proofs
def t7:=PLift.up<|va z87<|va zFH<|va zFG<|va z70<|va z69<|va zFF<|t6.1
theorem z63:Vl 63 s63:=vt [⟨5,[(0,.same),(6,.same),(9,.see),(24,.see),(25,.see),(26,.int .i64)],[(6,none)],false,[],λl=>match l with|[m0,m1,m2,m3]=>0<=m3/\m3<=m2|_=>False,λl=>match l with|[m0,m1,m2,m3]=>m2-m3|_=>0⟩] t7.1 λ((),(((a:Int),((b:Nat),())),((c:Nat),()))) g Q=>{c:=BG b/\∀d:Nat,I6 λe=>(e=0->d<=65535)->IT (e=0) (AL c (EN d d (EN c c (EI c c (EI 0 0 (EI 0 0 (EI 0 0 (EI g g ((0:Int)<=0/\(0:Int)<=c)))))))/\I6 λf=>0<=f/\f<=c->IT (f<c) (IX f c (I6 λi=>U6 λj=>U3 λk=>I6 λl=>AI .i64 (f+1) λm=>EN d d (EN c c (EI c c (EI 0 0 (EI 0 0 (EI 0 0 (EI g g ((0<=m/\m<=c)/\0<=c-m/\c-m<c-f))))))))) (I6 λn=>BG d/\∀o:Int,o=1+zcg d+zcg (zeL n)->1<=o->o<=1401->(zcg d:Int)<o->I6 λp=>IT (p<o) (Q (P3 (.aggT 96) (Sf 96 0) (Ie 71)) g) (o<=100000/\AM 100000 λq=>I6 λr=>(r=0->0<=o->q=o)->IT (r=0) (BG d/\BG q/\GW g 7000/\(d<=65535/\(zcg d:Int)<q/\q<=100000)/\AB λs=>I6 λt=>AG g 7000 λu=>I6 λv=>U6 λw=>U3 λx=>Q (P3 (.aggT 96) (Sf 96 s) (Ie t)) u) (Q (P3 (.aggT 96) (Sf 96 0) (Ie r)) g))))) (Q (P3 (.aggT 96) (Sf 96 0) (Ie e)) g)}
theorem z46:Vl 46 s46:=vt [] t7.1 λ((),()) g Q=>{c:=Q (P2 (.np 122 true) (Ie 42)) g/\(U6 λa=>U6 λb=>I6 λc=>U6 λd=>U3 λe=>I6 λf=>I6 λi=>I6 λj=>IT (i=j) (IT (f=40) (I6 λk=>AB λl=>AB λm=>I6 λn=>U6 λo=>AB λp=>IT (n=0) (IT (281474976710652<a) (Q (P2 (.np 122 true) (Ie 192)) g) (IT (281474976710652<o) (Q (P2 (.np 122 true) (Ie 192)) g) (IT (281474976710652<b) (Q (P2 (.np 122 true) (Ie 192)) g) (BG l/\AI .u64 (b+1) λq=>BG p/\BG m/\Q (P2 (.hp 122) (Ie 0)) g)))) (Q (P2 (.np 122 true) (Ie n)) g)) (Q (P2 (.np 122 true) (Ie 91)) g)) (Q (P2 (.np 122 true) (Ie 91)) g))/\U6 λr=>U6 λs=>I6 λt=>U6 λu=>U3 λv=>I6 λw=>I6 λx=>Q (P2 (.np 122 true) (Ie 91)) g}
theorem z76:Vl 76 s76:=vt [] t7.1 λ(((a:Int),((b:Nat),())),((c:ByteArray),((d:Int),()))) g Q=>{c:=∀e:ByteArray,e.size<=24->I6 λf=>IT (f=0) (IT (d<1) (BG b/\Q (P2 (.agg [Ue a,.sl true true false 99 b]) (Ie 176)) g) (IT (64<d) (BG b/\Q (P2 (.agg [Ue a,.sl true true false 99 b]) (Ie 176)) g) (AL b (IT ((32:Int)<=b) (BG b/\Q (P2 (.agg [Ue a,.sl true true false 99 b]) (Ie 175)) g) (BG b/\∀i:Int,(-1:Int)<=i->i<b->IT (0<=i) (BG b/\Q (P2 (.agg [Ue a,.sl true true false 99 b]) (Ie 171)) g) (BG b/\U6 λj=>Q (P2 (.agg [Ue j,.sl true true false 99 (b+1)]) (Ie 0)) g)))))) (BG b/\Q (P2 (.agg [Ue a,.sl true true false 99 b]) (Ie f)) g)}
theorem zFI:Vl 161 zC8:=vt [] t7.1 λ((),()) g Q=>{c:=I6 λa=>U6 λb=>AB λc=>BG c/\I6 λd=>Q (Ie d) g}
theorem z80:Vl 80 s80:=vt [] t7.1 λ((),((a:ByteArray),((b:Int),()))) g Q=>{c:=∀c:ByteArray,c.size<=24->∀d:ByteArray,d.size<=24->I6 λe=>IT (e=0) ((d.size=0->U6 λf=>AB λi=>BG i/\I6 λj=>U6 λk=>∀l:ByteArray,l.size<=262144->(U6 λm=>U6 λn=>U6 λo=>I6 λp=>I6 λq=>U6 λr=>U3 λs=>AB λt=>BG t/\Q (P2 (.aggT 99) (Ie j)) g)/\U6 λu=>U6 λv=>U6 λw=>I6 λx=>I6 λy=>U6 λz=>U3 λa1=>AB λb1=>BG b1/\Q (P2 (.aggT 99) (Ie j)) g)/\Q (P2 (.aggT 99) (Ie 141)) g) (Q (P2 (.aggT 99) (Ie 141)) g)}
theorem z51:Vl 51 s51:=vt [] t7.1 λ((),((a:ByteArray),((b:Int),()))) g Q=>{c:=Q (P2 (.aggT 41) (Ie 42)) g/\U6 λc=>AB λd=>BG d/\I6 λe=>U6 λf=>∀i:ByteArray,i.size<=262144->(U6 λj=>U6 λk=>U6 λl=>I6 λm=>I6 λn=>U6 λo=>U3 λp=>AB λq=>IT (e=0) (I6 λr=>IT (r=0) (Q (P2 (.aggT 41) (Ie 0)) g) (I6 λs=>Q (P2 (.aggT 41) (Ie s)) g)) (Q (P2 (.aggT 41) (Ie e)) g))/\U6 λt=>U6 λu=>U6 λv=>I6 λw=>I6 λx=>U6 λy=>U3 λz=>AB λa1=>IT (e=0) (I6 λb1=>IT (b1=0) (Q (P2 (.aggT 41) (Ie 0)) g) (I6 λc1=>Q (P2 (.aggT 41) (Ie c1)) g)) (Q (P2 (.aggT 41) (Ie e)) g)}
theorem z90:Vl 90 s90:=vt [] t7.1 λ(((a:Int),((b:Nat),())),((c:ByteArray),((d:Int),()))) g Q=>{c:=∀e:ByteArray,e.size<=24->∀f:ByteArray,f.size<=24->I6 λi=>IT (i=0) (BG b/\∀j:Int,(-1:Int)<=j->j<b->IT (j<0) (BG b/\Q (P2 (.agg [Ue a,.sl true true false 99 b]) (Ie 172)) g) (AL b (IT ((32:Int)<=b) (BG b/\Q (P2 (.agg [Ue a,.sl true true false 99 b]) (Ie 175)) g) (BG b/\∀k:Int,(-1:Int)<=k->k<b->IT (0<=k) (BG b/\Q (P2 (.agg [Ue a,.sl true true false 99 b]) (Ie 171)) g) (IX j b (U6 λl=>IT (d<1) (BG b/\Q (P2 (.agg [Ue a,.sl true true false 99 b]) (Ie 176)) g) (IT (281474976710655<d) (BG b/\Q (P2 (.agg [Ue a,.sl true true false 99 b]) (Ie 176)) g) (BG b/\U6 λm=>IT (d<=m) (BG b/\Q (P2 (.agg [Ue a,.sl true true false 99 b]) (Ie 176)) g) (IX j b (U6 λn=>∀o:ByteArray,o.size<=262144->(U6 λp=>U6 λq=>U6 λr=>I6 λs=>I6 λt=>U6 λu=>U3 λv=>AB λw=>BG w/\BG b/\U6 λx=>IX j (b+1) (IX j (b+1) (Q (P2 (.agg [Ue x,.sl true true false 99 (b+1)]) (Ie 0)) g)))/\U6 λy=>U6 λz=>U6 λa1=>I6 λb1=>I6 λc1=>U6 λd1=>U3 λe1=>AB λf1=>BG f1/\BG b/\U6 λi1=>IX j (b+1) (IX j (b+1) (Q (P2 (.agg [Ue i1,.sl true true false 99 (b+1)]) (Ie 0)) g)))))))))))) (BG b/\Q (P2 (.agg [Ue a,.sl true true false 99 b]) (Ie i)) g)}
theorem z93:Vl 93 s93:=vt [] t7.1 λ(((a:Int),((b:Nat),())),((c:ByteArray),((d:ByteArray),()))) g Q=>{c:=∀e:ByteArray,e.size<=24->∀f:ByteArray,f.size<=24->I6 λi=>IT (i=0) (∀j:ByteArray,j.size<=24->I6 λk=>IT (k=0) (BG b/\∀l:Int,(-1:Int)<=l->l<b->IT (l<0) (BG b/\Q (P2 (.agg [Ue a,.sl true true false 99 b]) (Ie 172)) g) (AL b (IT ((32:Int)<=b) (BG b/\Q (P2 (.agg [Ue a,.sl true true false 99 b]) (Ie 175)) g) (BG b/\∀m:Int,(-1:Int)<=m->m<b->IT (0<=m) (BG b/\Q (P2 (.agg [Ue a,.sl true true false 99 b]) (Ie 171)) g) (IX l b (U6 λn=>I6 λo=>I6 λp=>U6 λq=>U3 λr=>BG b/\U6 λs=>Q (P2 (.agg [Ue s,.sl true true false 99 (b+1)]) (Ie 0)) g)))))) (BG b/\Q (P2 (.agg [Ue a,.sl true true false 99 b]) (Ie k)) g)) (BG b/\Q (P2 (.agg [Ue a,.sl true true false 99 b]) (Ie i)) g)}
theorem zBP:Vl 144 zBi:=vt [] t7.1 λ(((a:Int),((b:Nat),())),((c:ByteArray),())) g Q=>{c:=∀d:ByteArray,d.size<=24->I6 λe=>IT (e=0) (BG b/\∀f:Int,(-1:Int)<=f->f<b->IT (f<0) (Q (P2 (Ie (-1)) (Ie 172)) g) (Q (P2 (Ie f) (Ie 0)) g)) (Q (P2 (Ie (-1)) (Ie e)) g)}
theorem zFJ:Vl 102 zDr:=vt [] t7.1 λ(((a:Int),((b:Nat),())),((c:ByteArray),())) g Q=>{c:=∀d:ByteArray,d.size<=24->∀e:ByteArray,e.size<=24->I6 λf=>IT (f=0) (BG b/\∀i:Int,(-1:Int)<=i->i<b->IT (i<0) (BG b/\Q (P3 (.agg [Ue a,.sl true false false 99 b]) (Sf 96 0) (Ie 172)) g) (IX i b (U6 λj=>BG b/\AB λk=>AL k (IT ((0:Int)<k) (BG b/\Q (P3 (.agg [Ue a,.sl true false false 99 b]) (Sf 96 0) (Ie 173)) g) (U6 λl=>BG b/\U6 λm=>BG b/\∀n:Int,(-1:Int)<=n->n<b->IT (n<0) (BG b/\Q (P3 (.agg [Ue a,.sl true false false 99 b]) (Sf 96 0) (Ie 172)) g) (IX n b (AB λo=>U6 λp=>BG b/\U6 λq=>BG o/\AB λr=>AB λs=>AB λt=>BG r/\BG t/\AM 2097152 λu=>I6 λv=>IT (v=0) (AL u (IT ((4000:Int)<u) (BG b/\Q (P3 (.agg [Ue a,.sl true false false 99 b]) (Sf 96 0) (Ie 131)) g) (BG b/\U6 λw=>IX n b (BG u/\IX n b (AI .i64 (i+1) λx=>BG b/\(0<=i/\i<=x/\x<=b/\(0:Nat)<b)/\Q (P3 (.agg [Ue a,.sl true false false 99 (Int.toNat (b-x+i))]) (Sf 96 s) (Ie 0)) g))))) (BG b/\Q (P3 (.agg [Ue a,.sl true false false 99 b]) (Sf 96 0) (Ie 131)) g)))))))) (BG b/\Q (P3 (.agg [Ue a,.sl true false false 99 b]) (Sf 96 0) (Ie f)) g)}
def t8:=PLift.up<|va zFJ<|va zBP<|va z93<|va z90<|va z51<|va z80<|va zFI<|va z76<|va z46<|va z63<|t7.1
theorem z45:Vl 45 s45:=vt [] t8.1 λ((),()) g Q=>{c:=AB λa=>U6 λb=>AB λc=>BG c/\BG a/\GW g 7000/\AG g 7000 λd=>AB λe=>I6 λf=>I6 λi=>U6 λj=>U3 λk=>IT (f=0) (U6 λl=>AI .u64 (l+1) λm=>U6 λn=>I6 λo=>GW d 1/\AG d 1 λp=>I6 λq=>IT (q=0) (BG e/\Q (Ie 0) p) (Q (Ie q) p)) (Q (Ie f) d)}
theorem z30:Vl 30 s30:=vt [] t8.1 λ((),()) g Q=>{c:=IT ((0:Int)=0) (Q (P2 (.hp 84) (Ie 0)) g) (Q (P2 (.np 84 true) (Ie 0)) g)/\∀a:Int,InR .i64 a->¬a=0->IT (a=0) False (Q (P2 (.np 84 true) (Ie a)) g)}
theorem zFK:Vl 132 zDa:=vt [] t8.1 λ((),()) g Q=>{c:=I6 λa=>I6 λb=>IT (0<a) (IT (a<=b) (I6 λc=>AI .i64 (b+c) λd=>AI .i64 (2*a) λe=>IT (e<=d) (Q (.bool true) g) (Q (.bool false) g)) (Q (.bool false) g)) (Q (.bool false) g)}
theorem z95:Vl 95 s95:=v95 zBF zBP z35 zBG zBJ zBy
theorem z97:Vl 97 s97:=vt [] t8.1 λ(((a:Int),((b:Nat),())),((c:ByteArray),())) g Q=>{c:=BG b/\∀d:Int,(-1:Int)<=d->d<b->I6 λe=>(e=0->0<=d)->IT (e=0) (IX d b (U6 λf=>BG b/\(U6 λi=>∀j:ByteArray,j.size<=262144->(U6 λk=>U6 λl=>U6 λm=>I6 λn=>I6 λo=>U6 λp=>U3 λq=>AB λr=>BG b/\IX d b (IX d b (IX d b (U6 λs=>∀t:ByteArray,t.size<=262144->(U6 λu=>U6 λv=>U6 λw=>I6 λx=>I6 λy=>U6 λz=>U3 λa1=>AB λb1=>BG b1/\Q (P3 (.agg [Ue a,.sl true true false 99 b]) (.aggT 99) (Ie 0)) g)/\U6 λc1=>U6 λd1=>U6 λe1=>I6 λf1=>I6 λi1=>U6 λj1=>U3 λk1=>AB λl1=>BG l1/\Q (P3 (.agg [Ue a,.sl true true false 99 b]) (.aggT 99) (Ie 0)) g))))/\U6 λm1=>U6 λn1=>U6 λo1=>I6 λp1=>I6 λq1=>U6 λr1=>U3 λs1=>AB λt1=>BG b/\IX d b (IX d b (IX d b (U6 λu1=>∀v1:ByteArray,v1.size<=262144->(U6 λw1=>U6 λx1=>U6 λy1=>I6 λz1=>I6 λa2=>U6 λb2=>U3 λc2=>AB λd2=>BG d2/\Q (P3 (.agg [Ue a,.sl true true false 99 b]) (.aggT 99) (Ie 0)) g)/\U6 λe2=>U6 λf2=>U6 λi2=>I6 λj2=>I6 λk2=>U6 λl2=>U3 λm2=>AB λn2=>BG n2/\Q (P3 (.agg [Ue a,.sl true true false 99 b]) (.aggT 99) (Ie 0)) g))))/\U6 λo2=>∀p2:ByteArray,p2.size<=262144->(U6 λq2=>U6 λr2=>U6 λs2=>I6 λt2=>I6 λu2=>U6 λv2=>U3 λw2=>AB λx2=>BG b/\Q (P3 (.agg [Ue a,.sl true true false 99 b]) (.aggT 99) (Ie 174)) g)/\U6 λy2=>U6 λz2=>U6 λa3=>I6 λb3=>I6 λc3=>U6 λd3=>U3 λe3=>AB λf3=>BG b/\Q (P3 (.agg [Ue a,.sl true true false 99 b]) (.aggT 99) (Ie 174)) g)) (BG b/\Q (P3 (.agg [Ue a,.sl true true false 99 b]) (.aggT 99) (Ie e)) g)}
theorem zFL:Vl 101 zDo:=vt [] t8.1 λ(((a:Int),((b:Nat),())),((c:ByteArray),())) g Q=>{c:=BG b/\∀d:Int,(-1:Int)<=d->d<b->I6 λe=>(e=0->0<=d)->IT (e=0) (IX d b (U6 λf=>BG b/\AM 32 λi=>AL i (IT ((0:Int)<i) (BG b/\Q (P3 (.agg [Ue a,.sl true false false 99 b]) (.aggT 99) (Ie 173)) g) (BG b/\AI .i64 (d+1) λj=>BG b/\(0<=d/\d<=j/\j<=b/\(0:Nat)<b)/\IX d b (U6 λk=>∀l:ByteArray,l.size<=262144->(U6 λm=>U6 λn=>U6 λo=>I6 λp=>I6 λq=>U6 λr=>U3 λs=>AB λt=>BG t/\Q (P3 (.agg [Ue a,.sl true false false 99 (Int.toNat (b-j+d))]) (.aggT 99) (Ie 0)) g)/\U6 λu=>U6 λv=>U6 λw=>I6 λx=>I6 λy=>U6 λz=>U3 λa1=>AB λb1=>BG b1/\Q (P3 (.agg [Ue a,.sl true false false 99 (Int.toNat (b-j+d))]) (.aggT 99) (Ie 0)) g))))) (BG b/\Q (P3 (.agg [Ue a,.sl true false false 99 b]) (.aggT 99) (Ie e)) g)}
def t9:=PLift.up<|va zFL<|va z97<|va z95<|va zFK<|va z30<|va z45<|t8.1
theorem z27:Vl 27 s27:=vt [] t9.1 λ((),()) g Q=>{c:=I6 λa=>IT (a<64) (Q (P2 (.np 122 true) (Ie 191)) g) (I6 λb=>GW g 7001/\AG g 7001 λc=>I6 λd=>IT (d=0) (Q (P2 (.hp 122) (Ie 0)) c) (Q (P2 (.np 122 true) (Ie d)) c))}
theorem z78:Vl 78 s78:=vt [] t9.1 λ((),()) g Q=>{c:=Q (Ie 0) g/\Q (Ie 71) g}
theorem z94:Vl 94 s94:=vt [] t9.1 λ((),((),())) g Q=>{c:=∀a:ByteArray,a.size<=262144->U6 λb=>AB λc=>BG c/\U6 λd=>AB λe=>I6 λf=>IT (f=0) (BG e/\Q (Ie 0) g) (Q (Ie f) g)}
theorem z96:Vl 96 s96:=vt [] t9.1 λ((),((),())) g Q=>{c:=∀a:ByteArray,a.size<=262144->U6 λb=>AB λc=>BG c/\U6 λd=>AB λe=>I6 λf=>U6 λi=>∀j:ByteArray,j.size<=262144->(U6 λk=>U6 λl=>U6 λm=>I6 λn=>I6 λo=>U6 λp=>U3 λq=>AB λr=>IT (f=0) (BG r/\BG e/\I6 λs=>Q (Ie s) g) (Q (Ie f) g))/\U6 λt=>U6 λu=>U6 λv=>I6 λw=>I6 λx=>U6 λy=>U3 λz=>AB λa1=>IT (f=0) (BG a1/\BG e/\I6 λb1=>Q (Ie b1) g) (Q (Ie f) g)}
theorem z99:Vl 99 s99:=vt [] t9.1 λ((),((),())) g Q=>{c:=∀a:ByteArray,a.size<=262144->∀b:ByteArray,b.size<=24->∀c:ByteArray,c.size<=24->I6 λd=>IT (d=0) ((c.size=0->∀e:ByteArray,e.size<=262144->U6 λf=>AB λi=>BG i/\U6 λj=>AB λk=>I6 λl=>U6 λm=>∀n:ByteArray,n.size<=262144->(U6 λo=>U6 λp=>U6 λq=>I6 λr=>I6 λs=>U6 λt=>U3 λu=>AB λv=>IT (l=0) (BG v/\BG k/\I6 λw=>Q (Ie w) g) (Q (Ie l) g))/\U6 λx=>U6 λy=>U6 λz=>I6 λa1=>I6 λb1=>U6 λc1=>U3 λd1=>AB λe1=>IT (l=0) (BG e1/\BG k/\I6 λf1=>Q (Ie f1) g) (Q (Ie l) g))/\∀i1:ByteArray,i1.size<=262144->U6 λj1=>AB λk1=>BG k1/\U6 λl1=>AB λm1=>AB λn1=>I6 λo1=>IT (o1=131) (I6 λp1=>Q (Ie p1) g) (IT (o1=0) (BG n1/\BG m1/\Q (Ie 0) g) (Q (Ie o1) g))) (Q (Ie 141) g)}
theorem zFM:Vl 105 zDs:=vt [] t9.1 λ((),()) g Q=>{c:=Q (Ie 42) g/\U6 λa=>IT (281474976710652<a) (Q (Ie 192) g) (U6 λb=>IT (281474976710652<b) (Q (Ie 192) g) (U6 λc=>IT (281474976710652<c) (Q (Ie 192) g) (I6 λd=>I6 λe=>IT (d<e) (Q (Ie 71) g) (GW g 7001/\AG g 7001 λf=>I6 λi=>Q (Ie i) f))))}
def t10:=PLift.up<|va zFM<|va z99<|va z96<|va z94<|va z78<|va z27<|t9.1
theorem z14:Vl 14 s14:=vt [] t10.1 λ((),()) g Q=>{c:=GW g 7001/\(AG g 7001 λa=>IT ((0:Int)=0) (Q (P2 (.hp 84) (Ie 0)) a) (Q (P2 (.np 84 true) (Ie 0)) a))/\AG g 7001 λb=>∀c:Int,InR .i64 c->¬c=0->IT (c=0) False (Q (P2 (.np 84 true) (Ie c)) b)}
theorem z74:Vl 74 s74:=vt [] t10.1 λ((),((),((),()))) g Q=>{c:=Q (Ie 192) g/\∀a:ByteArray,a.size<=262144->I6 λb=>U6 λc=>AB λd=>BG d/\U6 λe=>AB λf=>I6 λi=>IT (i=0) (BG f/\I6 λj=>Q (Ie j) g) (Q (Ie i) g)}
theorem z83:Vl 83 s83:=vt [⟨3,[(1,.see),(3,.see),(4,.same),(6,.same),(9,.same),(18,.see),(19,.int .i64)],[(4,none),(6,none),(9,none)],false,[],λl=>match l with|[m0,m1,m2,m3]=>0<=m3/\m3<=m2|_=>False,λl=>match l with|[m0,m1,m2,m3]=>m2-m3|_=>0⟩] t10.1 λ((),((a:Int),((),((b:Nat),())))) g Q=>{c:=I6 λc=>U6 λd=>U3 λe=>U6 λf=>AB λi=>AL i (EI a a (EN b b (EI i i (EI c c (EI d d (EI e e (EI f f (EN i i (EI g g ((0:Int)<=0/\(0:Int)<=i)))))))))/\I6 λj=>0<=j/\j<=i->IT (j<i) (IX j i (U6 λk=>IT (k=a) (IX j i (AI .i64 (j+1) λl=>EI a a (EN b b (EI i i (EI c c (EI d d (EI e e (EI f f (EN i i (EI g g ((0<=l/\l<=i)/\0<=i-l/\i-l<i-j))))))))))) (AI .i64 (j+1) λm=>EI a a (EN b b (EI i i (EI c c (EI d d (EI e e (EI f f (EN i i (EI g g ((0<=m/\m<=i)/\0<=i-m/\i-m<i-j)))))))))))) (BG i/\BG b/\U6 λn=>AB λo=>AB λp=>I6 λq=>IT (q=0) (BG p/\BG o/\I6 λr=>Q (Ie r) g) (I6 λs=>Q (Ie s) g)))}
theorem z89:Vl 89 s89:=vt [] t10.1 λ((),((),())) g Q=>{c:=U6 λa=>Q (Ie 192) g/\IT (281474976710651<a) (Q (Ie 192) g) (∀b:ByteArray,b.size<=262144->U6 λc=>AB λd=>BG d/\U6 λe=>AB λf=>I6 λi=>IT (i=0) (BG f/\I6 λj=>Q (Ie j) g) (Q (Ie i) g))}
theorem z92:Vl 92 s92:=vt [] t10.1 λ((),((),((),()))) g Q=>{c:=Q (Ie 192) g/\∀a:ByteArray,a.size<=262144->∀b:ByteArray,b.size<=262144->U6 λc=>AB λd=>BG d/\U6 λe=>AB λf=>I6 λi=>IT (i=0) (BG f/\I6 λj=>Q (Ie j) g) (Q (Ie i) g)}
theorem zyA:Vl 73 zx5:=vt [] t10.1 λ((),(((),((),())),())) g Q=>{c:=Q (Ie 42) g/\I6 λa=>IT (a=0) (Q (Ie 0) g) (Q (Ie a) g)}
theorem zyB:Vl 73 zx6:=vt [] t10.1 λ((),(((),((),())),())) g Q=>{c:=Q (Ie 42) g/\I6 λa=>IT (a=0) (Q (Ie 0) g) (Q (Ie a) g)}
theorem zyC:Vl 73 zx7:=vt [] t10.1 λ((),(((),((),())),())) g Q=>{c:=Q (Ie 42) g/\I6 λa=>IT (a=0) (Q (Ie 0) g) (Q (Ie a) g)}
theorem z57:Vl 57 s57:=vt [] t10.1 λ((),()) g Q=>{c:=Q (Ie 42) g/\GW g 7001/\AG g 7001 λa=>I6 λb=>IT (b=0) (Q (Ie 0) a) (Q (Ie b) a)}
def t11:=PLift.up<|va z57<|va z92<|va z89<|va z83<|va z74<|va z14<|t10.1
theorem zyD:Vl 73 zx0:=vt [] t11.1 λ((),(((),((),((),()))),())) g Q=>{c:=Q (Ie 42) g/\I6 λa=>IT (a=0) (Q (Ie 0) g) (Q (Ie a) g)}
theorem z79:Vl 79 s79:=vt [] t11.1 λ((),((),((),((),())))) g Q=>{c:=∀a:ByteArray,a.size<=262144->I6 λb=>I6 λc=>U6 λd=>∀e:ByteArray,e.size<=262144->(U6 λf=>U6 λi=>U6 λj=>I6 λk=>I6 λl=>U6 λm=>U3 λn=>AB λo=>IT (c=0) (AB λp=>AL p (IT ((128:Int)<p) (Q (Ie 92) g) (I6 λq=>AB λr=>BG r/\GW g 3/\AG g 3 λs=>AB λt=>I6 λu=>I6 λv=>U6 λw=>U3 λx=>IT (u=0) (BG t/\I6 λy=>Q (Ie y) s) (I6 λz=>Q (Ie z) s)))) (Q (Ie c) g))/\U6 λa1=>U6 λb1=>U6 λc1=>I6 λd1=>I6 λe1=>U6 λf1=>U3 λi1=>AB λj1=>IT (c=0) (AB λk1=>AL k1 (IT ((128:Int)<k1) (Q (Ie 92) g) (I6 λl1=>AB λm1=>BG m1/\GW g 3/\AG g 3 λn1=>AB λo1=>I6 λp1=>I6 λq1=>U6 λr1=>U3 λs1=>IT (p1=0) (BG o1/\I6 λt1=>Q (Ie t1) n1) (I6 λu1=>Q (Ie u1) n1)))) (Q (Ie c) g)}
theorem z84:Vl 84 s84:=vt [] t11.1 λ((),((),((),()))) g Q=>{c:=∀a:ByteArray,a.size<=262144->I6 λb=>I6 λc=>U6 λd=>∀e:ByteArray,e.size<=262144->(U6 λf=>U6 λi=>U6 λj=>I6 λk=>I6 λl=>U6 λm=>U3 λn=>AB λo=>IT (c=0) (I6 λp=>GW g 2/\AG g 2 λq=>AB λr=>I6 λs=>I6 λt=>U6 λu=>U3 λv=>IT (s=0) (BG r/\I6 λw=>Q (Ie w) q) (I6 λx=>Q (Ie x) q)) (Q (Ie c) g))/\U6 λy=>U6 λz=>U6 λa1=>I6 λb1=>I6 λc1=>U6 λd1=>U3 λe1=>AB λf1=>IT (c=0) (I6 λi1=>GW g 2/\AG g 2 λj1=>AB λk1=>I6 λl1=>I6 λm1=>U6 λn1=>U3 λo1=>IT (l1=0) (BG k1/\I6 λp1=>Q (Ie p1) j1) (I6 λq1=>Q (Ie q1) j1)) (Q (Ie c) g)}
theorem zyE:Vl 73 zx3:=vt [] t11.1 λ((),(((),((),())),())) g Q=>{c:=Q (Ie 42) g/\I6 λa=>IT (a=0) (Q (Ie 0) g) (Q (Ie a) g)}
theorem zyF:Vl 73 zx4:=vt [] t11.1 λ((),(((),((),((),()))),())) g Q=>{c:=Q (Ie 42) g/\I6 λa=>IT (a=0) (Q (Ie 0) g) (Q (Ie a) g)}
theorem z54:Vl 54 s54:=vt [] (va zyA t11.1) λ((),((a:ByteArray),())) g Q=>{c:=I6 λb=>Q (Ie b) g}
theorem z55:Vl 55 s55:=vt [] (va zyB t11.1) λ((),((a:ByteArray),())) g Q=>{c:=I6 λb=>Q (Ie b) g}
theorem z56:Vl 56 s56:=vt [] (va zyC t11.1) λ((),((a:ByteArray),())) g Q=>{c:=I6 λb=>Q (Ie b) g}
def t12:=PLift.up<|va z56<|va z55<|va z54<|va z84<|va z79<|t11.1
theorem z48:Vl 48 s48:=vt [] (va zyD t12.1) λ((),((a:ByteArray),((b:Int),()))) g Q=>{c:=I6 λc=>Q (Ie c) g}
theorem zyG:Vl 73 zx1:=vt [] t12.1 λ((),(((),((),((),((),())))),())) g Q=>{c:=Q (Ie 42) g/\GW g 3/\AG g 3 λa=>I6 λb=>IT (b=0) (Q (Ie 0) a) (Q (Ie b) a)}
theorem zyH:Vl 73 zx2:=vt [] t12.1 λ((),(((),((),((),()))),())) g Q=>{c:=Q (Ie 42) g/\GW g 2/\AG g 2 λa=>I6 λb=>IT (b=0) (Q (Ie 0) a) (Q (Ie b) a)}
theorem z52:Vl 52 s52:=vt [] (va zyE t12.1) λ((),((a:ByteArray),())) g Q=>{c:=I6 λb=>Q (Ie b) g}
theorem z53:Vl 53 s53:=vt [] (va zyF t12.1) λ((),((a:ByteArray),((b:ByteArray),()))) g Q=>{c:=I6 λc=>Q (Ie c) g}
def t13:=PLift.up<|va z53<|va z52<|va z48<|t12.1
theorem z49:Vl 49 s49:=vt [] (va zyG t13.1) λ((),((a:ByteArray),((b:Int),((c:Nat),())))) g Q=>{c:=BG c/\GW g 3/\AG g 3 λd=>I6 λe=>Q (Ie e) d}
theorem z50:Vl 50 s50:=vt [] (va zyH t13.1) λ((),((a:ByteArray),((b:Int),()))) g Q=>{c:=GW g 2/\AG g 2 λc=>I6 λd=>Q (Ie d) c}
def t14:=PLift.up<|va z50<|va z49<|t13.1
theorem z32:Vl 32 s32:=vt [] t14.1 λ((),((),())) g Q=>{c:=I6 λa=>IT (a=0) (∀b:ByteArray,b.size<=262144->I6 λc=>I6 λd=>Q (.aggT 43) g) (IT (a=1) (∀e:ByteArray,e.size<=262144->I6 λf=>AB λi=>BG i/\GW g 3/\AG g 3 λj=>I6 λk=>Q (.aggT 43) j) (IT (a=2) (∀l:ByteArray,l.size<=262144->I6 λm=>GW g 3/\AG g 3 λn=>I6 λo=>Q (.aggT 43) n) (IT (a=3) (∀p:ByteArray,p.size<=262144->I6 λq=>I6 λr=>Q (.aggT 43) g) (IT (a=4) (∀s:ByteArray,s.size<=262144->I6 λt=>Q (.aggT 43) g) (IT (a=5) (∀u:ByteArray,u.size<=262144->∀v:ByteArray,v.size<=262144->I6 λw=>Q (.aggT 43) g) (IT (a=6) (∀x:ByteArray,x.size<=262144->I6 λy=>Q (.aggT 43) g) (IT (a=7) (∀z:ByteArray,z.size<=262144->I6 λa1=>Q (.aggT 43) g) (IT (a=8) (∀b1:ByteArray,b1.size<=262144->I6 λc1=>Q (.aggT 43) g) (IT (a=9) (GW g 7001/\AG g 7001 λd1=>I6 λe1=>Q (.aggT 43) d1) (Q (.aggT 43) g))))))))))}
def t15:=PLift.up<|va z32<|t14.1
theorem z15:Vl 15 s15:=vt [] t15.1 λ((),((),((),()))) g Q=>{c:=I6 λa=>IT (a=10) (I6 λb=>Q (P2 (.aggT 43) (.np 84 false)) g) (IT (a=11) (AB λc=>BG c/\IT ((0:Int)=0) (Q (P2 (.aggT 43) (.np 84 false)) g) (Q (P2 (.aggT 43) (.np 84 true)) g)/\∀d:Int,InR .i64 d->¬d=0->IT (d=0) (Q (P2 (.aggT 43) (.np 84 true)) g) (Q (P2 (.aggT 43) (.np 84 true)) g)) (IT (a=12) (((0:Int)<=0/\(0:Int)<=128/\(128:Int)<=128)/\AB λe=>∀f:Int,0<=f->f<=128->f<=e->I6 λi=>I6 λj=>Q (P2 (.aggT 43) (.np 84 false)) g) (GW g 7001/\AG g 7001 λk=>Q (P2 (.aggT 43) (.np 84 false)) k)))}
theorem zAk:Vl 15 zz0:=vt [] t15.1 λ((),((),((),()))) g Q=>{c:=I6 λa=>IT (a=10) (I6 λb=>Q (P2 (.aggT 43) (.np 84 true)) g) (IT (a=11) (AB λc=>BG c/\IT ((0:Int)=0) (Q (P2 (.aggT 43) (.np 84 false)) g) (Q (P2 (.aggT 43) (.np 84 true)) g)/\∀d:Int,InR .i64 d->¬d=0->IT (d=0) (Q (P2 (.aggT 43) (.np 84 true)) g) (Q (P2 (.aggT 43) (.np 84 true)) g)) (IT (a=12) (((0:Int)<=0/\(0:Int)<=128/\(128:Int)<=128)/\AB λe=>∀f:Int,0<=f->f<=128->f<=e->I6 λi=>I6 λj=>Q (P2 (.aggT 43) (.np 84 true)) g) (Q (P2 (.aggT 43) (.np 84 true)) g)))}
theorem zn8:∀{ws:List Nat},(∀w∈ws,w<=8)->ws.sum<=8 * ws.length
 | [],_=>Qc _
 | w :: ws,h=>by
   have h1:=h w (by simp)
   have h2:=zn8 (ws:=ws) λx hx=>h x (by grind)
   grind
theorem zFN:za3 Tryz.prog 70 62 1 8:=zaW (by kernel_rfl)
section
variable {K:Xs} {h:AH}
theorem zi0 (hk:K 39=none) {p:Option Addr} {n c:Nat} {ws:List Nat} (hs:zaz h p n 1 (za7 .i64 ws)) (hw:∀w∈ws,1<=w/\w<=8) (hl:ws.length<=1000):
 Wf Tryz.prog K 39 [.slice p n c] h λv h'=>v=.tuple #[.int .i64 (ws.sum:Nat),.bool true]/\h=h':=by
 have hn:n=ws.length:=by have:=hs.1; grind[zaG]
 subst hn
 refine zfI hk _ _ _ h _ ⟨λi4 i5 k g=>∃j:Nat,i5=j/\i4=((ws.take j).sum:Nat)/\j<=ws.length/\ws.length - j=k/\h=g,by grind,?_⟩
 rintro k g i4 i5 ⟨j,rfl,rfl,hj,rfl,rfl⟩
 refine⟨λq=>?_,by grind⟩
 have hj' : j < ws.length:=by omega
 obtain⟨b,off,rfl,hld⟩:=hs.get hj'
 rw[zbu hj'] at hld
 have hw1:=hw _ (Qj hj')
 have s1:=zkB hj'
 have s2:=zcx ws (j+1)
 have s3:=zn8 λw hx=>(hw w hx).2
 refine zaa ⟨by omega,q,_,by rw[Qh,Qp]; omega,by omega,λ_=>⟨by omega,λ_ i9 e9 i10 e10=>?_⟩⟩
 have e10:=zaT e10 (by omega) (by omega)
 have e9:=zaT e9 (by omega) (by omega)
 grind
theorem zk6 (hk:K 18=none) (kr:K 39=none) {p q:Option Addr} {n m c c' : Nat} {ws ns:List Nat} (hs:zaz h p n 1 (za7 .i64 ws)) (ht:zaz h q m 1 (za7 .u64 ns)) (hw:∀w∈ws,1<=w/\w<=8) (hl:ws.length<=1000) (hlen:ws.length=ns.length)
 (hfit:∀(i w x:Nat),ws[i]?= some w->ns[i]?= some x->x < 256 ^ w):
 Wf Tryz.prog K 18 [.slice p n c,.slice q m c'] h λv h'=>(∃b,v=.tuple #[.slice (some ⟨b,0,none⟩) ws.sum ws.sum,.int .i64 0]/\h.next<=b/\zaz h' (some ⟨b,0,none⟩) ws.sum 1 (za7 .u8 (enc ws ns)))/\Old h h':=by
 have hn:n=ws.length:=by have:=hs.1; grind[zaG]
 have hm:m=ns.length:=by have:=ht.1; grind[zaG]
 subst hn
 subst hm
 have s3:=zn8 λw hx=>(hw w hx).2
 refine zg1 hk _ _ _ _ _ _ h _ ((zi0 kr hs hw hl).mono ?_)
 rintro _ _ ⟨rfl,rfl⟩
 refine⟨_,.inl ⟨rfl,λ_=>?_,by omega⟩⟩
 refine⟨λi k g=>∃j:Nat,i=j/\j<=ns.length/\ns.length - j=k/\h=g,by grind,?_⟩
 rintro k g i ⟨j,rfl,hj,rfl,rfl⟩
 refine⟨λz=>?_,λz=>⟨by omega,λg17 e17=>?_⟩⟩
 ·have hj' : j < ns.length:=by omega
  have hjw:j < ws.length:=by omega
  obtain⟨b,off,rfl,hld⟩:=hs.get hjw
  obtain⟨b2,off2,rfl,hld2⟩:=ht.get hj'
  rw[zbu hjw] at hld
  rw[zbu hj'] at hld2
  have hw1:=hw _ (Qj hjw)
  have hf:=hfit j _ _ (Qe hjw) (Qe hj')
  refine zaa ⟨by omega,z,_,by rw[Qh,Qp]; omega,zaa ⟨by omega,by omega,_,by rw[Qh,Qp]; omega,λi14 e14=>?_⟩⟩
  have e14:=zaT e14 (by omega) (by omega)
  refine⟨0,?_,λ_ i16 e16=>?_,by omega⟩
  ·grind[zrn,Nat.div_eq_of_lt]
  ·have e16:=zaT e16 (by omega) (by omega)
   exact⟨_,by omega,j+1,by omega,hj',rfl,rfl⟩
 have o17:=zab e17
 have hg0:za1 h.next g17 5 1 h.next 0 ws.sum []:=za1.make e17 (by simp) (by grind[zai])
 refine⟨λp n c i k g=>∃j:Nat,i=j/\j<=ns.length/\ns.length - j=k/\p=some ⟨h.next,0,none⟩/\c=ws.sum/\Old h g/\za1 h.next g 5 1 h.next n ws.sum (za7 .u8 (enc (ws.take j) (ns.take j))),⟨_,0,rfl,Qg _,rfl,rfl,Qh _,o17,hg0⟩,?_⟩
 rintro k20 g20 p22 n23 c24 i25 ⟨j,rfl,hj,rfl,rfl,rfl,o20,G20⟩
 refine⟨λz=>?_,λz=>?_⟩
 ·have hj' : j < ns.length:=by omega
  have hjw:j < ws.length:=by omega
  obtain⟨b,off,rfl,hld⟩:=(hs.old o20).get hjw
  obtain⟨b2,off2,rfl,hld2⟩:=(ht.old o20).get hj'
  rw[zbu hjw] at hld
  rw[zbu hj'] at hld2
  have hw1:=hw _ (Qj hjw)
  have s1:=zkB hjw
  have s2:=zcx ws (j+1)
  have e1:enc (ws.take (j+1)) (ns.take (j+1))=enc (ws.take j) (ns.take j) ++ byB ws[j] ns[j]:=by grind[Qv,zrk]
  refine zaa ⟨by omega,z,_,by rw[Qh,Qp]; omega,zaa ⟨by omega,by omega,_,by rw[Qh,Qp]; omega,?_⟩⟩
  generalize hwj:ws[j]=w at hw1 s1 e1
  generalize hnj:ns[j]=x at e1
  refine⟨λp n c i k g=>∃t:Nat,i=t/\t<=w/\w - t=k/\p=some ⟨h.next,0,none⟩/\c=ws.sum/\Old h g/\za1 h.next g 5 1 h.next n ws.sum (za7 .u8 (enc (ws.take j) (ns.take j) ++ byB t x)),⟨_,0,rfl,Qg _,rfl,rfl,rfl,o20,by grind[byB]⟩,?_⟩
  rintro k34 g34 p36 n37 c38 i39 ⟨t,rfl,ht',rfl,rfl,rfl,o34,G34⟩
  have hn37:n37=(ws.take j).sum+t:=by
   have:=G34.1
   grind[zaG,zdx,zns]
  refine⟨λy=>?_,λy=>?_⟩
  ·intro i40 e40
   have e40:=zaT e40 (by omega) (by omega)
   refine⟨((x / 256 ^ t:Nat):Int),?_,λi42 e42 g43 e43=>?_⟩
   ·grind[zrn]
   subst e42
   obtain⟨g47,k47,G47,n47,f47⟩:=G34.push eB8 (ns:=[.int .u8 ((x / 256 ^ t % 256:Nat):Int)]) e43 rfl (by omega) (by omega)
   refine⟨_,_,_,g47,k47,λi48 e48=>?_⟩
   have e48:=zaT e48 (by omega) (by omega)
   refine⟨_,by omega,t+1,by omega,by omega,rfl,rfl,rfl,⟨by have:=o34.1; omega,λb hb=>?_⟩,?_⟩
   ·rw[f47 b (by have:=o34.1; omega) (by omega),o34.2 b hb]
   ·rw[ztY,<-QM,zhm]
    exact G47
  ·intro i49 e49
   have e49:=zaT e49 (by omega) (by omega)
   have htw:t=w:=by omega
   exact⟨_,by omega,j+1,by omega,hj',rfl,rfl,rfl,o34,by grind⟩
 ·have e1:ws.take j=ws:=by grind
  have e2:ns.take j=ns:=by grind
  have hn23:n23=ws.sum:=by have:=G20.1; grind[zaG,zns]
  subst hn23
  grind[za1.shows]
theorem zo5 (hk:K 24=none) (kr:K 39=none) {p:Option Addr} {n m c c' b off:Nat} {ws bs:List Nat} (hs:zaz h p n 1 (za7 .i64 ws)) (ht:zaz h (some ⟨b,off,none⟩) m 1 (za7 .u8 bs)) (hb:b < h.next) (hc:zf6 Tryz.prog h 5 b m c') (hw:∀w∈ws,1<=w/\w<=8) (hl:ws.length<=1000)
 (hbs:∀x∈bs,x < 256) (hlen:bs.length=ws.sum):
 Wf Tryz.prog K 24 [.slice p n c,.slice (some ⟨b,off,none⟩) m c'] h λv h'=>(∃b',v=.tuple #[.slice (some ⟨b',0,none⟩) ws.length ws.length,.int .i64 0]/\h.next<=b'/\zaz h' (some ⟨b',0,none⟩) ws.length 1 (za7 .u64 (dec ws bs)))/\Old h h':=by
 have hn:n=ws.length:=by have:=hs.1; grind[zaG]
 have hm:m=bs.length:=by have:=ht.1; grind[zaG]
 subst hn
 refine zee hk _ _ _ _ _ _ h _ ((zi0 kr hs hw hl).mono ?_)
 rintro _ _ ⟨rfl,rfl⟩
 refine⟨_,.inl ⟨rfl,λ_=>⟨by omega,λg3 e3=>?_⟩,by omega⟩⟩
 have o3:=zab e3
 have hg0:za1 h.next g3 62 1 h.next 0 ws.length []:=za1.make e3 (by simp) (by grind[zai])
 refine⟨λp8 n9 c10 p11 n12 c13 i14 k g=>∃j off' : Nat,i14=j/\j<=ws.length/\ws.length - j=k/\p8=some ⟨b,off',none⟩/\zaz h (some ⟨b,off',none⟩) n9 1 (za7 .u8 (bs.drop (ws.take j).sum))/\zf6 Tryz.prog h 5 b n9 c10/\p11=some ⟨h.next,0,none⟩/\c13=ws.length/\Old h g/\za1 h.next g 62 1 h.next n12 ws.length (za7 .u64 (dec (ws.take j) bs)),
  ⟨_,0,off,rfl,Qg _,rfl,rfl,by grind,hc,rfl,Qh _,o3,hg0⟩,?_⟩
 rintro k5 g6 p8 n9 c10 p11 n12 c13 i14 ⟨j,off',rfl,hj,rfl,rfl,S9,C9,rfl,rfl,o6,G6⟩
 have hn9:n9=bs.length - (ws.take j).sum:=by have:=S9.1; grind[zaG]
 refine⟨λz=>?_,λz=>?_⟩
 ·have hj' : j < ws.length:=by omega
  obtain⟨b1,off1,rfl,hld⟩:=(hs.old o6).get hj'
  rw[zbu hj'] at hld
  have hw1:=hw _ (Qj hj')
  have s1:=zkB hj'
  have s2:=zcx ws (j+1)
  have e1:dec (ws.take (j+1)) bs=dec (ws.take j) bs ++ [deB ((bs.drop (ws.take j).sum).take ws[j])]:=by grind[Qv,zrm]
  refine zaa ⟨by omega,z,_,by rw[Qh,Qp]; omega,?_⟩
  generalize ws[j]=w at hw1 s1 e1
  have hbd:∀x∈bs.drop (ws.take j).sum,x < 256:=by grind
  have hbl:(bs.drop (ws.take j).sum).length=n9:=by grind
  have e2:bs.drop (ws.take (j+1)).sum=(bs.drop (ws.take j).sum).drop w:=by grind[QC]
  generalize bs.drop (ws.take j).sum=cs at S9 e1 hbd hbl e2
  refine⟨λi22 i23 k g=>∃t:Nat,i23=t/\t<=w/\w - t=k/\i22=(deB (cs.take t):Nat)/\g6=g,⟨_,0,rfl,Qg _,rfl,rfl,rfl⟩,?_⟩
  rintro k19 g20 i22 i23 ⟨t,rfl,ht',rfl,rfl,rfl⟩
  refine⟨λy=>?_,λy=>?_⟩
  ·have htc:t < cs.length:=by omega
   obtain⟨b4,off4,hb4,hld4⟩:=(S9.old o6).get (i:=t) (by omega)
   obtain⟨rfl,rfl⟩:=hb4
   rw[zbu htc] at hld4
   have hx:=hbd _ (Qj htc)
   have etk:cs.take (t+1)=cs.take t ++ [cs[t]]:=by simp
   have hlt:=zrl (cs.take (t+1)) λx hx=>hbd x (List.mem_of_mem_take hx)
   have hlt0:=zrl (cs.take t) λx hx=>hbd x (List.mem_of_mem_take hx)
   have hp:=zrp (show t+1<=8 by omega)
   rw[etk,znt] at hlt
   simp only[Qs,Jm,QF,List.length_nil] at hlt hlt0
   rw[show min t cs.length=t by omega] at hlt hlt0
   rw[show t+(0+1)=t+1 by omega] at hlt
   have edb:deB (cs.take (t+1))=deB (cs.take t)+cs[t] * 256 ^ t:=by grind[znt]
   refine zaa ⟨by omega,by omega,_,by rw[Qh,Qp]; omega,λi27 e27 i28 e28=>?_⟩
   have e27:=zv8 e27 (by omega) (by omega)
   have e28:=zaT e28 (by omega) (by omega)
   subst e27
   rw[e28,show (8:Int) * (t:Int)=((8 * t:Nat):Int) by omega]
   refine⟨_,zwa (by omega) (by omega),_,zxx (by omega) hlt0 (by omega),λi31 e31=>?_⟩
   have e31:=zaT e31 (by omega) (by omega)
   exact⟨_,by omega,t+1,by omega,by omega,rfl,by omega,rfl⟩
  ·have htw:t=w:=by omega
   subst htw
   intro g32 e32
   have hn12:n12=j:=by have:=G6.1; grind[zaG,znu]
   obtain⟨g36,k36,G36,n36,f36⟩:=G6.push zFN (ns:=[.int .u64 ((deB (cs.take t):Nat):Int)]) e32 rfl (by omega) (by omega)
   have o36:Old h g36:=⟨by have:=o6.1; omega,λx hx=>by rw[f36 x (by have:=o6.1; omega) (by omega),o6.2 x hx]⟩
   obtain⟨off2,c2,k2,hoff,C2⟩:=zro eB8 (by simp) (h:=g36) (off:=off') (lo:=t) (C9.old o36 hb) (by omega)
   refine⟨_,_,_,g36,k36,_,_,_,k2,λi40 e40=>?_⟩
   have e40:=zaT e40 (by omega) (by omega)
   refine⟨_,by omega,j+1,off2,by omega,hj',rfl,rfl,?_,?_,rfl,rfl,o36,?_⟩
   ·have:=S9.cut (lo:=t) (off2:=off2) (by omega) hoff
    grind[za7,List.map_drop]
   ·rcases C2 with C2 | ⟨q1,cs',e',ro',q2,q3⟩
    ·exact .inl C2
    ·exact .inr ⟨q1,cs',e',ro',by rw[<-o36.2 b hb]; omega,q3⟩
   ·rw[e1,zhm]
    exact G36
 ·have e1:ws.take j=ws:=by grind
  have hn12:n12=ws.length:=by have:=G6.1; grind[zaG,znu]
  grind[za1.shows]
theorem zi1 (hk:K 24=none) (kr:K 39=none) {p q:Option Addr} {n m c c' : Nat} {ws:List Nat} (hs:zaz h p n 1 (za7 .i64 ws)) (hw:∀w∈ws,1<=w/\w<=8) (hl:ws.length<=1000) (hne:m≠ws.sum):
 Wf Tryz.prog K 24 [.slice p n c,.slice q m c'] h λv h'=>v=.tuple #[.slice none 0 0,.int .i64 21]/\h=h':=by
 have hn:n=ws.length:=by have:=hs.1; grind[zaG]
 refine zee hk _ _ _ _ _ _ h _ ((zi0 kr hs hw hl).mono ?_)
 rintro _ _ ⟨rfl,rfl⟩
 exact⟨_,.inl ⟨rfl,λz=>absurd z (by omega),λ_=>⟨rfl,rfl⟩⟩⟩
end
end Go.Am
