/-
  Texts of this proof, part 18. No condition.
-/
import Derived.Test.YtmnbboleclchcaaGreatFVScr
set_option linter.unusedVariables false
set_option linter.unusedSimpArgs false
set_option maxRecDepth 100000
namespace Go.Am
open Go.Proofs
theorem zky {P:Program} {h h1:AH} {st elem:TypeId} {sz by' : Nat} (e1:h1=h.alloc (.cells [] elem false)) (E:za5 P st elem sz by') {x:Value} {m:Nat} {ns:List Value} (hx:zi5 x=some m) (hf:firstC h1 sz m x=some ns) (hns:ns.length=m * sz) (hroom:m * by'<=zay) (hroom2:m<=9223372036854775807):
 ∃b c' h',zak P h1 .append #[st,st] [.slice (some ⟨h.next,0,none⟩) 0 0,x]=some (.slice (some ⟨b,0,none⟩) m c',h')/\h.next<=b/\b < h'.next/\h'.get b=some (.cells ns elem false)/\(c'= zai\/c'= m)/\h1.next<=h'.next/\∀d,d < h.next->h'.get d=h.get d:=by
 obtain⟨p',c',h',k,G,o, -,q⟩:=(zby.lit (sz:=sz) (n:=0) e1 (by simp) (Qc _)).append E (by simp_all) hx hf hns (by grind) (by omega) ⟨_,E.1⟩
 have ho:∀d,d < h.next->h'.get d=h.get d:=λd hd=>by rw[o.2 d hd,e1,zbx (by omega)]
 rw[Qq] at k G
 rcases G.2 with ⟨rfl,rfl,rfl⟩ | ⟨b,rfl,k1,k2,k3,k4⟩
 ·obtain rfl:ns=[]:=by grind
  obtain⟨hu,i,z,hi,hz,hzs,hpos,rfl,rfl⟩:=E
  have h0:firstC h1 i.size 0 (.slice (some ⟨h.next,0,none⟩) 0 0)=some []:=by grind[zeh]
  refine⟨h.next,0,h1,?_,Qc _,by simp_all,by grind[zao],.inr rfl,Qc _,by grind[zbx]⟩
  rw[zaO hu]
  unfold zaN
  simp only[hu,hi,hx,h0,hf,hz]
  rw[if_pos ⟨hzs,hpos,by simp,by simp⟩,if_neg (by decide),if_pos (by simp)]
 ·exact⟨b,c',h',k,k1,k2,k3,k4,o.1,ho⟩
structure OX where
 o:OpP
 d:Nat
 cd:Nat
 k:Nat
 ck:Nat
def OX.row (x:OX):List Value:=[.int .i64 x.o.kind,.string x.o.name,.string x.o.to,.int .i64 x.o.n,.slice (some ⟨x.d,0,none⟩) x.o.data.length x.cd,.slice (some ⟨x.k,0,none⟩) x.o.keep.length x.ck]
structure OX.At (x:OX) (g:AH) (lim b:Nat):Prop where
 cd:x.cd=zai\/x.cd=x.o.data.length
 ck:x.ck=zai\/x.ck=x.o.keep.length
 gd:g.get x.d=some (.cells (za6 .u8 x.o.data) 5 false)
 gk:g.get x.k=some (.cells (zho x.o.keep) 4 false)
 lo:lim<=x.d
 dk:x.d < x.k
 hi:x.k < g.next
 bd:b≠x.d
 bk:b≠x.k
 l1:x.o.data.length<=reachBytes
 l2:x.o.keep.length<=reachBytes
 u:∀y∈x.o.data,y < 256
 nm:x.o.name.size<=reachBytes
 to:x.o.to.size<=reachBytes
structure zgU (lim:Nat) (g:AH) (b c:Nat) (xs:List OX):Prop where
 lo:lim<=b
 hi:b < g.next
 gb:g.get b=some (.cells (xs.flatMap OX.row) 57 false)
 c:c=zai\/c=xs.length
 els:∀x∈xs,x.At g lim b
 pw:xs.Pairwise λx y=>x.k < y.d
theorem OX.At.kept {x:OX} {g g' : AH} {lim b b' : Nat} (k:x.At g lim b) (hn:g.next<=g'.next) (hd:g'.get x.d=g.get x.d) (hk:g'.get x.k=g.get x.k) (h1:b'≠x.d) (h2:b'≠x.k):x.At g' lim b':=
 ⟨k.cd,k.ck,hd.trans k.gd,hk.trans k.gk,k.lo,k.dk,Qh k.hi hn,h1,h2,k.l1,k.l2,k.u,k.nm,k.to⟩
theorem zgU.kept {lim lim' : Nat} {g g' : AH} {b c:Nat} {xs:List OX} (k:zgU lim g b c xs) (hl:lim'<=lim) (hn:g.next<=g'.next) (h:∀d,lim<=d->d < g.next->g'.get d=g.get d):zgU lim' g' b c xs:=
 ⟨Qm hl k.lo,Qh k.hi hn,(by grind[lo,hi,gb]),k.c,λx hx=>by
   have a:=k.els x hx
   have a1:=a.lo
   have a2:=a.dk
   have a3:=a.hi
   have a':=a.kept hn (h _ a1 (by omega)) (h _ (by omega) a3) a.bd a.bk
   exact { a' with lo:=by omega },k.pw⟩
theorem zkz (xs:List OX):(xs.flatMap OX.row).length=xs.length * 6:=by
 induction xs with
 | nil=>rfl
 | cons x xs ih=>rw[List.flatMap_cons,Qs,ih]; simp[OX.row]; omega
theorem zgU.push {lim:Nat} {g g4:AH} {b c:Nat} {xs:List OX} (R:zgU lim g b c xs) (hl:lim<=g.next) {x:OX} (A:x.At g lim b) (hx:∀y∈xs,y.k < x.d) (e4:g4=g.alloc (.cells x.row 57 false)) (hm:(xs.length+1) * 96<=zay):
 ∃b2 c2 g2,zak Tryz.prog g4 .append #[22,22] [.slice (some ⟨b,0,none⟩) xs.length c,.slice (some ⟨g.next,0,none⟩) 1 1]=some (.slice (some ⟨b2,0,none⟩) (xs.length+1) c2,g2)/\zgU lim g2 b2 c2 (xs ++ [x])/\zh5 lim g g2:=by
 have hrm:zay=140737488355328:=rfl
 have G:zby lim g 57 6 (some ⟨b,0,none⟩) xs.length c (xs.flatMap OX.row):=⟨zkz xs,.inr ⟨b,rfl,R.lo,R.hi,R.gb,R.c⟩⟩
 obtain⟨p2,c2,g2,k2,G2,o2,f2,m2⟩:=G.push zzp hl e4 (m:=1) rfl hm (by omega)
 obtain⟨b2,rfl,hb2⟩:=m2 (by omega)
 refine⟨b2,c2,g2,k2,?_,o2⟩
 rcases G2.2 with ⟨z, -⟩ | ⟨b3,z,k3,k4,k5,k6⟩
 ·grind
 ·cases z
  have at' : ∀{y:OX},y.At g lim b->y.At g2 lim b2:=λ{y} a=>by
   have a2:=a.dk
   have a3:=a.hi
   exact a.kept o2.1 (f2 _ (by omega) a.bd) (f2 _ a3 a.bk) (by omega) (by omega)
  refine⟨k3,k4,by grind,by grind,λy hy=>?_,by grind[pw]⟩
  all_goals grind[els]
section
variable {K:Xs} {h:AH}
theorem zwb (hk:K 7=none) {s:zi3} {p:Option Addr} {n c:Nat} (T:Ops h p n s.ops):
 Wf Tryz.prog K 7 [.agg #[.int .i64 s.secs,.slice p n c]] h λv h'=>(∃b c' xs,v=.agg #[.int .i64 s.secs,.slice (some ⟨b,0,none⟩) n c']/\zgU h.next h' b c' xs/\xs.map OX.o=s.ops)/\Old h h':=by
 have hn:=T.2.1
 have hre:reachBytes=140737488351232:=rfl
 have hrm:zay=140737488355328:=rfl
 have hAm:=T.2.2.1
 refine zey hk _ _ _ _ h _ λg0 e0 g1 e1 g2 e2=>?_
 have o0:=zab e0
 have o1:=zab e1
 have o2:=zab e2
 have n0:=zad e0
 have n1:=zad e1
 have n2:=zad e2
 have c0:∀{g:AH},Old g1 g->g.get h.next=_:=λo=>((o1.trans o).2 _ (by omega)).trans (zae e0)
 have c1:∀{g:AH},Old g1 g->g.get g0.next=_:=λo=>(o.2 _ (by omega)).trans (zae e1)
 refine⟨_,_,_,zah (c0 o2) rfl,λp10 n11 c12 i13 k g=>∃(j b:Nat) (xs:List OX),i13=j/\j<=n/\n - j=k/\n11=xs.length/\p10=some ⟨b,0,none⟩/\xs.map OX.o=s.ops.take j/\zgU g1.next g b c12 xs/\Old g1 g,⟨_,0,g1.next,[],rfl,Qf _,rfl,rfl,rfl,rfl,⟨Qc _,by omega,zae e2,.inr rfl,by simp,List.Pairwise.nil⟩,o2⟩,?_⟩
 rintro k7 g8 _ _ c12 _ ⟨j,b,xs,rfl,hj,rfl,rfl,rfl,hxs,RG,o8⟩
 have oh8:=(o0.trans o1).trans o8
 have hxl:xs.length=j:=by grind[Jd]
 refine⟨λz=>?_,λz=>?_⟩
 ·have hj' : j < n:=by omega
  obtain⟨b1,f1,rfl,h1,pd,nd,cd,pk,nk,ck,l1, -, -, -, -, -, -,td,tk,s1,s2, -⟩:=(T.old oh8).at hj'
  have htk:s.ops.take (j+1)=s.ops.take j ++ [s.ops[j]]:=by simp
  generalize s.ops[j]=o at *
  refine zaa ⟨by omega,z,_,_,_,_,_,_,_,_,_,_,by rw[Qi]; omega,λg26 e26=>?_⟩
  obtain⟨g27,k27,n27,o27,v27⟩:=zbN e26 (vs:=[.int .i64 o.kind,.string o.name,.string o.to,.int .i64 o.n,.slice pd nd cd,.slice pk nk ck]) rfl
  have w27:=v27 [] (λc hc=>by grind)
  refine⟨rfl,g27,k27,λg28 e28=>?_⟩
  have o28:=zab e28
  have w28:=w27.old o28
  have l27:=w27.2.1
  have td28:=(td.old o27).old o28
  obtain rfl:=td.2.1
  obtain rfl:=tk.2.1
  refine⟨_,_,_,zah w28.1 rfl,?_⟩
  obtain⟨d,cd',g35,k35,d1,d2,d3,d4,d5,f35⟩:=zky e28 eB8 (x:=.slice pd _ cd) rfl (td28.2.2.2.1.firstC td28.1) td28.2.2.2.1.1 (by have:=td.2.2.1; omega) (by have:=td.2.2.1; omega)
  have w35:g35.get g8.next=_:=(f35 _ l27).trans w27.1
  refine⟨some ⟨d,0,none⟩,_,cd',g35,k35,_,zaM w35 (by simp),λg37 e37=>?_⟩
  generalize e36:g35.set _ _=g36 at *
  have nr36:zaY g8.next g35 g36:=by grind[zam]
  have w36:g36.get g8.next=some (.cells [.int .i64 o.kind,.string o.name,.string o.to,.int .i64 o.n,.slice (some ⟨d,0,none⟩) o.data.length cd',.slice pk o.keep.length ck] 57 false):=by grind[zaf]
  have o37:=zab e37
  have n37:=zad e37
  have q36:=nr36.1
  have w37:g37.get g8.next=_:=(o37.2 _ (by omega)).trans w36
  have old37:Old g8 g37:=⟨by omega,λb hb=>by rw[o37.2 b (by omega),nr36.2 b (by omega),f35 b (by omega),o27.2 b hb]⟩
  have tk37:=tk.old old37
  refine⟨_,_,_,zah w37 rfl,?_⟩
  obtain⟨k,ck',g44,k44,m1,m2,m3,m4,m5,f44⟩:=zky e37 zwa (x:=.slice pk _ ck) rfl (tk37.2.2.2.firstC tk37.1) tk37.2.2.2.1 (by have:=tk.2.2.1; omega) (by have:=tk.2.2.1; omega)
  have w44:g44.get g8.next=_:=(f44 _ (by omega)).trans w36
  refine⟨some ⟨k,0,none⟩,_,ck',g44,k44,_,zaM w44 (by simp),?_⟩
  generalize e45:g44.set _ _=g45 at *
  have nr45:zaY g8.next g44 g45:=by grind[zam]
  have q45:=nr45.1
  have w45:g45.get g8.next=some (.cells (OX.row ⟨o,d,cd',k,ck'⟩) 57 false):=by rw[<-e45]; exact zaf _ _ _
  have o45:Old g8 g45:=⟨by omega,λb hb=>by rw[nr45.2 b (by omega),f44 b (by omega),nr36.2 b (by omega),f35 b (by omega),o27.2 b hb]⟩
  refine⟨_,_,_,_,_,_,_,_,_,_,zaz w45 rfl,λg56 e56=>?_⟩
  have bl:=RG.hi
  have o8n:=o8.1
  have A45:OX.At ⟨o,d,cd',k,ck'⟩ g45 g1.next b:=⟨d4,m4,by
   show g45.get d=_
   rw[nr45.2 _ (by omega),f44 _ (by omega),nr36.2 _ (by omega)]; omega,by
   show g45.get k=_
   rw[nr45.2 _ (by omega)]; omega,by grind,by grind,by grind,by grind,by grind,td.2.2.1,tk.2.2.1,td.2.2.2.2,s1,s2⟩
  obtain⟨b57,c59,g60,k60,RG60,o60⟩:=(RG.kept (Qc _) o45.1 λd _ hd=>o45.2 d hd).push (by omega) A45 (λy hy=>by
   have:=(RG.els y hy).hi
   grind) e56 (by omega)
  refine⟨_,_,c59,g60,k60,λi61 e61=>?_⟩
  have e61:=zaR e61 (by omega) (by omega)
  refine⟨_,by omega,j+1,b57,_,by omega,hj',rfl,by simp,rfl,by grind,RG60,⟨?_,λb hb=>?_⟩⟩
  ·have:=o60.1; omega
  ·rw[o60.2 b hb,o45.2 b (by omega),o8.2 b hb]
 ·obtain rfl:j=n:=by omega
  rw[Qw (by omega)] at hxs
  have w8:=c1 o8
  refine⟨_,zah (c0 o8) rfl,rfl,_,zaX w8 rfl,_,_,_,_,zaz (zaf _ _ _) rfl,⟨b,_,xs,by rw[hxl],?_,hxs⟩,⟨oh8.1,λb hb=>by rw[zal (by omega)]; exact oh8.2 b hb⟩⟩
  exact RG.kept (by omega) (Qc _) λd hd _=>zal (by omega)
end
section
def zcf:Nat:=281474976710656
def big:Nat:=1048576
def zbd:Nat:=262144
def kLo:IntKind->Int | .i8=>-128 | .i16=>-32768 | .i32=>-2147483648 | .i64=>-9223372036854775808 | _=>0
def kHi:IntKind->Int | .i8=>127 | .i16=>32767 | .i32=>2147483647 | .i64=>9223372036854775807 | .u8=>255 | .u16=>65535 | .u32=>4294967295 | .u64=>18446744073709551615
theorem zwc (k:IntKind):kLo k=k.min:=by cases k <;> rfl
theorem zwd (k:IntKind):kHi k=k.max:=by cases k <;> rfl
structure TY where
 ty:Nat->Option (Bool×TypeId×(Nat->Option Nat))
 dev:Nat
 dv:Nat->Prop
inductive TV where
 | int (k:IntKind) (x:Int)
 | bool (b:Bool)
 | str (s:ByteArray)
 | nilp | nils
 | loc (tag off T:Nat)
 | pp (tag T:Nat)
 | cp (w fr:Bool) (T:Nat)
 | hp (T:Nat)
 | np (T:Nat) (isnil:Bool)
 | sl (w fr kc:Bool) (T n:Nat)
 | ap (tag T n:Nat) (kc:Bool)
 | sp (tag T n:Nat)
 | xs (l:List Int)
 | xp (x:Int)
 | aggT (T:Nat)
 | agg (l:List TV)
 | tup (l:List TV)
 | fn (f:FuncId) (a c:List TV)
 | skip
 | any
inductive PC where
 | tv (t:TypeId) (l:List TV)
 | ty (t:TypeId)
 | rows (T e:Nat)
structure Sx where
 a:Tr TV
 pv:List (Nat×PC)
 g:Int
inductive RS where
 | keep | np
 | sl (w fr kc:Bool)
 | ty (T:Nat)
 | agg (l:List RS)
inductive AP where
 | int (k:IntKind) | bool | str | fn | xs
 | np (T:Nat)
 | sl (w kc:Bool) (T:Nat)
 | aggT (T:Nat)
 | st (v:TV)
 | agg (l:List AP)
 | cl (f:Nat) (la lc:List AP)
mutual
def AT:AP->Type
 | .int _=>Int
 | .bool=>Bool
 | .str=>ByteArray
 | .np _=>Bool
 | .sl _ _ _=>Nat
 | .fn=>FuncId×List TV×List TV
 | .xs=>List Int
 | .aggT _=>Unit
 | .st _=>Unit
 | .agg l=>ATs l
 | .cl _ la lc=>ATs la×ATs lc
def ATs:List AP->Type
 | []=>Unit
 | p :: ps=>AT p×ATs ps
end
mutual
def zca:(p:AP)->AT p->TV
 | .int k,x=>.int k x
 | .bool,b=>.bool b
 | .str,s=>.str s
 | .np T,z=>.np T z
 | .sl w kc T,n=>.sl w false kc T n
 | .fn,(f,a,c)=>.fn f a c
 | .xs,l=>.xs l
 | .aggT T,_=>.aggT T
 | .st v,_=>v
 | .agg l,r=>.agg (instAs l r)
 | .cl f la lc,(r,s)=>.fn f (instAs la r) (instAs lc s)
def instAs:(ps:List AP)->ATs ps->List TV
 | [],_=>[]
 | p :: ps,(r,rs)=>zca p r :: instAs ps rs
end
structure FS where
 pu:Bool
 rs:List RS
 ps:List AP
 s:ATs ps->Int->(TV->Int->Prop)->Prop
structure Cx where
 P:Program
 K:Xs
 fl:Nat->List Nat
 dt:TypeId
 D:TY->Int->AH->Prop
 ke:TypeId->Bool
 sp:FuncId->Option FS
def r4:Nat:=1000000
inductive CK where
 | int (k:IntKind) (lo hi:Int)
 | bool | str | no
 | ptr (t:TypeId)
 | sl (t:TypeId)
 | ss (t:TypeId)
variable (X:Cx)
def inT (t:TypeId):Bool:=Nat.blt t X.P.types.size && !(Nat.beq (X.P.cellsOf t) 0)
def und (t:TypeId):Option TypeDesc:=cond (inT X t) (X.P.underlying t) none
def inf (t:TypeId):Option TypeInfo:=cond (inT X t) (X.P.info? t) none
def isAgg (t:TypeId):Option Bool:=cond (inT X t) (aggT X.P t) none
variable {X} in
theorem zar {t:TypeId} {d:TypeDesc} (h:und X t=some d):X.P.underlying t=some d:=by
 unfold und at h
 cases hb:inT X t <;> rw[hb] at h
 ·cases h
 ·exact h
variable {X} in
theorem zcA {t:TypeId} {d:TypeInfo} (h:inf X t=some d):X.P.info? t=some d:=by
 unfold inf at h
 cases hb:inT X t <;> rw[hb] at h
 ·cases h
 ·exact h
variable {X} in
theorem zbz {t:TypeId} (h:(inf X t).isSome=true):(X.P.info? t).isSome=true:=by
 unfold inf at h
 cases hb:inT X t <;> rw[hb] at h
 ·cases h
 ·exact h
variable {X} in
theorem zbF {t:TypeId} {d:Bool} (h:isAgg X t=some d):aggT X.P t=some d:=by
 unfold isAgg at h
 cases hb:inT X t <;> rw[hb] at h
 ·cases h
 ·exact h
def exK (T:Nat):Bool:=Nat.ble 2000000 T && Nat.blt T 3000000
def shB (T:Nat):Bool:=Nat.ble 4000000 T && Nat.blt T 5000000
def shK (T:Nat):Nat:=4000000+T
def spN (T:Nat):Bool:=Nat.beq T r4 || exK T
def zyV (d:Option TypeDesc):CK:=match d with | some (.slice e)=>.ss e | _=>.no
theorem zt9 {d:Option TypeDesc} {k:IntKind} {lo hi:Int} (h:zyV d=.int k lo hi):False:=by unfold zyV at h; grind
def ck (T:Nat):CK:=
 cond (Nat.beq T r4) (.int .i64 0 4095) (cond (exK T) (.int .i64 ((T - 2000000:Nat):Int) ((T - 2000000:Nat):Int))
  (cond (shB T) (zyV (und X (T % 1000000))) (match und X T with
  | some (.int k)=>.int k (kLo k) (kHi k)
  | some .bool=>.bool
  | some .string=>.str
  | some (.pointer t)=>.ptr t
  | some (.slice e)=>.sl e
  | _=>.no)))
def AtT (c:Nat->Option Nat) (off T:Nat):Prop:=∀i ct,(X.fl T)[i]?= some ct->c (off+i)=some ct
def sz (T:Nat):Nat:=(X.fl T).length
def zcR (t:TypeId):Nat->Option Nat:=λi=>(X.fl t)[i]?
def zbr (S:TY) (T:Nat) (v:Value):Prop:=
 match Nat.beq T X.dt with
 | true=>v=ptr S.dev 0
 | false=>∃b c,v=ptr b 0/\S.ty b=some (false,T,c)/\AtT X c 0 T
def SlV (S:TY) (base:Nat) (w fr kc:Bool) (T n:Nat) (v:Value):Prop:=
 n<=zcf/\∃p c,v=.slice p n c/\
  ((p=none/\n=0/\c=0)\/
   ∃b off ro e cc,p=some ⟨b,off,none⟩/\S.ty b=some (ro,e,cc)/\(∀j,j < n->AtT X cc (off+j * sz X T) T)/\(w=true->ro=false)/\(fr=true->base<=b)/\
    ((c < zai/\n<=c/\(kc=true->∀j,j < c->AtT X cc (off+j * sz X T) T))\/(c=zai/\kc=false/\X.P.cellsOf e=sz X T)))
def okC (S:TY) (T:Nat) (v:Value):Prop:=
 match ck X T with
 | .int k lo hi=>∃x,v=.int k x/\lo<=x/\x<=hi
 | .bool=>∃b,v=.bool b
 | .str=>∃s:ByteArray,v=.string s/\s.size<=zbd
 | .ptr t=>zbr X S t v
 | .sl e=>∃n,n<=big/\SlV X S 0 false false false e n v
 | .ss e=>∃n,n<=zbd/\SlV X S 0 false false false e n v
 | .no=>False
def zaw (S:TY) (c:Nat->Option Nat) (cs:List Value):Prop:=∀i T,c i=some T->∃v,cs[i]?= some v/\okC X S T v
def WT (S:TY) (g:Int) (h:AH):Prop:=
 (∀b ro e c,S.ty b=some (ro,e,c)->b < h.next/\¬S.dv b/\∃cs r,h.get b=some (.cells cs e r)/\(ro=false->r=false)/\zaw X S c cs)/\(∀b,S.dv b->b < h.next)/\X.D S g h
structure Xt (base:Nat) (S S' : TY):Prop where
 ty:∀b q,S.ty b=some q->S'.ty b=some q
 old:∀b,b < base->S'.ty b=S.ty b
 dv:∀b,S.dv b->S'.dv b
 dvo:∀b,b < base->S'.dv b->S.dv b
 dev:S'.dev=S.dev
abbrev Loc:=Nat->Option (Nat×(Nat->Option Nat))
mutual
def gam (S:TY) (h:AH) (L:Loc) (base:Nat):TV->Value->Prop
 | .int k x,v=>v=.int k x/\kLo k<=x/\x<=kHi k
 | .bool b,v=>v=.bool b
 | .str s,v=>v=.string s/\s.size<=zbd
 | .nilp,v=>v=.pointer none
 | .nils,v=>v=.slice none 0 0
 | .loc tag off T,v=>∃b c,L tag=some (b,c)/\v=ptr b off/\AtT X c off T
 | .pp tag T,v=>∃b c off,L tag=some (b,c)/\v=ptr b off/\AtT X c off T
 | .cp w fr T,v=>∃b off ro e c,v=ptr b off/\S.ty b=some (ro,e,c)/\AtT X c off T/\(w=true->ro=false)/\(fr=true->base<=b)
 | .hp T,v=>zbr X S T v
 | .np T z,v=>match z with | true=>v=.pointer none | false=>zbr X S T v
 | .sl w fr kc T n,v=>SlV X S base w fr kc T n v
 | .ap tag T n kc,v=>n<=zcf/\∃p cp,v=.slice p n cp/\((p=none/\n=0/\cp=0)\/∃b c cs e,p=some ⟨b,0,none⟩/\L tag=some (b,c)/\h.get b=some (.cells cs e false)/\X.P.cellsOf e=sz X T/\
    ((cp=zai/\kc=false/\cs.length=n * sz X T/\∀j,j < n->AtT X c (j * sz X T) T)\/(cp < zai/\n<=cp/\cs.length=cp * sz X T/\∀j,j < cp->AtT X c (j * sz X T) T)))
 | .sp tag T n,v=>n<=zcf/\∃b c off cp,v=.slice (some ⟨b,off,none⟩) n cp/\n<=cp/\cp < zai/\L tag=some (b,c)/\∀j,j < cp->AtT X c (off+j * sz X T) T
 | .xs l,v=>l.length<=zcf/\∃b off c ro e cs,v=.slice (some ⟨b,off,none⟩) l.length c/\l.length<=c/\c<=zai/\S.ty b=some (ro,e,cs)/\∀i x,l[i]?= some x->cs (off+i)=some (2000000+x.toNat)/\0<=x/\x < 1000000
 | .xp x,v=>∃b off ro e cs,v=ptr b off/\S.ty b=some (ro,e,cs)/\cs off=some (2000000+x.toNat)/\0<=x/\x < 1000000
 | .aggT T,v=>∃vs:List Value,v=.agg vs.toArray/\vs.length=sz X T/\zaw X S (zcR X T) vs
 | .agg l,v=>∃vs:List Value,v=.agg vs.toArray/\gams S h L base l vs/\∀x∈vs,zbh x=true
 | .tup l,v=>∃vs:List Value,v=.tuple vs.toArray/\isSkip v=false/\gams S h L base l vs
 | .fn f a c,v=>∃va vc:List Value,v=.func (.func f) va.toArray vc.toArray/\gams S h L base a va/\gams S h L base c vc
 | .skip,v=>isSkip v=true
 | .any,_=>True
def gams (S:TY) (h:AH) (L:Loc) (base:Nat):List TV->List Value->Prop
 | [],[]=>True
 | t :: ts,v :: vs=>gam S h L base t v/\gams S h L base ts vs
 | _,_=>False
end
end
end Go.Am
