/-
  Texts of this proof, part 48. No condition.
-/
import Derived.Test.YtmnbboleclchcaaGreatFCJoin
set_option linter.unusedVariables false
set_option linter.unusedSimpArgs false
set_option maxRecDepth 100000
namespace Go.Am
open Go.Proofs
structure OX where
 o:OpP
 d:Nat
 cd:Nat
 k:Nat
 ck:Nat
def OX.row (x:OX):List Value:=[.int .i64 x.o.kind,.string x.o.name,.string x.o.to,.int .i64 x.o.n,.slice (some ⟨x.d,0,none⟩) x.o.data.length x.cd,if x.k=x.d then .slice none 0 0 else .slice (some ⟨x.k,0,none⟩) x.o.keep.length x.ck]
structure OX.At (x:OX) (g:AH) (lim:Nat) (p:Option Addr):Prop where
 cd:x.cd=zai\/x.cd=x.o.data.length
 ck:x.ck=zai/\x.o.keep≠[]\/x.ck=x.o.keep.length
 gd:g.get x.d=some (.cells (za7 .u8 x.o.data) 5 false)
 gk:x.k≠x.d->g.get x.k=some (.cells (zjo x.o.keep) 4 false)
 lo:lim<=x.d
 dk:x.d<=x.k
 kz:x.k=x.d->x.o.keep=[]
 hi:x.k < g.next
 bd:apart p x.d
 bk:apart p x.k
 l1:x.o.data.length<=reachBytes
 l2:x.o.keep.length<=reachBytes
 u:∀y∈x.o.data,y < 256
 nm:x.o.name.size<=reachBytes
 to:x.o.to.size<=reachBytes
theorem zbB.apart {lim:Nat} {g:AH} {e:TypeId} {sz:Nat} {p:Option Addr} {n c:Nat} {cs:List Value} (G:zbB lim g e sz p n c cs) (y:Nat) (hy:g.next<=y):Am.apart p y:=by
 rcases G.2 with ⟨rfl, -⟩ | ⟨b',rfl,q3,q4, -⟩
 ·exact trivial
 ·show b'≠y; omega
structure zfU (lim:Nat) (g:AH) (p:Option Addr) (c:Nat) (xs:List OX):Prop where
 gr:zbB lim g 57 6 p xs.length c (xs.flatMap OX.row)
 els:∀x∈xs,x.At g lim p
 pw:xs.Pairwise λx y=>x.k < y.d
theorem OX.At.kept {x:OX} {g g' : AH} {lim:Nat} {p p' : Option Addr} (k:x.At g lim p) (hn:g.next<=g'.next) (hd:g'.get x.d=g.get x.d) (hk:g'.get x.k=g.get x.k) (h1:apart p' x.d) (h2:apart p' x.k):x.At g' lim p':=
 ⟨k.cd,k.ck,hd.trans k.gd,λz=>hk.trans (k.gk z),k.lo,k.dk,k.kz,Qi k.hi hn,h1,h2,k.l1,k.l2,k.u,k.nm,k.to⟩
theorem zfU.kept {lim lim' : Nat} {g g' : AH} {p:Option Addr} {c:Nat} {xs:List OX} (k:zfU lim g p c xs) (hl:lim'<=lim) (hn:g.next<=g'.next) (h:∀d,lim<=d->d < g.next->g'.get d=g.get d):zfU lim' g' p c xs:=
 ⟨⟨k.gr.1,by
   rcases k.gr.2 with z | ⟨b,q1,q2,q3,q4,q5⟩
   ·exact .inl z
   ·exact .inr ⟨b,q1,by omega,by omega,(h b q2 q3).trans q4,q5⟩⟩,λx hx=>by
   have a:=k.els x hx
   have a1:=a.lo
   have a2:=a.dk
   have a3:=a.hi
   have a':=a.kept hn (h _ a1 (by omega)) (h _ (by omega) a3) a.bd a.bk
   exact { a' with lo:=by omega },k.pw⟩
theorem zuG (xs:List OX):(xs.flatMap OX.row).length=xs.length * 6:=by
 induction xs with
 | nil=>rfl
 | cons x xs ih=>rw[List.flatMap_cons,Qs,ih]; simp[OX.row]; omega
theorem zfU.push {lim:Nat} {g g4:AH} {p:Option Addr} {c:Nat} {xs:List OX} (R:zfU lim g p c xs) (hl:lim<=g.next) {x:OX} (A:x.At g lim p) (hx:∀y∈xs,y.k < x.d) (e4:g4=g.alloc (.cells x.row 57 false)) (hm:(xs.length+1) * 96<=zaA):
 ∃p2 c2 g2,zak Tryz.prog g4 .append #[22,22] [.slice p xs.length c,.slice (some ⟨g.next,0,none⟩) 1 1]=some (.slice p2 (xs.length+1) c2,g2)/\zfU lim g2 p2 c2 (xs ++ [x])/\zje lim g g2/\∀b,b < g.next->apart p b->g2.get b=g.get b:=by
 have hrm:zaA=140737488355328:=rfl
 obtain⟨p2,c2,g2,k2,G2,o2,f2,m2⟩:=R.gr.push zBW hl e4 (m:=1) rfl hm (by omega)
 obtain⟨b2,rfl,hb2⟩:=m2 (by omega)
 have at' : ∀{y:OX},y.At g lim p->y.At g2 lim (some ⟨b2,0,none⟩):=λ{y} a=>by
  have a2:=a.dk
  have a3:=a.hi
  exact a.kept o2.1 (f2 _ (by omega) a.bd) (f2 _ a3 a.bk) (by show b2≠_; omega) (by show b2≠_; omega)
 refine⟨_,c2,g2,k2,⟨by simpa using G2,λy hy=>?_,by grind[pw]⟩,o2,f2⟩
 all_goals grind[els]
section
variable {K:Xs} {h:AH}
theorem zw2 (hk:K 7=none) {s:zil} {p:Option Addr} {n c:Nat} (T:Ops h p n s.ops):
 Wf Tryz.prog K 7 [.agg #[.int .i64 s.secs,.slice p n c]] h λv h'=>(∃p c' xs,v=.agg #[.int .i64 s.secs,.slice p n c']/\zfU h.next h' p c' xs/\xs.map OX.o=s.ops)/\Old h h':=by
 have hn:=T.2.1
 have hre:reachBytes=140737488351232:=rfl
 have hrm:zaA=140737488355328:=rfl
 have hAm:=T.2.2.1
 refine zey hk _ _ _ _ h _ λg0 e0 g1 e1 g2 e2=>?_
 have o0:=zab e0
 have o1:=zab e1
 have o2:=zab e2
 have n0:=zad e0
 have n1:=zad e1
 have n2:=zad e2
 have c0:∀{g:AH},Old g1 g->g.get h.next=_:=λo=>((o1.trans o).2 _ (by omega)).trans (zae e0)
 have c1:∀{g:AH},Old g1 g->g.get g0.next=_:=λo=>(o.2 _ (by omega)).trans (zae e1)
 refine⟨_,_,_,zah (c0 o2) rfl,λp10 n11 c12 i13 k g=>∃(j:Nat) (xs:List OX),i13=j/\j<=n/\n - j=k/\n11=xs.length/\xs.map OX.o=s.ops.take j/\zfU g1.next g p10 c12 xs/\Old g1 g,⟨_,0,[],rfl,Qg _,rfl,rfl,rfl,⟨zbB.lit e2 rfl (Qc _),by simp,List.Pairwise.nil⟩,o2⟩,?_⟩
 rintro k7 g8 p10 _ c12 _ ⟨j,xs,rfl,hj,rfl,rfl,hxs,RG,o8⟩
 have oh8:=(o0.trans o1).trans o8
 have hxl:xs.length=j:=by grind[Jm]
 refine⟨λz=>?_,λz=>?_⟩
 ·have hj' : j < n:=by omega
  obtain⟨b1,f1,rfl,h1,pd,nd,cd,pk,nk,ck,l1, -, -, -, -, -, -,td,tk,s1,s2, -⟩:=(T.old oh8).at hj'
  have htk:s.ops.take (j+1)=s.ops.take j ++ [s.ops[j]]:=by simp
  generalize s.ops[j]=o at *
  refine zaa ⟨by omega,z,_,_,_,_,_,_,_,_,_,_,by rw[Qh]; omega,λg26 e26=>?_⟩
  obtain⟨g27,k27,n27,o27,v27⟩:=zbP e26 (vs:=[.int .i64 o.kind,.string o.name,.string o.to,.int .i64 o.n,.slice pd nd cd,.slice pk nk ck]) rfl
  have w27:=v27 [] (λc hc=>by grind)
  refine⟨rfl,g27,k27,λg28 e28=>?_⟩
  have o28:=zab e28
  have w28:=w27.old o28
  have l27:=w27.2.1
  have td28:=(td.old o27).old o28
  obtain rfl:=td.2.1
  obtain rfl:=tk.2.1
  refine⟨_,_,_,zah w28.1 rfl,?_⟩
  obtain⟨d,cd',g35,k35,d1,d2,d3,d4,d5,f35⟩:=znV e28 eB8 (x:=.slice pd _ cd) rfl (td28.2.2.2.1.firstC td28.1) td28.2.2.2.1.1 (by have:=td.2.2.1; omega) (by have:=td.2.2.1; omega)
  have w35:g35.get g8.next=_:=(f35 _ l27).trans w27.1
  refine⟨some ⟨d,0,none⟩,_,cd',g35,k35,_,zaN w35 (by simp),λg37 e37=>?_⟩
  generalize e36:g35.set _ _=g36 at *
  have nr36:zaZ g8.next g35 g36:=by grind[zam]
  have w36:g36.get g8.next=some (.cells [.int .i64 o.kind,.string o.name,.string o.to,.int .i64 o.n,.slice (some ⟨d,0,none⟩) o.data.length cd',.slice pk o.keep.length ck] 57 false):=by grind[zaf]
  have o37:=zab e37
  have n37:=zad e37
  have q36:=nr36.1
  have w37:g37.get g8.next=_:=(o37.2 _ (by omega)).trans w36
  have old37:Old g8 g37:=⟨by omega,λb hb=>by rw[o37.2 b (by omega),nr36.2 b (by omega),f35 b (by omega),o27.2 b hb]⟩
  have tk37:=tk.old old37
  refine⟨_,_,_,zah w37 rfl,?_⟩
  obtain⟨k,ck',g44,k44,m1,m2,m3,m4,m5,f44⟩:=znV e37 zxE (x:=.slice pk _ ck) rfl (tk37.2.2.2.firstC tk37.1) tk37.2.2.2.1 (by have:=tk.2.2.1; omega) (by have:=tk.2.2.1; omega)
  have w44:g44.get g8.next=_:=(f44 _ (by omega)).trans w36
  refine⟨some ⟨k,0,none⟩,_,ck',g44,k44,_,zaN w44 (by simp),?_⟩
  generalize e45:g44.set _ _=g45 at *
  have nr45:zaZ g8.next g44 g45:=by grind[zam]
  have q45:=nr45.1
  have hkd:k≠d:=by omega
  have er:OX.row ⟨o,d,cd',k,ck'⟩=[.int .i64 o.kind,.string o.name,.string o.to,.int .i64 o.n,.slice (some ⟨d,0,none⟩) o.data.length cd',.slice (some ⟨k,0,none⟩) o.keep.length ck']:=by simp[OX.row,hkd]
  have w45:g45.get g8.next=some (.cells [.int .i64 o.kind,.string o.name,.string o.to,.int .i64 o.n,.slice (some ⟨d,0,none⟩) o.data.length cd',.slice (some ⟨k,0,none⟩) o.keep.length ck'] 57 false):=by rw[<-e45]; exact zaf _ _ _
  have o45:Old g8 g45:=⟨by omega,λb hb=>by rw[nr45.2 b (by omega),f44 b (by omega),nr36.2 b (by omega),f35 b (by omega),o27.2 b hb]⟩
  refine⟨_,_,_,_,_,_,_,_,_,_,zaw w45 rfl,λg56 e56=>?_⟩
  rw[<-er] at e56
  have o8n:=o8.1
  have ap:∀y,g8.next<=y->apart p10 y:=RG.gr.apart
  have A45:OX.At ⟨o,d,cd',k,ck'⟩ g45 g1.next p10:=⟨d4.imp And.left id,m4.imp (λz=>⟨z.1,λe=>z.2 (congrArg List.length e)⟩) id,by
   show g45.get d=_
   rw[nr45.2 _ (by omega),f44 _ (by omega),nr36.2 _ (by omega)]; omega,by
   intro _
   show g45.get k=_
   rw[nr45.2 _ (by omega)]; omega,by grind,by show d<=k; omega,λz=>absurd z hkd,by grind,ap _ (by show g8.next<=d; omega),ap _ (by show g8.next<=k; omega),td.2.2.1,tk.2.2.1,td.2.2.2.2,s1,s2⟩
  obtain⟨p57,c59,g60,k60,RG60,o60, -⟩:=(RG.kept (Qc _) o45.1 λd _ hd=>o45.2 d hd).push (by omega) A45 (λy hy=>by
   have:=(RG.els y hy).hi
   grind) e56 (by omega)
  refine⟨_,_,c59,g60,k60,λi61 e61=>?_⟩
  have e61:=zaT e61 (by omega) (by omega)
  refine⟨_,by omega,j+1,_,by omega,hj',rfl,by simp,by grind,RG60,⟨?_,λb hb=>?_⟩⟩
  ·have:=o60.1; omega
  ·rw[o60.2 b hb,o45.2 b (by omega),o8.2 b hb]
 ·obtain rfl:j=n:=by omega
  rw[QA (by omega)] at hxs
  have w8:=c1 o8
  refine⟨_,zah (c0 o8) rfl,rfl,_,zaR w8 rfl,_,_,_,_,zaw (zaf _ _ _) rfl,⟨p10,_,xs,by rw[hxl],?_,hxs⟩,⟨oh8.1,λb hb=>by rw[zal (by omega)]; exact oh8.2 b hb⟩⟩
  exact RG.kept (by omega) (Qc _) λd hd _=>zal (by omega)
end
def bOf (p:Option Addr):Nat:=match p with | some a=>a.block | none=>0
def bks (b:Nat) (xs:List OX):List Nat:=xs.flatMap λx=>[b,x.d,x.k]
theorem zi3 {b q:Nat} {xs:List OX}:q∈bks b xs↔∃x∈xs,q=b\/q=x.d\/q=x.k:=by grind[bks]
noncomputable def zuH (h:AH) (B:List Nat) (q:Nat):Option (Bool×TypeId×(Nat->Option Nat)):=
 if q∈B then match h.get q with | some (.cells cs e false)=>some (false,e,zaJ cx0 e (cs.length / sz cx0 e)) | _=>none else none
theorem zoa {h:AH} {B:List Nat} {q n e:Nat} {cs:List Value} (hq:q∈B) (hg:h.get q=some (.cells cs e false)) (hl:cs.length=n * sz cx0 e) (h0:0 < sz cx0 e):zuH h B q=some (false,e,zaJ cx0 e n):=by grind[zuH,Nat.mul_div_cancel]
theorem zFP:cx0.fl 57=[3,9,9,3,34,55]:=by kernel_rfl
theorem zzk:sz cx0 57=6:=by unfold sz; rfl
theorem sz4:sz cx0 4=1:=by unfold sz; rw[fl4]; rfl
theorem zAo:ck cx0 3=.int .i64 (kLo .i64) (kHi .i64):=by rfl
theorem ck9:ck cx0 9=.str:=by kernel_rfl
theorem zob:∀{xs:List OX} {j i:Nat} (hj:j < xs.length),i < 6->(xs.flatMap OX.row)[j * 6+i]?= xs[j].row[i]?
 | x :: xs,0,i,_,hi=>by grind[OX.row]
 | x :: xs,j+1,i,hj,hi=>by
   rw[List.flatMap_cons,Qu (by simp[OX.row]; omega)]
   have:=zob (xs:=xs) (j:=j) (i:=i) (by grind) hi
   rw[show (j+1) * 6+i - x.row.length=j * 6+i by grind[OX.row],this]
   rfl
theorem zuI {xs:List OX} {j:Nat} (hj:j < xs.length):((xs.flatMap OX.row).drop (j * 6)).take 6=xs[j].row:=by
 refine Jb λi=>?_
 grind[zob,OX.row]
theorem zfU.gb {lim c:Nat} {p:Option Addr} {h:AH} {xs:List OX} (R:zfU lim h p c xs) (hx:xs≠[]):p=some ⟨bOf p,0,none⟩/\lim<=bOf p/\bOf p < h.next/\h.get (bOf p)=some (.cells (xs.flatMap OX.row) 57 false):=by
 rcases R.gr.2 with ⟨-,z, -⟩ | ⟨b,rfl,q2,q3,q4, -⟩
 ·exact absurd (List.length_eq_zero_iff.1 z) hx
 ·exact⟨rfl,q2,q3,q4⟩
theorem zfU.ops {lim c:Nat} {p:Option Addr} {h:AH} {xs:List OX} (R:zfU lim h p c xs) (hn:xs.length * 96<=reachBytes):Ops h p xs.length (xs.map OX.o):=
 ⟨R.gr.form,by simp,hn,_,R.gr.shows,λi hi=>by
   have hi:i < xs.length:=by grind
   have A:=R.els _ (Qj hi)
   have a1:=A.dk
   have a2:=A.hi
   have td:zdN h (some ⟨xs[i].d,0,none⟩) xs[i].o.data.length xs[i].o.data:=⟨.inr ⟨_,_,rfl⟩,rfl,A.l1,⟨by grind[zaG],.inr ⟨_,0,_,_,_,rfl,by omega,A.gd,by grind[zaG],by grind[zaG]⟩⟩,A.u⟩
   rw[zuI hi,List.getElem_map]
   by_cases z:xs[i].k=xs[i].d
   ·have kz:=A.kz z
    exact⟨_,_,xs[i].cd,none,0,0,by simp[OX.row,z],td,⟨.inl rfl,by simp[kz],Qg _,by rw[kz]; exact⟨rfl,.inl rfl⟩⟩,A.nm,A.to⟩
   ·exact⟨_,_,xs[i].cd,some ⟨xs[i].k,0,none⟩,xs[i].o.keep.length,xs[i].ck,by simp[OX.row,z],td,⟨.inr ⟨_,_,rfl⟩,rfl,A.l2,⟨by grind[zep],.inr ⟨_,0,_,_,_,rfl,a2,A.gk z,by grind[zep],by grind[zep]⟩⟩⟩,A.nm,A.to⟩⟩
section
variable {lim c:Nat} {p:Option Addr} {h:AH} {xs:List OX} (R:zfU lim h p c xs)
include R
theorem zfU.tb (hx:xs≠[]):zuH h (bks (bOf p) xs) (bOf p)=some (false,57,zaJ cx0 57 xs.length):=zoa (by
 obtain⟨x,l,rfl⟩:=List.exists_cons_of_ne_nil hx
 exact zi3.2 ⟨x,by simp,.inl rfl⟩) (R.gb hx).2.2.2 (by rw[zuG,zzk]) (by grind[zzk])
theorem zfU.td {x:OX} (hx:x∈xs):zuH h (bks (bOf p) xs) x.d=some (false,5,zaJ cx0 5 x.o.data.length):=zoa (by grind[zi3]) (R.els x hx).gd (by grind[zaG,sz5]) (by grind[sz5])
theorem zfU.tk {x:OX} (hx:x∈xs) (z:x.k≠x.d):zuH h (bks (bOf p) xs) x.k=some (false,4,zaJ cx0 4 x.o.keep.length):=zoa (by grind[zi3]) ((R.els x hx).gk z) (by grind[zep,sz4]) (by grind[sz4])
theorem zfU.bd {q:Nat} (hq:q∈bks (bOf p) xs):lim<=q/\q < h.next:=by
 obtain⟨x,hx,e⟩:=zi3.1 hq
 have A:=R.els x hx
 have a1:=A.lo
 have a2:=A.dk
 have a3:=A.hi
 have:=R.gb (by grind)
 omega
theorem zfU.typed {S:TY} (hS:S.ty=zuH h (bks (bOf p) xs)) (ok:∀x∈xs,zgV x.o) {q:Nat} {ro:Bool} {e:TypeId} {cc:Nat->Option Nat} (hq:S.ty q=some (ro,e,cc)):(lim<=q/\q < h.next)/\∃cs r,h.get q=some (.cells cs e r)/\(ro=false->r=false)/\zau cx0 S cc cs:=by
 rw[hS] at hq
 have hm:q∈bks (bOf p) xs:=by grind[zuH]
 refine⟨R.bd hm,?_⟩
 obtain⟨x,hx,hq'⟩:=zi3.1 hm
 have hne:xs≠[]:=by grind
 have cs:q=bOf p\/q=x.d\/(q=x.k/\x.k≠x.d):=by grind
 rcases cs with rfl | rfl | ⟨rfl,kd⟩
 ·rw[R.tb hne] at hq
  cases hq
  refine⟨_,_,(R.gb hne).2.2.2,λ_=>rfl,zaS λj hj i t hi=>?_⟩
  rw[zFP] at hi
  have hi6:i < 6:=(by grind)
  rw[zzk,zob hj hi6]
  have hx:xs[j]∈xs:=Qj hj
  generalize xs[j]=x at *
  have A:=R.els x hx
  have k:=ok x hx
  have e1:=k.lo
  have e2:=k.hi
  have e3:=k.nLo
  have e4:=k.nHi
  have oc:zai=18446744073709551616:=rfl
  have dl:=k.dataL
  have kl:=k.keepL
  match i,hi with
  | 0,hi=>exact⟨_,rfl,by grind[okC,zAo,kLo,kHi]⟩
  | 1,hi=>exact⟨_,rfl,by grind[okC,ck9,zgV.nameL,za8]⟩
  | 2,hi=>exact⟨_,rfl,by grind[okC,ck9,zgV.toL,za8]⟩
  | 3,hi=>exact⟨_,rfl,by grind[okC,zAo,kLo,kHi]⟩
  | 4,hi=>
    cases hi
    refine⟨_,rfl,?_⟩
    unfold okC
    refine⟨_,by grind[big],by grind[zbT],_,_,rfl,.inr ⟨_,_,_,_,_,rfl,by rw[hS]; exact R.td hx,by grind[zbh],nofun,nofun,?_⟩⟩
    rcases A.cd with z | z
    ·exact .inr ⟨z,rfl,by rfl⟩
    grind
  | 5,hi=>
    cases hi
    by_cases z5:x.k=x.d
    ·exact⟨.slice none 0 0,by simp[OX.row,z5],by unfold okC; exact⟨0,by grind[big],by grind[zbT],_,_,rfl,.inl ⟨rfl,rfl,rfl⟩⟩⟩
    refine⟨.slice (some ⟨x.k,0,none⟩) x.o.keep.length x.ck,by simp[OX.row,z5],?_⟩
    unfold okC
    refine⟨_,by grind[big],by grind[zbT],_,_,rfl,.inr ⟨_,_,_,_,_,rfl,by rw[hS]; exact R.tk hx z5,by grind[zbh],nofun,nofun,?_⟩⟩
    rcases A.ck with z | z
    ·exact .inr ⟨z.1,rfl,by rfl⟩
    grind
 ·rw[R.td hx] at hq
  cases hq
  exact⟨_,_,(R.els x hx).gd,λ_=>rfl,zeu (zaG _ _) λv hv=>by
   obtain⟨y,hy,rfl⟩:=List.mem_map.1 hv
   have:=(R.els x hx).u y hy
   exact⟨_,rfl,by omega,by omega⟩⟩
 ·rw[R.tk hx kd] at hq
  cases hq
  refine⟨_,_,(R.els x hx).gk kd,λ_=>rfl,zaS λj hj i t hi=>?_⟩
  rw[fl4] at hi
  rw[sz4]
  match i,hi with
  | 0,hi=>
    rw[Qp,Nat.add_zero,zjo,List.getElem?_map,Qe hj]
    exact⟨_,rfl,by grind[okC,ck4]⟩
end
theorem zAp:cx0.fl 43=30 :: List.replicate 128 5:=by kernel_rfl
theorem zyJ:za3 Tryz.prog 26 43 129 136:=zaW (by kernel_rfl)
theorem zAq:zao Tryz.prog 43=some (.int .i64 0 :: List.replicate 128 (.int .u8 0)):=by kernel_rfl
def zgF (r:List Value):Prop:=(∃x l,r=.int .i64 x :: l/\InR .i64 x/\l.length=128/\U8s l)/\∃la,zdL Tryz.prog 43 (.agg r.toArray)=some la
theorem zgF.len {r:List Value} (k:zgF r):r.length=129:=by
 obtain⟨⟨x,l,rfl, -,e, -⟩, -⟩:=k
 grind
theorem zgF.pl {r:List Value} (k:zgF r):∀v∈r,∃k x,v=.int k x:=λv hv=>by
 obtain⟨⟨x,l,rfl, -, -,u⟩, -⟩:=k
 rcases Qy.1 hv with rfl | hv
 ·simp
 ·obtain⟨y,rfl, -⟩:=u v hv
  simp
theorem zAr {S:TY} {vs:List Value} (hl:vs.length=sz cx0 43) (ht:zau cx0 S (zcO cx0 43) vs):zgF vs:=by
 refine⟨?_,ziL.ke S 43 vs rfl hl ht⟩
 have h129:sz cx0 43=129:=by grind[sz,zAp]
 rw[h129] at hl
 match vs,hl with
 | a :: l,hl=>
   simp at hl
   obtain⟨v,e,o⟩:=ht 0 30 (by grind[zcO,zAp])
   cases e
   unfold okC at o
   obtain⟨x,rfl,h1,h2⟩:=o
   refine⟨x,l,rfl,⟨h1,h2⟩,hl,λv hv=>?_⟩
   obtain⟨i,hi⟩:=List.mem_iff_getElem?.1 hv
   obtain⟨v',h1,h2⟩:=ht (i+1) 5 (by grind[zcO,zAp])
   grind[ok5]
def zoc (S:TY) (p:Value):Prop:=p=.pointer none\/zbr cx0 S 84 p
abbrev zyK (S:TY) (hp:AH) (S' : TY) (g' : Int) (h' : AH):Prop:=Xt hp.next S S'/\WT cx0 S' g' h'/\hp.next<=h'.next/\∀b,b < hp.next->S.ty b=none->¬S.dv b->h'.get b=hp.get b
theorem zvt {S:TY} {h:AH} {v:Value} {base:Nat} (g:gam cx0 S h L0 base (.aggT 43) v):∃r:List Value,v=.agg r.toArray/\zgF r:=by grind[gam,zAr]
theorem zAs {S:TY} {g:Int} {hp:AH} {d:Nat} {p v:Value} (w:WT cx0 S g hp) (hg:g+8000<=1000000000) (hd:S.dev=d) (hp' : zoc S p) (hv:gam cx0 S hp L0 hp.next (.cp false false 57) v):
 Wf Tryz.prog KB 15 [ptr d 0,p,v] hp λx h'=>∃S' g' r p',x=.tuple #[.agg r.toArray,.pointer p']/\zgF r/\zoc S' (.pointer p')/\g'<=g+8000/\zyK S hp S' g' h':=by
 have fin:∀x h',(∃S' r g',Xt hp.next S S'/\WT cx0 S' g' h'/\hp.next<=h'.next/\(∀b,b < hp.next->(false=true\/(S.ty b=none/\¬S.dv b))->h'.get b=hp.get b)/\gam cx0 S' h' L0 hp.next r x/\tagsOf r=[]/\((r=.tup [.aggT 43,.np 84 true]\/r=.tup [.aggT 43,.np 84 false])/\g'<=g+8000))->∃S' g' r p',x=.tuple #[.agg r.toArray,.pointer p']/\zgF r/\zoc S' (.pointer p')/\g'<=g+8000/\zyK S hp S' g' h':=by
  rintro x h' ⟨S',r,g',k1,k2,k3,k4,k5, -,k6,k7⟩
  have f:zyK S hp S' g' h':=by grind
  rcases k6 with rfl | rfl
  ·obtain⟨vs,rfl, -,k5⟩:=k5
   match vs,k5 with
   | [y,z],k5=>
     obtain⟨r,rfl,hr⟩:=zvt k5.1
     have k:=k5.2.1
     subst k
     exact⟨S',g',r,none,rfl,hr,.inl rfl,k7,f⟩
   | [],k5=>grind[gams]
   | [_],k5=>grind[gams]
   | _ :: _ :: _ :: _,k5=>grind[gams]
  ·obtain⟨vs,rfl, -,k5⟩:=k5
   match vs,k5 with
   | [y,z],k5=>
     obtain⟨r,rfl,hr⟩:=zvt k5.1
     have k:=k5.2.1
     simp only[gam] at k
     have k':=k
     unfold zbr at k'
     have:∃p',z=.pointer p':=by
      split at k'
      ·exact⟨_,k'⟩
      ·obtain⟨_,_,e,_⟩:=k'
       exact⟨_,e⟩
     obtain⟨p',rfl⟩:=this
     exact⟨S',g',r,p',rfl,hr,.inr k,k7,f⟩
   | [],k5=>grind[gams]
   | [_],k5=>grind[gams]
   | _ :: _ :: _ :: _,k5=>grind[gams]
 have hdv:gam cx0 S hp L0 hp.next (.hp 79) (ptr d 0):=by
  simp only[gam]
  unfold zbr
  rw[show Nat.beq 79 cx0.dt=true by rfl,hd]
 rcases hp' with rfl | hp'
 ·exact (zAk ((),(),(),()) g (λr g'=>(r=.tup [.aggT 43,.np 84 true]\/r=.tup [.aggT 43,.np 84 false])/\g'<=g+8000) ⟨hg,λg' a b=>⟨⟨.inl rfl,b⟩,.inr rfl,b⟩⟩ S hp [ptr d 0,.pointer none,v] w (show gams cx0 S hp L0 hp.next [.hp 79,.nilp,.cp false false 57] _ by grind[gams,gam])).mono fin
 ·exact (z15 ((),(),(),()) g (λr g'=>(r=.tup [.aggT 43,.np 84 true]\/r=.tup [.aggT 43,.np 84 false])/\g'<=g+8000) ⟨hg,λg' a b=>⟨⟨.inl rfl,b⟩,.inr rfl,b⟩⟩ S hp [ptr d 0,p,v] w (show gams cx0 S hp L0 hp.next [.hp 79,.hp 84,.cp false false 57] _ by grind[gams,gam])).mono fin
theorem zFQ {S:TY} {g:Int} {hp:AH} {d:Nat} (w:WT cx0 S g hp) (hg:g+7001<=1000000000) (hd:S.dev=d):
 Wf Tryz.prog KB 14 [ptr d 0] hp λx h'=>∃S' g' p' e,x=.tuple #[.pointer p',.int .i64 e]/\(e=0->zoc S' (.pointer p'))/\g'<=g+7001/\zyK S hp S' g' h':=by
 have hdv:gam cx0 S hp L0 hp.next (.hp 79) (ptr d 0):=by
  simp only[gam]
  unfold zbr
  rw[show Nat.beq 79 cx0.dt=true by rfl,hd]
 refine (z14 ((),()) g (λr g'=>(r=.tup [.hp 84,.int .i64 0]\/∃e:Int,r=.tup [.np 84 true,.int .i64 e]/\¬e=0)/\g'<=g+7001) ⟨hg,λg' a b=>⟨.inl rfl,b⟩,λg' a b e _ he=>⟨.inr ⟨e,rfl,he⟩,b⟩⟩ S hp [ptr d 0] w (show gams cx0 S hp L0 hp.next [.hp 79] _ by grind[gams])).mono ?_
 rintro x h' ⟨S',r,g',k1,k2,k3,k4,k5, -,k6,k7⟩
 have f:zyK S hp S' g' h':=by grind
 rcases k6 with rfl | ⟨e,rfl,he⟩
 ·obtain⟨vs,rfl, -,k5⟩:=k5
  match vs,k5 with
  | [y,z],k5=>
    simp only[gams,gam] at k5
    obtain⟨k,⟨rfl, -⟩, -⟩:=k5
    have k':=k
    unfold zbr at k'
    have:∃p',y=.pointer p':=by
     split at k'
     ·exact⟨_,k'⟩
     ·obtain⟨_,_,e,_⟩:=k'
      exact⟨_,e⟩
    obtain⟨p',rfl⟩:=this
    exact⟨S',g',p',0,rfl,λ_=>.inr k,k7,f⟩
  | [],k5=>grind[gams]
  | [_],k5=>grind[gams]
  | _ :: _ :: _ :: _,k5=>grind[gams]
 ·obtain⟨vs,rfl, -,k5⟩:=k5
  match vs,k5 with
  | [y,z],k5=>
    obtain⟨rfl,⟨rfl, -⟩, -⟩:=k5
    grind
  | [],k5=>grind[gams]
  | [_],k5=>grind[gams]
  | _ :: _ :: _ :: _,k5=>grind[gams]
theorem zyL:cx0.fl 102=[9,3,3,9]:=by kernel_rfl
theorem zyM:sz cx0 102=4:=by unfold sz; rw[zyL]; rfl
def Pln (v:Value):Prop:=(∃k x,v=.int k x)\/∃t,v=.string t
def zi4 (n:Nat) (cs:List Value):Prop:=n<=zbT/\∀j,j < n->∃(t:ByteArray) (x y:Int) (u:ByteArray),(cs.drop (j * 4)).take 4=[.string t,.int .i64 x,.int .i64 y,.string u]/\∃la,zdL Tryz.prog 102 (.agg #[.string t,.int .i64 x,.int .i64 y,.string u])=some la
theorem zi4.pln {n:Nat} {cs:List Value} (k:zi4 n cs) (hl:cs.length=n * 4):∀v∈cs,Pln v:=λv hv=>by
 obtain⟨m,hm,rfl⟩:=Q2.1 hv
 obtain⟨t,x,y,u,e, -⟩:=k.2 (m / 4) (by omega)
 have e1:cs[m]?= ((cs.drop (m / 4 * 4)).take 4)[m % 4]?:=by
  rw[List.getElem?_take_of_lt (by omega),QX,show m / 4 * 4+m % 4=m by omega]
 rw[e,Qe hm] at e1
 have h3:m % 4 < 4:=by omega
 generalize m % 4=r at *
 match r,h3 with
 | 0,_=>exact .inr ⟨_,Q7 e1⟩
 | 1,_=>exact .inl ⟨_,_,Q7 e1⟩
 | 2,_=>exact .inl ⟨_,_,Q7 e1⟩
 | 3,_=>exact .inr ⟨_,Q7 e1⟩
theorem zuJ {t u:ByteArray} {x y:Int} (ht:t.size<=za8) (hx:InR .i64 x) (hy:InR .i64 y) (hu:u.size<=za8):zdL Tryz.prog 102 (.agg #[.string t,.int .i64 x,.int .i64 y,.string u])=some [.string t.data.toList,.int .i64 x,.int .i64 y,.string u.data.toList]:=by
 have c102:Tryz.prog.cellsOf 102=4:=by kernel_rfl
 rw[zkA (by simp[Value.formed,c102]),zdV Tryz.underlying102 (d:=39) rfl]
 have k0:=zdW (P:=Tryz.prog) Tryz.underlying9 (m:=39) (d:=38) rfl t
 have k1:=zde (P:=Tryz.prog) Tryz.underlying3 (m:=39) (d:=38) rfl x
 have k2:=zde (P:=Tryz.prog) Tryz.underlying3 (m:=39) (d:=38) rfl y
 have k3:=zdW (P:=Tryz.prog) Tryz.underlying9 (m:=39) (d:=38) rfl u
 unfold za8 at ht hu
 rw[if_pos (by unfold maxLen; omega)] at k0 k3
 rw[if_pos (zwU hx)] at k1
 rw[if_pos (zwU hy)] at k2
 simp_all
theorem zAt {S:TY} {n:Nat} {cs:List Value} (hv:n<=zbT) (hl:cs.length=n * 4) (k:∀j,j < n->∀i t,(cx0.fl 102)[i]?= some t->∃x,cs[j * 4+i]?= some x/\okC cx0 S t x):zi4 n cs:=⟨hv,λj hj=>by
 have kk:=k j hj
 rw[zyL] at kk
 obtain⟨_,e0,o0⟩:=kk 0 9 rfl
 obtain⟨_,e1,o1⟩:=kk 1 3 rfl
 obtain⟨_,e2,o2⟩:=kk 2 3 rfl
 obtain⟨_,e3,o3⟩:=kk 3 9 rfl
 unfold okC at o0 o1 o2 o3
 rw[ck9] at o0 o3
 rw[zAo] at o1 o2
 obtain⟨t,rfl,h0⟩:=o0
 obtain⟨x,rfl,h1⟩:=o1
 obtain⟨y,rfl,h2⟩:=o2
 obtain⟨u,rfl,h3⟩:=o3
 have hr:(cs.drop (j * 4)).take 4=[.string t,.int .i64 x,.int .i64 y,.string u]:=by
  refine Jb λm=>?_
  match m with
  | 0=>grind
  | 1=>grind
  | 2=>grind
  | 3=>grind
  | m+4=>grind
 exact⟨t,x,y,u,hr,_,zuJ h0 h1 h2 h3⟩⟩
theorem zAu {S:TY} {g:Int} {hp:AH} {p:Value} (w:WT cx0 S g hp) (hp' : zbr cx0 S 84 p):
 Wf Tryz.prog KB 16 [p] hp λx h'=>∃S' q n c cs,x=.slice q n c/\Old hp h'/\WT cx0 S' g h'/\zbr cx0 S' 84 p/\Xt hp.next S S'/\zaz h' q n 4 cs/\zi4 n cs/\∀a,q=some a->∃t,S'.ty a.block=some t:=by
 refine (z16 ((),()) g (λr g'=>(∃n,r=.sl false false false 102 n)/\g'= g) (λn _=>⟨⟨n,rfl⟩,rfl⟩) S hp [p] w (show gams cx0 S hp L0 hp.next [.hp 84] _ by grind[gams,gam])).mono ?_
 rintro x h' ⟨S',r,g',k1,k2,k3,k4,k5, -,⟨n,rfl⟩,rfl⟩
 simp only[gam] at k5
 have hv:=k5.1
 obtain⟨q,c,cs,rfl,k6,k7,k8⟩:=zjw k2 k5 (by rw[zyM]; omega)
 rw[zyM] at k7 k8
 exact⟨S',q,n,c,cs,rfl,⟨k3,λb hb=>k4 b hb (.inl rfl)⟩,k2,hp'.mono ⟨k1.ty,k1.dev⟩,k1,k7,zAt hv k7.1 k8,by grind⟩
theorem zAv {S:TY} {g:Int} {hp:AH} {p:Value} (w:WT cx0 S g hp) (hp' : zbr cx0 S 84 p):
 Wf Tryz.prog KB 17 [p] hp λx h'=>∃i:Int,x=.int .i64 i/\Old hp h':=by
 refine (z17 ((),()) g (λr g'=>∃n,r=.int .i64 n) (λn _=>⟨n,rfl⟩) S hp [p] w (show gams cx0 S hp L0 hp.next [.hp 84] _ by grind[gams,gam])).mono ?_
 rintro x h' ⟨S',r,g',k1,k2,k3,k4,k5, -,n,rfl⟩
 exact⟨n,k5.1,k3,λb hb=>k4 b hb (.inl rfl)⟩
theorem zyN {lim c n d:Nat} {p:Option Addr} {h h1:AH} {xs:List OX} {x:Dd} (R:zfU lim h p c xs) (ok:∀x∈xs,zgV x.o) (o:Old h h1) (D:DV h1 d n x) (hx:x.pn=0) (hn:n<=1024) (hc:∀c∈x.bk d,h.next<=c):WT cx0 ⟨zuH h (bks (bOf p) xs),d,λc=>c∈x.bk d⟩ 0 h1:=
 ⟨λq ro e cc hq=>by
   obtain⟨⟨-,k1⟩,cs,r,k2,k3,k4⟩:=R.typed rfl ok hq
   exact⟨Qi k1 o.1,λz=>by grind,cs,r,by rw[o.2 q k1]; omega,k3,k4⟩,D.lt,n,x,D,by omega,by omega,hn,λ_ h=>h⟩
abbrev zyO (o:Nat->Prop) (hE:AH) (pE:Value) (pl:Option Addr) (nl cl:Nat) (x:Int) (dd:Bool) (cs:List Value):Prop:=
 (pE=.pointer none/\nl=0/\x=0/\dd=true/\cs=[])\/
 ∃(a:Addr) (g h16 h17:AH),pE=.pointer (some a)/\dd=false/\hE.next<=g.next/\(∀q,q < hE.next->¬o q->g.get q=hE.get q)/\(LtH hE->LtH g)/\Rt Tryz.prog KB 16 [pE] g (.slice pl nl cl) h16/\Rt Tryz.prog KB 17 [pE] h16 (.int .i64 x) h17/\zaz h16 pl nl 4 cs
abbrev zzl (secs:Int) (b n:Nat) (h:AH) (rows:List (List Value)) (E:(Nat->Prop)->AH->Value->Prop):Prop:=
 ∃(hR h10 h13:AH) (d:Nat) (p:Value) (e:Int) (o:Nat->Prop) (hE:AH) (pE:Value),Old h hR/\(LtH h->LtH hR)/\Rt Tryz.prog KB 13 [.int .i64 secs] hR (ptr d 0) h10/\Rt Tryz.prog KB 14 [ptr d 0] h10 (.tuple #[p,.int .i64 e]) h13/\
  Ch Tryz.prog KB 15 (ptr d 0) (λi=>ptr b (i * 6)) (λq=>h.next<=q/\q < hR.next) h13 (if e=0 then p else .pointer none) n o hE pE rows/\E o hE pE
def zBS (s:zil) (b n:Nat) (bs:List Nat) (h:AH) (v:Value) (h' : AH):Prop:=
 ∃(pr:Option Addr) (cr:Nat) (pl:Option Addr) (nl cl:Nat) (x:Int) (dd:Bool) (rows:List (List Value)) (cs:List Value),
  v=.tuple #[.agg #[.slice pr n cr,.slice pl nl cl,.int .i64 x,.bool dd],.int .i64 0]/\h.next<=h'.next/\(∀q,q < h.next->q∉bs->h'.get q=h.get q)/\
  zaz h' pr n 129 rows.flatten/\(∀a,pr=some a->h.next<=a.block)/\(∀r∈rows,zgF r)/\zaz h' pl nl 4 cs/\(∀a,pl=some a->h.next<=a.block\/a.block∈bs)/\zi4 nl cs/\zzl s.secs b n h rows λo hE pE=>zyO o hE pE pl nl cl x dd cs
theorem zs1 {h:AH} {b:Nat} {o o' : zca} (hb:h.get b=some o) (z:LtH h):LtH (h.set b o'):=z.set hb
theorem zdF {h h' : AH} {o:zca} (e:h'= h.alloc o) (z:LtH h):LtH h':=by rw[e]; exact z.alloc
theorem KL6:∀f x,K6 f=some (.ext x)\/K6 f=some (.sum x)->∀args h v h',x args h=some (v,h')->LtH h->LtH h':=by
 intro f x hk args h v h' hx
 unfold K6 zjh at hk
 cases hb:Nat.beq f 266 with
 | false=>rw[hb] at hk; rcases hk with hk | hk <;> cases hk
 | true=>
   rw[hb] at hk
   rcases hk with hk | hk
   ·cases hk
    unfold zco at hx
    repeat' split at hx
    all_goals first | (cases hx; exact id) | (simp at hx; done) | skip
   ·cases hk
theorem zyP:∀f x,KB f=some (.ext x)\/KB f=some (.sum x)->∀args h v h',x args h=some (v,h')->LtH h->LtH h':=by
 intro f x hk args h v h' hx
 unfold KB at hk
 by_cases h5:f=5
 ·subst h5
  rw[zig] at hk
  rcases hk with hk | hk <;> cases hk
  unfold zt6 at hx
  split at hx
  ·cases hx; exact id
  ·cases hx
 rw[zf7 h5] at hk
 by_cases h6:f=160
 ·subst h6
  rw[zig] at hk
  rcases hk with hk | hk <;> cases hk
  unfold ziK at hx
  split at hx
  ·cases hx; exact λz=>z.alloc
  ·split at hx
   ·rename_i z
    obtain⟨n,e⟩:=z.choose_spec
    rw[Q7 hx] at e
    exact zhq (zzz KL6 n) KL6 e
   ·cases hx
 rw[zf7 h6] at hk
 exact KL6 f x hk args h v h' hx
theorem Rt.lt {f:FuncId} {args:List Value} {h h' : AH} {v:Value} (r:Rt Tryz.prog KB f args h v h'):LtH h->LtH h':=by
 obtain⟨n,e⟩:=r
 exact zhq (zzz zyP n) zyP e
end Go.Am
