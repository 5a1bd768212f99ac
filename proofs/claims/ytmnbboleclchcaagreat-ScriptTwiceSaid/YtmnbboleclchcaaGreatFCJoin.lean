/-
  Texts of this proof, part 47. No condition.
-/
import Derived.Test.YtmnbboleclchcaaGreatFTcA4
import Derived.Test.YtmnbboleclchcaaGreatRows
set_option linter.unusedVariables false
set_option linter.unusedSimpArgs false
set_option maxRecDepth 100000
namespace Go.Am
open Go.Proofs
theorem za1.appendX {P:Program} {lim:Nat} {h:AH} {st elem:TypeId} {sz by' : Nat} {b n c:Nat} {cs:List Value} (g:za1 lim h elem sz b n c cs) (E:za3 P st elem sz by')
 {x:Value} {m:Nat} {ns:List Value} (hx:zjd x=some m) (hfn:firstC h sz m x=some ns) (hns:ns.length=m * sz) (hroom:n+m<=c):
 ∃h',zak P h .append #[st,st] [.slice (some ⟨b,0,none⟩) n c,x]=some (.slice (some ⟨b,0,none⟩) (n+m) c,h')/\za1 lim h' elem sz b (n+m) c (cs ++ ns)/\zaZ b h h':=by
 have gs:=g.shows
 obtain⟨h1,h2,h3,h4',h5,rest,h6,h7⟩:=g
 obtain⟨hu,i,z,hi,hz,hzs,hpos,rfl,rfl⟩:=E
 have hfc:firstC h i.size n (.slice (some ⟨b,0,none⟩) n c)=some cs:=by grind[zaz.firstC]
 have hns2:ns.length<=rest.length:=by
  have:(n+m) * i.size<=c * i.size:=Qt _ hroom
  grind
 cases m with
 | zero=>
   have:ns=[]:=by grind
   refine⟨h,?_,⟨by grind,h2,h3,h4',h5,rest,by grind,by grind⟩,rfl,λ_ _=>rfl⟩
   rw[zaO hu]
   unfold zaM
   grind
 | succ m'=>
   refine⟨h.set b (.cells (cs ++ ns ++ rest.drop ns.length) elem false),?_,⟨by grind,h2,h3,hroom,h5,rest.drop ns.length,zaf _ _ _,?_⟩,rfl,by grind[zal]⟩
   ·rw[zaO hu]
    unfold zaM
    simp only[hu,hi,hx,hfc,hfn,hz]
    have:zap h b (0+n * i.size) ns=some (h.set b (.cells (cs ++ ns ++ rest.drop ns.length) elem false)):=by
     unfold zap
     rw[h6]
     simp only
     rw[if_pos (by grind),Qq,<-h1,List.take_left,QL]
     grind[QH]
    grind
   grind
def Rows (h:AH) (p:Option Addr) (n:Nat) (ts:List Bs):Prop:=n=ts.length/\∃cells,zaz h p n 1 cells/\∀(i:Nat) (hi:i < ts.length),∃p' n' c',cells[i]?= some (.slice p' n' c')/\zdN h p' n' ts[i]
theorem Rows.old {h h' : AH} {p:Option Addr} {n:Nat} {ts:List Bs} (t:Rows h p n ts) (o:Old h h'):Rows h' p n ts:=by
 obtain⟨t2,cells,t3,t4⟩:=t
 refine⟨t2,cells,t3.old o,λi hi=>?_⟩
 grind[zdN.old]
theorem Rows.at {h:AH} {p:Option Addr} {n:Nat} {ts:List Bs} (t:Rows h p n ts) {i:Nat} (hi:i < n):∃b off,p=some ⟨b,off,none⟩/\∃(hi' : i < ts.length),∃p' n' c',ld1 h b (off+i)=some (.slice p' n' c')/\zdN h p' n' ts[i]:=by
 obtain⟨t2,cells,t3,t4⟩:=t
 grind[zaz.get]
theorem zo6 (n:Nat):zaV .shr .i64 (n:Int) 8=some (.int .i64 ((n / 256:Nat):Int)):=by grind[zaV,IntKind.bits]
theorem zuF {x:Nat} (hx:x < 256):zaV .shl .i64 (x:Int) 8=some (.int .i64 ((256 * x:Nat):Int)):=by grind[zaV,IntKind.bits,zfq]
theorem zw0 {a b:Nat} (ha:a < 256) (hb:b < 256):zgK .or .i64 (a:Int) ((256 * b:Nat):Int)=some (.int .i64 ((a+256 * b:Nat):Int)):=by
 unfold zgK
 have h1:BitVec.ofInt (IntKind.bits .i64) (a:Int)=BitVec.ofNat 64 a:=by rfl
 have h2:BitVec.ofInt (IntKind.bits .i64) ((256 * b:Nat):Int)=BitVec.ofNat 64 (256 * b):=by rfl
 have h3:(BitVec.ofNat 64 a ||| BitVec.ofNat 64 (256 * b)).toNat=a+256 * b:=by
  rw[BitVec.toNat_or,Jj,Jj,Q0 (by omega),Q0 (by omega)]
  rw[Nat.or_comm,show 256 * b=2 ^ 8 * b from rfl,<-Nat.two_pow_add_eq_or_of_lt (by omega),Nat.add_comm]
 grind[BitVec.toNat,zfq]
def zcH (ts:List Bs):Nat:=(ts.map λt=>2+t.length).sum
theorem zgE:∀(ts:List Bs) (j:Nat),zcH (ts.take j)<=zcH ts
 | [],j=>by simp
 | t :: ts,0=>by simp[zcH]
 | t :: ts,j+1=>by
   have:=zgE ts j
   grind[zcH]
theorem zo7:∀{ts:List Bs},(∀t∈ts,t.length<=65535)->zcH ts<=ts.length * 65537
 | [],_=>Qg _
 | t :: ts,h=>by
   have h2:=zo7 (ts:=ts) λx hx=>h x (by grind)
   grind[zcH]
theorem zql (ts:List Bs):(zcW ts).length=zcH ts:=zik ts
theorem zvs (n:Nat):IntKind.wrap .u8 ((n:Nat):Int)=((n % 256:Nat):Int):=ztZ n
theorem zi2 {ts:List Bs} {j:Nat} (hj:j < ts.length):ts.take (j+1)=ts.take j ++ [ts[j]]:=by simp
theorem zo8 (a b:Nat):za7 .u8 [a,b]=[.int .u8 (a:Int),.int .u8 (b:Int)]:=rfl
section
variable {K:Xs} {h:AH}
theorem zk7 (hk:K 20=none) {p:Option Addr} {n c:Nat} {ts:List Bs} (T:Rows h p n ts) (hl:ts.length<=65535) (ht:∀t∈ts,t.length<=65535):
 Wf Tryz.prog K 20 [.slice p n c] h λv h'=>(∃b,v=.tuple #[.slice (some ⟨b,0,none⟩) (zft ts).length (2+zcH ts),.int .i64 0]/\h.next<=b/\b < h'.next/\zaz h' (some ⟨b,0,none⟩) (zft ts).length 1 (za7 .u8 (zft ts)))/\Old h h':=by
 obtain rfl:n=ts.length:=T.1
 have sz:=zo7 ht
 refine zfJ hk _ _ _ h _ ⟨by omega,λ_=>⟨λi4 i5 k g=>∃j:Nat,i5=j/\i4=((2+zcH (ts.take j):Nat):Int)/\j<=ts.length/\ts.length - j=k/\h=g,⟨_,0,rfl,rfl,Qg _,rfl,rfl⟩,?_⟩⟩
 rintro k g i4 i5 ⟨j,rfl,rfl,hj,rfl,rfl⟩
 have sj:=zgE ts j
 refine⟨λz=>?_,λz=>?_⟩
 ·have hj' : j < ts.length:=by omega
  obtain⟨b,off,rfl,_,p',n',c',hld,tx⟩:=T.at hj'
  have hlen:=ht _ (Qj hj')
  have e1:zcH (ts.take (j+1))=zcH (ts.take j)+(2+ts[j].length):=by grind[zi2,zcH]
  have hn:=tx.2.1
  refine zaa ⟨by omega,z,p',n',c',by grind,by omega,λ_ i11 e11 i12 e12 i13 e13=>?_⟩
  have e11:=zaT e11 (by omega) (by omega)
  have e12:=zaT e12 (by omega) (by omega)
  have e13:=zaT e13 (by omega) (by omega)
  grind
 ·obtain rfl:j=ts.length:=by omega
  refine⟨by omega,λg14 e14 i15 e15=>⟨_,zo6 _,λi17 e17 g18 e18=>?_⟩⟩
  rw[zvs] at e15 e17
  have o14:=zab e14
  have hg0:za1 h.next g14 5 1 h.next 0 (2+zcH ts) []:=za1.make e14 (by rw[Qh]; simp) (by grind[zai])
  have e18' : g18=g14.alloc (.cells (za7 .u8 (byB 2 ts.length)) 5 false):=by grind[zxB,zo8]
  obtain⟨g22,k22,G22,n22,f22⟩:=hg0.push eB8 e18' (m:=2) (by rfl) (by omega) (by omega)
  have n14:=zad e14
  refine⟨some ⟨h.next,0,none⟩,0+2,2+zcH ts,g22,by grind,λp27 n28 c29 i30 k g=>∃j:Nat,i30=j/\j<=ts.length/\ts.length - j=k/\p27=some ⟨h.next,0,none⟩/\c29=2+zcH ts/\Old h g/\za1 h.next g 5 1 h.next n28 (2+zcH ts) (za7 .u8 (byB 2 ts.length ++ zcW (ts.take j))),
   ⟨_,0,rfl,Qg _,rfl,rfl,by omega,⟨by omega,λb hb=>?_⟩,by grind[zcW]⟩,?_⟩
  ·rw[f22 b (by omega) (by omega),o14.2 b hb]
  rintro k24 g25 p27 n28 c29 i30 ⟨j,rfl,hj,rfl,rfl,rfl,o25,G25⟩
  refine⟨λz=>?_,λz=>?_⟩
  ·have hj' : j < ts.length:=by omega
   obtain⟨b,off,rfl,_,p',n',c',hld,tx⟩:=(T.old o25).at hj'
   have hn:=tx.2.1
   have e1:zcW (ts.take (j+1))=zcW (ts.take j) ++ (byB 2 ts[j].length ++ ts[j]):=by grind[zi2,zrH,zrI]
   have s1:zcH (ts.take (j+1))=zcH (ts.take j)+(2+ts[j].length):=by grind[zi2,zcH]
   have sj1:=zgE ts (j+1)
   have hn28:n28=2+zcH (ts.take j):=by have:=G25.1; grind[zaG,zdx,zql]
   refine zaa ⟨by omega,z,p',n',c',by grind,λi36 e36=>⟨_,zo6 _,λi38 e38 g39 e39=>?_⟩⟩
   rw[zvs] at e36 e38
   have e39' : g39=g25.alloc (.cells (za7 .u8 (byB 2 n')) 5 false):=by grind[zxB,zo8]
   obtain⟨g43,k43,G43,n43,f43⟩:=G25.push eB8 e39' (m:=2) (by rfl) (by omega) (by omega)
   have o43:Old h g43:=⟨by have:=o25.1; omega,λb hb=>by rw[f43 b (by have:=o25.1; omega) (by omega),o25.2 b hb]⟩
   have tx43:zdN g43 p' n' ts[j]:=by
    obtain⟨b',off',hp',hj3,p3,n3,c3,h3,t3⟩:=T.at hj'
    have hb:b < h.next:=by
     rcases T.2 with ⟨cells,S, -⟩
     rcases S.2 with q | ⟨b5,off5,al,e5,ro,hp5,hb5, -⟩
     all_goals grind
    have:ld1 g25 b (off+j)=ld1 h b (off+j):=by unfold ld1; rw[o25.2 b hb]
    grind[zdN.old]
   obtain⟨g47,k47,G47,n47⟩:=G43.appendX eB8 (x:=.slice p' n' c') (m:=n') rfl (tx43.2.2.2.1.firstC tx43.1) tx43.2.2.2.1.1 (by omega)
   refine⟨_,_,_,g43,k43,_,_,_,g47,k47,λi48 e48=>?_⟩
   have e48:=zaT e48 (by omega) (by omega)
   refine⟨_,by omega,j+1,by omega,hj',rfl,rfl,rfl,by grind[Old.near],?_⟩
   grind[zhm]
  ·obtain rfl:j=ts.length:=by omega
   rw[List.take_length] at G25
   have hj2:(zft ts).length=n28:=by have:=G25.1; grind[zaG,zft]
   rw[<-hj2] at G25 ⊢
   exact⟨⟨_,rfl,Qc _,G25.2.2.1,G25.shows⟩,o25⟩
end
def Xct (g:AH) (p:Option Addr) (n c:Nat) (t:Bs):Prop:=∃d,p=some ⟨d,0,none⟩/\c=n/\g.get d=some (.cells (za7 .u8 t) 5 false)
def zcI (x:Prop) (lim:Nat) (g:AH) (p:Option Addr) (n c:Nat) (ts:List Bs):Prop:=n=ts.length/\∃cells,zbB lim g 34 1 p n c cells/\∀(i:Nat) (hi:i < ts.length),∃p' n' c',cells[i]?= some (.slice p' n' c')/\zdN g p' n' ts[i]/\zie Tryz.prog g 5 p' n' c'/\(∀a,p'= some a->lim<=a.block/\a.block < g.next/\apart p a.block)/\(x->Xct g p' n' c' ts[i])
theorem Xct.kept {h h' : AH} {p:Option Addr} {n c:Nat} {t:Bs} (x:Xct h p n c t) (k:∀a,p=some a->h'.get a.block=h.get a.block):Xct h' p n c t:=by
 obtain⟨d,rfl,e,g⟩:=x
 exact⟨d,rfl,e,(k _ rfl).trans g⟩
theorem zdN.kept {h h' : AH} {p:Option Addr} {n:Nat} {data:List Nat} (t:zdN h p n data) (hn:h.next<=h'.next) (k:∀a,p=some a->h'.get a.block=h.get a.block):zdN h' p n data:=⟨t.1,t.2.1,t.2.2.1,t.2.2.2.1.kept hn k,t.2.2.2.2⟩
theorem zcI.rows {x:Prop} {lim:Nat} {g:AH} {p:Option Addr} {n c:Nat} {ts:List Bs} (R:zcI x lim g p n c ts):Rows g p n ts:=by
 obtain⟨h1,cells,h2,h3⟩:=R
 refine⟨h1,cells,h2.shows,λi hi=>?_⟩
 grind
theorem zcI.nil (x:Prop) (lim:Nat) (g:AH):zcI x lim g none 0 0 []:=⟨rfl,[],zbB.nil _ _ _ _,by simp⟩
theorem zcI.kept {x:Prop} {lim:Nat} {g g' : AH} {p:Option Addr} {n c:Nat} {ts:List Bs} (R:zcI x lim g p n c ts) (hn:g.next<=g'.next) (k:∀b,lim<=b->b < g.next->g'.get b=g.get b):zcI x lim g' p n c ts:=by
 obtain⟨h1,cells,h2,h3⟩:=R
 refine⟨h1,cells,⟨h2.1,?_⟩,λi hi=>?_⟩
 ·rcases h2.2 with z | ⟨b,q1,q2,q3,q4,q5⟩
  all_goals grind
 obtain⟨p',n',c',k1,k2,k3,k4,k5⟩:=h3 i hi
 have kk:∀a,p'= some a->g'.get a.block=g.get a.block:=λa ha=>k _ (k4 a ha).1 (k4 a ha).2.1
 exact⟨p',n',c',k1,k2.kept hn kk,k3.kept kk,λa ha=>by have:=k4 a ha; grind,λz=>(k5 z).kept kk⟩
theorem zcI.old {x:Prop} {lim:Nat} {g g' : AH} {p:Option Addr} {n c:Nat} {ts:List Bs} (R:zcI x lim g p n c ts) (o:Old g g'):zcI x lim g' p n c ts:=R.kept o.1 λb _ hb=>o.2 b hb
theorem zcI.push {x:Prop} {lim:Nat} {g g4:AH} {p:Option Addr} {n c:Nat} {ts:List Bs} (R:zcI x lim g p n c ts) (hl:lim<=g.next) {p' : Option Addr} {n' c' : Nat} {t:Bs} (T:zdN g p' n' t) (C:zie Tryz.prog g 5 p' n' c') (hp:∀a,p'= some a->lim<=a.block/\a.block < g.next/\apart p a.block) (hx:x->Xct g p' n' c' t)
 (e4:g4=g.alloc (.cells [.slice p' n' c'] 34 false)) (hm:ts.length<=1000000):
 ∃p2 c2 g2,zak Tryz.prog g4 .append #[63,63] [.slice p n c,.slice (some ⟨g.next,0,none⟩) 1 1]=some (.slice p2 (n+1) c2,g2)/\zcI x lim g2 p2 (n+1) c2 (ts ++ [t])/\zje lim g g2/\∀b,b < g.next->apart p b->g2.get b=g.get b:=by
 obtain⟨h1,cells,h2,h3⟩:=R
 obtain⟨p2,c2,g2,k2,G2,o2,f2,m2⟩:=h2.push zu6 hl e4 (m:=1) rfl (by grind[zaA]) (by omega)
 obtain⟨b2,rfl,hb2⟩:=m2 (by omega)
 have cl:cells.length=ts.length:=by have:=h2.1; omega
 refine⟨_,c2,g2,k2,⟨by grind,_,G2,λi hi=>?_⟩,o2,f2⟩
 by_cases hi' : i < ts.length
 ·obtain⟨q',m',d',q1,q2,q3,q4,q5⟩:=h3 i hi'
  have kk:∀a,q'= some a->g2.get a.block=g.get a.block:=λa ha=>f2 _ (q4 a ha).2.1 (q4 a ha).2.2
  refine⟨q',m',d',by grind,?_,q3.kept kk,λa ha=>⟨(q4 a ha).1,by have:=(q4 a ha).2.1; have:=o2.1; omega,by have:=(q4 a ha).2.1; show b2≠a.block; omega⟩,λz=>?_⟩
  all_goals rw[List.getElem_append_left hi']
  ·exact q2.kept o2.1 kk
  ·exact (q5 z).kept kk
 ·have hie:i=ts.length:=by grind
  subst hie
  have kk:∀a,p'= some a->g2.get a.block=g.get a.block:=λa ha=>f2 _ (hp a ha).2.1 (hp a ha).2.2
  refine⟨p',n',c',by grind,?_,C.kept kk,λa ha=>⟨(hp a ha).1,by have:=(hp a ha).2.1; have:=o2.1; omega,by have:=(hp a ha).2.1; show b2≠a.block; omega⟩,λz=>?_⟩
  all_goals simp only[List.getElem_append_right (Qc _),Nat.sub_self,List.getElem_cons_zero]
  ·exact T.kept o2.1 kk
  ·exact (hx z).kept kk
theorem zbB.cutP {P:Program} {lim:Nat} {h:AH} {elem:TypeId} {sz:Nat} {p:Option Addr} {n c:Nat} {cs:List Value} (g:zbB lim h elem sz p n c cs) (hn:n < zai):zie P h elem p n c:=by
 rcases g.2 with ⟨h1,h2,h3⟩ | ⟨b,h1, -, -,h4,h5⟩
 ·exact .inl ⟨h1,h2,by omega⟩
 ·refine .inr ⟨b,0,h1,?_⟩
  rcases h5 with h5 | h5
  ·exact .inr ⟨h5,_,_,_,h4,rfl⟩
  ·exact .inl ⟨by omega,by omega⟩
instance (k:Int):Decidable (hN k):=by unfold hN; infer_instance
instance (k:Int):Decidable (zjl k):=by unfold zjl; infer_instance
instance (k:Int):Decidable (hTo k):=by unfold hTo; infer_instance
instance (k:Int):Decidable (zjm k):=by unfold zjm; infer_instance
instance (k:Int):Decidable (zjn k):=by unfold zjn; infer_instance
def zsY (v:Value) (P:Prop):Prop:=(v=.bool true/\P)\/(v=.bool false/\¬P)
theorem orP {x:Option Value} {P:Prop} [Decidable P] {A B:Prop} (h:x=some (.bool (decide P))) (h1:P->A) (h2:¬P->B):(x=some (.bool true)/\A)\/(x=some (.bool false)/\B):=by
 by_cases p:P
 all_goals grind
theorem zyI {s:ByteArray} {A B:Prop} (h1:s.size=0->A) (h2:s.size≠0->B):(s=ByteArray.mk #[]->A)/\(¬s=ByteArray.mk #[]->B):=
 ⟨λe=>h1 (by rw[e]; rfl),λe=>h2 λz=>e (by
   obtain⟨d⟩:=s
   congr 1
   exact Array.eq_empty_of_size_eq_zero z)⟩
theorem zBQ {x:Option Value} {P:Prop} [Decidable P] {b off:Nat} {g:AH} {j:Nat} {s:ByteArray} {D F:Prop} (h:x=some (.bool (decide P))) (l:ld1 g b (off+j)=some (.string s)) (hD:(P\/s.size=0)->D) (hF:¬P->s.size≠0->F):
 (x=some (.bool true)/\D)\/(x=some (.bool false)/\zag (some ⟨b,off,none⟩) λb' o'=>∃s',ld1 g b' (o'+ j)=some (.string s')/\((s'= ByteArray.mk #[]->D)/\(¬s'= ByteArray.mk #[]->F))):=
 orP h (by grind) λp=>zaa ⟨_,l,zyI (by grind) λz=>hF p z⟩
theorem zFO {x:Option Value} {P:Prop} [Decidable P] {b off:Nat} {g:AH} {j:Nat} {i:Int} {D F:Prop} (h:x=some (.bool (decide P))) (l:ld1 g b (off+j)=some (.int .i64 i)) (hD:(P\/i=0)->D) (hF:¬P->i≠0->F):
 (x=some (.bool true)/\D)\/(x=some (.bool false)/\zag (some ⟨b,off,none⟩) λb' o'=>∃i' : Int,ld1 g b' (o'+ j)=some (.int .i64 i')/\((i'= 0->D)/\(¬i'= 0->F))):=
 orP h (by grind) λp=>zaa ⟨_,l,λz=>hD (.inr z),λz=>hF p z⟩
theorem zBR {x:Option Value} {P:Prop} [Decidable P] {b off:Nat} {g:AH} {j:Nat} {p:Option Addr} {n c:Nat} {D F:Prop} (h:x=some (.bool (decide P))) (l:ld1 g b (off+j)=some (.slice p n c)) (hD:(P\/n=0)->D) (hF:¬P->n≠0->F):
 (x=some (.bool true)/\D)\/(x=some (.bool false)/\zag (some ⟨b,off,none⟩) λb' o'=>∃(p' : Option Addr) (n' c' : Nat),ld1 g b' (o'+ j)=some (.slice p' n' c')/\((((n' : Nat):Int)=0->D)/\(¬((n' : Nat):Int)=0->F))):=
 orP h (by grind) λp=>zaa ⟨_,_,_,l,λz=>hD (.inr (by omega)),λz=>hF p (by omega)⟩
theorem zAl {g0 g:AH} {b i:Nat} {v:Value} {cs:List Value} {ty:TypeId} {A:AH->Prop} (n:zaZ b g0 g) (w:g.get b=some (.cells cs ty false)) (hi:i < cs.length) (k:∀g',zaZ b g0 g'->g'.get b=some (.cells (cs.set i v) ty false)->A g'):∃g',st1 g b i v=some g'/\A g':=
 ⟨_,zaN w hi,by grind[zaZ.trans,zam,zaf]⟩
def OpA (o:OpP):Prop:=(0<=o.kind/\o.kind<=12)/\((0<=o.kind/\o.kind<=8)\/o.name.size=0)/\o.name.size<=60/\(o.kind=5\/o.to.size=0)/\o.to.size<=60/\(((0<=o.kind/\o.kind<=3)\/o.kind=10\/o.kind=12)\/o.n=0)/\(-1<=o.n/\o.n<=65534)/\((o.kind=1\/o.kind=12)\/o.data.length=0)/\o.data.length<=129/\(o.kind=11\/o.keep.length=0)/\o.keep.length<=64
theorem OpA.ok {o:OpP} (h:OpA o):zgV o:=by
 obtain⟨⟨h1,h2⟩,h3,h4,h5,h6,h7,⟨h8,h9⟩,h10,h11,h12,h13⟩:=h
 exact⟨h1,h2,h3,h4,h5,h6,h7,h8,h9,h10,h11,h12,h13⟩
theorem zgV.a {o:OpP} (h:zgV o):OpA o:=⟨⟨h.lo,h.hi⟩,h.name,h.nameL,h.to,h.toL,h.n,⟨h.nLo,h.nHi⟩,h.data,h.dataL,h.keep,h.keepL⟩
section
variable {K:Xs} {h:AH}
theorem zsZ (hk:K 40=none) (k:Int):Wf Tryz.prog K 40 [.int .i64 k] h λv h'=>v=.tuple #[.agg #[.bool (decide (zjl k)),.bool (decide (hTo k)),.bool (decide (hN k)),.bool (decide (zjm k)),.bool (decide (zjn k))],.bool (decide (0<=k/\k<=12))]/\Old h h':=by
 refine zgb hk _ h _ λg0 e0 g1 e1=>?_
 have o0:=zab e0
 have n0:=zad e0
 have n1:=zad e1
 have o1:=zab e1
 have w1:=zae e1
 have c1:g1.get h.next=_:=(o1.2 _ (by omega)).trans (zae e0)
 have r1:=zaZ.refl g0.next g1
 have fin:∀{g:AH} {l:List Value},zaZ g0.next g1 g->l.length=5->∃g',stN g h.next 0 l=some g'/\ldN g' h.next 0 5=some l/\Old h g':=λ{g l} n hl=>by
  have cg:g.get h.next=_:=(n.2 _ (by omega)).trans c1
  exact⟨_,zaR cg hl,by grind[zaw,zaf],⟨by rw[show (g.set h.next _).next=g.next from rfl,n.1]; omega,λb hb=>by rw[zal (by omega),n.2 b (by omega),o1.2 b (by omega),o0.2 b hb]⟩⟩
 have tail:∀{g:AH} {a b c d e:Bool},zaZ g0.next g1 g->g.get g0.next=some (.cells [.bool a,.bool b,.bool c,.bool d,.bool e] 112 false)->a=decide (zjl k)->b=decide (hTo k)->c=decide (hN k)->d=decide (zjm k)->e=decide (zjn k)->(0<=k/\k<=12)->
  ∃g',stN g h.next 0 [.bool a,.bool b,.bool c,.bool d,.bool e]=some g'/\ldN g' h.next 0 5=some [.bool a,.bool b,.bool c,.bool d,.bool e]/\((Value.tuple #[.agg #[.bool a,.bool b,.bool c,.bool d,.bool e],.bool true]=.tuple #[.agg #[.bool (decide (zjl k)),.bool (decide (hTo k)),.bool (decide (hN k)),.bool (decide (zjm k)),.bool (decide (zjn k))],.bool (decide (0<=k/\k<=12))])/\Old h g'):=by simp_all
 repeat' (first
  | refine⟨λz=>?_,λz=>?_⟩
  | (refine zAl r1 w1 (by simp) λg n w=>?_; try refine zAl n w (by simp) λg n w=>?_; try refine zAl n w (by simp) λg n w=>?_))
 all_goals grind[zaw,zjl,hTo,hN,zjm,zjn]
theorem zn9 (hk:K 22=none) (hp:K 40=none) {p:Option Addr} {n:Nat} {os:List OpP} (T:Ops h p n os) {b off i:Nat} (ep:p=some ⟨b,off,none⟩) (hi:i < n) (hi' : i < os.length):
 Wf Tryz.prog K 22 [.pointer (some ⟨b,off+i * 6,none⟩)] h λv h'=>zsY v (OpA os[i])/\Old h h':=by
 obtain⟨b',off',e,hi2,pd,nd,cd,pk,nk,ck, -,l0,l1,l2,l3,l4,l5,td,tk,s1,s2,lt⟩:=T.at hi
 rw[ep] at e
 cases e
 have hnd:=td.2.1
 have hnk:=tk.2.1
 refine zga hk _ h _ (zaa ⟨_,l0,(zsZ hp os[i].kind).mono ?_⟩)
 rintro _ g4 ⟨rfl,o4⟩
 refine⟨decide (zjl os[i].kind),decide (hTo os[i].kind),decide (hN os[i].kind),decide (zjm os[i].kind),decide (zjn os[i].kind),?_⟩
 by_cases hkd:0<=os[i].kind/\os[i].kind<=12
 ·refine .inl ⟨by grind,λg10 e10=>?_⟩
  obtain⟨g11,k11,n11,o11,v11⟩:=zbP e10 (vs:=[.bool (decide (zjl os[i].kind)),.bool (decide (hTo os[i].kind)),.bool (decide (hN os[i].kind)),.bool (decide (zjm os[i].kind)),.bool (decide (zjn os[i].kind))]) rfl
  have w11:=(v11 [] (by simp)).1
  refine⟨rfl,g11,k11,?_⟩
  have oo:=o4.trans o11
  have m:∀(j:Nat) v,ld1 h b (off+i * 6+j)=some v->ld1 g11 b (off+i * 6+j)=some v:=λj v z=>by rw[<-z]; unfold ld1; rw[oo.2 b lt]
  have m1:=m 1 _ l1
  have m2:=m 2 _ l2
  have m3:=m 3 _ l3
  have m4:=m 4 _ l4
  have m5:=m 5 _ l5
  have q0:ld1 g11 g4.next 0=some (.bool (decide (0<=os[i].kind/\os[i].kind<=8))):=(zah w11 rfl).trans (by rfl)
  have q1:ld1 g11 g4.next 1=some (.bool (decide (os[i].kind=5))):=(zah w11 rfl).trans (by rfl)
  have q2:ld1 g11 g4.next 2=some (.bool (decide ((0<=os[i].kind/\os[i].kind<=3)\/os[i].kind=10\/os[i].kind=12))):=(zah w11 rfl).trans (by rfl)
  have q3:ld1 g11 g4.next 3=some (.bool (decide (os[i].kind=1\/os[i].kind=12))):=(zah w11 rfl).trans (by rfl)
  have q4:ld1 g11 g4.next 4=some (.bool (decide (os[i].kind=11))):=(zah w11 rfl).trans (by rfl)
  have lf:¬OpA os[i]->zsY (.bool false) (OpA os[i])/\Old h g11:=λz=>⟨.inr ⟨rfl,z⟩,oo⟩
  have lt:OpA os[i]->zsY (.bool true) (OpA os[i])/\Old h g11:=λz=>⟨.inl ⟨rfl,z⟩,oo⟩
  unfold OpA at lf lt ⊢
  refine zBQ q0 m1 (λa0=>zaa ⟨_,m1,λa1=>?_,by grind⟩) λa0 a1=>lf (by omega)
  refine zBQ q1 m2 (λa2=>zaa ⟨_,m2,λa3=>?_,by grind⟩) λa2 a3=>lf (by omega)
  refine zFO q2 m3 (λa4=>zaa ⟨_,m3,λa5=>zaa ⟨_,m3,λa6=>?_,by grind⟩,by grind⟩) λa4 a5=>lf (by omega)
  refine zBR q3 m4 (λa7=>zaa ⟨_,_,_,m4,λa8=>?_,by grind⟩) λa7 a8=>lf (by omega)
  exact zBR q4 m5 (by grind[zaa]) λa9 a10=>lf (by omega)
 ·refine .inr ⟨by grind,λg10 e10=>?_⟩
  obtain⟨g11,k11,n11,o11,v11⟩:=zbP e10 (vs:=[.bool (decide (zjl os[i].kind)),.bool (decide (hTo os[i].kind)),.bool (decide (hN os[i].kind)),.bool (decide (zjm os[i].kind)),.bool (decide (zjn os[i].kind))]) rfl
  exact⟨rfl,g11,k11,.inr ⟨rfl,λz=>hkd z.1⟩,o4.trans o11⟩
theorem zk8 (hk:K 11=none) (ho:K 22=none) (hp:K 40=none) {s:zil} {p:Option Addr} {n c:Nat} (T:Ops h p n s.ops):
 Wf Tryz.prog K 11 [.agg #[.int .i64 s.secs,.slice p n c]] h λv h'=>zsY v (zdZ s)/\Old h h':=by
 have hn:=T.2.1
 refine zim hk _ _ _ _ h _ λg0 e0=>?_
 have n0:=zad e0
 have o0:=zab e0
 have m0:ld1 g0 h.next 0=some (.int .i64 s.secs):=zah (zae e0) rfl
 have m1:ld1 g0 h.next 1=some (.slice p n c):=zah (zae e0) rfl
 refine⟨_,m0,λa=>⟨.inr ⟨rfl,λk=>by have:=k.lo; omega⟩,o0⟩,λa=>⟨_,m0,λa=>⟨.inr ⟨rfl,λk=>by have:=k.hi; omega⟩,o0⟩,λa=>⟨_,_,_,m1,λa=>⟨.inr ⟨rfl,λk=>by grind[zdZ.len]⟩,o0⟩,λa=>⟨_,_,_,m1,?_⟩⟩⟩⟩
 refine⟨λi k g=>∃j:Nat,i=j/\j<=n/\n - j=k/\Old g0 g/\∀(u:Nat) (hu:u < s.ops.length),u < j->OpA s.ops[u],⟨_,0,rfl,Qg _,rfl,Old.refl _,by omega⟩,?_⟩
 rintro k10 g11 i13 ⟨j,rfl,hj,rfl,o11,hb⟩
 have oh:=o0.trans o11
 refine⟨λz=>?_,λz=>?_⟩
 ·have hjn:j < n:=by omega
  obtain⟨b,off,rfl, -⟩:=T.at hjn
  have m1' : ld1 g11 h.next 1=some (.slice (some ⟨b,off,none⟩) n c):=zah ((o11.2 _ (by omega)).trans (zae e0)) rfl
  refine⟨_,_,_,m1',zaa ⟨by omega,by omega,(zn9 ho hp (T.old oh) rfl hjn (by omega)).mono ?_⟩⟩
  rintro _ g20 ⟨⟨rfl,k⟩ | ⟨rfl,k⟩,o20⟩
  ·refine .inl ⟨rfl,λi21 e21=>?_⟩
   have e21:=zaT e21 (by omega) (by omega)
   refine⟨_,by omega,j+1,by omega,by omega,rfl,o11.trans o20,λu hu z=>?_⟩
   grind
  ·exact .inr ⟨rfl,.inr ⟨rfl,λw=>k (w.ops _ (Qj _)).a⟩,oh.trans o20⟩
 ·refine⟨.inl ⟨rfl,⟨by omega,by omega,by omega,λo ho=>?_⟩⟩,oh⟩
  grind[Q2,OpA.ok]
end
section
variable {P:Program} {K:Xs}
def Rt (P:Program) (K:Xs) (f:FuncId) (args:List Value) (h:AH) (v:Value) (h' : AH):Prop:=∃n,zbJ P K (ex P K n) f args h=some (v,h')
theorem Wf.rt {f:FuncId} {args:List Value} {h:AH} {Q:Value->AH->Prop} (hk:K f=none) (w:Wf P K f args h Q):Wf P K f args h λv h'=>Q v h'/\Rt P K f args h v h':=by
 obtain⟨n,v,h',e,q⟩:=w
 refine⟨n,v,h',e,q,n,?_⟩
 grind[zdQ]
theorem zs0 {m:Machine} {f1 f2:Frame} {w1 w2:World} {v1 v2:Value} (hi:P.inits.idxOf? f1.fn=none) (hf:f2.fn=f1.fn) (s1:Steps P m (lone f1 [] w1)) (s2:Steps P m (lone f2 [] w2)) (l1:f1.leaving P w1 (.returned v1)) (l2:f2.leaving P w2 (.returned v2)):w1=w2/\v1=v2:=by
 have one:∀{f1 f2:Frame} {w1 w2:World} {v1:Value} {a b:Nat},P.inits.idxOf? f1.fn=none->a<=b->runN P a m=.next (lone f1 [] w1)->runN P b m=.next (lone f2 [] w2)->f1.leaving P w1 (.returned v1)->lone f1 [] w1=lone f2 [] w2:=λ{f1 f2 w1 w2 v1 a b} hi hab e1 e2 l1=>by
  obtain⟨d,rfl⟩:=Nat.le.dest hab
  rw[runN_add,e1] at e2
  cases d with
  | zero=>grind[runN]
  | succ d=>simp[runN,step_leave_done l1 hi] at e2
 obtain⟨a,e1⟩:=s1
 obtain⟨b,e2⟩:=s2
 have e:lone f1 [] w1=lone f2 [] w2:=by grind
 simp only[lone,Machine.mk.injEq,Array.mk.injEq,Q8,Goroutine.mk.injEq,and_true] at e
 obtain⟨-, -, -,fn,q1,q2⟩:=l1
 obtain⟨-, -, -,fn',q3,q4⟩:=l2
 grind
theorem det (G:zdM P) (X:zbK P K) {f:FuncId} (hi:P.inits.idxOf? f=none) {a1 a2:List Value} {h1 h2 h1' h2' : AH} {v1 v2:Value} (r1:Rt P K f a1 h1 v1 h1') (r2:Rt P K f a2 h2 v2 h2') {φ1 φ2:Fi} {w:World} {args' : List Value} (R1:R P φ1 h1 w) (R2:R P φ2 h2 w) (A1:AR φ1 a1 args') (A2:AR φ2 a2 args') (F1:∀b,h1.next<=b->φ1 b=none) (F2:∀b,h2.next<=b->φ2 b=none):
 ∃φ1' φ2' w' v',Tn P φ1 h1 w φ1' h1' w'/\Tn P φ2 h2 w φ2' h2' w'/\VR φ1' v1 v'/\VR φ2' v2 v':=by
 obtain⟨n,c1⟩:=r1
 obtain⟨m,c2⟩:=r2
 obtain⟨φ1',v1',w1',f1,t1,k1,s1,g1,l1⟩:=zbZ (K:=K) G X (zdv G X n) f a1 h1 v1 h1' c1 h1'.next φ1 args' w [] (Qc _) (λb q _=>F1 b q) A1 R1
 obtain⟨φ2',v2',w2',f2,t2,k2,s2,g2,l2⟩:=zbZ (K:=K) G X (zdv G X m) f a2 h2 v2 h2' c2 h2'.next φ2 args' w [] (Qc _) (λb q _=>F2 b q) A2 R2
 grind[zs0]
theorem R.keep {φ:Fi} {h h2:AH} {w:World} (r:R P φ h w) (hl:LtH h2) (k:∀b q,φ b=some q->∀o,h2.get b=some o->h.get b=some o):R P φ h2 w:=
 ⟨by grind[obj],λb1 b2 o1 o2 q1 q2 g1 g2 e1 e2=>r.inj b1 b2 o1 o2 q1 q2 (k _ _ e1 _ g1) (k _ _ e2 _ g2) e1 e2,hl⟩
inductive Ch (P:Program) (K:Xs) (f:FuncId) (d:Value) (op:Nat->Value) (o0:Nat->Prop) (h0:AH) (p0:Value):Nat->(Nat->Prop)->AH->Value->List (List Value)->Prop
 | nil:Ch P K f d op o0 h0 p0 0 o0 h0 p0 []
 | snoc {j:Nat} {o:Nat->Prop} {h g g' : AH} {p p' : Value} {rs:List (List Value)} {r:List Value} (c:Ch P K f d op o0 h0 p0 j o h p rs) (nx:h.next<=g.next) (same:∀b,b < h.next->¬o b->g.get b=h.get b) (lt:LtH h->LtH g)
    (run:Rt P K f [d,p,op j] g (.tuple #[.agg r.toArray,p']) g') (pl:∀v∈r,∃k x,v=.int k x):Ch P K f d op o0 h0 p0 (j+1) (λb=>o b\/(h.next<=b/\b < g.next)) g' p' (rs ++ [r])
theorem Ch.len {f:FuncId} {d:Value} {op:Nat->Value} {o0 o:Nat->Prop} {h0 h:AH} {p0 p:Value} {j:Nat} {rs:List (List Value)} (c:Ch P K f d op o0 h0 p0 j o h p rs):rs.length=j:=by induction c<;>grind
def zAm (P:Program) (m:Nat) (dA dB:Value) (opA opB:Nat->Value) (hA hB:AH) (pA pB:Value) (oA oB:Nat->Prop):Prop:=
 ∃w φA φB,R P φA hA w/\R P φB hB w/\(∃x,VR φA dA x/\VR φB dB x)/\(∃x,VR φA pA x/\VR φB pB x)/\(∀j,j < m->∃x,VR φA (opA j) x/\VR φB (opB j) x)/\
  (∀b,oA b->b < hA.next/\φA b=none)/\(∀b,hA.next<=b->φA b=none)/\(∀b,oB b->b < hB.next/\φB b=none)/\∀b,hB.next<=b->φB b=none
theorem VR.pair {φ:Fi} {r:List Value} {p v:Value} (k:VR φ (.tuple #[.agg r.toArray,p]) v):∃r' p',v=.tuple #[.agg r',p']/\r.length=r'.size/\(∀(i:Nat) (x x' : Value),r[i]?= some x->r'[i]?= some x'->VR φ x x')/\VR φ p p':=by
 generalize hx:(Value.tuple #[.agg r.toArray,p])=x at k
 cases k with
 | tuple h1 h3=>
   rename_i xs xs'
   cases hx
   match xs',h1,h3 with
   | ⟨[a,b]⟩,_,h3=>
     have ka:=h3 0 _ a rfl rfl
     have kb:=h3 1 _ b rfl rfl
     cases ka<;>grind
   | ⟨[]⟩,h1,_=>grind
   | ⟨[_]⟩,h1,_=>grind
   | ⟨_ :: _ :: _ :: _⟩,h1,_=>grind
 | skip h=>grind[isSkip]
 | _=>grind
theorem VR.int_eq {φ:Fi} {k:IntKind} {x:Int} {v:Value} (h:VR φ (.int k x) v):v=.int k x:=by
 cases h<;>grind
theorem zw1 {φ ψ:Fi} {r s:List Value} {r' : Array Value} (hr:∀v∈r,∃k x,v=.int k x) (hs:∀v∈s,∃k x,v=.int k x) (l1:r.length=r'.size) (l2:s.length=r'.size) (k1:∀(i:Nat) (x x' : Value),r[i]?= some x->r'[i]?= some x'->VR φ x x') (k2:∀(i:Nat) (x x' : Value),s[i]?= some x->r'[i]?= some x'->VR ψ x x'):r=s:=by
 refine List.ext_getElem (by omega) λi h1 h2=>?_
 have h3:i < r'.size:=by omega
 obtain⟨k,x,e1⟩:=hr _ (Qj h1)
 obtain⟨k',x',e2⟩:=hs _ (Qj h2)
 have q1:=k1 i _ _ (Qe h1) (Array.getElem?_eq_getElem h3)
 have q2:=k2 i _ _ (Qe h2) (Array.getElem?_eq_getElem h3)
 grind[VR.int_eq]
theorem zAn (G:zdM P) (X:zbK P K) {f:FuncId} {m:Nat} {dA dB:Value} {opA opB:Nat->Value} {o0 u0:Nat->Prop} {hA hB:AH} {pA pB:Value} (hi:P.inits.idxOf? f=none) (R0:zAm P m dA dB opA opB hA hB pA pB o0 u0):∀{j:Nat} {o u:Nat->Prop} {hA' hB' : AH} {pA' pB' : Value} {rA rB:List (List Value)},Ch P K f dA opA o0 hA pA j o hA' pA' rA->Ch P K f dB opB u0 hB pB j u hB' pB' rB->j<=m->zAm P m dA dB opA opB hA' hB' pA' pB' o u/\rA=rB:=by
 intro j
 induction j with
 | zero=>
   intro o u hA' hB' pA' pB' rA rB A B _
   cases A
   cases B
   grind
 | succ j ih=>
   intro o u hA' hB' pA' pB' rA rB A B hj
   cases A with
   | snoc A nA sA lA runA plA=>
   cases B with
   | snoc B nB sB lB runB plB=>
   obtain⟨⟨w,φA,φB,RA,RB,⟨d,d1,d2⟩,⟨p,p1,p2⟩,ops,wA,fA,wB,fB⟩,rfl⟩:=ih A B (by omega)
   have kp:∀{φ:Fi} {h g:AH} {o:Nat->Prop},R P φ h w->(LtH h->LtH g)->(∀b,o b->b < h.next/\φ b=none)->(∀b,h.next<=b->φ b=none)->(∀b,b < h.next->¬o b->g.get b=h.get b)->R P φ g w:=λ{φ h g o} r hl c1 c2 c3=>
    r.keep (hl r.lt) λb q e o' g'=>by grind
   obtain⟨o,o1,o2⟩:=ops j (by omega)
   obtain⟨φA',φB',w',v',tA,tB,vA,vB⟩:=det G X hi runA runB (kp RA lA wA fA sA) (kp RB lB wB fB sB) (args':=[d,p,o]) ⟨d1,p1,o1,trivial⟩ ⟨d2,p2,o2,trivial⟩ (by grind) (by grind)
   obtain⟨r',p',rfl,l1,k1,q1⟩:=vA.pair
   obtain⟨r'',p'',e,l2,k2,q2⟩:=vB.pair
   cases e
   have nw:∀{φ φ' : Fi} {h g g' : AH} {o:Nat->Prop},Tn P φ g w φ' g' w'->h.next<=g.next->(∀b,o b->b < h.next/\φ b=none)->(∀b,h.next<=b->φ b=none)->(∀b,(o b\/(h.next<=b/\b < g.next))->b < g'.next/\φ' b=none)/\∀b,g'.next<=b->φ' b=none:=λ{φ φ' h g g' o} t nx c1 c2=>by
    have tn:=t.nle
    have z:∀b,φ b=none->¬(g.next<=b/\b < g'.next)->φ' b=none:=by grind[Tn.new]
    grind
   obtain⟨a1,a2⟩:=nw tA nA wA fA
   obtain⟨b1,b2⟩:=nw tB nB wB fB
   exact⟨⟨w',φA',φB',tA.rel,tB.rel,⟨d,d1.mono tA.le,d2.mono tB.le⟩,⟨p',q1,q2⟩,λj hj=>(ops j hj).imp λx k=>⟨k.1.mono tA.le,k.2.mono tB.le⟩,a1,a2,b1,b2⟩,by rw[zw1 plA plB l1 l2 k1 k2]⟩
end
abbrev zfM (K:Xs) (Q:Value->AH->Prop) (h51:AH) (h13:AH) (h0:AH):Prop:=
 (∃p52 n53 c54 p55 n56 c57 i58 b59,ldN h51 h13.next 0 4=some [.slice p52 n53 c54,.slice p55 n56 c57,.int .i64 i58,.bool b59]/\
 ((4=4)/\∃h60,stN h51 h0.next 0 [.slice p52 n53 c54,.slice p55 n56 c57,.int .i64 i58,.bool b59]=some h60/\
 (∃p61 n62 c63 p64 n65 c66 i67 b68,ldN h60 h0.next 0 4=some [.slice p61 n62 c63,.slice p64 n65 c66,.int .i64 i67,.bool b68]/\
 (Q (.tuple #[.agg #[.slice p61 n62 c63,.slice p64 n65 c66,.int .i64 i67,.bool b68],.int .i64 0]) h60))))
abbrev zfN (K:Xs) (Q:Value->AH->Prop) (i25:Int) (n18:Nat) (p24:Option Addr) (h22:AH) (h13:AH) (h0:AH):Prop:=
 (¬i25 < (n18:Int)->zti p24 (sT h22 h13.next 3 (.bool true) λh51=>(zfM K Q h51 h13 h0)) (Wt K 16 [.pointer p24] h22 λr69 h70=>
 (∃p71 n72 c73,r69=(.slice p71 n72 c73)/\
 (Wt K 17 [.pointer p24] h70 λr74 h75=>
 (∃i76,r74=(.int .i64 i76)/\
 (sT h75 h13.next 1 (.slice p71 n72 c73) λh77=>(sT h77 h13.next 2 (.int .i64 i76) λh78=>(zfM K Q h78 h13 h0))))))))
theorem zfO {K:Xs} (hk:K 6=none) (a:Int) (b:Option Addr) (d e:Nat) (f:AH) (Q:Value->AH->Prop) (H:
 aL f [.int .i64 a,.slice b d e] 24 λg=>aL g [.slice none 0 0,.slice none 0 0,.int .i64 0,.bool false] 29 λi=>∃j k l m,ldN i f.next 0 2=some [.int .i64 j,.slice k l m]/\
 (Wt K 11 [.agg #[.int .i64 j,.slice k l m]] i λo p=>
 (((o=(.bool true)/\
 (lI p f.next 0 λq=>(Wt K 13 [.int .i64 q] p λr s=>
 (∃t:Option Addr,r=(.pointer t)/\
 (Wt K 14 [.pointer t] s λu v=>
 (∃w:Option Addr,∃x,u=(.tuple #[.pointer w,.int .i64 x])/\
 ((x=0->aL v [.slice none 0 0,.slice none 0 0,.int .i64 0,.bool false] 29 λy=>lS y f.next 1 λz aa ab=>(∃ac:Option Addr->Int->Nat->AH->Prop,(∃n,ac w 0 n y)/\
 ∀(ad:Nat) (ae:AH),∀(af:Option Addr),∀(ag:Int),ac af ag ad ae->
 (ag < (aa:Int)->∀ah,ah=ae.alloc (.cells ([.int .i64 0] ++ List.replicate 128 (.int .u8 0)) 43 false)->
 lS ah f.next 1 λai aj ak=>(zag ai λal am=>(0<=ag/\ag < (aj:Int)/\
 (Wt K 15 [.pointer t,.pointer af,(.pointer (some ⟨al,(am+ag.toNat * 6),none⟩))] ah λan ao=>
 (∃l34:List Value,∃ap:Option Addr,an=(.tuple #[.agg l34.toArray,.pointer ap])/\
 ((List.length l34=129)/\∃aq,stN ao ae.next 0 l34=some aq/\
 (lS aq v.next 0 λar au av=>(∃l40:List Value,ldN aq ae.next 0 129=some l40/\
 (∃aw ax ay az,zar Tryz.prog aq 26 1 #[(0,(.agg l40.toArray))]=some (.slice aw ax ay,az)/\
 (∃a0 a1 a2 a3,zak Tryz.prog az .append #[26,26] [.slice ar au av,.slice aw ax ay]=some (.slice a0 a1 a2,a3)/\
 (sT a3 v.next 0 (.slice a0 a1 a2) λa4=>(wI (ag+1) λa5=>∃a6,a6 < ad/\ac ap a5 a6 a4))))))))))))/\
 (zfN K Q ag aa af ae v g)))/\
 (¬x=0->aL v [.slice none 0 0,.slice none 0 0,.int .i64 0,.bool false] 29 λa7=>lS a7 f.next 1 λa8 a9 ba=>(∃bb:Option Addr->Int->Nat->AH->Prop,(∃n,bb none 0 n a7)/\
 ∀(bc:Nat) (bd:AH),∀(be:Option Addr),∀(bf:Int),bb be bf bc bd->
 (bf < (a9:Int)->∀bg,bg=bd.alloc (.cells ([.int .i64 0] ++ List.replicate 128 (.int .u8 0)) 43 false)->
 lS bg f.next 1 λbh bi bj=>(zag bh λbk bl=>(0<=bf/\bf < (bi:Int)/\
 (Wt K 15 [.pointer t,.pointer be,(.pointer (some ⟨bk,(bl+bf.toNat * 6),none⟩))] bg λbm bn=>
 (∃l114:List Value,∃bo:Option Addr,bm=(.tuple #[.agg l114.toArray,.pointer bo])/\
 ((List.length l114=129)/\∃bp,stN bn bd.next 0 l114=some bp/\
 (lS bp v.next 0 λbq br bs=>(∃l120:List Value,ldN bp bd.next 0 129=some l120/\
 (∃bt bu bv bw,zar Tryz.prog bp 26 1 #[(0,(.agg l120.toArray))]=some (.slice bt bu bv,bw)/\
 (∃bx bz b0 b1,zak Tryz.prog bw .append #[26,26] [.slice bq br bs,.slice bt bu bv]=some (.slice bx bz b0,b1)/\
 (sT b1 v.next 0 (.slice bx bz b0) λb2=>(wI (bf+1) λb3=>∃b4,b4 < bc/\bb bo b3 b4 b2))))))))))))/\
 (zfN K Q bf a9 be bd v g))))))))))\/(o=(.bool false)/\
 ((4=4)/\∃b5,stN p g.next 0 [.slice none 0 0,.slice none 0 0,.int .i64 0,.bool false]=some b5/\
 (∃b6 b7 b8 b9 da db dc dd,ldN b5 g.next 0 4=some [.slice b6 b7 b8,.slice b9 da db,.int .i64 dc,.bool dd]/\
 (Q (.tuple #[.agg #[.slice b6 b7 b8,.slice b9 da db,.int .i64 dc,.bool dd],.int .i64 231]) b5)))))))):
 Wt K 6 [.agg #[.int .i64 a,.slice b d e]] f Q:=
  zaj (hs:=[(9,[(5,.pointer none),(27,.int .i64 0)])]) hk (Eq.mpr (by kernel_rfl) H)
end Go.Am
