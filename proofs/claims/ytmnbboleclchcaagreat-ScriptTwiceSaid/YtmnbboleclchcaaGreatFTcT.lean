/-
  Texts of this proof, part 39. No condition.
-/
import Derived.Test.YtmnbboleclchcaaGreatFTcI
set_option linter.unusedVariables false
set_option linter.unusedSimpArgs false
set_option maxRecDepth 100000
namespace Go.Am
open Go.Proofs
theorem Wf.and {P:Program} {K:Xs} {f:FuncId} {args:List Value} {h:AH} {Q Q' : Value->AH->Prop} (a:Wf P K f args h Q) (b:Wf P K f args h Q'):Wf P K f args h λv h'=>Q v h'/\Q' v h':=by
 obtain⟨n,v,h1,e1,q1⟩:=a
 obtain⟨m,v2,h2,e2,q2⟩:=b
 have k1:=zke (zfm (P:=P) (K:=K) (Nat.le_max_left n m)) e1
 have k2:=zke (zfm (P:=P) (K:=K) (Nat.le_max_right n m)) e2
 rw[k1] at k2
 cases k2
 exact⟨_,v,h1,k1,q1,q2⟩
theorem zgD {f:FuncId} {s:FS} (v:Vl f s) (hpu:s.pu=true) {ρ:ATs s.ps} {S:TY} {g:Int} {h:AH} (hw:WT cx0 S g h) {vs:List Value} (ga:gams cx0 S h L0 h.next (instAs s.ps ρ) vs) {Q:TV->Int->Prop} (H:s.s ρ g Q):
 Wf Tryz.prog KB f vs h λv h'=>Old h h'/\∃S' r g',Xt h.next S S'/\WT cx0 S' g' h'/\gam cx0 S' h' L0 h.next r v/\tagsOf r=[]/\Q r g':=by
 refine (v ρ g _ H S h vs hw ga).mono ?_
 rintro v h' ⟨S2,r,g2,xx,wt2,nx,fr,gm,tr,hq⟩
 exact⟨⟨nx,by grind⟩,S2,r,g2,xx,wt2,gm,tr,hq⟩
theorem ok9 {S:TY} {x:Value} (h:okC cx0 S 9 x):∃s:ByteArray,x=.string s:=by
 unfold okC at h
 rw[show ck cx0 9=.str by rfl] at h
 grind
theorem zDP {S:TY} {x:Value} (h:okC cx0 S 97 x):∃p n c,x=.slice p n c:=by
 unfold okC at h
 obtain⟨n, -, -,p,c,rfl, -⟩:=h
 simp
theorem zDQ {S:TY} {x:Value} (h:okC cx0 S 3 x):∃i:Int,x=.int .i64 i:=by grind[okC,ck3]
theorem zAe {S:TY} {x:Value} (h:okC cx0 S 94 x):∃i:Int,x=.int .u32 i:=by grind[okC,zDI]
theorem ziY {S:TY} {l:List Value} (hl:l.length=11) (h:∀(i:Nat) (t:Nat),(cx0.fl 99)[i]?= some t->∃x:Value,l[i]?= some x/\okC cx0 S t x):
 ∃i0 s1 b2 i3 i4 i5 i6 i7 i8 i9 p n c,l=[.int .u64 i0,.string s1,.bool b2,.int .u64 i3,.int .u64 i4,.int .u64 i5,.int .i64 i6,.int .i64 i7,.int .u64 i8,.int .u32 i9,.slice p n c]:=by
 match l,hl with
 | [x0,x1,x2,x3,x4,x5,x6,x7,x8,x9,x10],_=>
   obtain⟨_,e,k0⟩:=h 0 62 rfl
   obtain⟨_,e,k1⟩:=h 1 9 rfl
   obtain⟨_,e,k2⟩:=h 2 4 rfl
   obtain⟨_,e,k3⟩:=h 3 62 rfl
   obtain⟨_,e,k4⟩:=h 4 62 rfl
   obtain⟨_,e,k5⟩:=h 5 62 rfl
   obtain⟨_,e,k6⟩:=h 6 3 rfl
   obtain⟨_,e,k7⟩:=h 7 3 rfl
   obtain⟨_,e,k8⟩:=h 8 62 rfl
   cases e
   obtain⟨_,e,k9⟩:=h 9 94 rfl
   cases e
   obtain⟨_,e,k10⟩:=h 10 97 rfl
   cases e
   grind[zgB,ok9,zye,zDQ,zAe,zDP]
structure zym (S:TY) (hp:AH) (p:Option Addr) (n:Nat) (idf:Nat->Int):Prop where
 at1:∀j,j < n->∃b off,p=some ⟨b,off,none⟩/\InR .u64 (idf j)/\(∀h',Old hp h'->ld1 h' b (off+j * 11)=some (.int .u64 (idf j)))/\
  (∃s:ByteArray,∀h',Old hp h'->ld1 h' b (off+j * 11+1)=some (.string s))/\(∃z:Bool,∀h',Old hp h'->ld1 h' b (off+j * 11+2)=some (.bool z))/\(∃i:Int,∀h',Old hp h'->ld1 h' b (off+j * 11+3)=some (.int .u64 i))/\(∃i:Int,InR .u64 i/\∀h',Old hp h'->ld1 h' b (off+j * 11+4)=some (.int .u64 i))/\
  ∃s1 b2 i3 i4 i5 i6 i7 i8 i9 q m c,∀h',Old hp h'->ldN h' b (off+j * 11) 11=some [.int .u64 (idf j),.string s1,.bool b2,.int .u64 i3,.int .u64 i4,.int .u64 i5,.int .i64 i6,.int .i64 i7,.int .u64 i8,.int .u32 i9,.slice q m c]
theorem zwV {S:TY} {g:Int} {hp:AH} (w:WT cx0 S g hp) {base n:Nat} {wr fr kc:Bool} {v:Value} (s:SlV cx0 S base wr fr kc 99 n v):∃p c idf,v=.slice p n c/\zym S hp p n idf:=by
 obtain⟨p,c,cs,rfl,hp',hs,hc⟩:=zjw w s (by grind[zlc])
 rw[zlc] at hs hc
 have hl:=hs.1
 have row:∀j,∃(i0:Int) (s1:ByteArray) (b2:Bool) (i3 i4 i5 i6 i7 i8 i9:Int) (q:Option Addr) (m c:Nat),j < n->(cs.drop (j * 11)).take 11=[.int .u64 i0,.string s1,.bool b2,.int .u64 i3,.int .u64 i4,.int .u64 i5,.int .i64 i6,.int .i64 i7,.int .u64 i8,.int .u32 i9,.slice q m c]:=λj=>by
  rcases QK j n with hj | hj
  ·obtain⟨i0,s1,b2,i3,i4,i5,i6,i7,i8,i9,q,m,c,e⟩:=ziY (S:=S) (l:=(cs.drop (j * 11)).take 11) (by grind) λi t hi=>by
    have h3:i < 11:=by have:=(Qo.1 hi).1; rw[ztm] at this; omega
    grind
   grind
  ·exact⟨0,⟨#[]⟩,false,0,0,0,0,0,0,0,none,0,0,by omega⟩
 obtain⟨idf,row⟩:=Q4 row
 refine⟨p,c,idf,rfl,⟨λj hj=>?_⟩⟩
 obtain⟨s1,b2,i3,i4,i5,i6,i7,i8,i9,q,m,c,e⟩:=row j
 obtain⟨b,off,rfl, -, -⟩:=hs.getN hj
 have ld:∀{i:Nat} {x:Value},i < 11->((cs.drop (j * 11)).take 11)[i]?= some x->∀h',Old hp h'->ld1 h' b (off+j * 11+i)=some x:=λ{i x} hi hx h' o=>by
  obtain⟨b',off',q, -,e3⟩:=(hs.old o).getN hj
  grind
 have ok:∀{i t:Nat} {x:Value},(cx0.fl 99)[i]?= some t->((cs.drop (j * 11)).take 11)[i]?= some x->okC cx0 S t x:=by grind
 refine⟨b,off,rfl,zqi (ok (i:=0) (t:=62) (by grind[ztm]) (by grind)),ld (i:=0) (by omega) (by grind),⟨s1,by grind⟩,⟨b2,by grind⟩,⟨i3,by grind⟩,⟨i4,zqi (ok (i:=4) (t:=62) (by grind[ztm]) (by grind)),by grind⟩,s1,b2,i3,i4,i5,i6,i7,i8,i9,q,m,c,λh' o=>?_⟩
 obtain⟨b',off',q,e3, -⟩:=(hs.old o).getN hj
 grind
section
variable {S:TY} {hp h:AH} {p:Option Addr} {n c:Nat} {idf:Nat->Int}
theorem zvo (R:zym S hp p n idf) (o:Old hp h) (hn:n<=1048576) (id:Int):
 Wf Tryz.prog KB 59 [.slice p n c,.int .u64 id] h λv h'=>h'= h/\∃i:Int,v=.int .i64 i/\-1<=i/\i < n/\(0<=i->idf i.toNat=id):=by
 refine ziQ (xb rfl) _ _ _ _ h _ ⟨λi k g=>∃j:Nat,i=j/\j<=n/\n - j=k/\g=h,⟨_,0,rfl,Qg _,rfl,rfl⟩,?_⟩
 rintro k _ _ ⟨j,rfl,hj,rfl,rfl⟩
 refine⟨λz=>?_,by grind⟩
 obtain⟨b,off,rfl, -,l0, -⟩:=R.at1 j (by omega)
 refine zaa ⟨by omega,z,_,by exact l0 _ o,by grind,λ_ i e=>?_⟩
 have e:=zaT e (by omega) (by omega)
 exact⟨_,by omega,j+1,by omega,by omega,rfl,rfl⟩
theorem zwW (R:zym S hp p n idf) (o:Old hp h) (hn:n<=1048576) (id:Int) (there:∃j,j < n/\idf j=id):
 Wf Tryz.prog KB 148 [.slice p n c,.int .u64 id] h λv h'=>Old h h'/\∃i:Int,v=.int .i64 i/\0<=i/\i < n:=by
 refine zkX (xb rfl) _ _ _ _ h _ λg0 e0=>?_
 have o0:=zab e0
 have n0:=zad e0
 obtain⟨t,ht,te⟩:=there
 refine zbU (xb rfl) _ _ _ _ g0 _ ⟨λi k g=>∃j:Nat,i=j/\j<=t/\n - j=k/\Old g0 g,⟨_,0,rfl,Qg _,rfl,Old.refl _⟩,?_⟩
 rintro k g _ ⟨j,rfl,hj,rfl,og⟩
 refine⟨λz=>?_,by omega⟩
 obtain⟨b,off,rfl, -, -, -, -, -, -,s1,b2,i3,i4,i5,i6,i7,i8,i9,q,m,cc,lN⟩:=R.at1 j (by omega)
 refine zaa ⟨by omega,z,_,_,_,_,_,_,_,_,_,_,_,_,_,by exact lN _ ((o.trans o0).trans og),ziS (xb rfl) _ _ _ _ _ _ _ _ _ _ _ _ _ _ g _ λg1 e1=>?_⟩
 have o1:=zab e1
 have w0:g1.get h.next=some (.cells [.int .u64 id] 62 false):=((og.trans o1).2 _ (by omega)).trans (zae e0)
 refine⟨_,zah (zae e1) rfl,zaa ⟨_,zah w0 rfl,by grind[Old.trans],λe=>.inr ⟨rfl,λi ei=>?_⟩⟩⟩
 have ei:=zaT ei (by omega) (by omega)
 have:j≠t:=by grind
 exact⟨_,by omega,j+1,by omega,by omega,rfl,og.trans o1⟩
theorem zyn (R:zym S hp p n idf) (o:Old hp h) (hn:n<=1048576) (id:Int):
 Wf Tryz.prog KB 146 [.slice p n c,.int .u64 id] h λv h'=>Old h h'/\∃q m d ids,v=.slice q m d/\zaz h' q m 1 (zh9 .u64 ids)/\(∀x∈ids,∃j,j < n/\idf j=x)/\zie Tryz.prog h' 62 q m d/\∀a,q=some a->a.block < h'.next:=by
 refine ziR (xb rfl) _ _ _ _ h _ (zkW (xb rfl) _ _ _ _ h _ ((zvo R o hn id).mono ?_))
 rintro _ _ ⟨rfl,i,rfl,hi,hi2, -⟩
 rename_i h
 have none0:∀{g:AH},zaz g none 0 1 (zh9 .u64 []):=⟨rfl,.inl rfl⟩
 refine⟨_,rfl,λ_=>⟨_,_,_,_,rfl,Old.refl _,_,_,_,[],rfl,none0,by simp,.inl ⟨rfl,rfl,by decide⟩,by simp⟩,λz=>?_⟩
 obtain⟨b,off,rfl, -, -, -,⟨z2,l2⟩, -,⟨i4, -,l4⟩, -⟩:=R.at1 i.toNat (by omega)
 refine zaa ⟨by omega,by omega,?_⟩
 cases z2
 rotate_left
 ·exact .inl ⟨l2 _ o,_,_,_,_,rfl,Old.refl _,_,_,_,[],rfl,none0,by simp,.inl ⟨rfl,rfl,by decide⟩,by simp⟩
 refine .inr ⟨l2 _ o,zaa ⟨by omega,by omega,_,l4 _ o,λp12 n13 c14 i15 k g=>n13<=32/\32 - n13=k/\Old h g/\∃ids,zbB h.next g 62 1 p12 n13 c14 (zh9 .u64 ids)/\∀x∈ids,∃j,j < n/\idf j=x,⟨_,by omega,rfl,Old.refl _,[],zbB.nil _ _ _ _,by simp⟩,?_⟩⟩
 rintro k g p12 n13 c14 i15 ⟨h13,rfl,og,ids,G,hx⟩
 have fin:∀{g' : AH} {y:Int},g'= g->∃p2 n3 c4,∃i5:Int,(Value.tuple #[.slice p12 n13 c14,.int .u64 y])=.tuple #[.slice p2 n3 c4,.int .u64 i5]/\Old h g'/\∃q m d ids,(Value.slice p2 n3 c4)=.slice q m d/\zaz g' q m 1 (zh9 .u64 ids)/\(∀x∈ids,∃j,j < n/\idf j=x)/\zie Tryz.prog g' 62 q m d/\∀a,q=some a->a.block < g'.next:=λe=>by
  subst e
  exact⟨_,_,_,_,rfl,og,_,_,_,ids,rfl,G.shows,hx,G.cutQ (by grind[zai]),λa ha=>(G.block ha).2⟩
 refine⟨λ_=>fin rfl,λ_=>⟨λz=>(zvo R (o.trans og) hn i15).mono ?_,λ_=>fin rfl⟩⟩
 rintro _ _ ⟨rfl,j,rfl,hj,hj2,hid⟩
 refine⟨_,rfl,λ_=>fin rfl,λz=>?_⟩
 obtain⟨b',off',e, -, -, -, -,⟨i3,l3⟩,⟨i4', -,l4'⟩, -⟩:=R.at1 j.toNat (by omega)
 cases e
 refine zaa ⟨by omega,hj2,_,l3 _ (o.trans og),λ_ g22 e22=>?_,λ_=>fin rfl⟩
 obtain⟨p23,c25,g26,k26,G26,ob26,f26, -⟩:=G.push zzh og.1 e22 (m:=1) rfl (by grind[zaA]) (by omega)
 have o26:Old h g26:=⟨Qm og.1 ob26.1,λx hx=>by rw[ob26.2 x hx,og.2 x hx]⟩
 refine⟨_,_,c25,g26,k26,zaa ⟨by omega,hj2,_,l4' _ (o.trans o26),_,by omega,by omega,rfl,o26,ids ++ [i15],?_,λx hx'=>?_⟩⟩
 all_goals grind[zh9]
theorem zyo (R:zym S hp p n idf) (o:Old hp h) (hn:n<=1048576) {c0 c1 c2:Nat} (hc:c0 < h.next/\c1 < h.next/\c2 < h.next) {id x j:Int} (w0:h.get c0=some (.cells [.int .u64 id] 62 false)) (w1:h.get c1=some (.cells [.int .u64 x,.slice p n c] 91 false)) (w2:h.get c2=some (.cells [.int .i64 j] 3 false)) (hj:0<=j/\j < n):
 Wf Tryz.prog KB 149 [.slice p n c,.func (.func 150) #[] #[.pointer (some ⟨c0,0,none⟩),.pointer (some ⟨c1,0,none⟩),.pointer (some ⟨c2,0,none⟩)]] h λv h'=>Old h h'/\(v=.bool true\/v=.bool false):=by
 refine ziW (xb rfl) _ _ _ _ _ _ h _ (zmG (xb rfl) _ _ _ _ _ _ h _ ⟨λi k g=>∃j:Nat,i=j/\j<=n/\n - j=k/\Old h g,⟨_,0,rfl,Qg _,rfl,Old.refl _⟩,?_⟩)
 rintro k g _ ⟨u,rfl,hu,rfl,og⟩
 have ends:∀{i:Int} {g' : AH},Old h g'->∃i2:Int,(Value.int .i64 i)=.int .i64 i2/\((0<=i2->Old h g'/\((Value.bool true)=.bool true\/(Value.bool true)=.bool false))/\(¬0<=i2->Old h g'/\((Value.bool false)=.bool true\/(Value.bool false)=.bool false))):=by grind
 refine⟨λz=>?_,λ_=>ends og⟩
 obtain⟨b,off,rfl, -, -, -, -, -, -,s1,b2,i3,i4,i5,i6,i7,i8,i9,q,m,cc,lN⟩:=R.at1 u (by omega)
 refine zaa ⟨by omega,z,_,_,_,_,_,_,_,_,_,_,_,_,_,by exact lN _ (o.trans og),zgC (xb rfl) _ _ _ _ _ _ _ _ _ _ _ _ _ _ _ _ g _ λg1 e1=>?_⟩
 have o1:=zab e1
 have w:=zae e1
 have oo:=og.trans o1
 have v0:=(oo.2 _ hc.1).trans w0
 have v1:=(oo.2 _ hc.2.1).trans w1
 have v2:=(oo.2 _ hc.2.2).trans w2
 have more:(Value.bool false)=.bool true/\(∃i2:Int,(Value.int .i64 u)=.int .i64 i2/\((0<=i2->Old h g1/\((Value.bool true)=.bool true\/(Value.bool true)=.bool false))/\(¬0<=i2->Old h g1/\((Value.bool false)=.bool true\/(Value.bool false)=.bool false))))\/(Value.bool false)=.bool false/\∀i22:Int,i22=IntKind.wrap .i64 ((u:Int)+1)->∃j3,j3 < n - u/\∃j:Nat,i22=j/\j<=n/\n - j=j3/\Old h g1:=.inr ⟨rfl,λi e=>by
  have e:=zaT e (by omega) (by omega)
  exact⟨_,by omega,u+1,by omega,by omega,rfl,oo⟩⟩
 cases b2
 ·grind[zah]
 refine .inl ⟨zah w rfl,_,zah w rfl,zaa ⟨_,zah v0 rfl,λ_=>⟨_,zah w rfl,zaa ⟨_,_,_,zah v1 rfl,zaa ⟨_,zah v2 rfl,?_⟩⟩⟩,λ_=>more⟩⟩
 obtain⟨b',off',e, -, -,⟨s',ls⟩, -⟩:=R.at1 j.toNat (by omega)
 cases e
 exact zaa ⟨hj.1,hj.2,_,ls _ (o.trans oo),by grind,λ_=>more⟩
end
theorem zsR {S:TY} {c:Nat->Option Nat} {cs:List Value} {i t:Nat} {v:Value} (h:zau cx0 S c cs) (ht:c i=some t) (hv:okC cx0 S t v):zau cx0 S c (cs.set i v):=λk T hk=>by
 obtain⟨x,e,o⟩:=h k T hk
 grind
theorem zk4 {S:TY} {h:AH} {base:Nat} {w fr kc:Bool} {x:Int} {n:Nat} {v:Value} (g:gam cx0 S h L0 base (.agg [.int .u64 x,.sl w fr kc 99 n]) v):∃p c,v=.agg #[.int .u64 x,.slice p n c]/\InR .u64 x/\SlV cx0 S base w fr kc 99 n (.slice p n c):=by
 obtain⟨vs,rfl,g, -⟩:=g
 match vs,g with
 | [a,b],g=>
   obtain⟨⟨rfl,hx⟩,g2, -⟩:=g
   have g3:=g2
   obtain⟨-,p,c,rfl, -⟩:=g2
   exact⟨p,c,rfl,hx,g3⟩
 | [],g=>grind[gams]
 | [_],g=>grind[gams]
 | _ :: _ :: _ :: _,g=>grind[gams]
theorem zhx {S:TY} {h:AH} {base:Nat} {w fr kc:Bool} {x:Int} {n c:Nat} {p:Option Addr} (hx:InR .u64 x) (s:SlV cx0 S base w fr kc 99 n (.slice p n c)):gam cx0 S h L0 base (.agg [.int .u64 x,.sl w fr kc 99 n]) (.agg #[.int .u64 x,.slice p n c]):=by
 refine⟨[_,_],rfl,⟨⟨rfl,hx⟩,s,trivial⟩,λy hy=>?_⟩
 simp only[Qy,List.not_mem_nil,or_false] at hy
 rcases hy with rfl | rfl <;> rfl
theorem zxj {S:TY} {h:AH} {base:Nat} {a b:TV} {v:Value} (g:gam cx0 S h L0 base (.tup [a,b]) v):∃x y,v=.tuple #[x,y]/\gam cx0 S h L0 base a x/\gam cx0 S h L0 base b y:=by
 obtain⟨vs,rfl, -,g⟩:=g
 match vs,g with
 | [x,y],g=>grind[gams]
 | [],g=>grind[gams]
 | [_],g=>grind[gams]
 | _ :: _ :: _ :: _,g=>grind[gams]
theorem v95 (v129:Vl 129 zBg) (v144:Vl 144 zBi) (v35:Vl 35 s35) (v145:Vl 145 zBj) (v146:Vl 146 zBk) (v147:Vl 147 zBl):Vl 95 s95:=zaY λρ g Q H S hp vs hw hg=>by
 obtain⟨⟨(x:Int),(n:Nat),_⟩,(sa:ByteArray),_⟩:=ρ
 obtain⟨va,vb,rfl,ga,gb⟩:=zec (a:=.agg [.int .u64 x,.sl false false false 99 n]) (b:=.str sa) hg
 obtain⟨p,c,rfl,hx,gs⟩:=zk4 ga
 simp only[gam] at gb
 obtain⟨rfl,hsa⟩:=gb
 obtain⟨(hbig:n<=big),H⟩:=H
 have H:∀y:Int,InR .u64 y->∀n:Nat,n<=big->∀e:Int,InR .i64 e->Q (.tup [bk true true false y n,.int .i64 e]) g:=H
 have hbig' : n<=1048576:=hbig
 obtain⟨_,_,idf,e,R⟩:=zwV hw gs
 cases e
 refine ziV (xb rfl) _ _ _ _ _ hp _ λg0 e0 g1 e1=>?_
 have o0:=zab e0
 have n0:=zad e0
 have o1:=zab e1
 have n1:=zad e1
 have o01:=o0.trans o1
 have wb:∀{h:AH},Old g1 h->h.get hp.next=some (.cells [.int .u64 x,.slice p n c] 91 false):=λo=>(o.2 _ (by omega)).trans (by simp_all)
 have wr:∀{h:AH},Old g1 h->h.get g0.next=some (.cells [.int .u64 0,.slice none 0 0] 91 false):=λo=>(o.2 _ (by omega)).trans (zae e1)
 have fin:∀{S1:TY} {h1 h2:AH} {y e:Int} {m d:Nat} {q:Option Addr},Xt g1.next S S1->WT cx0 S1 g h1->hp.next<=h1.next->(∀b,b < hp.next->h1.get b=hp.get b)->InR .u64 y->SlV cx0 S1 hp.next true true true 99 m (.slice q m d)->m<=big->InR .i64 e->zaZ g0.next h1 h2->Fin S g hp true Q (.tuple #[.agg #[.int .u64 y,.slice q m d],.int .i64 e]) h2:=λ{S1 h1 h2 y e m d q} X w hn ho hy hs hm he nr=>by
  have lt:∀b q,S.ty b=some q->b < hp.next:=λb q k=>(hw.1 b q.1 q.2.1 q.2.2 k).1
  refine⟨S1,.tup [bk true true false y m,.int .i64 e],g,(Xt.refl hp.next S).trans2 (by omega) X,w.keep ziL (Q1 nr.1.symm) λb hb k=>nr.2 b λz=>?_,by rw[nr.1]; omega,λb hb _=>by rw[nr.2 b (by omega),ho b hb],?_,rfl,H y hy m hm e he⟩
  ·rcases k with ⟨q,k⟩ | k
   ·rw[X.old _ (by omega)] at k
    grind
   ·have:=hw.2.1 _ (X.dvo _ (by omega) k)
    omega
  ·exact⟨_,rfl,rfl,zhx hy (by grind[SlV.weak]),⟨rfl,he⟩,trivial⟩
 have err:∀{h:AH} {e:Int},Old g1 h->InR .i64 e->∃i145:Int,∃(p146:Option Addr) (n147 c148:Nat),ldN h hp.next 0 2=some ([(.int .u64 i145),(.slice p146 n147 c148)]:List Value)/\(Wf Tryz.prog KB 129 [(.agg #[(.int .u64 i145),(.slice p146 n147 c148)])] h λr149 h150=>
  (∃i151:Int,∃(p152:Option Addr) (n153 c154:Nat),r149=(.agg #[(.int .u64 i151),(.slice p152 n153 c154)])/\
  ((List.length ([(.int .u64 i151),(.slice p152 n153 c154)]:List Value)=2)/\∃h155:AH,stN h150 g0.next 0 ([(.int .u64 i151),(.slice p152 n153 c154)]:List Value)=some h155/\
  (∃i156:Int,∃(p157:Option Addr) (n158 c159:Nat),ldN h155 g0.next 0 2=some ([(.int .u64 i156),(.slice p157 n158 c159)]:List Value)/\
  (Fin S g hp true Q (.tuple #[(.agg #[(.int .u64 i156),(.slice p157 n158 c159)]),(.int .i64 e)]) h155))))):=λ{h e} o he=>by
  refine⟨_,_,_,_,zaw (wb o) rfl,(zgD v129 rfl (ρ:=((x,n,()),())) (hw.old (o01.trans o)) (vs:=[_]) ⟨zhx hx (gs.weak (λz=>by omega) (λz=>by grind) (λz=>by omega)),trivial⟩ (Q:=λr g'=>r=bk true true true x n/\g=g') ⟨hbig,rfl,rfl⟩).mono ?_⟩
  rintro v h150 ⟨o150,S1,r,g',X1,w1,gm, -,rfl,rfl⟩
  obtain⟨q,d,rfl, -,hs⟩:=zk4 gm
  have oo:=o.trans o150
  refine⟨_,_,_,_,rfl,rfl,_,zaR (wr oo) rfl,_,_,_,_,zaw (zaf _ _ _) rfl,?_⟩
  have l1:=o.1
  exact fin ((Xt.refl g1.next S).trans2 l1 X1) w1 ((o01.trans oo).1) (λb hb=>(o01.trans oo).2 b hb) hx (by grind[SlV.weak]) hbig he (zam _ _ _)
 refine⟨_,_,_,_,by grind[zaw,Old.refl],(zgD v144 rfl (ρ:=((x,n,()),sa,())) (hw.old o01) (vs:=[_,_]) ⟨zhx hx (gs.weak (λz=>by omega) (λz=>by grind) (λz=>by omega)),⟨rfl,hsa⟩,trivial⟩ (Q:=λr g'=>∃i e:Int,r=.tup [.int .i64 i,.int .i64 e]/\i < n/\InR .i64 e/\(e=0->0<=i)) ⟨hbig,λi h1 h2 e he h3=>⟨i,e,rfl,h2,he,h3⟩⟩).mono ?_⟩
 rintro v h7 ⟨o7,S7,r,g7,X7,w7,gm, -,i8,i9,rfl,hi8,he9,h89⟩
 obtain⟨_,_,rfl,gm1,gm2⟩:=zxj gm
 simp only[gam] at gm1 gm2
 obtain⟨rfl, -⟩:=gm1
 obtain⟨rfl, -⟩:=gm2
 refine⟨_,_,rfl,λz=>?_,λz=>err o7 he9⟩
 have o07:=o01.trans o7
 have l7:=o7.1
 obtain⟨b13,o14,hp13,r15,l15, -⟩:=R.at1 i8.toNat (by omega)
 refine⟨_,_,_,zah (wb o7) rfl,?_⟩
 rw[hp13]
 refine zaa ⟨h89 z,hi8,_,l15 _ o07,λh16 e16=>?_⟩
 have o16:=zab e16
 have n16:=zad e16
 have k17:=zam h7.next h16 (.cells ([Value.int .u64 0].set 0 (.int .u64 (idf i8.toNat))) 62 false)
 refine⟨_,zaN (zae e16) (by simp),?_⟩
 generalize e17:h16.set h7.next (.cells ([Value.int .u64 0].set 0 (.int .u64 (idf i8.toNat))) 62 false)=h17 at k17 ⊢
 have n17:=k17.1
 have o17:Old h7 h17:=⟨by omega,λc hc=>by rw[k17.2 c (by omega),o16.2 c hc]⟩
 have wi:∀{h:AH},Old h17 h->h.get h7.next=some (.cells [.int .u64 (idf i8.toNat)] 62 false):=λo=>(o.2 _ (by omega)).trans (by grind[zaf])
 have o117:=o7.trans o17
 have o017:=o01.trans o117
 have gst:∀{h:AH} {S' : TY},Le2 S S'->gams cx0 S' h L0 h.next [.sl false false false 99 n] [.slice p n c]:=λl=>⟨(gs.mono l).weak (λz=>by omega) (λz=>by grind) (λz=>by omega),trivial⟩
 refine⟨_,_,_,zah (wb o117) rfl,_,_,_,by grind[zah],_,by grind[zah,Old.refl],(zc2 v35 rfl (ρ:=(n,idf i8.toNat,())) hw o017 (vs:=[_,_]) ⟨(gst (Le2.refl S)).1,⟨rfl,r15⟩,trivial⟩ (Q':=λr=>∃i:Int,InR .u64 i/\r=.int .u64 i) ⟨hbig,λi hi=>⟨i,hi,rfl⟩⟩).mono ?_⟩
 rintro v h26 ⟨o26,S26,r,gm,i27,r27,rfl⟩
 simp only[gam] at gm
 obtain⟨rfl, -⟩:=gm
 refine⟨_,rfl,(zc2 v145 rfl (ρ:=(n,i27,())) hw (o017.trans o26) (vs:=[_,_]) ⟨(gst (Le2.refl S)).1,⟨rfl,r27⟩,trivial⟩ (Q':=λr=>∃b:Bool,r=.tup [.aggT 99,.bool b]) ⟨hbig,⟨true,rfl⟩,⟨false,rfl⟩⟩).mono ?_⟩
 rintro v h29 ⟨o29,S29,r,gm,there,rfl⟩
 obtain⟨_,_,rfl,gm1,gm2⟩:=zxj gm
 simp only[gam] at gm1 gm2
 subst gm2
 obtain⟨vs,rfl,hl,ht⟩:=gm1
 rw[zlc] at hl
 obtain⟨i30,s31,b32,i33,i34,i35,i36,i37,i38,i39,p40,n41,c42,rfl⟩:=ziY hl λi t hi=>ht i t hi
 have o129:=(o117.trans o26).trans o29
 refine⟨i30,s31,b32,i33,i34,i35,i36,i37,i38,i39,p40,n41,c42,?_⟩
 have box:∀{h43:AH},h43=h29.alloc (.cells ([.int .u64 0,.string (ByteArray.mk #[]),.bool false,.int .u64 0,.int .u64 0,.int .u64 0,.int .i64 0,.int .i64 0,.int .u64 0,.int .u32 0,.slice none 0 0]:List Value) 99 false)->
  ∃h44:AH,stN h43 h29.next 0 ([.int .u64 i30,.string s31,.bool b32,.int .u64 i33,.int .u64 i34,.int .u64 i35,.int .i64 i36,.int .i64 i37,.int .u64 i38,.int .u32 i39,.slice p40 n41 c42]:List Value)=some h44/\Old h29 h44/\h29.next < h44.next/\h44.get h29.next=some (.cells ([.int .u64 i30,.string s31,.bool b32,.int .u64 i33,.int .u64 i34,.int .u64 i35,.int .i64 i36,.int .i64 i37,.int .u64 i38,.int .u32 i39,.slice p40 n41 c42]:List Value) 99 false):=λ{h43} e43=>by
  have o43:=zab e43
  have n43:=zad e43
  refine⟨_,zaR (zae e43) rfl,?_,?_,zaf _ _ _⟩
  ·have k:=zam h29.next h43 (.cells ([.int .u64 i30,.string s31,.bool b32,.int .u64 i33,.int .u64 i34,.int .u64 i35,.int .i64 i36,.int .i64 i37,.int .u64 i38,.int .u32 i39,.slice p40 n41 c42]:List Value) 99 false)
   exact⟨by rw[k.1]; omega,λc hc=>by rw[k.2 c (by omega),o43.2 c hc]⟩
  ·rw[(zam h29.next h43 _).1]; omega
 have p26:ld1 h26 hp.next 1=some (.slice p n c):=zah (wb (o117.trans o26)) rfl
 have p17:ld1 h17 hp.next 1=some (.slice p n c):=zah (wb o117) rfl
 cases there
 ·refine .inr ⟨rfl,λh128 e128=>?_⟩
  obtain⟨h129,k129,o44, -, -⟩:=box e128
  exact⟨rfl,h129,k129,p17,p26,err (o129.trans o44) ⟨by decide,by decide⟩⟩
 refine .inl ⟨rfl,λh43 e43=>?_⟩
 obtain⟨h44,k44,o44,l44,w44⟩:=box e43
 have o144:=o129.trans o44
 have o044:=o01.trans o144
 refine⟨rfl,h44,k44,p17,p26,_,_,_,zah (wb o144) rfl,i33,zah w44 rfl,?_⟩
 have hi33:InR .u64 i33:=by
  obtain⟨y,e,k⟩:=ht 3 62 (by grind[zcO,ztm])
  grind[zqi]
 have hi30:InR .u64 i30:=by
  obtain⟨y,e,k⟩:=ht 0 62 (by grind[zcO,ztm])
  grind[zqi]
 refine ((zgD v146 rfl (ρ:=(n,i33,())) (hw.old o044) (vs:=[_,_]) ⟨(gst (Le2.refl S)).1,⟨rfl,hi33⟩,trivial⟩ (Q:=λr g'=>∃m:Nat,m<=32/\r=.sl true true false 62 m/\g=g') ⟨hbig,λm hm=>⟨m,hm,rfl,rfl⟩⟩).and (zyn R o044 hbig' i33)).mono ?_
 rintro v h50 ⟨⟨o50,S50,r,g',X50,w50,gm, -,m,hm,rfl,rfl⟩, -,q51,m',d53,ids,rfl,sh50,hids,cut50,blk50⟩
 simp only[gam] at gm
 obtain rfl:m'= m:=by obtain⟨-,_,_,e, -⟩:=gm; grind
 have o150:=o144.trans o50
 have o050:=o01.trans o150
 refine⟨_,_,_,rfl,i30,zah ((o50.2 _ l44).trans w44) rfl,(zc2 v147 rfl (ρ:=(m',i30,())) w50 (Old.refl _) (vs:=[_,_]) ⟨gm.weak (λz=>by rfl) (λz=>by grind) (λz=>by omega),⟨rfl,hi30⟩,trivial⟩ (Q':=λr=>∃i:Int,r=.int .i64 i/\-1<=i/\i < m') ⟨(show m'<=big by grind[big]),λi h1 h2=>⟨i,rfl,h1,h2⟩⟩).mono ?_⟩
 rintro v h56 ⟨o56,_,r,gm',i57,rfl,h57,h57'⟩
 obtain⟨rfl, -⟩:=gm'
 have o156:=o150.trans o56
 have o056:=o01.trans o156
 refine⟨_,rfl,λi58 e58=>?_⟩
 have i58b:0<=i58/\i58<=m':=by omega
 obtain⟨lo,rfl⟩:=Int.eq_ofNat_of_zero_le i58b.1
 obtain⟨p59,c61,k59,at59,non59, -⟩:=cutP zzh (by rfl) (cut50.old o56 blk50) (some lo) none (show lo<=m' by omega) (Qc m')
 refine⟨p59,_,c61,k59,_,_,_,_,zaw (wb o156) rfl,?_⟩
 have sh56:=(sh50.old o56).cut2 (lo:=lo) (hi:=m') (by omega) (Qc _) at59
 obtain⟨m2,hm2⟩:∃m2,m2=m' - lo:=⟨_,rfl⟩
 rw[show zhp m' none - zhp 0 (some lo)=m2 from hm2.symm]
 rw[<-hm2] at sh56
 obtain⟨l2,hl2⟩:∃l2,l2=((zh9 .u64 ids).drop (lo * 1)).take (m2 * 1):=⟨_,rfl⟩
 rw[<-hl2] at sh56
 have mem2:∀v∈l2,∃x:Int,v=.int .u64 x/\∃j,j < n/\idf j=x:=by grind[zh9]
 refine (zgD v129 rfl (ρ:=((x,n,()),())) (hw.old o056) (vs:=[_]) ⟨zhx hx (gs.weak (λz=>by omega) (λz=>by grind) (λz=>by omega)),trivial⟩ (Q:=λr g'=>r=bk true true true x n/\g=g') ⟨hbig,rfl,rfl⟩).mono ?_
 rintro v h67 ⟨o67,S1,r,g',X1,w1,gm, -,rfl,rfl⟩
 obtain⟨q,d,rfl, -,hs⟩:=zk4 gm
 refine⟨_,_,_,_,rfl,λh72 e72=>?_⟩
 have o72:=zab e72
 have n72:=zad e72
 refine⟨rfl,_,zaR (zae e72) rfl,?_⟩
 have k73:=zam h67.next h72 (.cells [.int .u64 x,.slice q n d] 91 false)
 have w73:(h72.set h67.next (.cells [.int .u64 x,.slice q n d] 91 false)).get h67.next=some (.cells [.int .u64 x,.slice q n d] 91 false):=zaf _ _ _
 generalize h72.set h67.next (.cells [.int .u64 x,.slice q n d] 91 false)=h73 at k73 w73 ⊢
 have n73:=k73.1
 have o73:Old h67 h73:=⟨by omega,λc hc=>by rw[k73.2 c (by omega),o72.2 c hc]⟩
 have w173:=w1.old o73
 have l56:=o156.1
 have l67:=o67.1
 have own:∀a,q=some a->h56.next<=a.block/\a.block < h67.next:=λa ha=>by
  obtain⟨-,_,_,e,z | ⟨b,off,ro,ee,cc,e2,k1,k2,k3,k4,k5⟩⟩:=hs
  ·omega
  ·cases e
   rw[e2] at ha
   cases ha
   exact⟨k4 rfl,(w1.1 b _ _ _ k1).1⟩
 have fo:∀{h:AH},h73.next<=h.next->(∀b,b < h73.next->(∀a,q=some a->a.block≠b)->h.get b=h73.get b)->Old h56 h:=λhn k=>⟨by omega,λb hb=>by rw[k b (by omega) λa ha z=>by grind,(o67.trans o73).2 b hb]⟩
 refine⟨λi k h=>∃j:Nat,i=j/\j<=m2/\m2 - j=k/\h73.next<=h.next/\(∀b,b < h73.next->(∀a,q=some a->a.block≠b)->h.get b=h73.get b)/\WT cx0 S1 g h,⟨_,0,rfl,Qg _,rfl,Qc _,λ_ _ _=>rfl,w173⟩,?_⟩
 rintro k h76 _ ⟨j,rfl,hj,rfl,l76,f76,w76⟩
 have o76:=fo l76 f76
 have o176:=o156.trans o76
 have o076:=o01.trans o176
 have c76:h76.get h67.next=some (.cells [.int .u64 x,.slice q n d] 91 false):=(by grind)
 refine⟨λz=>?_,λz=>?_⟩
 ·obtain⟨b79,o80,rfl,l81⟩:=(sh56.old o76).get (i:=j) (by omega)
  obtain⟨v,hv⟩:∃v,l2[j]?= some v:=⟨l2[j]'(by have:=sh56.1; omega),by simp⟩
  obtain⟨i81,rfl,there⟩:=mem2 v (by grind)
  refine zaa ⟨by omega,z,i81,by grind[Qh],_,_,_,zah (wb o176) rfl,(zwW R o076 hbig' i81 there).mono ?_⟩
  rintro v h86 ⟨o86,i87,rfl,h87,h87'⟩
  refine⟨_,rfl,λh88 e88=>?_⟩
  have o88:=zab e88
  have n88:=zad e88
  have k89:=zam h86.next h88 (.cells ([Value.int .i64 0].set 0 (.int .i64 i87)) 3 false)
  refine⟨_,zaN (zae e88) (by simp),?_⟩
  have w89:(h88.set h86.next (.cells ([Value.int .i64 0].set 0 (.int .i64 i87)) 3 false)).get h86.next=some (.cells [.int .i64 i87] 3 false):=zaf _ _ _
  generalize h88.set h86.next (.cells ([Value.int .i64 0].set 0 (.int .i64 i87)) 3 false)=h89 at k89 w89 ⊢
  have n89:=k89.1
  have o89:Old h76 h89:=⟨by have:=o86.1; omega,λc hc=>by have:=o86.1; rw[k89.2 c (by omega),o88.2 c (by omega),o86.2 c hc]⟩
  have o189:=o176.trans o89
  have o789:Old h17 h89:=(((((o26.trans o29).trans o44).trans o50).trans o56).trans o76).trans o89
  have l17:=o789.1
  refine⟨_,_,_,zah (wb o189) rfl,(zyo R (o01.trans o189) hbig' (c0:=h7.next) (c1:=hp.next) (c2:=h86.next) ⟨by omega,by omega,by omega⟩ (wi o789) (wb o189) w89 ⟨h87,h87'⟩).mono ?_⟩
  rintro v h94 ⟨o94,hv⟩
  have o194:=o189.trans o94
  have o7694:=o89.trans o94
  rcases hv with rfl | rfl
  ·exact .inl ⟨rfl,err o194 ⟨by decide,by decide⟩⟩
  refine .inr ⟨rfl,_,_,_,zah ((o7694.2 _ (by omega)).trans c76) rfl,_,zah ((o94.2 _ (by omega)).trans w89) rfl,_,zah (wi (o789.trans o94)) rfl,?_⟩
  have hs':=hs
  obtain⟨-,_,_,e,z | ⟨b,off,ro,ee,cc,e2,k1,k2,k3,k4,k5⟩⟩:=hs'
  ·omega
  cases e
  subst e2
  obtain rfl:=k3 rfl
  have w94:=w76.old o7694
  obtain⟨m1,m2',al,r',m3,m4,m5⟩:=w94.1 b _ _ _ k1
  obtain rfl:=m4 rfl
  have hc:cc (off+i87.toNat * 11+3)=some 62:=by
   have:=k2 i87.toNat (by omega) 3 62 (by rfl)
   rw[zlc] at this
   omega
  obtain⟨y,hy, -⟩:=m5 _ _ hc
  have hl:=(Qo.1 hy).1
  refine zaa ⟨h87,h87',_,zaN m3 hl,λi118 e118=>?_⟩
  have e118:=zaT e118 (by omega) (by omega)
  have ns:=zam b h94 (.cells (al.set (off+i87.toNat * 11+3) (.int .u64 (idf i8.toNat))) ee false)
  exact⟨_,by omega,j+1,by omega,by omega,rfl,by rw[ns.1]; have:=o7694.1; omega,λb' hb' ne=>by rw[ns.2 b' λz=>ne _ rfl z.symm,o7694.2 b' (by omega),f76 b' hb' ne],zsM w94 k1 (zsR m5 hc (zuw r15))⟩
 ·refine⟨_,_,_,_,zaw c76 rfl,rfl,_,zaR (wr o176) rfl,_,_,_,_,zaw (zaf _ _ _) rfl,?_⟩
  exact fin ((Xt.refl g1.next S).trans2 (by omega) X1) w76 o076.1 (λb hb=>o076.2 b hb) hx (hs.weak id (λz=>⟨z,by omega⟩) id) hbig ⟨by decide,by decide⟩ (zam _ _ _)
theorem upT {h:AH} {n b:Int} (h1:0<=n) (h2:n<=1000000) (h3:1<=b) (h4:b<=1000000):Wf Tryz.prog KB 225 [.int .i64 n,.int .i64 b] h λv h'=>v=.int .i64 (upF n b)/\h'= h:=by
 refine ziM (xb rfl) _ _ _ _ λi0 e0 i1 e1=>⟨by omega,λi2 e2=>⟨?_,rfl⟩⟩
 have e0:=zaT e0 (by omega) (by omega)
 have e1:=zaT e1 (by omega) (by omega)
 subst e0 e1
 have q1:0<=(n+b - 1) / b:=Int.ediv_nonneg (by omega) (by omega)
 have q2:(n+b - 1) / b<=n+b - 1:=Int.ediv_le_self _ (by omega)
 rw[Int.tdiv_eq_ediv_of_nonneg (by omega)] at e2
 rw[zaT e2 (by omega) (by omega)]
 rfl
theorem zDR:za3 Tryz.prog 61 3 1 8:=zaW (by kernel_rfl)
def okL (l:List Int):Prop:=∀x∈l,0<=x/\x < 1000000
theorem ckE {x:Int} (h:0<=x/\x < 1000000):ck cx0 (2000000+x.toNat)=.int .i64 ((2000000+x.toNat - 2000000:Nat):Int) ((2000000+x.toNat - 2000000:Nat):Int):=by
 unfold ck
 have q1:Nat.beq (2000000+x.toNat) r4=false:=by
  cases hb:Nat.beq (2000000+x.toNat) r4 with
  | false=>rfl
  | true=>have:=Qb hb; unfold r4 at this; omega
 have q2:exK (2000000+x.toNat)=true:=by
  unfold exK
  simp only[Qd,Nat.ble_eq,Q5]
  omega
 rw[q1,q2]
 rfl
def cE (l:List Int):Nat->Option Nat:=λi=>(l[i]?).map λx=>2000000+x.toNat
theorem zvp {S:TY} {l:List Int} (h:okL l):zau cx0 S (cE l) (zh9 .i64 l):=λi t hi=>by
 unfold cE at hi
 cases hx:l[i]? with
 | none=>rw[hx] at hi; cases hi
 | some x=>
   rw[hx] at hi
   cases hi
   obtain⟨hlt,rfl⟩:=Qo.1 hx
   have hb:=h _ (Qj hlt)
   refine⟨_,zgA hlt,?_⟩
   unfold okC
   rw[ckE hb]
   exact⟨_,rfl,by omega,by omega⟩
theorem zsS {f:Nat} {s:Int} (h:¬1 < s):zhc f s=[]:=by
 cases f with
 | zero=>rfl
 | succ f=>simp[zhc,h]
theorem zDS:Vl 184 zAR:=zaY λρ g Q H S hp vs hw hg=>by
 obtain⟨(n:Int),_⟩:=ρ
 obtain⟨x,rfl,gx⟩:=zgy (a:=.int .i64 n) hg
 simp only[gam] at gx
 obtain⟨rfl, -⟩:=gx
 have bad:n < 1\/65535 < n->Fin S g hp true Q (.slice none 0 0) hp:=λq=>za5 hw (Old.refl _) (r:=.nils) (by simp only[gam]) rfl (H.1 q)
 refine zjs (xb rfl) _ _ _ ⟨λq=>bad (.inl q),λq1=>⟨λq=>bad (.inr q),λq2=>(upT (by omega) (by omega) (by omega) (by omega)).mono ?_⟩⟩
 rintro _ h ⟨rfl,rfl⟩
 refine⟨_,rfl,λh3 e3=>?_⟩
 have hL:za0 n=upF n 128 :: zhc 10 (upF n 128):=if_neg (by omega)
 have b0:1<=upF n 128/\upF n 128<=512:=by unfold upF; omega
 have Qn:=H.2 (by omega)
 clear bad H
 generalize upF n 128=s0 at hL b0 e3 ⊢
 have G0:=zbB.lit (elem:=3) (sz:=1) (n:=1) e3 rfl (Qc _)
 refine⟨λs p9 n10 c11 k h1=>∃don:List Int,∃f:Nat,f=k/\(1<=s/\s<=512)/\s<=8 ^ f/\za0 n=don ++ zhc f s/\Old h h1/\n10=don.length/\1<=don.length/\don.length+f<=11/\okL don/\zbB h.next h1 3 1 p9 n10 c11 (zh9 .i64 don),
  ⟨_,[s0],10,rfl,b0,Int.le_trans b0.2 (by decide),by rw[hL]; rfl,zab e3,rfl,by simp,by simp,λx hx=>by rw[QD.1 hx]; omega,G0⟩,?_⟩
 rintro k h1 s p9 n10 c11 ⟨don,f,rfl,s1,s2,hl,o1,rfl,d1,d2,dk,G1⟩
 refine⟨λz=>?_,λz=>?_⟩
 ·match f,s2,hl,d2 with
  | 0,s2,_,_=>exact absurd s2 (by simp; omega)
  | f+1,s2,hl,d2=>
    refine (upT (by omega) (by omega) (by omega) (by omega)).mono ?_
    rintro _ h13 ⟨rfl,rfl⟩
    refine⟨_,rfl,λh15 e15=>?_⟩
    rw[show zhc (f+1) s=upF s 8 :: zhc f (upF s 8) from if_pos z] at hl
    have b1:(1<=upF s 8/\upF s 8<=512)/\upF s 8<=8 ^ f:=by
     rw[Int.pow_succ] at s2
     unfold upF
     generalize (8:Int) ^ f=y at *
     omega
    generalize upF s 8=s' at hl b1 e15 ⊢
    obtain⟨p',c',h19,k19,G19,o19, -, -⟩:=G1.push zDR o1.1 e15 (m:=1) rfl (by unfold zaA; omega) (by omega)
    refine⟨p',_,c',h19,k19,f,by omega,don ++ [s'],f,rfl,b1.1,b1.2,by rw[hl]; simp,⟨Qm o1.1 o19.1,λb hb=>by rw[o19.2 b hb,o1.2 b hb]⟩,by simp,by simp,by simp; omega,λx hx=>?_,by simpa[zh9] using G19⟩
    rcases QI.1 hx with q | q
    ·exact dk x q
    ·rw[QD.1 q]; omega
 ·rw[zsS z,QS] at hl
  obtain⟨-,q⟩:=G1
  rcases q with ⟨-,q, -⟩ | ⟨b,rfl,g1,g2,g3,g4⟩
  ·omega
  refine zc0 hw o1 g1 g2 g3 (zvp dk) (r:=.xs (za0 n)) ?_ rfl Qn
  rw[hl]
  simp only[gam]
  refine⟨by unfold zbT; omega,b,0,c11,false,3,cE don,rfl,by rcases g4 with rfl | rfl <;> (try simp only[zai]) <;> omega,by rcases g4 with rfl | rfl <;> (try simp only[zai]) <;> omega,if_pos rfl,λi x hx=>?_⟩
  have hm:=dk x (QP hx)
  refine⟨?_,hm⟩
  unfold cE
  rw[Qq,hx]
  rfl
end Go.Am
