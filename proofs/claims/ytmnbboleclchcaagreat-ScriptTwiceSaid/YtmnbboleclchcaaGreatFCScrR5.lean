/-
  Texts of this proof, part 51. No condition.
-/
import Derived.Test.YtmnbboleclchcaaGreatFCScrC2
import Derived.Test.YtmnbboleclchcaaGreatRows
set_option linter.unusedVariables false
set_option linter.unusedSimpArgs false
set_option maxRecDepth 100000
namespace Go.Am
open Go.Proofs
theorem zcI.text {x:Prop} {lim:Nat} {g:AH} {p:Option Addr} {n c:Nat} {ts:List Bs} (R:zcI x lim g p n c ts) {i:Nat} (hi:i < ts.length):∃b,p=some ⟨b,0,none⟩/\lim<=b/\b < g.next/\∃p' n' c',ld1 g b i=some (.slice p' n' c')/\zhf lim g p' n' c' ts[i]/\(x->Xct g p' n' c' ts[i]):=by
 obtain⟨h1,cells,h2,h3⟩:=R
 obtain⟨p',n',c',q1,q2,q3,q4,q5⟩:=h3 i hi
 rcases h2.2 with ⟨-,z, -⟩ | ⟨b,rfl,r1,r2,r3,r4⟩
 ·omega
 ·exact⟨b,rfl,r1,r2,p',n',c',by grind[zdJ],⟨q2,q3,by grind⟩,q5⟩
structure zw5 (K:Xs):Prop where
 scr:zAx K
 split:K 23=none
 length:K 41=none
 get:K 24=none
 opR:K 25=none
 read:K 12=none
 equal:K 26=none
def zOp:List Value:=[.int .i64 0,.string (ByteArray.mk #[]),.string (ByteArray.mk #[]),.int .i64 0,.slice none 0 0,.slice none 0 0]
def zs7 (lim:Nat) (data:Bs) (v:Value) (g:AH):Prop:=
 (∃(x:OX) (pk:Option Addr) (nk ck:Nat),opOf data=some x.o/\v=.tuple #[.agg #[.int .i64 x.o.kind,.string x.o.name,.string x.o.to,.int .i64 x.o.n,.slice (some ⟨x.d,0,none⟩) x.o.data.length x.cd,.slice pk nk ck],.int .i64 0]/\
   x.row=[.int .i64 x.o.kind,.string x.o.name,.string x.o.to,.int .i64 x.o.n,.slice (some ⟨x.d,0,none⟩) x.o.data.length x.cd,.slice pk nk ck]/\x.At g lim none)\/
 ((∀o,zgV o->opB o≠data)/\v=.tuple #[.agg zOp.toArray,.int .i64 231])
theorem zj3 (b:Bs):(zcd b).size=b.length:=by
 show (b.map UInt8.ofNat).toArray.size=b.length
 simp
theorem zw6 {data:Bs} {x y z:Nat} {a b d k:Bs} (h:zdK data=some [[x,y,z],a,b,d,k]):opOf data=some ⟨x,zcd a,zcd b,nOf (y+256 * z),d,zbV k⟩:=by grind[opOf]
theorem zhA {o:OpP} {data:Bs} (k:zgV o) (h:opB o=data):zdK data=some (znx o):=by grind[opB,zeo,znx,zkG]
theorem zAy (x y z:Nat):dec [1,2] [x,y,z]=[x,y+256 * z]:=by rfl
theorem zFS {t:Bs} (h:t.length=3):∃x y z,t=[x,y,z]:=by
 match t,h with
 | [x,y,z],_=>simp
theorem zFT {ts:List Bs} (h:ts.length=5):∃a b c d e,ts=[a,b,c,d,e]:=by
 match ts,h with
 | [a,b,c,d,e],_=>simp
theorem zgH (b:Bs):(zbV b).length=b.length:=by simp[zbV]
theorem zs8 {b:Bs} {j:Nat} (hj:j < b.length) (hj' : j < (zbV b).length):(zbV b)[j]=decide (0 < b[j]):=by simp[zbV]
section
variable {K:Xs} {h:AH}
theorem zqn (kk:zw5 K) {p:Option Addr} {n c:Nat} {data:Bs} (T:zdN h p n data) (C:zie Tryz.prog h 5 p n c) (hb:∀a,p=some a->a.block < h.next):
 Wf Tryz.prog K 25 [.slice p n c] h λv h'=>zs7 h.next data v h'/\Old h h':=by
 have hre:reachBytes=140737488351232:=rfl
 have hrm:zaA=140737488355328:=rfl
 have hdl:=T.2.1
 have hdm:=T.2.2.1
 refine zg6 kk.opR _ _ _ h _ λg0 e0=>?_
 have o0:=zab e0
 have n0:=zad e0
 refine (zj2 kk.split kk.length (T.old o0) (C.old o0 hb) λa ha=>by grind).mono ?_
 rintro _ g2 ⟨hsp,o2⟩
 have oh2:=o0.trans o2
 have c0:g2.get h.next=some (.cells zOp 57 false):=(o2.2 _ (by omega)).trans (zae e0)
 have out:∀{g:AH},Old h g->g.get h.next=some (.cells zOp 57 false)->(∀o,zgV o->opB o≠data)->(List.length zOp=6)/\∃g' : AH,stN g h.next 0 zOp=some g'/\∃(i:Int) (s t:ByteArray) (j:Int) (p:Option Addr) (n c:Nat) (q:Option Addr) (m d:Nat),ldN g' h.next 0 6=some [.int .i64 i,.string s,.string t,.int .i64 j,.slice p n c,.slice q m d]/\zs7 h.next data (.tuple #[.agg #[.int .i64 i,.string s,.string t,.int .i64 j,.slice p n c,.slice q m d],.int .i64 231]) g'/\Old h g':=λ{g} o w z=>
  ⟨rfl,_,zaR w rfl,_,_,_,_,_,_,_,_,_,_,zaw (zaf _ _ _) rfl,.inr ⟨z,rfl⟩,⟨o.1,λb hb=>by rw[zal (by omega)]; exact o.2 b hb⟩⟩
 cases hts:zdK data with
 | none=>
   rw[hts] at hsp
   obtain rfl:_=_:=hsp
   exact⟨_,_,_,_,rfl,by omega,λ_=>out oh2 c0 λo k e=>by rw[zhA k e] at hts; grind⟩
 | some ts=>
   rw[hts] at hsp
   obtain⟨p3,c5,rfl,RG⟩:=hsp
   refine⟨_,_,_,_,rfl,λ_=>⟨λh5 g7 e7=>?_,λh5=>out oh2 c0 λo k e=>h5 (by rw[zhA k e] at hts; cases hts; rfl)⟩,by omega⟩
   obtain⟨t0,t1,t2,t3,t4,rfl⟩:=zFT (show ts.length=5 by omega)
   have o7:=zab e7
   have n7:=zad e7
   have oh7:=oh2.trans o7
   obtain⟨b3,rfl,lb,ub,p0,m0,d0,l0,T0, -⟩:=RG.text (i:=0) (by simp)
   obtain⟨_,e1, -, -,p1,m1,d1,l1,T1, -⟩:=RG.text (i:=1) (by simp)
   cases e1
   obtain⟨_,e2, -, -,p2,m2,d2,l2,T2, -⟩:=RG.text (i:=2) (by simp)
   cases e2
   obtain⟨_,e3, -, -,p3',m3,d3,l3,T3,X3⟩:=RG.text (i:=3) (by simp)
   cases e3
   obtain⟨_,e4, -, -,p4,m4,d4,l4,T4, -⟩:=RG.text (i:=4) (by simp)
   cases e4
   simp only[List.getElem_cons_zero,List.getElem_cons_succ] at T0 T1 T2 T3 T4 X3
   obtain⟨d,rfl,rfl,gd⟩:=X3 trivial
   obtain rfl:=T3.1.2.1
   have m:∀{g:AH},Old g2 g->∀{i:Nat} {v:Value},ld1 g2 b3 i=some v->ld1 g b3 (0+i)=some v:=λ{g} o {i} {v} q=>by rw[Qq,<-q]; unfold ld1; rw[o.2 b3 ub]
   have S7:zaz g7 (some ⟨g2.next,0,none⟩) 2 1 (za7 .i64 [1,2]):=by grind[zch,za7]
   have c7:g7.get h.next=some (.cells zOp 57 false):=(o7.2 _ (by omega)).trans c0
   refine zaa ⟨by omega,by omega,p0,m0,d0,m o7 l0,?_⟩
   have T0':=T0.old o7
   by_cases h3:m0=3
   rotate_left
   ·refine (zi1 kk.get kk.scr.room S7 (by simp) (by simp) (by grind)).mono ?_
    rintro _ _ ⟨rfl,rfl⟩
    refine⟨_,_,_,_,rfl,by omega,λ_=>out oh7 c7 λo k e=>?_⟩
    rw[zhA k e] at hts
    have h1:=T0.1.2.1
    grind[znx,zdY]
   subst h3
   obtain⟨x,y,z,rfl⟩:=zFS T0.1.2.1.symm
   obtain⟨b0,off0,rfl⟩:∃b off,p0=some ⟨b,off,none⟩:=by
    rcases T0.1.2.2.2.1.2 with q | ⟨b,off,al,e,ro,q, -⟩
    all_goals grind
   have C0:zf6 Tryz.prog g7 5 b0 3 d0:=by
    rcases T0'.2.1 with ⟨q, -⟩ | ⟨b,off,q,k⟩
    all_goals grind
   refine (zo5 kk.get kk.scr.room S7 T0'.1.2.2.2.1 (T0'.2.2 _ rfl).2 C0 (by simp) (by simp) T0'.1.2.2.2.2 rfl).mono ?_
   rintro _ g14 ⟨⟨b15,rfl,q15,S15⟩,o14⟩
   rw[zAy] at S15
   have o214:=o7.trans o14
   have oh14:=oh2.trans o214
   have hx:x < 256:=T0.1.2.2.2.2 x (by simp)
   have hy:y < 256:=T0.1.2.2.2.2 y (by simp)
   have hz:z < 256:=T0.1.2.2.2.2 z (by simp)
   obtain⟨bq,oq,eq,h0⟩:=S15.get (i:=0) (by simp)
   cases eq
   obtain⟨bq,oq,eq,h1⟩:=S15.get (i:=1) (by simp)
   cases eq
   have l15:b15 < g14.next:=by
    rcases S15.2 with q | ⟨b5,off5,al,e5,ro,hp5,hb5, -⟩
    all_goals grind
   have opq:=zw6 hts
   refine⟨_,_,_,_,rfl,λ_=>zaa ⟨by omega,by simp,_,h0,λi22 e22=>zaa ⟨by omega,by omega,_,_,_,m o214 l1,_,zpb (T1.1.old o214),zaa ⟨by omega,by omega,_,_,_,m o214 l2,_,zpb (T2.1.old o214),zaa ⟨by omega,by omega,_,_,_,m o214 l3,λg40 e40=>?_⟩⟩⟩⟩,by omega⟩
   have e22:=zaT e22 (by omega) (by omega)
   subst e22
   obtain⟨g41,k41,n41,o41,v41⟩:=zbP e40 (vs:=[.int .i64 (x:Int),.string (zcd t1),.string (zcd t2),.int .i64 (-1),.slice (some ⟨d,0,none⟩) t3.length t3.length,.slice none 0 0]) rfl
   have w41:=(v41 [] (by simp)).1
   have o241:=o214.trans o41
   have oh41:=oh2.trans o241
   have c41:g41.get h.next=some (.cells zOp 57 false):=(o241.2 _ (by omega)).trans c0
   have h1' : ld1 g41 b15 (0+1)=some (.int .u64 ((y+256 * z:Nat):Int)):=by
    have q:ld1 g14 b15 (0+1)=some (.int .u64 ((y+256 * z:Nat):Int)):=h1
    rw[<-q]; unfold ld1; rw[o41.2 b15 l15]
   have kb:=T4.1.2.1
   refine⟨rfl,g41,k41,zaa ⟨by omega,by simp,_,h1',λhN=>?_,λhN=>zaa ⟨by omega,by simp,_,h1',λi126 e126=>⟨_,zaN w41 (by simp),?_⟩⟩⟩⟩
   all_goals
    first
     | (have e126:=zaT e126 (by omega) (by omega)
        have hnO:nOf (y+256 * z)=((y+256 * z:Nat):Int):=by grind[nOf]
        generalize hL:g14.next=lb' at *
        generalize hG:g41.set _ _=g44
        have nr:zaZ lb' g41 g44:=by grind[zam]
        have l2b:g2.next<=lb':=by omega
        have o44:Old g2 g44:=o241.near nr l2b
        have ln:lb' < g44.next:=by rw[nr.1]; omega
        have w44:g44.get lb'= some (.cells [.int .i64 (x:Int),.string (zcd t1),.string (zcd t2),.int .i64 (nOf (y+256 * z)),.slice (some ⟨d,0,none⟩) t3.length t3.length,.slice none 0 0] 57 false):=by grind[zaf])
     | (have hnO:nOf (y+256 * z)= -1:=by grind[nOf]
        generalize hL:g14.next=lb' at *
        have l2b:g2.next<=lb':=by omega
        have o44:Old g2 g41:=o241
        have ln:lb' < g41.next:=by omega
        have w44:g41.get lb'= some (.cells [.int .i64 (x:Int),.string (zcd t1),.string (zcd t2),.int .i64 (nOf (y+256 * z)),.slice (some ⟨d,0,none⟩) t3.length t3.length,.slice none 0 0] 57 false):=by grind
        clear w41 k41 v41 e40
        generalize g41=g44 at *)
    have oh44:=oh2.trans o44
    have c44:g44.get h.next=some (.cells zOp 57 false):=(o44.2 _ (by omega)).trans c0
    have bad:(∀k:List Bool,k.length<=64->zdy k≠t4)->∀o,zgV o->opB o≠data:=λhk o k e=>by
     rw[zhA k e] at hts
     grind[znx,zgV.keepL]
    refine zaa ⟨by decide,by omega,_,_,_,m o44 l4,λh64=>out oh44 c44 (by grind[zdX]),λh64=>zaa ⟨by decide,by omega,_,_,_,m o44 l4,?_⟩⟩
    refine⟨λi k g=>∃j:Nat,i=j/\j<=m4/\m4 - j=k/\Old g2 g/\lb' < g.next/\(∀u (hu:u < t4.length),u < j->t4[u]<=1)/\∃p5 n5 c5,g.get lb'= some (.cells [.int .i64 (x:Int),.string (zcd t1),.string (zcd t2),.int .i64 (nOf (y+256 * z)),.slice (some ⟨d,0,none⟩) t3.length t3.length,.slice p5 n5 c5] 57 false)/\n5=j/\(p5=none\/0 < n5)/\zbB (lb'+ 1) g 4 1 p5 n5 c5 (zjo ((zbV t4).take j)),⟨_,0,rfl,Qg _,rfl,o44,ln,by omega,none,0,0,w44,rfl,.inl rfl,zbB.nil _ _ _ _⟩,?_⟩
    rintro k67 g68 i70 ⟨j,rfl,hj,rfl,o68,ln68,hle,p5,n5,c5,w68,rfl,pz,G68⟩
    have oh68:=oh2.trans o68
    have c68:g68.get h.next=some (.cells zOp 57 false):=(o68.2 _ (by omega)).trans c0
    refine⟨λq=>?_,λq=>?_⟩
    ·have hj' : n5 < t4.length:=by omega
     obtain⟨bk,ok,rfl,hlk⟩:=(T4.1.old o68).2.2.2.1.get (i:=n5) (by omega)
     rw[zbu hj'] at hlk
     have hkt:(zbV t4).take (n5+1)=(zbV t4).take n5 ++ [decide (0 < t4[n5])]:=by
      rw[Qv (by rw[zgH]; exact hj'),zs8 hj']
     refine zaa ⟨by omega,q,_,by rw[Qh,Qp]; exact hlk,λh1=>out oh68 c68 (bad λk hk e=>?_),λh1=>⟨_,_,_,zah w68 rfl,λq1 g88 e88=>?_,λq1 g88 e88=>?_⟩⟩
     ·have:t4[n5]∈zdy k:=by rw[e]; exact Qj hj'
      have:=zhr this
      omega
     all_goals
      have e88:g88=g68.alloc (.cells (zjo [decide (0 < t4[n5])]) 4 false):=by
       rw[e88]
       first
        | (rw[decide_eq_true (show 0 < t4[n5] by omega)]; rfl)
        | (rw[decide_eq_false (show ¬0 < t4[n5] by omega)]; rfl)
      obtain⟨p89,c91,g92,k92,G92,o92,f92, -⟩:=G68.push zxE (by omega) (m:=1) (ns:=zjo [decide (0 < t4[n5])]) e88 rfl (by omega) (by omega)
      have w92:g92.get lb'= _:=(o92.2 _ (by omega)).trans w68
      refine⟨p89,_,c91,g92,k92,_,zaN w92 (by simp),λi94 e94=>?_⟩
      have e94:=zaT e94 (by omega) (by omega)
      refine⟨_,by omega,n5+1,by rw[e94]; rfl,by omega,rfl,⟨by have:=o92.1; show g2.next<=g92.next; omega,λb hb=>by rw[zal (by omega),o92.2 b (by omega),o68.2 b hb]⟩,by have:=o92.1; show lb' < g92.next; omega,λu hu hu2=>?_,_,_,_,zaf _ _ _,rfl,.inr (by omega),?_⟩
      ·by_cases hun:u=n5
       ·subst hun; omega
       ·exact hle u hu (by omega)
      ·rw[hkt,zuf]
       exact⟨G92.1,G92.2.imp id λ⟨b,q2,q3,q4,q5,q6⟩=>⟨b,q2,q3,q4,by rw[zal (by omega)]; exact q5,q6⟩⟩
    ·rw[QA (by rw[zgH]; omega)] at G68
     refine⟨_,_,_,_,_,_,_,_,_,_,zaw w68 rfl,rfl,_,zaR c68 rfl,_,_,_,_,_,_,_,_,_,_,zaw (zaf _ _ _) rfl,?_⟩
     have ld:h.next < d:=by have:g0.next<=d:=(T3.2.2 _ rfl).1; omega
     have ud:d < g2.next:=(T3.2.2 _ rfl).2
     have s1:(zcd t1).size<=reachBytes:=by rw[zj3]; have:=T1.1.2.1; have:=T1.1.2.2.1; omega
     have s2:(zcd t2).size<=reachBytes:=by rw[zj3]; have:=T2.1.2.1; have:=T2.1.2.2.1; omega
     have hk:(zbV t4).length=n5:=by rw[zgH]; omega
     have gd68:∀o,(g68.set h.next o).get d=some (.cells (za7 .u8 t3) 5 false):=λo=>by rw[zal (by omega),o68.2 d ud,gd]
     have g2n:=o68.1
     refine⟨.inl ?_,⟨oh68.1,λb hb=>by rw[zal (by omega)]; exact oh68.2 b hb⟩⟩
     rcases G68.2 with ⟨rfl,hn5,rfl⟩ | ⟨b5,rfl,q1,q2,q3,q4⟩
     ·subst hn5
      have kz:=List.length_eq_zero_iff.1 hk
      exact⟨⟨⟨x,zcd t1,zcd t2,nOf (y+256 * z),t3,zbV t4⟩,d,t3.length,d,0⟩,none,0,0,opq,rfl,by simp[OX.row],.inr rfl,.inr hk.symm,gd68 _,λz=>absurd rfl z,by show h.next<=d; omega,Qc _,λ_=>kz,by show d < g68.next; omega,trivial,trivial,T3.1.2.2.1,by show (zbV t4).length<=_; omega,T3.1.2.2.2.2,s1,s2⟩
     ·have h5:0 < n5:=pz.resolve_left nofun
      have hbd:b5≠d:=by omega
      have ne:zbV t4≠[]:=λe=>by rw[e] at hk; simp at hk; omega
      exact⟨⟨⟨x,zcd t1,zcd t2,nOf (y+256 * z),t3,zbV t4⟩,d,t3.length,b5,c5⟩,some ⟨b5,0,none⟩,n5,c5,opq,rfl,by simp[OX.row,hbd,hk],.inr rfl,q4.imp (λz=>⟨z,ne⟩) λz=>by rw[z]; exact hk.symm,gd68 _,λ_=>by rw[zal (by show b5≠h.next; omega)]; exact q3,by show h.next<=d; omega,by show d<=b5; omega,λz=>absurd z hbd,by show b5 < g68.next; omega,trivial,trivial,T3.1.2.2.1,by show (zbV t4).length<=_; omega,T3.1.2.2.2.2,s1,s2⟩
end
def zvA:List Value:=[.int .i64 0,.slice none 0 0]
def zyU (lim:Nat) (data:Bs) (v:Value) (g:AH):Prop:=
 (∃(s:zil) (p:Option Addr) (c:Nat) (xs:List OX),znz data s/\v=.tuple #[.agg #[.int .i64 s.secs,.slice p xs.length c],.int .i64 0]/\zfU lim g p c xs/\xs.map OX.o=s.ops)\/
 ((∀s,¬znz data s)/\v=.tuple #[.agg zvA.toArray,.int .i64 231])
theorem zfP {s:zil} {data:Bs} (k:znz data s):zdK data=some (zg5 s):=by
 rw[<-k.2,ztj,zeo (by have:=k.1.len; grind[zg5]) (zkI k.1)]
theorem zFU {t:Bs} (h:t.length=2):∃x y,t=[x,y]:=by
 match t,h with
 | [x,y],_=>simp
theorem zuN {data:Bs} {x y:Nat} {ts:List Bs} {os:List OpP} (h:zdK data=some ([x,y] :: ts)) (ho:opsOf ts=some os):zud data=some ⟨(x+256 * y:Nat),os⟩:=by grind[zud]
section
variable {K:Xs} {h:AH}
theorem zuO (kk:zw5 K) {p:Option Addr} {n c:Nat} {data:Bs} (T:zdN h p n data) (C:zie Tryz.prog h 5 p n c) (hb:∀a,p=some a->a.block < h.next):
 Wf Tryz.prog K 12 [.slice p n c] h λv h'=>zyU h.next data v h'/\Old h h':=by
 have hre:reachBytes=140737488351232:=rfl
 have hrm:zaA=140737488355328:=rfl
 refine zjp kk.read _ _ _ h _ λg0 e0=>?_
 have o0:=zab e0
 have n0:=zad e0
 refine (zj2 kk.split kk.length (T.old o0) (C.old o0 hb) λa ha=>by grind).mono ?_
 rintro _ g2 ⟨hsp,o2⟩
 have oh2:=o0.trans o2
 have c0:g2.get h.next=some (.cells zvA 24 false):=(o2.2 _ (by omega)).trans (zae e0)
 have out:∀{g:AH},Old h g->g.get h.next=some (.cells zvA 24 false)->(∀s,¬znz data s)->(List.length zvA=2)/\∃g' : AH,stN g h.next 0 zvA=some g'/\∃(i:Int) (p:Option Addr) (n c:Nat),ldN g' h.next 0 2=some [.int .i64 i,.slice p n c]/\zyU h.next data (.tuple #[.agg #[.int .i64 i,.slice p n c],.int .i64 231]) g'/\Old h g':=λ{g} o w z=>
  ⟨rfl,_,zaR w rfl,_,_,_,_,zaw (zaf _ _ _) rfl,.inr ⟨z,rfl⟩,⟨o.1,λb hb=>by rw[zal (by omega)]; exact o.2 b hb⟩⟩
 cases hts:zdK data with
 | none=>
   rw[hts] at hsp
   obtain rfl:_=_:=hsp
   exact⟨_,_,_,_,rfl,by omega,λ_=>out oh2 c0 λs k=>by rw[zfP k] at hts; grind⟩
 | some ts=>
   rw[hts] at hsp
   obtain⟨p3,c5,rfl,RG⟩:=hsp
   refine⟨_,_,_,_,rfl,λ_=>⟨λh1=>out oh2 c0 λs k=>?_,λh1=>⟨λh201=>out oh2 c0 λs k=>?_,λh201 g17 e17=>?_⟩⟩,by omega⟩
   ·rw[zfP k] at hts; grind[zg5]
   ·rw[zfP k] at hts; have:=k.1.len; grind[zg5]
   obtain⟨t0,ts',rfl⟩:∃t0 ts',ts=t0 :: ts':=by cases ts<;>grind
   have isTs:∀s,znz data s->t0=byB 2 s.secs.toNat/\ts'= s.ops.map opB:=λs k=>by
    have:=hts
    rw[zfP k] at this
    grind[zg5]
   have hlen:(t0 :: ts').length=ts'.length+1:=rfl
   have o17:=zab e17
   have oh17:=oh2.trans o17
   obtain⟨b3,rfl,lb,ub,p0,m0,d0,l0,T0, -⟩:=RG.text (i:=0) (by simp)
   simp only[List.getElem_cons_zero] at T0
   have m:∀{g:AH},Old g2 g->∀{i:Nat} {v:Value},ld1 g2 b3 i=some v->ld1 g b3 (0+i)=some v:=λ{g} o {i} {v} q=>by rw[Qq,<-q]; unfold ld1; rw[o.2 b3 ub]
   have S17:zaz g17 (some ⟨g2.next,0,none⟩) 1 1 (za7 .i64 [2]):=by grind[zch,za7]
   have c17:g17.get h.next=some (.cells zvA 24 false):=(o17.2 _ (by omega)).trans c0
   have T0':=T0.old o17
   refine zaa ⟨by omega,by omega,p0,m0,d0,m o17 l0,?_⟩
   by_cases h3:m0=2
   rotate_left
   ·refine (zi1 kk.get kk.scr.room S17 (by simp) (by simp) (by grind)).mono ?_
    rintro _ _ ⟨rfl,rfl⟩
    refine⟨_,_,_,_,rfl,by omega,λ_=>out oh17 c17 λs k=>?_⟩
    have:=T0.1.2.1
    grind[zdx]
   subst h3
   obtain⟨x,y,rfl⟩:=zFU T0.1.2.1.symm
   obtain⟨b0,off0,rfl⟩:∃b off,p0=some ⟨b,off,none⟩:=by
    rcases T0.1.2.2.2.1.2 with q | ⟨b,off,al,e,ro,q, -⟩
    all_goals grind
   have C0:zf6 Tryz.prog g17 5 b0 2 d0:=by
    rcases T0'.2.1 with ⟨q, -⟩ | ⟨b,off,q,k⟩
    all_goals grind
   refine (zo5 kk.get kk.scr.room S17 T0'.1.2.2.2.1 (T0'.2.2 _ rfl).2 C0 (by simp) (by simp) T0'.1.2.2.2.2 rfl).mono ?_
   rintro _ g24 ⟨⟨b25,rfl,q25,S25⟩,o24⟩
   rw[show dec [2] [x,y]=[x+256 * y] by rfl] at S25
   have hx:x < 256:=T0.1.2.2.2.2 x (by simp)
   have hy:y < 256:=T0.1.2.2.2.2 y (by simp)
   obtain⟨bq,oq,eq,hv⟩:=S25.get (i:=0) (by simp)
   cases eq
   have o224:=o17.trans o24
   refine⟨_,_,_,_,rfl,λ_=>zaa ⟨by omega,by simp,_,hv,λi32 e32 g33 e33=>?_⟩,by omega⟩
   have e32:=zaT e32 (by omega) (by omega)
   subst e32
   obtain⟨g34,k34,n34,o34,v34⟩:=zbP e33 (vs:=[.int .i64 ((x+256 * y:Nat):Int),.slice none 0 0]) rfl
   have w34:=(v34 [] (by simp)).1
   have o234:=o224.trans o34
   have C3:zie Tryz.prog g34 34 (some ⟨b3,0,none⟩) (ts'.length+1) c5:=by
    obtain⟨-,cells,G, -⟩:=RG
    exact (G.cutP (by grind[zai])).old o234 λa ha=>by grind
   obtain⟨p35,c37,k35,hp35, -, -⟩:=cutP zu6 (by simp) C3 (some 1) none (by simp[zhp]) (Qc _)
   obtain⟨off',rfl,hoff⟩:=hp35 b3 0 rfl
   refine⟨rfl,g34,k34,_,ts'.length,c37,by simpa[zhp,zwb] using k35,?_⟩
   generalize hsb:g24.next=sb at *
   have l2b:g2.next<=sb:=by rw[<-hsb]; exact o224.1
   refine⟨λi42 k g=>∃j:Nat,i42=j/\j<=ts'.length/\ts'.length - j=k/\Old g2 g/\sb < g.next/\∃xs p5 c5,opsOf (ts'.take j)=some (xs.map OX.o)/\g.get sb=some (.cells [.int .i64 ((x+256 * y:Nat):Int),.slice p5 xs.length c5] 24 false)/\zfU (sb+1) g p5 c5 xs,⟨_,0,rfl,Qg _,rfl,o234,by omega,[],none,0,rfl,w34,zbB.nil _ _ _ _,by simp,List.Pairwise.nil⟩,?_⟩
   rintro k39 g40 i42 ⟨j,rfl,hj,rfl,o40,lt40,xs,p5,c5',hdone,w40,OG⟩
   have oh40:=oh2.trans o40
   have dl:=zmc hdone
   rw[Jm,QN] at dl
   refine⟨λz=>?_,λz=>?_⟩
   ·have hj' : j < ts'.length:=by omega
    obtain⟨_,e1, -, -,pj,mj,dj,lj,Tj, -⟩:=RG.text (i:=j+1) (by omega)
    cases e1
    have ho1:off'= 1:=by grind[zhp]
    have tk:ts'.take (j+1)=ts'.take j ++ [ts'[j]]:=by simp
    have Tj40:=Tj.old o40
    refine zaa ⟨by omega,z,pj,mj,dj,by grind[Qh],(zqn kk Tj40.1 Tj40.2.1 λa ha=>(Tj40.2.2 a ha).2).mono ?_⟩
    rintro _ g49 ⟨hq,o49⟩
    have oh49:=oh40.trans o49
    have o249:=o40.trans o49
    rcases hq with ⟨X,pk,nk,ck,ho,rfl,hrow,A⟩ | ⟨hno,rfl⟩
    ·refine⟨_,_,_,_,_,_,_,_,_,_,_,rfl,λg61 e61=>?_⟩
     obtain⟨g62,k62,n62,o62,v62⟩:=zbP e61 (vs:=[.int .i64 X.o.kind,.string X.o.name,.string X.o.to,.int .i64 X.o.n,.slice (some ⟨X.d,0,none⟩) X.o.data.length X.cd,.slice pk nk ck]) rfl
     have w62:=v62 [] (λc hc=>by grind)
     have o4062:=o49.trans o62
     have ws62:g62.get sb=_:=(o4062.2 _ lt40).trans w40
     refine⟨rfl,g62,k62,λ_=>⟨_,_,_,zah ws62 rfl,_,_,_,_,_,_,_,_,_,_,w62.ld rfl,λg76 e76=>?_⟩,by omega⟩
     rw[<-hrow] at e76
     have a1:=A.lo
     have a2:=A.dk
     have a3:=A.hi
     have A62:=A.kept (p':=p5) o62.1 (o62.2 _ (by omega)) (o62.2 _ a3) (OG.gr.apart _ a1) (OG.gr.apart _ (by omega))
     obtain⟨p77,c79,g80,k80,OG80,o80,f80⟩:=(OG.kept (Qc _) o4062.1 λd _ hd=>o4062.2 d hd).push (by have:=o4062.1; omega) { A62 with lo:=by omega } (λy hy=>by have:=(OG.els y hy).hi; omega) e76 (by omega)
     have ws80:g80.get sb=_:=(o80.2 _ (by omega)).trans ws62
     refine⟨p77,_,c79,g80,k80,_,zaN ws80 (by simp),λi82 e82=>?_⟩
     have e82:=zaT e82 (by omega) (by omega)
     refine⟨_,by omega,j+1,by omega,hj',rfl,⟨by have:=o4062.1; have:=o80.1; show g2.next<=g80.next; omega,λb hb=>by rw[zal (by omega),o80.2 b (by omega),o4062.2 b (by omega),o40.2 b hb]⟩,by have:=o80.1; have:=o4062.1; show sb < g80.next; omega,xs ++ [X],p77,c79,?_,by rw[Qs]; exact zaf _ _ _,OG80.kept (Qc _) (Qc _) λb hb _=>zal (by omega)⟩
     rw[List.map_append]
     grind[zmd]
    ·refine⟨_,_,_,_,_,_,_,_,_,_,_,rfl,λg61 e61=>?_⟩
     obtain⟨g62,k62,n62,o62,v62⟩:=zbP e61 (vs:=zOp) rfl
     have c62:g62.get h.next=some (.cells zvA 24 false):=((o249.trans o62).2 _ (by omega)).trans c0
     refine⟨rfl,g62,k62,by omega,λ_=>out (oh49.trans o62) c62 λs k=>?_⟩
     have hjs:j < s.ops.length:=by grind
     exact hno _ (k.1.ops _ (Qj hjs)) (by grind)
   ·obtain rfl:j=ts'.length:=by omega
    rw[List.take_length] at hdone
    have hscr:=zuN hts hdone
    have hn96:xs.length * 96<=reachBytes:=by omega
    refine⟨_,_,_,_,zaw w40 rfl,(zi5 kk.scr (s:=⟨(x+256 * y:Nat),xs.map OX.o⟩) (OG.ops hn96)).mono ?_⟩
    rintro _ g93 ⟨hq,o93⟩
    have oh93:=oh40.trans o93
    have c93:g93.get h.next=some (.cells zvA 24 false):=((o40.trans o93).2 _ (by omega)).trans c0
    have isS:∀s,znz data s->s=⟨(x+256 * y:Nat),xs.map OX.o⟩:=λs k=>by
     have:=zny k.1
     rw[k.2,hscr] at this
     grind
    rcases hq with ⟨hok,pb,cb,rfl,Tb⟩ | ⟨hno,rfl⟩
    ·refine⟨_,_,_,_,rfl,λ_=>(zs6 kk.equal Tb.1 (T.old oh93)).mono ?_,by omega⟩
     rintro _ _ ⟨⟨rfl,hE⟩ | ⟨rfl,hE⟩,rfl⟩
     ·have ws93:g93.get sb=_:=(o93.2 _ lt40).trans w40
      refine .inl ⟨rfl,_,_,_,_,zaw ws93 rfl,rfl,_,zaR c93 rfl,_,_,_,_,zaw (zaf _ _ _) rfl,.inl ⟨_,_,_,_,⟨hok,hE⟩,rfl,?_,rfl⟩,⟨oh93.1,λb hb=>by rw[zal (by omega)]; exact oh93.2 b hb⟩⟩
      exact (OG.kept (Qc _) o93.1 λd _ hd=>o93.2 d hd).kept (lim':=h.next) (by omega) (Qc _) λb hb _=>zal (by omega)
     ·exact .inr ⟨rfl,out oh93 c93 λs k=>hE (by have:=isS s k; subst this; exact k.2)⟩
    ·exact⟨_,_,_,_,rfl,by omega,λ_=>out oh93 c93 λs k=>hno (by have:=isS s k; subst this; exact k.1)⟩
end
theorem zjx {K:Xs} (hk:K 9=none) (a:Option Addr) (b d:Nat) (h:AH) (Q:Value->AH->Prop) (H:
 aL h [.slice none 0 0,.slice none 0 0,.int .i64 0,.bool false] 29 λe=>Wt K 12 [.slice a b d] e λf g=>
 (∃i j k l m,f=(.tuple #[.agg #[.int .i64 i,.slice j k l],.int .i64 m])/\
 (aL g [.int .i64 0,.slice none 0 0] 24 λn=>(2=2)/\∃o,stN n g.next 0 [.int .i64 i,.slice j k l]=some o/\
 ((m=0->∃p q r s,ldN o g.next 0 2=some [.int .i64 p,.slice q r s]/\
 (Wt K 6 [.agg #[.int .i64 p,.slice q r s]] o λt u=>
 (∃v w x y z aa ab ac ad,t=(.tuple #[.agg #[.slice v w x,.slice y z aa,.int .i64 ab,.bool ac],.int .i64 ad])/\
 ((4=4)/\∃ae,stN u h.next 0 [.slice v w x,.slice y z aa,.int .i64 ab,.bool ac]=some ae/\
 (∃af ag ah ai aj ak al am,ldN ae h.next 0 4=some [.slice af ag ah,.slice ai aj ak,.int .i64 al,.bool am]/\
 (Q (.tuple #[.agg #[.slice af ag ah,.slice ai aj ak,.int .i64 al,.bool am],.int .i64 ad]) ae))))))/\
 (¬m=0->(4=4)/\∃an,stN o h.next 0 [.slice none 0 0,.slice none 0 0,.int .i64 0,.bool false]=some an/\
 (∃ao ap aq ar au av aw ax,ldN an h.next 0 4=some [.slice ao ap aq,.slice ar au av,.int .i64 aw,.bool ax]/\
 (Q (.tuple #[.agg #[.slice ao ap aq,.slice ar au av,.int .i64 aw,.bool ax],.int .i64 m]) an))))))):
 Wt K 9 [.slice a b d] h Q:=
  zaj (hs:=[]) hk (Eq.mpr (by kernel_rfl) H)
abbrev stL (Q:Value->AH->Prop) (h:AH) (a b:Nat):Prop:=
 lS h a 0 λam an ao=>(∃ap:Int->Nat->AH->Prop,(∃n,ap 0 n h)/\
 ∀(aq:Nat) (ar:AH),∀(au:Int),ap au aq ar->
 (au < (an:Int)->lS ar a 0 λav aw ax=>(zag av λay az=>(0<=au/\au < (aw:Int)/\
 (lI ar ay (az+au.toNat * 129) λa0=>(lS ar b 0 λa1 a2 a3=>(zag a1 λa4 a5=>(0<=au/\au < (a2:Int)/\
 (lI ar a4 (a5+au.toNat * 129) λa6=>((a0=a6->lS ar a 0 λa7 a8 a9=>(zag a7 λba bb=>(0<=au/\au < (a8:Int)/\
 (∃l43:List Value,ldN ar ba ((bb+au.toNat * 129)+1) 128=some l43/\
 (lS ar b 0 λbc bd be=>(zag bc λbf bg=>(0<=au/\au < (bd:Int)/\
 (∃l49:List Value,ldN ar bf ((bg+au.toNat * 129)+1) 128=some l49/\
 (∃la50 lb51,zdL Tryz.prog 41 (.agg l43.toArray)=some la50/\zdL Tryz.prog 41 (.agg l49.toArray)=some lb51/\
 (litsEq la50 lb51=true->wI (au+1) λbh=>∃bi,bi < aq/\ap bh bi ar)/\
 (litsEq la50 lb51=false->Q (.bool false) ar))))))))))/\
 (¬a0=a6->Q (.bool false) ar))))))))))/\
 (¬au < (an:Int)->Q (.bool true) ar))
theorem zc3 {K:Xs} (hk:K 10=none) (a:Option Addr) (b d:Nat) (e:Option Addr) (f g:Nat) (i:Int) (j:Bool) (k:Option Addr) (l m:Nat) (o:Option Addr) (p q:Nat) (r:Int) (s:Bool) (t:AH) (Q:Value->AH->Prop) (H:
 aL t [.slice a b d,.slice e f g,.int .i64 i,.bool j] 29 λu=>aL u [.slice k l m,.slice o p q,.int .i64 r,.bool s] 29 λv=>lS v t.next 0 λw x y=>(lS v u.next 0 λz aa ab=>(((x:Int)=(aa:Int)->lS v t.next 1 λac ad ae=>(lS v u.next 1 λaf ag ah=>(Wt K 21 [.slice ac ad ae,.slice af ag ah] v λai aj=>
 (((ai=(.bool true)/\
 (lI aj t.next 2 λak=>(lI aj u.next 2 λal=>((ak=al->((ld1 aj t.next 3=some (.bool true)/\
 (((ld1 aj u.next 3=some (.bool true)/\
 (stL Q aj t.next u.next))\/(ld1 aj u.next 3=some (.bool false)/\
 (Q (.bool false) aj)))))\/(ld1 aj t.next 3=some (.bool false)/\
 (((ld1 aj u.next 3=some (.bool true)/\
 (Q (.bool false) aj))\/(ld1 aj u.next 3=some (.bool false)/\
 (stL Q aj t.next u.next)))))))/\
 (¬ak=al->Q (.bool false) aj)))))\/(ai=(.bool false)/\
 (Q (.bool false) aj)))))))/\
 (¬(x:Int)=(aa:Int)->Q (.bool false) v)))):
 Wt K 10 [.agg #[.slice a b d,.slice e f g,.int .i64 i,.bool j],.agg #[.slice k l m,.slice o p q,.int .i64 r,.bool s]] t Q:=
  zaj (hs:=[(4,[(38,.int .i64 0)])]) hk (Eq.mpr (by kernel_rfl) H)
theorem zdp {K:Xs} (hk:K 21=none) (a:Option Addr) (b d:Nat) (e:Option Addr) (f g:Nat) (h:AH) (Q:Value->AH->Prop) (H:
 ((b:Int)=(f:Int)->∃i:Int->Nat->AH->Prop,(∃n,i 0 n h)/\
 ∀(j:Nat) (k:AH),∀(l:Int),i l j k->
 (l < (b:Int)->zag a λm o=>(0<=l/\l < (b:Int)/\
 (∃p q r s,ldN k m (o+l.toNat * 4) 4=some [.string p,.int .i64 q,.int .i64 r,.string s]/\
 (zag e λt u=>(0<=l/\l < (f:Int)/\
 (∃v w x y,ldN k t (u+l.toNat * 4) 4=some [.string v,.int .i64 w,.int .i64 x,.string y]/\
 (∃la17 lb18,zdL Tryz.prog 102 (.agg #[.string p,.int .i64 q,.int .i64 r,.string s])=some la17/\zdL Tryz.prog 102 (.agg #[.string v,.int .i64 w,.int .i64 x,.string y])=some lb18/\
 (litsEq la17 lb18=true->wI (l+1) λz=>∃aa,aa < j/\i z aa k)/\
 (litsEq la17 lb18=false->Q (.bool false) k))))))))/\
 (¬l < (b:Int)->Q (.bool true) k))/\
 (¬(b:Int)=(f:Int)->Q (.bool false) h)):
 Wt K 21 [.slice a b d,.slice e f g] h Q:=
  zaj (hs:=[(4,[(13,.int .i64 0)])]) hk (Eq.mpr (by kernel_rfl) H)
theorem zcJ {K:Xs} (hk:K 3=none) (a:Int) (b:Option Addr) (d e:Nat) (h:AH) (Q:Value->AH->Prop) (H:
 aL h [.int .i64 a,.slice b d e] 24 λf=>Wt K 5 [] f λg i=>
 (((g=(.bool true)/\
 (lS i h.next 1 λj k l=>(((50:Int) < (k:Int)->Q (.bool true) i)/\
 (¬(50:Int) < (k:Int)->lI i h.next 0 λm=>(((260:Int) < m->Q (.bool true) i)/\
 (¬(260:Int) < m->∃n o p q,ldN i h.next 0 2=some [.int .i64 n,.slice o p q]/\
 (Wt K 7 [.agg #[.int .i64 n,.slice o p q]] i λr s=>
 (∃t u v w,r=(.agg #[.int .i64 t,.slice u v w])/\
 (Wt K 6 [.agg #[.int .i64 t,.slice u v w]] s λx y=>
 (∃z aa ab ac ad ae af ag ah,x=(.tuple #[.agg #[.slice z aa ab,.slice ac ad ae,.int .i64 af,.bool ag],.int .i64 ah])/\
 (aL y [.slice none 0 0,.slice none 0 0,.int .i64 0,.bool false] 29 λai=>(4=4)/\∃aj,stN ai y.next 0 [.slice z aa ab,.slice ac ad ae,.int .i64 af,.bool ag]=some aj/\
 (∃ak al am an,ldN aj h.next 0 2=some [.int .i64 ak,.slice al am an]/\
 (Wt K 7 [.agg #[.int .i64 ak,.slice al am an]] aj λao ap=>
 (∃aq ar au av,ao=(.agg #[.int .i64 aq,.slice ar au av])/\
 (Wt K 8 [.agg #[.int .i64 aq,.slice ar au av]] ap λaw ax=>
 (∃ay az a0 a1,aw=(.tuple #[.slice ay az a0,.int .i64 a1])/\
 ((ah=a1->(ah=0->Wt K 9 [.slice ay az a0] ax λa2 a3=>
 (∃a4 a5 a6 a7 a8 a9 ba bb bc,a2=(.tuple #[.agg #[.slice a4 a5 a6,.slice a7 a8 a9,.int .i64 ba,.bool bb],.int .i64 bc])/\
 (aL a3 [.slice none 0 0,.slice none 0 0,.int .i64 0,.bool false] 29 λbd=>(4=4)/\∃be,stN bd a3.next 0 [.slice a4 a5 a6,.slice a7 a8 a9,.int .i64 ba,.bool bb]=some be/\
 ((bc=0->∃bf bg bh bi bj bk bl bm,ldN be y.next 0 4=some [.slice bf bg bh,.slice bi bj bk,.int .i64 bl,.bool bm]/\
 (∃bn bo bp bq br bs bt bu,ldN be a3.next 0 4=some [.slice bn bo bp,.slice bq br bs,.int .i64 bt,.bool bu]/\
 (Wt K 10 [.agg #[.slice bf bg bh,.slice bi bj bk,.int .i64 bl,.bool bm],.agg #[.slice bn bo bp,.slice bq br bs,.int .i64 bt,.bool bu]] be λbv bw=>
 (((bv=(.bool true)/\
 (lS bw y.next 0 λbx bz b0=>(lS bw h.next 1 λb1 b2 b3=>(((bz:Int)=(b2:Int)->Q (.bool true) bw)/\
 (¬(bz:Int)=(b2:Int)->Q (.bool false) bw)))))\/(bv=(.bool false)/\
 (Q (.bool false) bw)))))))/\
 (¬bc=0->Q (.bool false) be)))))/\
 (¬ah=0->(ah=a1->lS ax y.next 0 λb4 b5 b6=>(lS ax y.next 1 λb7 b8 b9=>(wI ((b5:Int)+(b8:Int)) λda=>(da=0->Q (.bool true) ax)/\
 (¬da=0->Q (.bool false) ax))))/\
 (¬ah=a1->Q (.bool false) ax)))/\
 (¬ah=a1->(ah=a1->lS ax y.next 0 λdb dc dd=>(lS ax y.next 1 λde df dg=>(wI ((dc:Int)+(df:Int)) λdh=>(dh=0->Q (.bool true) ax)/\
 (¬dh=0->Q (.bool false) ax))))/\
 (¬ah=a1->Q (.bool false) ax)))))))))))))))))))\/(g=(.bool false)/\
 (Q (.bool false) i))))):
 Wt K 3 [.agg #[.int .i64 a,.slice b d e]] h Q:=
  zaj (hs:=[]) hk (Eq.mpr (by kernel_rfl) H)
theorem zmN:∀{rows:List (List Value)} {j:Nat} (hj:j < rows.length),(∀r∈rows,r.length=129)->(rows.flatten.drop (j * 129)).take 129=rows[j]
 | r :: rows,0,_,h=>by grind
 | r :: rows,j+1,hj,h=>by
   have h2:=zmN (rows:=rows) (j:=j) (by grind) λx hx=>h x (QB _ hx)
   grind[QC,List.drop_left]
theorem zi8 (l:List Lit):litsEq l l=true:=(zc9 l l).2 rfl
theorem zpd {h:AH} {b o n:Nat} {v:Value} {l:List Value} (e:ldN h b o (n+1)=some (v :: l)):ld1 h b o=some v/\ldN h b (o+1) n=some l:=by
 unfold ldN at e
 split at e
 ·rename_i cs t ro hg
  split at e
  ·rename_i hle
   have e:=Q7 e
   rw[QU (by omega),List.take_succ_cons] at e
   injection e with e1 e2
   exact⟨by rw[zdJ hg,Qe (by omega),e1],by rw[zh8 hg (by omega),e2]⟩
  ·cases e
 ·cases e
section
variable {K:Xs} {h:AH}
theorem zuP (hk:K 21=none) {pa pb:Option Addr} {n ca cb:Nat} {cs:List Value} (A:zaz h pa n 4 cs) (B:zaz h pb n 4 cs) (I:zi4 n cs):Wf Tryz.prog K 21 [.slice pa n ca,.slice pb n cb] h λv h'=>v=.bool true/\h=h':=by
 have hn:=I.1
 unfold zbT at hn
 refine zdp hk _ _ _ _ _ _ h _ ⟨λ_=>⟨λi k g=>∃j:Nat,i=j/\j<=n/\n - j=k/\h=g,⟨_,0,rfl,Qg _,rfl,rfl⟩,?_⟩,λz=>absurd rfl z⟩
 rintro k g i ⟨j,rfl,hj,rfl,rfl⟩
 refine⟨λz=>?_,λ_=>⟨rfl,rfl⟩⟩
 have hj' : j < n:=by omega
 obtain⟨b1,f1,rfl,h1, -⟩:=A.getN hj'
 obtain⟨b2,f2,rfl,h2, -⟩:=B.getN hj'
 obtain⟨t,x,y,u,e,la,ha⟩:=I.2 j hj'
 rw[e] at h1 h2
 refine zaa ⟨by omega,by omega,_,_,_,_,by rw[Qh]; exact h1,zaa ⟨by omega,by omega,_,_,_,_,by rw[Qh]; exact h2,la,la,ha,ha,λ_ i e=>?_,λz=>?_⟩⟩
 ·have e:=zaT e (by omega) (by omega)
  exact⟨_,by omega,j+1,by omega,hj',rfl,rfl⟩
 ·rw[zi8] at z; cases z
theorem zs9 (h10:K 10=none) (h21:K 21=none) {pa pb qa qb:Option Addr} {n ca cb m da db:Nat} {x:Int} {d:Bool} {rows:List (List Value)} {cs:List Value} (hn:n<=1000) (A:zaz h pa n 129 rows.flatten) (B:zaz h pb n 129 rows.flatten) (R:∀r∈rows,zgF r) (hl:rows.length=n) (LA:zaz h qa m 4 cs) (LB:zaz h qb m 4 cs) (I:zi4 m cs):
 Wf Tryz.prog K 10 [.agg #[.slice pa n ca,.slice qa m da,.int .i64 x,.bool d],.agg #[.slice pb n cb,.slice qb m db,.int .i64 x,.bool d]] h λv h'=>v=.bool true/\Old h h':=by
 refine zc3 h10 _ _ _ _ _ _ _ _ _ _ _ _ _ _ _ _ h _ λg0 e0 g1 e1=>?_
 have o0:=zab e0
 have o1:=zab e1
 have n0:=zad e0
 have n1:=zad e1
 have o:=o0.trans o1
 have c0:g1.get h.next=_:=(o1.2 _ (by omega)).trans (zae e0)
 have c1:g1.get g0.next=_:=zae e1
 refine⟨_,_,_,zah c0 rfl,_,_,_,zah c1 rfl,λ_=>⟨_,_,_,zah c0 rfl,_,_,_,zah c1 rfl,(zuP h21 (LA.old o) (LB.old o) I).mono ?_⟩,λz=>absurd rfl z⟩
 rintro _ _ ⟨rfl,rfl⟩
 refine .inl ⟨rfl,_,zah c0 rfl,_,zah c1 rfl,λ_=>?_,λz=>absurd rfl z⟩
 cases d
 case' true=>refine .inl ⟨zah c0 rfl,.inl ⟨zah c1 rfl,?_⟩⟩
 case' false=>refine .inr ⟨zah c0 rfl,.inr ⟨zah c1 rfl,?_⟩⟩
 all_goals
  refine⟨_,_,_,zah c0 rfl,λi k g=>∃j:Nat,i=j/\j<=n/\n - j=k/\g1=g,⟨_,0,rfl,Qg _,rfl,rfl⟩,?_⟩
  rintro k g i ⟨j,rfl,hj,rfl,rfl⟩
  refine⟨λz=>?_,λ_=>⟨rfl,o⟩⟩
  have hj' : j < n:=by omega
  have hj2:j < rows.length:=by omega
  obtain⟨b1,f1,rfl,h1, -⟩:=(A.old o).getN hj'
  obtain⟨b2,f2,rfl,h2, -⟩:=(B.old o).getN hj'
  rw[zmN hj2 λr hr=>(R r hr).len] at h1 h2
  obtain⟨⟨y,l,er, -,hl,hu⟩, -⟩:=R _ (Qj hj2)
  rw[er] at h1 h2
  obtain⟨l1,l1'⟩:=zpd h1
  obtain⟨l2,l2'⟩:=zpd h2
  obtain⟨t1,t2⟩:=zmz (S:=⟨λ_=>none,0,λ_=>False⟩) hl hu
  obtain⟨la,ha⟩:=ziL.ke _ 41 _ rfl t1 t2
  have tn:(j:Int).toNat=j:=Qh j
  refine⟨_,_,_,zah c0 rfl,zaa ⟨by omega,by omega,_,by rw[tn]; exact l1,_,_,_,zah c1 rfl,zaa ⟨by omega,by omega,_,by rw[tn]; exact l2,λ_=>⟨_,_,_,zah c0 rfl,zaa ⟨by omega,by omega,_,by rw[tn]; exact l1',_,_,_,zah c1 rfl,zaa ⟨by omega,by omega,_,by rw[tn]; exact l2',la,la,ha,ha,λ_ i e=>?_,λz=>?_⟩⟩⟩,λz=>absurd rfl z⟩⟩⟩
  ·have e:=zaT e (by omega) (by omega)
   exact⟨_,by omega,j+1,by omega,hj',rfl,rfl⟩
  ·rw[zi8] at z; cases z
end
end Go.Am
