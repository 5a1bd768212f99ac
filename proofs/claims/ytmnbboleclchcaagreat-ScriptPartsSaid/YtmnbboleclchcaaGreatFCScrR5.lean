/-
  Texts of this proof, part 50. No condition.
-/
import Derived.Test.YtmnbboleclchcaaGreatFCScrC2
set_option linter.unusedVariables false
set_option linter.unusedSimpArgs false
set_option maxRecDepth 100000
namespace Go.Am
open Go.Proofs
theorem zcK.text {lim:Nat} {g:AH} {p:Option Addr} {n c:Nat} {ts:List Bs} (R:zcK lim g p n c ts) {i:Nat} (hi:i < ts.length):∃b,p=some ⟨b,0,none⟩/\lim<=b/\b < g.next/\∃p' n' c',ld1 g b i=some (.slice p' n' c')/\zgE lim g p' n' c' ts[i]:=by
 obtain⟨h1,cells,h2,h3⟩:=R
 obtain⟨p',n',c',q1,q2,q3,q4⟩:=h3 i hi
 rcases h2.2 with ⟨-,z, -⟩ | ⟨b,rfl,r1,r2,r3,r4⟩
 ·omega
 ·exact⟨b,rfl,r1,r2,p',n',c',by grind[zdQ],q2,q3,by grind⟩
structure zwW (K:Xs):Prop where
 scr:zAg K
 split:K 23=none
 length:K 41=none
 get:K 24=none
 opR:K 25=none
 read:K 12=none
 equal:K 26=none
def zOp:List Value:=[.int .i64 0,.string (ByteArray.mk #[]),.string (ByteArray.mk #[]),.int .i64 0,.slice none 0 0,.slice none 0 0]
def zs6 (lim:Nat) (data:Bs) (v:Value) (g:AH):Prop:=
 (∃o pd nd cd pk nk ck,opOf data=some o/\v=.tuple #[.agg #[.int .i64 o.kind,.string o.name,.string o.to,.int .i64 o.n,.slice pd nd cd,.slice pk nk ck],.int .i64 0]/\zds g pd nd o.data/\zmO g pk nk o.keep/\o.name.size<=reachBytes/\o.to.size<=reachBytes/\(∀a,pd=some a->lim<=a.block/\a.block < g.next)/\∀a,pk=some a->lim<=a.block/\a.block < g.next)\/
 ((∀o,zfW o->opB o≠data)/\v=.tuple #[.agg zOp.toArray,.int .i64 231])
theorem zeu (b:Bs):(zcM b).size=b.length:=by
 show (b.map UInt8.ofNat).toArray.size=b.length
 simp
theorem zwX {data:Bs} {x y z:Nat} {a b d k:Bs} (h:zcP data=some [[x,y,z],a,b,d,k]):opOf data=some ⟨x,zcM a,zcM b,nOf (y+256 * z),d,zcy k⟩:=by grind[opOf]
theorem zfR {o:OpP} {data:Bs} (k:zfW o) (h:opB o=data):zcP data=some (zmN o):=by grind[opB,zel,zmN,zkv]
theorem zAh (x y z:Nat):dec [1,2] [x,y,z]=[x,y+256 * z]:=by rfl
theorem zFx {t:Bs} (h:t.length=3):∃x y z,t=[x,y,z]:=by
 match t,h with
 | [x,y,z],_=>simp
theorem zFy {ts:List Bs} (h:ts.length=5):∃a b c d e,ts=[a,b,c,d,e]:=by
 match ts,h with
 | [a,b,c,d,e],_=>simp
theorem zcp (b:Bs):(zcy b).length=b.length:=by simp[zcy]
theorem zmI {b:Bs} {j:Nat} (hj:j < b.length) (hj' : j < (zcy b).length):(zcy b)[j]=decide (0 < b[j]):=by simp[zcy]
section
variable {K:Xs} {h:AH}
theorem zqn (kk:zwW K) {p:Option Addr} {n c:Nat} {data:Bs} (T:zds h p n data) (C:zg1 Tryz.prog h 5 p n c) (hb:∀a,p=some a->a.block < h.next):
 Wf Tryz.prog K 25 [.slice p n c] h λv h'=>zs6 h.next data v h'/\Old h h':=by
 have hre:reachBytes=140737488351232:=rfl
 have hrm:zay=140737488355328:=rfl
 have hdl:=T.2.1
 have hdm:=T.2.2.1
 refine zg7 kk.opR _ _ _ h _ λg0 e0=>?_
 have o0:=zab e0
 have n0:=zad e0
 refine (zjS kk.split kk.length (T.old o0) (C.old o0 hb) λa ha=>by grind).mono ?_
 rintro _ g2 ⟨hsp,o2⟩
 have oh2:=o0.trans o2
 have c0:g2.get h.next=some (.cells zOp 57 false):=(o2.2 _ (by omega)).trans (zae e0)
 have out:∀{g:AH},Old h g->g.get h.next=some (.cells zOp 57 false)->(∀o,zfW o->opB o≠data)->(List.length zOp=6)/\∃g' : AH,stN g h.next 0 zOp=some g'/\∃(i:Int) (s t:ByteArray) (j:Int) (p:Option Addr) (n c:Nat) (q:Option Addr) (m d:Nat),ldN g' h.next 0 6=some [.int .i64 i,.string s,.string t,.int .i64 j,.slice p n c,.slice q m d]/\zs6 h.next data (.tuple #[.agg #[.int .i64 i,.string s,.string t,.int .i64 j,.slice p n c,.slice q m d],.int .i64 231]) g'/\Old h g':=λ{g} o w z=>
  ⟨rfl,_,zaX w rfl,_,_,_,_,_,_,_,_,_,_,zaz (zaf _ _ _) rfl,.inr ⟨z,rfl⟩,⟨o.1,λb hb=>by rw[zal (by omega)]; exact o.2 b hb⟩⟩
 cases hts:zcP data with
 | none=>
   rw[hts] at hsp
   obtain rfl:_=_:=hsp
   exact⟨_,_,_,_,rfl,by omega,λ_=>out oh2 c0 λo k e=>by rw[zfR k e] at hts; grind⟩
 | some ts=>
   rw[hts] at hsp
   obtain⟨p3,c5,rfl,RG⟩:=hsp
   refine⟨_,_,_,_,rfl,λ_=>⟨λh5 g7 e7=>?_,λh5=>out oh2 c0 λo k e=>h5 (by rw[zfR k e] at hts; cases hts; rfl)⟩,by omega⟩
   obtain⟨t0,t1,t2,t3,t4,rfl⟩:=zFy (show ts.length=5 by omega)
   have o7:=zab e7
   have n7:=zad e7
   have oh7:=oh2.trans o7
   obtain⟨b3,rfl,lb,ub,p0,m0,d0,l0,T0⟩:=RG.text (i:=0) (by simp)
   obtain⟨_,e1, -, -,p1,m1,d1,l1,T1⟩:=RG.text (i:=1) (by simp)
   cases e1
   obtain⟨_,e2, -, -,p2,m2,d2,l2,T2⟩:=RG.text (i:=2) (by simp)
   cases e2
   obtain⟨_,e3, -, -,p3',m3,d3,l3,T3⟩:=RG.text (i:=3) (by simp)
   cases e3
   obtain⟨_,e4, -, -,p4,m4,d4,l4,T4⟩:=RG.text (i:=4) (by simp)
   cases e4
   simp only[List.getElem_cons_zero,List.getElem_cons_succ] at T0 T1 T2 T3 T4
   have m:∀{g:AH},Old g2 g->∀{i:Nat} {v:Value},ld1 g2 b3 i=some v->ld1 g b3 (0+i)=some v:=λ{g} o {i} {v} q=>by rw[Qq,<-q]; unfold ld1; rw[o.2 b3 ub]
   have S7:zaF g7 (some ⟨g2.next,0,none⟩) 2 1 (za6 .i64 [1,2]):=by grind[zce,za6]
   have c7:g7.get h.next=some (.cells zOp 57 false):=(o7.2 _ (by omega)).trans c0
   refine zaa ⟨by omega,by omega,p0,m0,d0,m o7 l0,?_⟩
   have T0':=T0.old o7
   by_cases h3:m0=3
   rotate_left
   ·refine (ziU kk.get kk.scr.room S7 (by simp) (by simp) (by grind)).mono ?_
    rintro _ _ ⟨rfl,rfl⟩
    refine⟨_,_,_,_,rfl,by omega,λ_=>out oh7 c7 λo k e=>?_⟩
    rw[zfR k e] at hts
    have h1:=T0.1.2.1
    grind[zmN,zdR]
   subst h3
   obtain⟨x,y,z,rfl⟩:=zFx T0.1.2.1.symm
   obtain⟨b0,off0,rfl⟩:∃b off,p0=some ⟨b,off,none⟩:=by
    rcases T0.1.2.2.2.1.2 with q | ⟨b,off,al,e,ro,q, -⟩
    all_goals grind
   have C0:zf6 Tryz.prog g7 5 b0 3 d0:=by
    rcases T0'.2.1 with ⟨q, -⟩ | ⟨b,off,q,k⟩
    all_goals grind
   refine (zo7 kk.get kk.scr.room S7 T0'.1.2.2.2.1 (T0'.2.2 _ rfl).2 C0 (by simp) (by simp) T0'.1.2.2.2.2 rfl).mono ?_
   rintro _ g14 ⟨⟨b15,rfl,q15,S15⟩,o14⟩
   rw[zAh] at S15
   have o214:=o7.trans o14
   have oh14:=oh2.trans o214
   have hx:x < 256:=T0.1.2.2.2.2 x (by simp)
   have hy:y < 256:=T0.1.2.2.2.2 y (by simp)
   have hz:z < 256:=T0.1.2.2.2.2 z (by simp)
   obtain⟨bq,oq,eq,h0⟩:=S15.get (i:=0) (by simp)
   cases eq
   obtain⟨bq,oq,eq,h1⟩:=S15.get (i:=1) (by simp)
   cases eq
   have l15:b15 < g14.next:=by
    rcases S15.2 with q | ⟨b5,off5,al,e5,ro,hp5,hb5, -⟩
    all_goals grind
   have opq:=zwX hts
   refine⟨_,_,_,_,rfl,λ_=>zaa ⟨by omega,by simp,_,h0,λi22 e22=>zaa ⟨by omega,by omega,_,_,_,m o214 l1,_,zpd (T1.1.old o214),zaa ⟨by omega,by omega,_,_,_,m o214 l2,_,zpd (T2.1.old o214),zaa ⟨by omega,by omega,_,_,_,m o214 l3,λg40 e40=>?_⟩⟩⟩⟩,by omega⟩
   have e22:=zaR e22 (by omega) (by omega)
   subst e22
   obtain⟨g41,k41,n41,o41,v41⟩:=zbN e40 (vs:=[.int .i64 (x:Int),.string (zcM t1),.string (zcM t2),.int .i64 (-1),.slice p3' m3 d3,.slice none 0 0]) rfl
   have w41:=(v41 [] (by simp)).1
   have o241:=o214.trans o41
   have oh41:=oh2.trans o241
   have c41:g41.get h.next=some (.cells zOp 57 false):=(o241.2 _ (by omega)).trans c0
   have h1' : ld1 g41 b15 (0+1)=some (.int .u64 ((y+256 * z:Nat):Int)):=by
    have q:ld1 g14 b15 (0+1)=some (.int .u64 ((y+256 * z:Nat):Int)):=h1
    rw[<-q]; unfold ld1; rw[o41.2 b15 l15]
   have kb:=T4.1.2.1
   refine⟨rfl,g41,k41,zaa ⟨by omega,by simp,_,h1',λhN=>?_,λhN=>zaa ⟨by omega,by simp,_,h1',λi126 e126=>⟨_,zaM w41 (by simp),?_⟩⟩⟩⟩
   ·have hnO:nOf (y+256 * z)= -1:=by grind[nOf]
    generalize hL:g14.next=lb' at *
    have n441:∀b,b < lb'->g41.get b=g41.get b:=λb _=>rfl
    have o44:Old g2 g41:=o241
    have ln:lb' < g41.next:=by omega
    have w44:g41.get lb'= some (.cells [.int .i64 (x:Int),.string (zcM t1),.string (zcM t2),.int .i64 (nOf (y+256 * z)),.slice p3' m3 d3,.slice none 0 0] 57 false):=by grind
    clear w41 k41 v41 e40 n441
    generalize g41=g44 at *
    have oh44:=oh2.trans o44
    have c44:g44.get h.next=some (.cells zOp 57 false):=(by omega)
    have bad:(∀k:List Bool,k.length<=64->zc1 k≠t4)->∀o,zfW o->opB o≠data:=λhk o k e=>by
     rw[zfR k e] at hts
     grind[zmN,zfW.keepL]
    refine zaa ⟨by omega,by omega,_,_,_,m o44 l4,λh64=>out oh44 c44 (by grind[zdh]),λh64=>zaa ⟨by omega,by omega,_,_,_,m o44 l4,?_⟩⟩
    refine⟨λi k g=>∃j:Nat,i=j/\j<=m4/\m4 - j=k/\Old g2 g/\lb' < g.next/\(∀u (hu:u < t4.length),u < j->t4[u]<=1)/\∃p5 n5 c5,g.get lb'= some (.cells [.int .i64 (x:Int),.string (zcM t1),.string (zcM t2),.int .i64 (nOf (y+256 * z)),.slice p3' m3 d3,.slice p5 n5 c5] 57 false)/\n5=j/\zby (lb'+ 1) g 4 1 p5 n5 c5 (zho ((zcy t4).take j)),⟨_,0,rfl,Qf _,rfl,o44,ln,by omega,none,0,0,w44,rfl,zby.nil _ _ _ _⟩,?_⟩
    rintro k67 g68 i70 ⟨j,rfl,hj,rfl,o68,ln68,hle,p5,n5,c5,w68,rfl,G68⟩
    have oh68:=oh2.trans o68
    have c68:g68.get h.next=some (.cells zOp 57 false):=(o68.2 _ (by omega)).trans c0
    refine⟨λq=>?_,λq=>?_⟩
    ·have hj' : n5 < t4.length:=by omega
     obtain⟨bk,ok,rfl,hlk⟩:=(T4.1.old o68).2.2.2.1.get (i:=n5) (by omega)
     rw[zbn hj'] at hlk
     have hkt:(zcy t4).take (n5+1)=(zcy t4).take n5 ++ [decide (0 < t4[n5])]:=by
      rw[Qv (by grind[zcp]),zmI hj']
     refine zaa ⟨by omega,q,_,by rw[Qi,Qp]; omega,λh1=>out oh68 c68 (bad λk hk e=>?_),λh1=>⟨_,_,_,zah w68 rfl,λq1 g88 e88=>?_,λq1 g88 e88=>?_⟩⟩
     ·have:t4[n5]∈zc1 k:=by grind
      have:=zfu this
      omega
     all_goals
      have e88:g88=g68.alloc (.cells (zho [decide (0 < t4[n5])]) 4 false):=by
       rw[e88]
       first
        | (rw[decide_eq_true (by omega)]; rfl)
        | (rw[decide_eq_false (by omega)]; rfl)
      obtain⟨p89,c91,g92,k92,G92,o92,f92, -⟩:=G68.push zwa (by omega) (m:=1) (ns:=zho [decide (0 < t4[n5])]) e88 rfl (by omega) (by omega)
      have w92:g92.get lb'= _:=(o92.2 _ (by omega)).trans w68
      refine⟨p89,_,c91,g92,k92,_,zaM w92 (by simp),λi94 e94=>?_⟩
      have e94:=zaR e94 (by omega) (by omega)
      refine⟨_,by omega,n5+1,by omega,by omega,rfl,⟨by have:=o92.1; show g2.next<=g92.next; omega,λb hb=>by rw[zal (by omega),o92.2 b (by omega),o68.2 b hb]⟩,by have:=o92.1; show lb' < g92.next; omega,λu hu hu2=>?_,_,_,_,zaf _ _ _,rfl,?_⟩
      ·grind
      ·rw[hkt,zoK]
       exact⟨G92.1,G92.2.imp id λ⟨b,q2,q3,q4,q5,q6⟩=>⟨b,q2,q3,q4,by grind[zal],q6⟩⟩
    ·rw[Qw (by grind[zcp])] at G68
     refine⟨_,_,_,_,_,_,_,_,_,_,zaz w68 rfl,rfl,_,zaX c68 rfl,_,_,_,_,_,_,_,_,_,_,zaz (zaf _ _ _) rfl,?_⟩
     have nx:∀o:zb3,(g68.set h.next o).next=g68.next:=λo=>rfl
     refine⟨.inl ⟨_,p3',m3,d3,p5,n5,c5,opq,rfl,?_,?_,?_,?_,λa ha=>?_,λa ha=>?_⟩,⟨oh68.1,λb hb=>by rw[zal (by omega)]; exact oh68.2 b hb⟩⟩
     ·exact (T3.1.old o68).kept (Qc _) λa ha=>zal (by have:=(T3.2.2 a ha).1; omega)
     ·refine zmO.kept ⟨G68.form,by grind[zcp],by omega,G68.shows⟩ (Qc _) λa ha=>zal (by have:=(G68.block ha).1; omega)
     ·rw[zeu]; have:=T1.1.2.1; have:=T1.1.2.2.1; omega
     ·rw[zeu]; have:=T2.1.2.1; have:=T2.1.2.2.1; omega
     ·have:=T3.2.2 a ha; grind
     ·have:=G68.block ha; grind
   ·have e126:=zaR e126 (by omega) (by omega)
    have hnO:nOf (y+256 * z)=((y+256 * z:Nat):Int):=by grind[nOf]
    generalize hL:g14.next=lb' at *
    generalize hG:g41.set _ _=g44
    have nr:zaY lb' g41 g44:=by grind[zam]
    have l2b:g2.next<=lb':=by omega
    have o44:Old g2 g44:=o241.near nr l2b
    have ln:lb' < g44.next:=by rw[nr.1]; omega
    have w44:g44.get lb'= some (.cells [.int .i64 (x:Int),.string (zcM t1),.string (zcM t2),.int .i64 (nOf (y+256 * z)),.slice p3' m3 d3,.slice none 0 0] 57 false):=by grind[zaf]
    have oh44:=oh2.trans o44
    have c44:g44.get h.next=some (.cells zOp 57 false):=(o44.2 _ (by omega)).trans c0
    have bad:(∀k:List Bool,k.length<=64->zc1 k≠t4)->∀o,zfW o->opB o≠data:=λhk o k e=>by
     rw[zfR k e] at hts
     grind[zmN,zfW.keepL]
    refine zaa ⟨by decide,by omega,_,_,_,m o44 l4,λh64=>out oh44 c44 (by grind[zdh]),λh64=>zaa ⟨by decide,by omega,_,_,_,m o44 l4,?_⟩⟩
    refine⟨λi k g=>∃j:Nat,i=j/\j<=m4/\m4 - j=k/\Old g2 g/\lb' < g.next/\(∀u (hu:u < t4.length),u < j->t4[u]<=1)/\∃p5 n5 c5,g.get lb'= some (.cells [.int .i64 (x:Int),.string (zcM t1),.string (zcM t2),.int .i64 (nOf (y+256 * z)),.slice p3' m3 d3,.slice p5 n5 c5] 57 false)/\n5=j/\zby (lb'+ 1) g 4 1 p5 n5 c5 (zho ((zcy t4).take j)),⟨_,0,rfl,Qf _,rfl,o44,ln,by omega,none,0,0,w44,rfl,zby.nil _ _ _ _⟩,?_⟩
    rintro k67 g68 i70 ⟨j,rfl,hj,rfl,o68,ln68,hle,p5,n5,c5,w68,rfl,G68⟩
    have oh68:=oh2.trans o68
    have c68:g68.get h.next=some (.cells zOp 57 false):=(o68.2 _ (by omega)).trans c0
    refine⟨λq=>?_,λq=>?_⟩
    ·have hj' : n5 < t4.length:=by omega
     obtain⟨bk,ok,rfl,hlk⟩:=(T4.1.old o68).2.2.2.1.get (i:=n5) (by omega)
     rw[zbn hj'] at hlk
     have hkt:(zcy t4).take (n5+1)=(zcy t4).take n5 ++ [decide (0 < t4[n5])]:=by
      rw[Qv (by rw[zcp]; exact hj'),zmI hj']
     refine zaa ⟨by omega,q,_,by rw[Qi,Qp]; exact hlk,λh1=>out oh68 c68 (bad λk hk e=>?_),λh1=>⟨_,_,_,zah w68 rfl,λq1 g88 e88=>?_,λq1 g88 e88=>?_⟩⟩
     ·have:t4[n5]∈zc1 k:=by rw[e]; exact Qj hj'
      have:=zfu this
      omega
     all_goals
      have e88:g88=g68.alloc (.cells (zho [decide (0 < t4[n5])]) 4 false):=by
       rw[e88]
       first
        | (rw[decide_eq_true (show 0 < t4[n5] by omega)]; rfl)
        | (rw[decide_eq_false (show ¬0 < t4[n5] by omega)]; rfl)
      obtain⟨p89,c91,g92,k92,G92,o92,f92, -⟩:=G68.push zwa (by omega) (m:=1) (ns:=zho [decide (0 < t4[n5])]) e88 rfl (by omega) (by omega)
      have w92:g92.get lb'= _:=(o92.2 _ (by omega)).trans w68
      refine⟨p89,_,c91,g92,k92,_,zaM w92 (by simp),λi94 e94=>?_⟩
      have e94:=zaR e94 (by omega) (by omega)
      refine⟨_,by omega,n5+1,by rw[e94]; rfl,by omega,rfl,⟨by have:=o92.1; show g2.next<=g92.next; omega,λb hb=>by rw[zal (by omega),o92.2 b (by omega),o68.2 b hb]⟩,by have:=o92.1; show lb' < g92.next; omega,λu hu hu2=>?_,_,_,_,zaf _ _ _,rfl,?_⟩
      ·by_cases hun:u=n5
       ·subst hun; omega
       ·exact hle u hu (by omega)
      ·rw[hkt,zoK]
       exact⟨G92.1,G92.2.imp id λ⟨b,q2,q3,q4,q5,q6⟩=>⟨b,q2,q3,q4,by rw[zal (by omega)]; exact q5,q6⟩⟩
    ·rw[Qw (by rw[zcp]; omega)] at G68
     refine⟨_,_,_,_,_,_,_,_,_,_,zaz w68 rfl,rfl,_,zaX c68 rfl,_,_,_,_,_,_,_,_,_,_,zaz (zaf _ _ _) rfl,?_⟩
     have nx:∀o:zb3,(g68.set h.next o).next=g68.next:=λo=>rfl
     refine⟨.inl ⟨_,p3',m3,d3,p5,n5,c5,opq,rfl,?_,?_,?_,?_,λa ha=>?_,λa ha=>?_⟩,⟨oh68.1,λb hb=>by rw[zal (by omega)]; exact oh68.2 b hb⟩⟩
     ·exact (T3.1.old o68).kept (Qc _) λa ha=>zal (by have:=(T3.2.2 a ha).1; omega)
     ·refine zmO.kept ⟨G68.form,by rw[zcp]; omega,by omega,G68.shows⟩ (Qc _) λa ha=>zal (by have:=(G68.block ha).1; omega)
     ·rw[zeu]; have:=T1.1.2.1; have:=T1.1.2.2.1; omega
     ·rw[zeu]; have:=T2.1.2.1; have:=T2.1.2.2.1; omega
     ·have:=T3.2.2 a ha; rw[nx]; omega
     ·have:=G68.block ha; rw[nx]; omega
end
def zs7:List Value:=[.int .i64 0,.slice none 0 0]
def zuH (data:Bs) (v:Value) (g:AH):Prop:=
 (∃(s:zi3) (p:Option Addr) (n c:Nat),zjf data s/\v=.tuple #[.agg #[.int .i64 s.secs,.slice p n c],.int .i64 0]/\Ops g p n s.ops)\/
 ((∀s,¬zjf data s)/\v=.tuple #[.agg zs7.toArray,.int .i64 231])
theorem zdr {s:zi3} {data:Bs} (k:zjf data s):zcP data=some (zg6 s):=by
 rw[<-k.2,scrB,zel (by have:=k.1.len; grind[zg6]) (zkx k.1)]
theorem zFz {t:Bs} (h:t.length=2):∃x y,t=[x,y]:=by
 match t,h with
 | [x,y],_=>simp
theorem zuI {data:Bs} {x y:Nat} {ts:List Bs} {os:List OpP} (h:zcP data=some ([x,y] :: ts)) (ho:opsOf ts=some os):zt6 data=some ⟨(x+256 * y:Nat),os⟩:=by grind[zt6]
section
variable {K:Xs} {h:AH}
theorem zpg (kk:zwW K) {p:Option Addr} {n c:Nat} {data:Bs} (T:zds h p n data) (C:zg1 Tryz.prog h 5 p n c) (hb:∀a,p=some a->a.block < h.next):
 Wf Tryz.prog K 12 [.slice p n c] h λv h'=>zuH data v h'/\Old h h':=by
 have hre:reachBytes=140737488351232:=rfl
 have hrm:zay=140737488355328:=rfl
 refine zjg kk.read _ _ _ h _ λg0 e0=>?_
 have o0:=zab e0
 have n0:=zad e0
 refine (zjS kk.split kk.length (T.old o0) (C.old o0 hb) λa ha=>by grind).mono ?_
 rintro _ g2 ⟨hsp,o2⟩
 have oh2:=o0.trans o2
 have c0:g2.get h.next=some (.cells zs7 24 false):=(o2.2 _ (by omega)).trans (zae e0)
 have out:∀{g:AH},Old h g->g.get h.next=some (.cells zs7 24 false)->(∀s,¬zjf data s)->(List.length zs7=2)/\∃g' : AH,stN g h.next 0 zs7=some g'/\∃(i:Int) (p:Option Addr) (n c:Nat),ldN g' h.next 0 2=some [.int .i64 i,.slice p n c]/\zuH data (.tuple #[.agg #[.int .i64 i,.slice p n c],.int .i64 231]) g'/\Old h g':=λ{g} o w z=>
  ⟨rfl,_,zaX w rfl,_,_,_,_,zaz (zaf _ _ _) rfl,.inr ⟨z,rfl⟩,⟨o.1,λb hb=>by rw[zal (by omega)]; exact o.2 b hb⟩⟩
 cases hts:zcP data with
 | none=>
   rw[hts] at hsp
   obtain rfl:_=_:=hsp
   exact⟨_,_,_,_,rfl,by omega,λ_=>out oh2 c0 λs k=>by rw[zdr k] at hts; grind⟩
 | some ts=>
   rw[hts] at hsp
   obtain⟨p3,c5,rfl,RG⟩:=hsp
   refine⟨_,_,_,_,rfl,λ_=>⟨λh1=>out oh2 c0 λs k=>?_,λh1=>⟨λh201=>out oh2 c0 λs k=>?_,λh201 g17 e17=>?_⟩⟩,by omega⟩
   ·rw[zdr k] at hts; grind[zg6]
   ·rw[zdr k] at hts; have:=k.1.len; grind[zg6]
   obtain⟨t0,ts',rfl⟩:∃t0 ts',ts=t0 :: ts':=by cases ts<;>grind
   have isTs:∀s,zjf data s->t0=byB 2 s.secs.toNat/\ts'= s.ops.map opB:=λs k=>by
    have:=hts
    rw[zdr k] at this
    grind[zg6]
   have hlen:(t0 :: ts').length=ts'.length+1:=rfl
   have o17:=zab e17
   have oh17:=oh2.trans o17
   obtain⟨b3,rfl,lb,ub,p0,m0,d0,l0,T0⟩:=RG.text (i:=0) (by simp)
   simp only[List.getElem_cons_zero] at T0
   have m:∀{g:AH},Old g2 g->∀{i:Nat} {v:Value},ld1 g2 b3 i=some v->ld1 g b3 (0+i)=some v:=λ{g} o {i} {v} q=>by rw[Qq,<-q]; unfold ld1; rw[o.2 b3 ub]
   have S17:zaF g17 (some ⟨g2.next,0,none⟩) 1 1 (za6 .i64 [2]):=by grind[zce,za6]
   have c17:g17.get h.next=some (.cells zs7 24 false):=(o17.2 _ (by omega)).trans c0
   have T0':=T0.old o17
   refine zaa ⟨by omega,by omega,p0,m0,d0,m o17 l0,?_⟩
   by_cases h3:m0=2
   rotate_left
   ·refine (ziU kk.get kk.scr.room S17 (by simp) (by simp) (by grind)).mono ?_
    rintro _ _ ⟨rfl,rfl⟩
    refine⟨_,_,_,_,rfl,by omega,λ_=>out oh17 c17 λs k=>?_⟩
    have:=T0.1.2.1
    grind[zdz]
   subst h3
   obtain⟨x,y,rfl⟩:=zFz T0.1.2.1.symm
   obtain⟨b0,off0,rfl⟩:∃b off,p0=some ⟨b,off,none⟩:=by
    rcases T0.1.2.2.2.1.2 with q | ⟨b,off,al,e,ro,q, -⟩
    all_goals grind
   have C0:zf6 Tryz.prog g17 5 b0 2 d0:=by
    rcases T0'.2.1 with ⟨q, -⟩ | ⟨b,off,q,k⟩
    all_goals grind
   refine (zo7 kk.get kk.scr.room S17 T0'.1.2.2.2.1 (T0'.2.2 _ rfl).2 C0 (by simp) (by simp) T0'.1.2.2.2.2 rfl).mono ?_
   rintro _ g24 ⟨⟨b25,rfl,q25,S25⟩,o24⟩
   rw[show dec [2] [x,y]=[x+256 * y] by rfl] at S25
   have hx:x < 256:=T0.1.2.2.2.2 x (by simp)
   have hy:y < 256:=T0.1.2.2.2.2 y (by simp)
   obtain⟨bq,oq,eq,hv⟩:=S25.get (i:=0) (by simp)
   cases eq
   have o224:=o17.trans o24
   refine⟨_,_,_,_,rfl,λ_=>zaa ⟨by omega,by simp,_,hv,λi32 e32 g33 e33=>?_⟩,by omega⟩
   have e32:=zaR e32 (by omega) (by omega)
   subst e32
   obtain⟨g34,k34,n34,o34,v34⟩:=zbN e33 (vs:=[.int .i64 ((x+256 * y:Nat):Int),.slice none 0 0]) rfl
   have w34:=(v34 [] (by simp)).1
   have o234:=o224.trans o34
   have C3:zg1 Tryz.prog g34 34 (some ⟨b3,0,none⟩) (ts'.length+1) c5:=by
    obtain⟨-,cells,G, -⟩:=RG
    exact (G.cutP (by grind[zai])).old o234 λa ha=>by grind
   obtain⟨p35,c37,k35,hp35, -, -⟩:=cutP zuZ (by simp) C3 (some 1) none (by simp[zhs]) (Qc _)
   obtain⟨off',rfl,hoff⟩:=hp35 b3 0 rfl
   refine⟨rfl,g34,k34,_,ts'.length,c37,by simpa[zhs,zwG] using k35,?_⟩
   generalize hsb:g24.next=sb at *
   have l2b:g2.next<=sb:=by rw[<-hsb]; exact o224.1
   refine⟨λi42 k g=>∃j:Nat,i42=j/\j<=ts'.length/\ts'.length - j=k/\Old g2 g/\sb < g.next/\∃done p5 n5 c5,opsOf (ts'.take j)=some done/\g.get sb=some (.cells [.int .i64 ((x+256 * y:Nat):Int),.slice p5 n5 c5] 24 false)/\n5=done.length/\zmH (sb+1) g p5 n5 c5 done,⟨_,0,rfl,Qf _,rfl,o234,by omega,[],none,0,0,rfl,w34,rfl,zmH.nil _ _⟩,?_⟩
   rintro k39 g40 i42 ⟨j,rfl,hj,rfl,o40,lt40,done,p5,n5,c5',hdone,w40,rfl,OG⟩
   have oh40:=oh2.trans o40
   have dl:=zl3 hdone
   rw[Jd] at dl
   refine⟨λz=>?_,λz=>?_⟩
   ·have hj' : j < ts'.length:=by omega
    obtain⟨_,e1, -, -,pj,mj,dj,lj,Tj⟩:=RG.text (i:=j+1) (by omega)
    cases e1
    have ho1:off'= 1:=by grind[zhs]
    have tk:ts'.take (j+1)=ts'.take j ++ [ts'[j]]:=by simp
    have Tj40:=Tj.old o40
    refine zaa ⟨by omega,z,pj,mj,dj,by grind[Qi],(zqn kk Tj40.1 Tj40.2.1 λa ha=>(Tj40.2.2 a ha).2).mono ?_⟩
    rintro _ g49 ⟨hq,o49⟩
    have oh49:=oh40.trans o49
    have o249:=o40.trans o49
    rcases hq with ⟨o,pd,nd,cd,pk,nk,ck,ho,rfl,td,tkp,s1,s2,bd,bk⟩ | ⟨hno,rfl⟩
    ·refine⟨_,_,_,_,_,_,_,_,_,_,_,rfl,λg61 e61=>?_⟩
     obtain⟨g62,k62,n62,o62,v62⟩:=zbN e61 (vs:=[.int .i64 o.kind,.string o.name,.string o.to,.int .i64 o.n,.slice pd nd cd,.slice pk nk ck]) rfl
     have w62:=v62 [] (λc hc=>by grind)
     have o4062:=o49.trans o62
     have ws62:g62.get sb=_:=(o4062.2 _ lt40).trans w40
     refine⟨rfl,g62,k62,λ_=>⟨_,_,_,zah ws62 rfl,_,_,_,_,_,_,_,_,_,_,w62.ld rfl,λg76 e76=>?_⟩,by omega⟩
     have ap5:∀b,g40.next<=b->apart p5 b:=λb hb=>by
      obtain⟨-,cells,G, -⟩:=OG
      rcases G.2 with ⟨rfl, -⟩ | ⟨b',rfl,q3,q4, -⟩
      ·exact trivial
      ·show b'≠b; omega
     obtain⟨p77,c79,g80,k80,OG80,o80,f80⟩:=(OG.old o4062).push (by have:=o4062.1; omega) (o:=o) ⟨pd,nd,cd,pk,nk,ck,rfl,td.old o62,tkp.old o62,s1,s2,by grind,by grind⟩ e76 (by omega)
     have ws80:g80.get sb=_:=(o80.2 _ (by omega)).trans ws62
     refine⟨p77,_,c79,g80,k80,_,zaM ws80 (by simp),λi82 e82=>?_⟩
     have e82:=zaR e82 (by omega) (by omega)
     refine⟨_,by omega,j+1,by omega,hj',rfl,⟨by have:=o4062.1; have:=o80.1; show g2.next<=g80.next; omega,λb hb=>by rw[zal (by omega),o80.2 b (by omega),o4062.2 b (by omega),o40.2 b hb]⟩,by have:=o80.1; have:=o4062.1; show sb < g80.next; omega,done ++ [o],p77,_,c79,?_,zaf _ _ _,by simp,OG80.kept (Qc _) λb hb _=>zal (by omega)⟩
     grind[zl4]
    ·refine⟨_,_,_,_,_,_,_,_,_,_,_,rfl,λg61 e61=>?_⟩
     obtain⟨g62,k62,n62,o62,v62⟩:=zbN e61 (vs:=zOp) rfl
     have c62:g62.get h.next=some (.cells zs7 24 false):=((o249.trans o62).2 _ (by omega)).trans c0
     refine⟨rfl,g62,k62,by omega,λ_=>out (oh49.trans o62) c62 λs k=>?_⟩
     have hjs:j < s.ops.length:=by grind
     exact hno _ (k.1.ops _ (Qj hjs)) (by grind)
   ·obtain rfl:j=ts'.length:=by omega
    rw[List.take_length] at hdone
    have hscr:=zuI hts hdone
    have hn96:done.length * 96<=reachBytes:=by omega
    refine⟨_,_,_,_,zaz w40 rfl,(zmE kk.scr (s:=⟨(x+256 * y:Nat),done⟩) (OG.ops hn96)).mono ?_⟩
    rintro _ g93 ⟨hq,o93⟩
    have oh93:=oh40.trans o93
    have c93:g93.get h.next=some (.cells zs7 24 false):=((o40.trans o93).2 _ (by omega)).trans c0
    have isS:∀s,zjf data s->s=⟨(x+256 * y:Nat),done⟩:=λs k=>by
     have:=zv9 k.1
     rw[k.2,hscr] at this
     grind
    rcases hq with ⟨hok,pb,cb,rfl,Tb⟩ | ⟨hno,rfl⟩
    ·refine⟨_,_,_,_,rfl,λ_=>(zs5 kk.equal Tb.1 (T.old oh93)).mono ?_,by omega⟩
     rintro _ _ ⟨⟨rfl,hE⟩ | ⟨rfl,hE⟩,rfl⟩
     ·have ws93:g93.get sb=_:=(o93.2 _ lt40).trans w40
      refine .inl ⟨rfl,_,_,_,_,zaz ws93 rfl,rfl,_,zaX c93 rfl,_,_,_,_,zaz (zaf _ _ _) rfl,.inl ⟨_,_,_,_,⟨hok,hE⟩,rfl,?_⟩,⟨oh93.1,λb hb=>by rw[zal (by omega)]; exact oh93.2 b hb⟩⟩
      exact zmH.ops (zmH.kept (OG.old o93) (Qc _) λb hb _=>zal (by omega)) hn96
     ·exact .inr ⟨rfl,out oh93 c93 λs k=>hE (by have:=isS s k; subst this; exact k.2)⟩
    ·exact⟨_,_,_,_,rfl,by omega,λ_=>out oh93 c93 λs k=>hno (by have:=isS s k; subst this; exact k.1)⟩
end
theorem zjT:∀{k:Nat} {r e:Bs} {ts:List Bs},zeZ k r=some ts->e≠[]->zeZ k (r ++ e)=none
 | 0,[],e,ts,_,he=>by
   cases e with
   | nil=>exact absurd rfl he
   | cons=>rfl
 | 0,_ :: _,_,_,h,_=>by cases h
 | k+1,[],_,_,h,_=>by cases h
 | k+1,[_],_,_,h,_=>by cases h
 | k+1,x :: y :: r,e,ts,h,he=>by
   by_cases hl:x+256 * y<=r.length
   ·rw[zgF hl] at h
    rw[List.cons_append,List.cons_append,zgF (by rw[Qs]; omega),List.drop_append_of_le_length hl]
    cases hp:zeZ k (r.drop (x+256 * y)) with
    | none=>rw[hp] at h; cases h
    | some us=>rw[zjT hp he]; rfl
   ·rw[ziY (by omega)] at h
    cases h
theorem zqo {r e:Bs} {ts:List Bs} (h:zcP r=some ts) (he:e≠[]):zcP (r ++ e)=none:=by
 match r,h with
 | [],h=>cases h
 | [_],h=>cases h
 | x :: y :: r,h=>exact zjT (k:=x+256 * y) h he
theorem zs8 {r e:Bs} {s t:zi3} (k:zjf r s) (he:e≠[]):¬zjf (r ++ e) t:=λk'=>by
 have h:=zqo (zdr k) he
 rw[zdr k'] at h
 cases h
theorem Wf.l {f:FuncId} {args:List Value} {h:AH} {Q:Value->AH->Prop} (w:Wf Tryz.prog KB f args h Q) (hk:KB f=none) (z:LtH h):Wf Tryz.prog KB f args h λv h'=>Q v h'/\LtH h':=(w.rt hk).mono λv h' q=>⟨q.1,q.2.lt z⟩
theorem ziZ:∀{rows:List (List Value)} {j:Nat} (hj:j < rows.length),(∀r∈rows,r.length=129)->(rows.flatten.drop (j * 129)).take 129=rows[j]
 | r :: rows,0,_,h=>by grind
 | r :: rows,j+1,hj,h=>by
   have h2:=ziZ (rows:=rows) (j:=j) (by grind) λx hx=>h x (QG _ hx)
   grind[QB,List.drop_left]
theorem Ops.cut {h:AH} {p p' : Option Addr} {n m:Nat} {os:List OpP} (T:Ops h p n os) (hm:m<=n) (hp:∀b off,p=some ⟨b,off,none⟩->∃off',p'= some ⟨b,off',none⟩/\(0 < m->off'= off+0 * 6)) (h0:p=none->p'= none):Ops h p' m (os.take m):=by
 obtain⟨t1,t2,t3,cells,t4,t5⟩:=T
 have s:=t4.cut2 (lo:=0) (hi:=m) (Qf _) hm hp
 refine⟨?_,by grind,by omega,_,s,λi hi=>?_⟩
 ·rcases t1 with rfl | ⟨b,off,rfl⟩
  ·exact .inl (h0 rfl)
  ·obtain⟨o',e, -⟩:=hp b off rfl
   exact .inr ⟨b,o',e⟩
 grind[List.drop_take]
theorem zoc (l:List Lit):litsEq l l=true:=(zdc l l).2 rfl
theorem zwY:zwW KB:=⟨⟨rfl,rfl,rfl,rfl,rfl,rfl,rfl,rfl⟩,rfl,rfl,rfl,rfl,rfl,rfl⟩
theorem zs2.out {lim:Nat} {s:zi3} {v:Value} {g:AH} (q:zs2 lim s v g) (k:zdS s):∃p c,v=.tuple #[.slice p (scrB s).length c,.int .i64 0]/\zgE lim g p (scrB s).length c (scrB s):=by
 rcases q with ⟨_,a,b,rfl,A⟩ | ⟨k', -⟩
 all_goals grind
theorem zuH.not {data:Bs} {v:Value} {g:AH} (q:zuH data v g) (k:∀s,¬zjf data s):v=.tuple #[.agg zs7.toArray,.int .i64 231]:=by
 rcases q with ⟨s,p,n,c,h, -⟩ | ⟨-,h⟩
 all_goals grind
theorem zy5.old {s:zi3} {b n c:Nat} {xs:List OX} {h0 h h' : AH} {v:Value} (q:zy5 s b n (bks b xs) h v h') (R:zgU h0.next h b c xs) (o:Old h0 h):Old h0 h':=by
 obtain⟨_,_,_,_,_,_,_,_, -,k1,k2, -⟩:=q
 exact⟨Qm o.1 k1,λa ha=>by rw[k2 a (Qh ha o.1) λhb=>by have:=(R.bd hb).1; omega,o.2 a ha]⟩
theorem zea (G:zdL Tryz.prog) (X:zbR Tryz.prog KB) {h:AH} {s:zi3} {p:Option Addr} {n c:Nat} {cut:Int} (T:Ops h p n s.ops) (C:(p=none/\n=0/\c < zai)\/∃b off,p=some ⟨b,off,none⟩/\n<=c/\c < zai) (hl:LtH h):
 Wf Tryz.prog KB 4 [.agg #[.int .i64 s.secs,.slice p n c],.int .i64 cut] h λv _=>v=.bool true:=by
 have hn:=T.2.1
 have C:∀g:AH,zg1 Tryz.prog g 57 p n c:=λg=>C.imp id λ⟨b,off,e,k⟩=>⟨b,off,e,.inl k⟩
 refine zcz (xb rfl) _ _ _ _ _ h _ λg0 e0=>?_
 have o0:=zab e0
 have n0:=zad e0
 have l0:=zfP e0 hl
 have c0:∀{g:AH},Old g0 g->g.get h.next=_:=λo=>(o.2 _ (by omega)).trans (zae e0)
 refine zxp (f:=5) rfl (v:=.bool true) (h':=g0) rfl (Qc _) (.inl ⟨rfl,_,_,_,zah (c0 (Old.refl _)) rfl,λ_=>rfl,λz1=>⟨_,zah (c0 (Old.refl _)) rfl,λ_=>rfl,λz2=>⟨λ_=>rfl,λz3=>⟨_,_,_,zah (c0 (Old.refl _)) rfl,λ_=>rfl,λz4=>⟨_,_,_,_,zaz (c0 (Old.refl _)) rfl,?_⟩⟩⟩⟩⟩)
 obtain⟨m,rfl⟩:=Jj (a:=cut) (by omega)
 have hm:m<=n:=by omega
 have hn40:n<=40:=by omega
 have hre:reachBytes=140737488351232:=rfl
 have hrm:zay=140737488355328:=rfl
 refine ((zk0 (xb rfl) (xb rfl) (xb rfl) (T.old o0)).l (xb rfl) l0).mono ?_
 rintro _ g15 ⟨⟨⟨rfl,ok⟩ | ⟨rfl, -⟩,o15⟩,l15⟩
 rotate_left
 ·exact .inr ⟨rfl,rfl⟩
 refine .inl ⟨rfl,_,_,_,_,zaz (c0 o15) rfl,?_⟩
 refine ((zwb (xb rfl) (c:=c) (T.old (o0.trans o15))).l (xb rfl) l15).mono ?_
 rintro _ g21 ⟨⟨⟨bA,cA,xA,rfl,RA,hxA⟩,o21⟩,l21⟩
 refine⟨_,_,_,_,rfl,?_⟩
 have lA:xA.length=n:=by grind
 have rA:=zBC RA hxA ok
 rw[lA] at rA
 refine (rA.l (xb rfl) l21).mono ?_
 rintro _ g27 ⟨qA,l27⟩
 have o27:=qA.old RA o21
 obtain⟨pA,kA,pl,nl,cl,xx,dd,rowsA,rfl,nA, -,sA,hpA,hrA,fA⟩:=qA
 have oh27:=o15.trans o27
 refine⟨_,_,_,_,_,_,_,_,_,rfl,λg37 e37=>?_⟩
 obtain⟨g38,k38,n38,o38,v38⟩:=zbN e37 (vs:=[.slice pA n kA,.slice pl nl cl,.int .i64 xx,.bool dd]) rfl
 have w38:=v38 [] (λc hc=>by grind)
 have oh38:=oh27.trans o38
 have l38:LtH g38:=by
  have e:=zaX (zae e37) (vs:=[.slice pA n kA,.slice pl nl cl,.int .i64 xx,.bool dd]) rfl
  rw[k38] at e
  cases e
  exact zvn (zae e37) (zfP e37 l27)
 have T38:=T.old (o0.trans oh38)
 obtain⟨p',c',k43,h43,h43',C43⟩:=cutP (st:=22) zzp (by rfl) (C g38) none (some m) (Qf _) hm
 have T43:Ops g38 p' m (s.ops.take m):=T38.cut hm h43 h43'
 refine⟨rfl,g38,k38,_,zah (c0 oh38) rfl,_,_,_,by grind[zah],_,_,_,k43,?_⟩
 have ok' : zdS ⟨s.secs,s.ops.take m⟩:=⟨ok.lo,ok.hi,by grind,by grind[zdS.ops]⟩
 refine ((zwb (xb rfl) (s:=⟨s.secs,s.ops.take m⟩) (c:=c') T43).l (xb rfl) l38).mono ?_
 rintro _ g47 ⟨⟨⟨bB,cB,xB,rfl,RB,hxB⟩,o47⟩,l47⟩
 refine⟨_,_,_,_,rfl,?_⟩
 have lB:xB.length=m:=by grind[Jd]
 have rB:=zBC RB hxB ok'
 rw[lB] at rB
 refine (rB.l (xb rfl) l47).mono ?_
 rintro _ g53 ⟨qB,l53⟩
 have o53:=qB.old RB o47
 obtain⟨pB,kB,pl2,nl2,cl2,xx2,dd2,rowsB,rfl,nB, -,sB,hpB,hrB,fB⟩:=qB
 refine⟨_,_,_,_,_,_,_,_,_,rfl,λg63 e63=>?_⟩
 obtain⟨g64,k64,n64,o64,v64⟩:=zbN e63 (vs:=[.slice pB m kB,.slice pl2 nl2 cl2,.int .i64 xx2,.bool dd2]) rfl
 have w64:=v64 [] (λc hc=>by grind)
 have oo:=o53.trans o64
 have oh64:=oh38.trans oo
 have eqr:rowsB=rowsA.take m:=by
  have:=zwU G X (secs:=s.secs) RA RB l21 l47 (by omega) (by grind) (by rw[lA]; omega) (by rw[lB]; omega)
  grind
 have wA:g64.get g27.next=_:=(oo.2 _ w38.2.1).trans w38.1
 have sA64:zaF g64 pA n 129 rowsA.flatten:=(sA.old (o38.trans oo))
 have sB64:zaF g64 pB m 129 rowsB.flatten:=sB.old o64
 have lrB:rowsB.length=m:=by grind[Ch.len]
 have lrA:rowsA.length=n:=by grind[Ch.len]
 refine⟨rfl,g64,k64,λ_=>⟨λ_=>⟨_,_,_,zah w64.1 rfl,λ_=>⟨_,_,_,zah wA rfl,_,_,_,zah (c0 oh64) rfl,λ_=>⟨_,_,_,zah w64.1 rfl,?_⟩,by omega⟩,by omega⟩,by omega⟩,by omega⟩
 refine⟨λi k g=>∃j:Nat,i=j/\j<=m/\m - j=k/\g64=g,by grind,?_⟩
 rintro k78 g79 i81 ⟨j,rfl,hj,rfl,rfl⟩
 refine⟨λz=>?_,λ_=>?_⟩
 ·have hj' : j < m:=by omega
  obtain⟨b1,f1,rfl,h1, -⟩:=sB64.getN hj'
  obtain⟨b2,f2,rfl,h2, -⟩:=sA64.getN (i:=j) (by omega)
  rw[ziZ (by omega) λr hr=>(hrB r hr).len] at h1
  rw[ziZ (by omega) λr hr=>(hrA r hr).len] at h2
  have e:rowsB[j]'(by omega)=rowsA[j]'(by omega):=by grind
  obtain⟨la,ha⟩:=(hrA _ (Qj (show j < rowsA.length by omega))).2
  refine⟨_,_,_,zah w64.1 rfl,zaa ⟨by omega,by omega,_,by grind,_,_,_,zah wA rfl,zaa ⟨by omega,by omega,_,by grind,la,la,ha,ha,λ_ i e=>?_,λz=>?_⟩⟩⟩
  ·have e:=zaR e (by omega) (by omega)
   exact⟨_,by omega,j+1,by omega,hj',rfl,rfl⟩
  grind[zoc]
 refine⟨_,_,_,_,by grind[zaz],(zwb (xb rfl) (c:=c) (T.old (o0.trans oh64))).mono ?_⟩
 rintro _ g102 ⟨⟨bC,cC,xC,rfl,RC,hxC⟩,o102⟩
 have lC:xC.length=n:=by grind
 have TC:=RC.ops (by omega)
 rw[hxC,lC] at TC
 refine⟨_,_,_,_,rfl,(zmE zwY.scr (s:=s) (c:=cC) TC).mono ?_⟩
 rintro _ g108 ⟨q108,o108⟩
 obtain⟨pD,cD,rfl,N108⟩:=q108.out ok
 have is:zjf (scrB s) s:=⟨ok,rfl⟩
 have d2:2<=(scrB s).length:=by grind[scrB,zif]
 have dlt:=zpf ok
 generalize scrB s=data at *
 refine⟨_,_,_,_,rfl,λg113 e113=>?_⟩
 have o113:=zab e113
 have T113:=N108.1.old o113
 obtain⟨b1,c1,g117,k117,f1,f2,f3,f4,f5,f6⟩:=zky e113 eB8 (x:=.slice pD data.length cD) rfl (T113.2.2.2.1.firstC T113.1) T113.2.2.2.1.1 (by omega) (by omega)
 have o117:Old g108 g117:=⟨by omega,f6⟩
 refine⟨_,_,_,_,k117,λg118 e118=>?_⟩
 obtain⟨p2,c2,g122,k122,G122,o122,f122,m122⟩:=(show zby g108.next g117 5 1 (some ⟨b1,0,none⟩) data.length c1 (za6 .u8 data) from ⟨by grind[zaD],.inr ⟨b1,rfl,f1,f2,f3,f4⟩⟩).push eB8 o117.1 e118 (m:=1) rfl (by omega) (by omega)
 have T122:zds g122 p2 (data.length+1) (data ++ [0]):=⟨G122.form,by simp,by omega,by rw[zfp]; exact G122.shows,λx hx=>by
  rcases QE.1 hx with hx | hx
  ·exact N108.1.2.2.2.2 x hx
  grind⟩
 have oc:zai=18446744073709551616:=rfl
 refine⟨_,_,_,_,k122,(zpg zwY T122 (G122.cutP (by omega)) λa ha=>(G122.block ha).2).mono ?_⟩
 rintro _ g124 ⟨q124,o124⟩
 rw[q124.not λt=>zs8 is (by simp)]
 refine⟨_,_,_,_,_,rfl,λg130 e130=>?_⟩
 obtain⟨g131,k131,n131,o131, -⟩:=zbN e130 (vs:=zs7) rfl
 have og:Old g108 g131:=⟨by have:=o122.1; have:=o124.1; omega,λb hb=>by rw[o131.2 b (by have:=o122.1; have:=o124.1; omega),o124.2 b (by have:=o122.1; omega),o122.2 b hb,o117.2 b hb]⟩
 refine⟨rfl,g131,k131,λg132 e132 i133 e133 i134 e134=>?_⟩
 have o132:=zab e132
 have N132:=(N108.old og).old o132
 have e133:=zaR e133 (by omega) (by omega)
 obtain⟨w,rfl,hw⟩:∃w:Nat,i134=w/\w < data.length:=by
  refine⟨i134.toNat,?_,?_⟩ <;> (omega)
 obtain⟨p3,c3,k135,h135,h135',C135⟩:=cutP (st:=34) eB8 (by rfl) N132.2.1 none (some w) (Qf _) (by show w<=_; omega)
 have s135:=N132.1.2.2.2.1.cut2 (lo:=0) (hi:=w) (Qf _) (by omega) h135
 simp only[Nat.zero_mul,List.drop_zero,Nat.sub_zero,Qp] at s135
 rw[zfQ] at s135
 have pf3:zt8 p3:=by
  rcases N132.1.1 with rfl | ⟨b,off,rfl⟩
  ·exact .inl (h135' rfl)
  ·obtain⟨o',e, -⟩:=h135 b off rfl
   exact .inr ⟨b,o',e⟩
 obtain⟨b4,c4,g141,k141,u1,u2,u3,u4,u5,u6⟩:=zky e132 eB8 (x:=.slice p3 w c3) rfl (s135.firstC pf3) s135.1 (by omega) (by omega)
 have G141:zby g131.next g141 5 1 (some ⟨b4,0,none⟩) w c4 (za6 .u8 (data.take w)):=⟨s135.1,by grind⟩
 have T141:zds g141 (some ⟨b4,0,none⟩) w (data.take w):=⟨.inr ⟨_,_,rfl⟩,by grind,by omega,G141.shows,λx hx=>N108.1.2.2.2.2 x (by grind)⟩
 refine⟨_,_,_,k135,_,_,_,_,k141,(zpg zwY T141 (G141.cutP (by omega)) λa ha=>(G141.block ha).2).mono ?_⟩
 rintro _ g143 ⟨q143,o143⟩
 rw[q143.not λt k=>by grind[zs8,Q7]]
 refine⟨_,_,_,_,_,rfl,λg149 e149=>?_⟩
 obtain⟨g150,k150, -⟩:=zbN e149 (vs:=zs7) rfl
 exact⟨rfl,g150,k150,by simp,by omega⟩
end Go.Am
