/-
  Texts of this proof, part 50. No condition.
-/
import Derived.Test.YtmnbboleclchcaaGreatFTcRunc
set_option linter.unusedVariables false
set_option linter.unusedSimpArgs false
set_option maxRecDepth 100000
namespace Go.Am
open Go.Proofs
theorem orB {x:Option Value} {b:Bool} {A B:Prop} (h:x=some (.bool b)) (h1:b=true->A) (h2:b=false->B):(x=some (.bool true)/\A)\/(x=some (.bool false)/\B):=by
 cases b
 all_goals grind
theorem zs3 (s:ByteArray):za7 .u8 (zpV s)=s.data.toList.map λb=>Value.int .u8 b.toNat:=by
 simp[za7,zpV]
theorem zpa {h:AH} {s:ByteArray} (hs:s.size<=reachBytes):zav Tryz.prog h 9 34 (.string s)=some (.slice (some ⟨h.next,0,none⟩) s.size zai,h.alloc (.cells (za7 .u8 (zpV s)) 5 false)):=by
 have h1:zaA=140737488355328:=rfl
 have h2:reachBytes=140737488351232:=rfl
 have hc:Tryz.prog.cellsOf 5=1:=by simp
 unfold zav
 grind[Tryz.underlying9,Tryz.underlying34,Tryz.underlying5,zs3]
theorem zj0:∀data:List Nat,zaF (za7 .u8 data)=some (data.map UInt8.ofNat)
 | []=>rfl
 | x :: xs=>by
   show (zaF (za7 .u8 xs)).map (UInt8.ofNat ((x:Nat):Int).toNat :: ·)=_
   rw[zj0 xs,Qh]
   rfl
theorem zpb {h:AH} {p:Option Addr} {n c:Nat} {data:List Nat} (T:zdN h p n data):zav Tryz.prog h 34 9 (.slice p n c)=some (.string (zcd data),h):=by
 unfold zav
 rw[Tryz.underlying34,Tryz.underlying9]
 simp only[Tryz.underlying5,T.2.2.2.1.firstC T.1,zj0]
 rfl
def zhf (lim:Nat) (h:AH) (p:Option Addr) (n c:Nat) (t:Bs):Prop:=zdN h p n t/\zie Tryz.prog h 5 p n c/\∀a,p=some a->lim<=a.block/\a.block < h.next
theorem zhf.old {lim:Nat} {h h' : AH} {p:Option Addr} {n c:Nat} {t:Bs} (T:zhf lim h p n c t) (o:Old h h'):zhf lim h' p n c t:=⟨T.1.old o,T.2.1.old o λa ha=>(T.2.2 a ha).2,λa ha=>⟨(T.2.2 a ha).1,Qi (T.2.2 a ha).2 o.1⟩⟩
theorem zhz {g g' : AH} {t:Bs} {c:Nat} (e:g'= g.alloc (.cells (za7 .u8 t) 5 false)) (hl:t.length<=reachBytes) (hb:∀x∈t,x < 256) (hc:c=zai\/(t.length<=c/\c < zai)):zhf g.next g' (some ⟨g.next,0,none⟩) t.length c t:=by
 refine⟨⟨.inr ⟨_,_,rfl⟩,rfl,hl,⟨by grind[zaG],.inr ⟨g.next,0,_,_,_,rfl,by grind[zad],zae e,by grind[zaG],?_⟩⟩,hb⟩,.inr ⟨_,_,rfl,?_⟩,by grind[zad]⟩
 ·grind[zaG]
 ·rcases hc with hc | hc
  ·exact .inr ⟨hc,_,_,_,zae e,rfl⟩
  ·exact .inl hc
theorem zdo {lim:Nat} {h:AH} {b n c:Nat} {t:Bs} (hn:n=t.length) (hl:t.length<=1000000000000) (hlim:lim<=b) (hb:b < h.next) (S:zaz h (some ⟨b,0,none⟩) n 1 (za7 .u8 t)) (hx:∀x∈t,x < 256) (hc:c=n):zhf lim h (some ⟨b,0,none⟩) n c t:=by
 have h2:reachBytes=140737488351232:=rfl
 exact⟨⟨.inr ⟨_,_,rfl⟩,hn,by omega,S,hx⟩,.inr ⟨_,_,rfl,.inl ⟨by omega,by grind[zai]⟩⟩,by grind⟩
theorem zpc {g g' : AH} {cells:List Value} {ts:List Bs} (e:g'= g.alloc (.cells cells 34 false)) (hl:cells.length=ts.length) (h:∀(i:Nat) (hi:i < ts.length),∃p' n' c',cells[i]?= some (.slice p' n' c')/\zdN g p' n' ts[i]):Rows g' (some ⟨g.next,0,none⟩) ts.length ts:=by
 refine⟨rfl,cells,⟨by omega,.inr ⟨g.next,0,_,_,_,rfl,by grind[zad],zae e,by omega,?_⟩⟩,λi hi=>?_⟩
 all_goals grind[zdN.old,zab]
theorem zcI.one {lim:Nat} {g g' : AH} {p:Option Addr} {n c:Nat} {t:Bs} (e:g'= g.alloc (.cells [.slice p n c] 34 false)) (hl:lim<=g.next) (T:zhf lim g p n c t):zcI False lim g' (some ⟨g.next,0,none⟩) 1 1 [t]:=by
 refine⟨rfl,_,zbB.lit e rfl hl,λi hi=>?_⟩
 have:i=0:=by grind
 subst this
 have o:=zab e
 exact⟨p,n,c,rfl,T.1.old o,T.2.1.old o λa ha=>(T.2.2 a ha).2,λa ha=>⟨(T.2.2 a ha).1,by have:=(T.2.2 a ha).2; have:=o.1; omega,by have:=(T.2.2 a ha).2; show g.next≠a.block; omega⟩,False.elim⟩
theorem zmL {g:AH} {a b c d e:Bs} {pa pb pc pd pe:Option Addr} {na nb nc nd ne ca cb cc cd ce:Nat} (ha:zdN g pa na a) (hb:zdN g pb nb b) (hc:zdN g pc nc c) (hd:zdN g pd nd d) (he:zdN g pe ne e):
 ∀(i:Nat) (hi:i < [a,b,c,d,e].length),∃p' n' c',[Value.slice pa na ca,.slice pb nb cb,.slice pc nc cc,.slice pd nd cd,.slice pe ne ce][i]?= some (.slice p' n' c')/\zdN g p' n' [a,b,c,d,e][i]:=by
 intro i hi
 match i,hi with
 | 0,_=>exact⟨_,_,_,rfl,ha⟩
 | 1,_=>exact⟨_,_,_,rfl,hb⟩
 | 2,_=>exact⟨_,_,_,rfl,hc⟩
 | 3,_=>exact⟨_,_,_,rfl,hd⟩
 | 4,_=>exact⟨_,_,_,rfl,he⟩
theorem zch {g g' : AH} {cs:List Value} {ty:TypeId} (e:g'= g.alloc (.cells cs ty false)) {n:Nat} (hn:cs.length=n):zaz g' (some ⟨g.next,0,none⟩) n 1 cs:=by
 refine⟨by omega,.inr ⟨g.next,0,_,_,_,rfl,by grind[zad],zae e,by omega,?_⟩⟩
 grind
theorem zu7.at {h:AH} {p:Option Addr} {n:Nat} {l:List Bool} (T:zu7 h p n l) {j:Nat} (hj:j < n):∃b off,p=some ⟨b,off,none⟩/\∃(hj' : j < l.length),ld1 h b (off+j)=some (.bool l[j]):=by
 obtain⟨b,off,hp,hl⟩:=T.2.2.2.get hj
 have hj' : j < l.length:=by have:=T.2.1; omega
 grind[zue]
theorem zuL {k:List Bool} {j:Nat} (hj:j < k.length) (hj' : j < (zdy k).length):(zdy k)[j]=if k[j] then 1 else 0:=by simp[zdy]
theorem OpA.put {o:OpP} (a:OpA o):o.kind=((o.kind.toNat:Nat):Int)/\o.kind.toNat < 256/\nB o.n < 65536:=by
 obtain⟨h1, -, -, -, -, -,h7, -⟩:=a
 grind[zxC]
def zyS (lim:Nat) (s:zil) (v:Value) (g:AH):Prop:=(zdZ s/\∃p c,v=.tuple #[.slice p (ztj s).length c,.int .i64 0]/\zhf lim g p (ztj s).length c (ztj s))\/(¬zdZ s/\v=.tuple #[.slice none 0 0,.int .i64 231])
def OpD (o:OpP):Prop:=∀x∈o.data,x < 256
theorem Ops.bytes {h:AH} {p:Option Addr} {n:Nat} {os:List OpP} (t:Ops h p n os):∀o∈os,OpD o:=λo ho=>by
 obtain⟨i,hi,rfl⟩:=Q2.1 ho
 obtain⟨t1,t2,t3,cells,t4,t5⟩:=t
 obtain⟨pd,nd,cd,pk,nk,ck,e,t6, -⟩:=t5 i hi
 exact t6.2.2.2.2
theorem zw4 {s:zil} (hd:∀o∈s.ops,OpD o):∀x∈ztj s,x < 256:=by
 refine zoK λt ht x hx=>?_
 rcases Qy.1 ht with rfl | ht
 ·exact zoF hx
 ·obtain⟨o,ho,rfl⟩:=List.mem_map.1 ht
  exact zrL (hd o ho) x hx
theorem zew (ts:List Bs):(zft ts).length=2+zcH ts:=by rw[zmb]; rfl
theorem zuM {s:zil} (k:zdZ s):(ztj s).length<=100000:=by
 rw[ztj,zew]
 have:∀(l:List Bs),(∀t∈l,t.length<=400)->zcH l<=l.length * 402:=by
  intro l
  induction l<;>grind[zcH]
 grind[zg5,zdx,zkH,zdZ.ops,zdZ.len]
structure zAx (K:Xs):Prop where
 put:K 18=none
 room:K 39=none
 join:K 20=none
 opB:K 19=none
 right:K 11=none
 opR:K 22=none
 parts:K 40=none
 bytes:K 8=none
section
variable {K:Xs} {h:AH}
theorem zoe (kk:zAx K) {p:Option Addr} {n:Nat} {os:List OpP} (T:Ops h p n os) {b off i:Nat} (ep:p=some ⟨b,off,none⟩) (hi:i < n) (hi' : i < os.length) (A:OpA os[i]):
 Wf Tryz.prog K 19 [.pointer (some ⟨b,off+i * 6,none⟩)] h λv h'=>(∃p' c',v=.tuple #[.slice p' (opB os[i]).length c',.int .i64 0]/\zhf h.next h' p' (opB os[i]).length c' (opB os[i]))/\Old h h':=by
 obtain⟨b',off',e,hi2,pd,nd,cd,pk,nk,ck, -,l0,l1,l2,l3,l4,l5,td,tk,s1,s2,lt⟩:=T.at hi
 rw[ep] at e
 cases e
 have hD:=T.bytes _ (Qj hi')
 generalize os[i]=o at *
 obtain⟨ak,ak2,an⟩:=A.put
 have hnk:=tk.2.1
 have hre:reachBytes=140737488351232:=rfl
 have m:∀{g:AH},Old h g->∀(j:Nat) v,ld1 h b (off+i * 6+j)=some v->ld1 g b (off+i * 6+j)=some v:=λoo j v z=>by rw[<-z]; unfold ld1; rw[oo.2 b lt]
 have hA:=A
 obtain⟨a1,a2,a3,a4,a5,a6,a7,a8,a9,a10,a11⟩:=A
 refine zgc kk.opB _ h _ (zaa ⟨_,l3,λz=>zaa ⟨_,l3,λi6 e6 g7 e7=>zaa ⟨_,m (zab e7) 0 _ l0,λi11 e11 g12 e12=>?_⟩⟩,λz g7 e7=>zaa ⟨_,m (zab e7) 0 _ l0,λi11 e11 g12 e12=>?_⟩⟩)
 ·have e6:=zv8 e6 (by omega) (by omega)
  have e11:=zv8 e11 (by omega) (by omega)
  have e12:g12=g7.alloc (.cells (za7 .u64 [o.kind.toNat,nB o.n]) 62 false):=by grind[za7,nB]
  clear e11 e6
  generalize g12=G12 at *
  have o7:=zab e7
  have o12:=o7.trans (zab e12)
  have n7:=zad e7
  have n12:=zad e12
  have S7:zaz G12 (some ⟨h.next,0,none⟩) 2 1 (za7 .i64 [1,2]):=(zch (cs:=za7 .i64 [1,2]) e7 rfl).old (zab e12)
  have S12:zaz G12 (some ⟨g7.next,0,none⟩) 2 1 (za7 .u64 [o.kind.toNat,nB o.n]):=zch e12 rfl
  refine (zk6 kk.put kk.room S7 S12 (by simp) (by simp) rfl (λj w x h1 h2=>?_)).mono ?_
  ·match j,h1,h2 with
   | 0,h1,h2=>grind
   | 1,h1,h2=>grind
   | j+2,h1,h2=>grind
  rintro _ g14 ⟨⟨b15,rfl,q15,S15⟩,o14⟩
  have oh14:=o12.trans o14
  have T15:zhf h.next g14 (some ⟨b15,0,none⟩) 3 3 (zpW o):=by
   refine zdo (by rfl) (by grind[zdY]) (by omega) ?_ S15 (λx hx=>zoG _ _ hx) rfl
   rcases S15.2 with z | ⟨b5,off5,al,e5,ro,hp5,hb5, -⟩
   all_goals grind
  refine⟨_,_,_,_,rfl,λ_=>zaa ⟨_,_,_,m oh14 5 _ l5,by omega,λg24 e24=>?_⟩,by omega⟩
  have o24:=zab e24
  have n24:=zad e24
  have oh24:=oh14.trans o24
  have hkl:(zdy o.keep).length=nk:=by grind[zdX]
  have c24:g24.get g14.next=some (.cells (za7 .u8 (List.replicate nk 0)) 5 false):=by
   rw[zae e24]
   simp[za7,List.flatten_replicate_singleton]
  refine zaa ⟨_,_,_,m oh24 5 _ l5,λi34 k g=>∃j:Nat,i34=j/\j<=nk/\nk - j=k/\zaZ g14.next g24 g/\g.get g14.next=some (.cells (za7 .u8 ((zdy o.keep).take j ++ List.replicate (nk - j) 0)) 5 false),⟨_,0,rfl,Qg _,rfl,zaZ.refl _ _,by grind⟩,?_⟩
  rintro k31 g32 i34 ⟨j,rfl,hj,rfl,n32,c32⟩
  have oh32:Old h g32:=oh24.near n32 oh14.1
  refine⟨λy=>?_,λy=>?_⟩
  ·have hj' : j < nk:=by omega
   obtain⟨bk,offk,rfl,hjk,hlk⟩:=(tk.old oh32).at hj'
   have hka:=zuL hjk (by omega)
   have fs:=zt0 (z:=0) hkl hj'
   refine zaa ⟨by omega,y,orB (by rw[Qh,Qp]; omega) (λhb=>⟨by omega,by omega,?_⟩) λhb i39 e39=>?_⟩
   ·have sl:0+j * 1 < (za7 .u8 ((zdy o.keep).take j ++ List.replicate (nk - j) 0)).length:=by grind[zaG]
    refine⟨_,zaN c32 (by omega),λi38 e38=>?_⟩
    have e38:=zaT e38 (by omega) (by omega)
    refine⟨_,by omega,j+1,by omega,hj',rfl,n32.trans (zam _ _ _),?_⟩
    grind[zaf,ztV]
   ·have e39:=zaT e39 (by omega) (by omega)
    refine⟨_,by omega,j+1,by omega,hj',rfl,n32,?_⟩
    rw[<-fs,c32]
    congr 3
    refine (Jb λu=>?_)
    grind
  ·obtain rfl:j=nk:=by omega
   refine zaa ⟨_,m oh32 1 _ l1,zaa ⟨_,m oh32 2 _ l2,zaa ⟨_,_,_,m oh32 4 _ l4,_,_,_,_,zpa s1,_,_,_,_,zpa s2,λg59 e59=>?_⟩⟩⟩
   generalize e46:g32.alloc _=g46 at *
   generalize e53:g46.alloc _=g53 at *
   have o46:=zab e46.symm
   have o53:=zab e53.symm
   have o59:=zab e59
   have oh53:=(oh32.trans o46).trans o53
   have K32:zdN g32 (some ⟨g14.next,0,none⟩) j (zdy o.keep):=⟨.inr ⟨_,_,rfl⟩,hkl.symm,by omega,⟨by grind[zaG],.inr ⟨_,0,_,_,_,rfl,by rw[n32.1]; omega,c32,by grind[zaG],by grind[zaG]⟩⟩,λx hx=>by have:=zhr hx; omega⟩
   have N46:=zhz (c:=zai) e46.symm (by grind[zcN]) (λx hx=>zf9 hx) (.inl rfl)
   have N53:=zhz (c:=zai) e53.symm (by grind[zcN]) (λx hx=>zf9 hx) (.inl rfl)
   rw[zcN] at N46 N53
   have o14_32:Old g14 g32:=by grind[Old.near]
   have R59:=zpc e59 (ts:=znx o) rfl (zmL ((T15.1.old o14_32).old (o46.trans o53)) (N46.1.old o53) N53.1 (td.old oh53) (K32.old (o46.trans o53)))
   have hol:=zkH hA.ok
   refine (zk7 kk.join R59 (by simp[znx]) (λt ht=>by have:=zkG hA.ok t ht; omega)).mono ?_
   rintro _ g61 ⟨⟨b62,rfl,q1,q2,q3⟩,o61⟩
   have oh61:=(oh53.trans o59).trans o61
   exact⟨_,_,_,_,rfl,⟨_,_,rfl,zdo rfl (by omega) (by have:=oh53.1; have:=o59.1; omega) q2 q3 (zrL hD) (zew _).symm⟩,oh61⟩
 ·have e11:=zv8 e11 (by omega) (by omega)
  have e12:g12=g7.alloc (.cells (za7 .u64 [o.kind.toNat,nB o.n]) 62 false):=by grind[za7,nB]
  generalize g12=G12 at *
  have o7:=zab e7
  have o12:=o7.trans (zab e12)
  have n7:=zad e7
  have n12:=zad e12
  have S7:zaz G12 (some ⟨h.next,0,none⟩) 2 1 (za7 .i64 [1,2]):=(zch (cs:=za7 .i64 [1,2]) e7 rfl).old (zab e12)
  have S12:zaz G12 (some ⟨g7.next,0,none⟩) 2 1 (za7 .u64 [o.kind.toNat,nB o.n]):=zch e12 rfl
  refine (zk6 kk.put kk.room S7 S12 (by simp) (by simp) rfl (λj w x h1 h2=>?_)).mono ?_
  ·grind
  rintro _ g14 ⟨⟨b15,rfl,q15,S15⟩,o14⟩
  have oh14:=o12.trans o14
  have T15:zhf h.next g14 (some ⟨b15,0,none⟩) 3 3 (zpW o):=by
   refine zdo (by rfl) (by grind[zdY]) (by omega) ?_ S15 (λx hx=>zoG _ _ hx) rfl
   rcases S15.2 with z | ⟨b5,off5,al,e5,ro,hp5,hb5, -⟩
   all_goals grind
  refine⟨_,_,_,_,rfl,λ_=>zaa ⟨_,_,_,m oh14 5 _ l5,by omega,λg24 e24=>?_⟩,by omega⟩
  have o24:=zab e24
  have n24:=zad e24
  have oh24:=oh14.trans o24
  have hkl:(zdy o.keep).length=nk:=by grind[zdX]
  rw[Qh] at *
  have c24:g24.get g14.next=some (.cells (za7 .u8 (List.replicate nk 0)) 5 false):=by grind[zae,za7]
  refine zaa ⟨_,_,_,m oh24 5 _ l5,λi34 k g=>∃j:Nat,i34=j/\j<=nk/\nk - j=k/\zaZ g14.next g24 g/\g.get g14.next=some (.cells (za7 .u8 ((zdy o.keep).take j ++ List.replicate (nk - j) 0)) 5 false),⟨_,0,rfl,Qg _,rfl,zaZ.refl _ _,by grind⟩,?_⟩
  rintro k31 g32 i34 ⟨j,rfl,hj,rfl,n32,c32⟩
  have oh32:Old h g32:=oh24.near n32 oh14.1
  refine⟨λy=>?_,λy=>?_⟩
  ·omega
  ·obtain rfl:j=nk:=by omega
   rw[QA (by omega),Nat.sub_self,List.replicate_zero,QS] at c32
   refine zaa ⟨_,m oh32 1 _ l1,zaa ⟨_,m oh32 2 _ l2,zaa ⟨_,_,_,m oh32 4 _ l4,_,_,_,_,zpa s1,_,_,_,_,zpa s2,λg59 e59=>?_⟩⟩⟩
   generalize e46:g32.alloc _=g46 at *
   generalize e53:g46.alloc _=g53 at *
   have o46:=zab e46.symm
   have o53:=zab e53.symm
   have o59:=zab e59
   have oh53:=(oh32.trans o46).trans o53
   have K32:zdN g32 (some ⟨g14.next,0,none⟩) j (zdy o.keep):=⟨.inr ⟨_,_,rfl⟩,hkl.symm,by omega,⟨by grind[zaG],.inr ⟨_,0,_,_,_,rfl,by rw[n32.1]; omega,c32,by omega,by rw[List.drop_zero,Qp]; exact QA (by rw[zaG]; omega)⟩⟩,λx hx=>by have:=zhr hx; omega⟩
   have N46:=zhz (c:=zai) e46.symm (by rw[zcN]; exact s1) (λx hx=>zf9 hx) (.inl rfl)
   have N53:=zhz (c:=zai) e53.symm (by rw[zcN]; exact s2) (λx hx=>zf9 hx) (.inl rfl)
   rw[zcN] at N46 N53
   have o14_32:Old g14 g32:=o24.near n32 (Qc _)
   have R59:=zpc e59 (ts:=znx o) rfl (zmL ((T15.1.old o14_32).old (o46.trans o53)) (N46.1.old o53) N53.1 (td.old oh53) (K32.old (o46.trans o53)))
   have hol:=zkH hA.ok
   refine (zk7 kk.join R59 (by simp[znx]) (λt ht=>by have:=zkG hA.ok t ht; omega)).mono ?_
   rintro _ g61 ⟨⟨b62,rfl,q1,q2,q3⟩,o61⟩
   have oh61:=(oh53.trans o59).trans o61
   exact⟨_,_,_,_,rfl,⟨_,_,rfl,zdo rfl (by omega) (by have:=oh53.1; have:=o59.1; omega) q2 q3 (zrL hD) (zew _).symm⟩,oh61⟩
theorem zk9 {os:List OpP} {j:Nat} (hj:j < os.length):(os.take (j+1)).map opB=(os.take j).map opB ++ [opB os[j]]:=by grind[Qv]
theorem zi5 (kk:zAx K) {s:zil} {p:Option Addr} {n c:Nat} (T:Ops h p n s.ops):
 Wf Tryz.prog K 8 [.agg #[.int .i64 s.secs,.slice p n c]] h λv h'=>zyS h.next s v h'/\Old h h':=by
 have hn:=T.2.1
 refine zin kk.bytes _ _ _ _ h _ λg0 e0=>?_
 have n0:=zad e0
 have o0:=zab e0
 refine⟨_,_,_,_,zaw (zae e0) rfl,(zk8 kk.right kk.opR kk.parts (c:=c) (T.old o0)).mono ?_⟩
 rintro _ g6 ⟨⟨rfl,k⟩ | ⟨rfl,k⟩,o6⟩
 rotate_left
 ·exact .inr ⟨rfl,.inr ⟨k,rfl⟩,o0.trans o6⟩
 have oh6:=o0.trans o6
 have k1:=k.lo
 have k2:=k.hi
 have k3:=k.len
 refine .inl ⟨rfl,λg7 e7=>?_⟩
 have n7:=zad e7
 have c6:∀{g:AH},Old g6 g->g.get h.next=some (.cells [.int .i64 s.secs,.slice p n c] 24 false):=λo=>((o6.trans o).2 _ (by omega)).trans (zae e0)
 refine⟨_,zah (c6 (zab e7)) rfl,λi9 e9 g10 e10=>?_⟩
 have e9:=zv8 e9 (by omega) (by omega)
 have e10:g10=g7.alloc (.cells (za7 .u64 [s.secs.toNat]) 62 false):=by grind[za7]
 have n10:=zad e10
 have S7:zaz g10 (some ⟨g6.next,0,none⟩) 1 1 (za7 .i64 [2]):=(zch (cs:=za7 .i64 [2]) e7 rfl).old (zab e10)
 have S10:zaz g10 (some ⟨g7.next,0,none⟩) 1 1 (za7 .u64 [s.secs.toNat]):=zch e10 rfl
 refine (zk6 kk.put kk.room S7 S10 (by simp) (by simp) rfl (λj w x h1 h2=>?_)).mono ?_
 ·grind
 rintro _ g12 ⟨⟨b13,rfl,q13,S13⟩,o12⟩
 have hen:enc [2] [s.secs.toNat]=byB 2 s.secs.toNat:=by rfl
 have o10:=(zab e7).trans (zab e10)
 have o612:=o10.trans o12
 have oh12:=oh6.trans o612
 have T13:zhf g6.next g12 (some ⟨b13,0,none⟩) 2 2 (byB 2 s.secs.toNat):=by
  refine zdo (by rfl) (by grind[zdx]) (by omega) ?_ S13 (λx hx=>zoF hx) rfl
  rcases S13.2 with z | ⟨b5,off5,al,e5,ro,hp5,hb5, -⟩
  all_goals grind
 refine⟨_,_,_,_,rfl,λ_ g17 e17=>?_,by omega⟩
 have o617:=o612.trans (zab e17)
 refine⟨_,_,_,zah (c6 o617) rfl,λp25 n26 c27 i28 k g=>∃j:Nat,i28=j/\j<=n/\n - j=k/\zcI False g6.next g p25 n26 c27 (byB 2 s.secs.toNat :: (s.ops.take j).map opB)/\Old g6 g,⟨_,0,rfl,Qg _,rfl,zcI.one e17 o612.1 T13,o617⟩,?_⟩
 rintro k22 g23 p25 n26 c27 i28 ⟨j,rfl,hj,rfl,RG,o23⟩
 have oh23:=oh6.trans o23
 refine⟨λz=>?_,λz=>?_⟩
 ·have hjn:j < n:=by omega
  have hjl:j < s.ops.length:=by omega
  obtain⟨b,off,rfl, -⟩:=T.at hjn
  refine⟨_,_,_,zah (c6 o23) rfl,zaa ⟨by omega,by omega,(zoe kk (T.old oh23) rfl hjn hjl (k.ops _ (Qj hjl)).a).mono ?_⟩⟩
  rintro _ g35 ⟨⟨p36,c38,rfl,T36⟩,o35⟩
  refine⟨_,_,_,_,rfl,λ_ g40 e40=>?_,by omega⟩
  have RG35:=RG.old o35
  have hap:∀a,p36=some a->g6.next<=a.block/\a.block < g35.next/\apart p25 a.block:=λa ha=>by
   obtain⟨q1,q2⟩:=T36.2.2 a ha
   refine⟨by have:=o23.1; omega,q2,?_⟩
   obtain⟨-,cells,G, -⟩:=RG
   rcases G.2 with ⟨rfl, -⟩ | ⟨b,rfl,q3,q4, -⟩
   ·exact trivial
   ·show b≠a.block; omega
  obtain⟨p41,c43,g44,k44,RG44,o44,f44⟩:=RG35.push (by have:=o23.1; have:=o35.1; omega) T36.1 T36.2.1 hap False.elim e40 (by grind)
  refine⟨p41,_,c43,g44,k44,λi45 e45=>?_⟩
  have e45:=zaT e45 (by omega) (by omega)
  refine⟨_,by omega,j+1,by omega,hjn,rfl,by grind[zk9],⟨?_,λb hb=>?_⟩⟩
  ·have:=o23.1; have:=o35.1; have:=o44.1; omega
  ·rw[o44.2 b hb,o35.2 b (by have:=o23.1; omega),o23.2 b hb]
 ·rw[QA (by omega)] at RG
  refine (zk7 kk.join (ts:=zg5 s) RG.rows (by grind[zg5]) (λt ht=>by grind[zkI])).mono ?_
  rintro _ g47 ⟨⟨b48,rfl,q1,q2,q3⟩,o47⟩
  have hol:=zuM k
  exact⟨_,_,_,_,rfl,λ_=>⟨.inl ⟨k,_,_,rfl,zdo rfl (by omega) (by have:=oh23.1; omega) q2 q3 (zw4 T.bytes) (zew _).symm⟩,oh23.trans o47⟩,by omega⟩
end
theorem zi6 (k:IntKind) (l:List Nat) (m:Nat):(za7 k l).take m=za7 k (l.take m):=by grind[za7,List.map_take]
theorem zmM (k:IntKind) (l:List Nat) (m:Nat):(za7 k l).drop m=za7 k (l.drop m):=by grind[za7,List.map_drop]
section
variable {K:Xs} {h:AH}
theorem zi7 (hk:K 41=none) {p:Option Addr} {n c:Nat} (h2:n < 2):
 Wf Tryz.prog K 41 [.slice p n c] h λv h'=>v=.tuple #[.int .i64 0,.slice none 0 0,.bool false]/\h=h':=
 by grind[zcF]
theorem zj1 (hk:K 41=none) {p:Option Addr} {n c x y:Nat} {r:List Nat} (S:zaz h p n 1 (za7 .u8 (x :: y :: r))) (hx:x < 256) (hy:y < 256) (C:zie Tryz.prog h 5 p n c):
 Wf Tryz.prog K 41 [.slice p n c] h λv h'=>h=h'/\∃p' c',v=.tuple #[.int .i64 ((x+256 * y:Nat):Int),.slice p' (n - 2) c',.bool true]/\zaz h p' (n - 2) 1 (za7 .u8 r)/\zie Tryz.prog h 5 p' (n - 2) c'/\(∀b off,p=some ⟨b,off,none⟩->∃off',p'= some ⟨b,off',none⟩):=by
 have hn:n=r.length+2:=by have:=S.1; grind[zaG]
 refine zcF hk _ _ _ h _ ⟨by omega,λ_=>?_⟩
 obtain⟨b,off,rfl,l0⟩:=S.get (i:=0) (by omega)
 obtain⟨b',off',e,l1⟩:=S.get (i:=1) (by omega)
 refine zaa ⟨by omega,by omega,(x:Int),by grind[za7],λi3 e3=>zaa ⟨by omega,by omega,(y:Int),by grind[za7],λi7 e7=>?_⟩⟩
 have e3:=zaT e3 (by omega) (by omega)
 have e7:=zaT e7 (by omega) (by omega)
 subst e3 e7
 obtain⟨p',c',k,hp, -,C'⟩:=cutP eB8 (by simp) C (some 2) none (by grind[zhp]) (Qc _)
 refine⟨_,zuF hy,_,zw0 hx hy,p',n - 2,c',k,rfl,p',c',rfl,?_,C',λb2 off2 z=>?_⟩
 ·have:=S.cut2 (lo:=2) (hi:=n) (by omega) (Qc _) hp
  grind[zmM,zi6]
 grind
theorem zyT {r:Bs} (h:¬r.length < 2):∃x y l,r=x :: y :: l:=by
 match r,h with
 | x :: y :: l,_=>simp
 | [],h=>grind
 | [_],h=>grind
theorem zs4 {k:Nat} {r:Bs} (h:r.length < 2):zg4 (k+1) r=none:=by
 match r,h with
 | [],_=>rfl
 | [_],_=>rfl
theorem zqm {k x y:Nat} {r:Bs} (h:x+256 * y<=r.length):zg4 (k+1) (x :: y :: r)=(zg4 k (r.drop (x+256 * y))).map (r.take (x+256 * y) :: ·):=if_pos h
theorem zof {k x y:Nat} {r:Bs} (h:r.length < x+256 * y):zg4 (k+1) (x :: y :: r)=none:=if_neg (by omega)
theorem zs5 {r:Bs} (h:0 < r.length):zg4 0 r=none:=by cases r with | nil=>grind | cons=>rfl
def zvz (lim:Nat) (o:Option (List Bs)) (v:Value) (g:AH):Prop:=match o with
 | some ts=>∃p c,v=.tuple #[.slice p ts.length c,.int .i64 0]/\zcI True lim g p ts.length c ts
 | none=>v=.tuple #[.slice none 0 0,.int .i64 21]
theorem zj2 (hk:K 23=none) (hl:K 41=none) {p:Option Addr} {n c:Nat} {data:List Nat} (T:zdN h p n data) (C:zie Tryz.prog h 5 p n c) (hb:∀a,p=some a->a.block < h.next):
 Wf Tryz.prog K 23 [.slice p n c] h λv h'=>zvz h.next (zdK data) v h'/\Old h h':=by
 obtain⟨pf,rfl,hmax,S,hd⟩:=T
 match data,S,hd,hmax with
 | [],S,hd,hmax=>exact zcX hk _ _ _ h _ ((zi7 hl (by simp)).mono λv h' ⟨e1,e2⟩=>by subst e1 e2; exact⟨_,_,_,_,.inr ⟨rfl,rfl,Old.refl _⟩⟩)
 | [_],S,hd,hmax=>exact zcX hk _ _ _ h _ ((zi7 hl (by simp)).mono λv h' ⟨e1,e2⟩=>by subst e1 e2; exact⟨_,_,_,_,.inr ⟨rfl,rfl,Old.refl _⟩⟩)
 | x :: y :: r0,S,hd,hmax=>
   have hx:=hd x (by simp)
   have hy:=hd y (by simp)
   refine zcX hk _ _ _ h _ ((zj1 hl S hx hy C).mono ?_)
   rintro _ _ ⟨rfl,p3,c5,rfl,S3,C3,hp3⟩
   have hsp:zdK (x :: y :: r0)=zg4 (x+256 * y) r0:=rfl
   have hb3:∀a,p3=some a->a.block < h.next:=λa ha=>by
    rcases pf with rfl | ⟨b,off,rfl⟩
    ·rcases S.2 with z | ⟨b,off,al,e,ro,q, -⟩
     all_goals grind
    grind
   refine⟨_,_,_,_,.inl ⟨rfl,λp10 n11 c12 p13 n14 c15 i16 k g=>∃done r,i16=((done.length:Nat):Int)/\done.length<=x+256 * y/\x+256 * y - done.length=k/\n11=r.length/\zaz g p10 n11 1 (za7 .u8 r)/\zie Tryz.prog g 5 p10 n11 c12/\(∀a,p10=some a->a.block < h.next)/\(p10=none\/∃b off,p10=some ⟨b,off,none⟩)/\(∀z∈r,z < 256)/\r.length<=r0.length/\
    zdK (x :: y :: r0)=(zg4 (x+256 * y - done.length) r).map (done ++ ·)/\zcI True h.next g p13 n14 c15 done/\Old h g,
    ⟨_,[],r0,rfl,Qg _,rfl,by simp,S3,C3,hb3,?_,by grind,Qc _,by simp_all,zcI.nil _ _ _,Old.refl _⟩,?_⟩⟩
   ·rcases pf with rfl | ⟨b,off,rfl⟩
    ·rcases S.2 with z | ⟨b,off,al,e,ro,q, -⟩
     all_goals grind
    grind
   rintro k7 g8 p10 n11 c12 p13 n14 c15 i16 ⟨done,r,rfl,hdl,rfl,rfl,S10,C10,hb10,pf10,hd10,hr0,hsplit,RG,o8⟩
   refine⟨λz=>?_,λz=>?_⟩
   ·have hlt:done.length < x+256 * y:=by omega
    obtain⟨k',hk'⟩:∃k',x+256 * y - done.length=k'+ 1:=⟨x+256 * y - done.length - 1,by omega⟩
    by_cases hr2:r.length < 2
    ·refine (zi7 hl hr2).mono ?_
     rintro _ _ ⟨rfl,rfl⟩
     refine⟨_,_,_,_,.inr ⟨rfl,?_,o8⟩⟩
     rw[hsplit,hk',zs4 hr2]
     rfl
    ·obtain⟨x',y',r',rfl⟩:=zyT hr2
     ·skip
      have hx':=hd10 x' (by simp)
      have hy':=hd10 y' (by simp)
      refine (zj1 hl S10 hx' hy' C10).mono ?_
      rintro _ _ ⟨rfl,p20,c22,rfl,S20,C20,hp20⟩
      have hb20:∀a,p20=some a->a.block < h.next:=λa ha=>by
       rcases pf10 with rfl | ⟨b,off,rfl⟩
       ·rcases S10.2 with z | ⟨b,off,al,e,ro,q, -⟩
        all_goals grind
       grind
      have pf20:p20=none\/∃b off,p20=some ⟨b,off,none⟩:=by
       rcases pf10 with rfl | ⟨b,off,rfl⟩
       ·rcases S10.2 with z | ⟨b,off,al,e,ro,q, -⟩
        all_goals grind
       grind
      have hn20:(x' :: y' :: r').length - 2=r'.length:=by simp
      refine⟨_,_,_,_,.inl ⟨rfl,λq=>⟨?_,o8⟩,λq=>⟨by omega,λg23 e23=>?_⟩⟩⟩
      ·rw[hsplit,hk',zof (by omega)]
       rfl
      have hsz:x'+ 256 * y'<=r'.length:=by omega
      have o23:=zab e23
      have n23:=zad e23
      have c23:=zae e23
      have zl:((List.replicate (x'+ 256 * y') ([.int .u8 0]:List Value)).flatten).length=x'+ 256 * y':=by simp
      obtain⟨i24,g25,k25,n25,c25⟩:=zrq eB8 (c:=x'+ 256 * y') c23 zl (S20.old o23) pf20 (c':=c22) hsz 34
      rw[zi6] at c25
      have o25:Old h g25:=(o8.trans o23).near n25 o8.1
      have n25' : g25.next=g8.next+1:=by rw[n25.1,n23]
      have T25:zdN g25 (some ⟨g8.next,0,none⟩) (x'+ 256 * y') (r'.take (x'+ 256 * y')):=by
       refine⟨.inr ⟨_,_,rfl⟩,by grind,by grind,⟨by grind[zaG],?_⟩,by grind⟩
       refine .inr ⟨_,0,_,_,_,rfl,by omega,c25,?_,?_⟩
       all_goals grind[zaG]
      refine⟨i24,g25,k25,λg26 e26=>?_⟩
      have RG25:zcI True h.next g25 p13 n14 c15 done:=RG.kept (by omega) λb hb1 hb2=>by rw[n25.2 b (by omega),o23.2 b hb2]
      have hap:apart p13 g8.next:=by
       obtain⟨-,cells,G, -⟩:=RG
       rcases G.2 with ⟨rfl, -⟩ | ⟨b,rfl,q1,q2, -⟩
       ·exact trivial
       ·show b≠g8.next; omega
      obtain⟨p27,c29,g30,k30,RG30,o30,f30⟩:=RG25.push (by have:=o8.1; omega) T25 (.inr ⟨_,_,rfl,.inl ⟨Qc _,by grind[zai]⟩⟩) (λa ha=>by cases ha; exact⟨o8.1,by grind,hap⟩) (λ_=>⟨_,rfl,rfl,c25⟩) e26 (by omega)
      have o30' : Old h g30:=⟨Qm o25.1 o30.1,λb hb=>by rw[o30.2 b hb,o25.2 b hb]⟩
      have keep30:∀a,p20=some a->g30.get a.block=g8.get a.block:=λa ha=>by rw[o30'.2 _ (hb20 a ha),o8.2 _ (hb20 a ha)]
      obtain⟨p31,c33,k33,hp31,hpn31,C31⟩:=cutP eB8 (by simp) (C20.kept keep30) (some (x'+ 256 * y')) none (by grind[zhp]) (Qc _)
      refine⟨_,_,_,g30,k30,_,_,_,k33,λi34 e34=>?_⟩
      have e34:=zaT e34 (by omega) (by omega)
      refine⟨k',by omega,done ++ [r'.take (x'+ 256 * y')],r'.drop (x'+ 256 * y'),by grind,by grind,by grind,by simp[zhp],?_,by omega,λa ha=>?_,?_,by grind,by grind,?_,by omega,o30'⟩
      ·have:=(S20.kept (h':=g30) (by have:=o30.1; omega) keep30).cut2 (lo:=x'+ 256 * y') (hi:=r'.length) hsz (Qc _) (p':=p31) (by grind[zhp])
       grind[zmM,zi6,Q3,zhp]
      ·grind
      ·grind
      ·rw[hsplit,hk',zqm hsz,Option.map_map,show x+256 * y - (done ++ [r'.take (x'+ 256 * y')]).length=k' by grind]
       congr 1
       grind
   ·have hde:done.length=x+256 * y:=by omega
    rw[hde,Nat.sub_self] at hsplit
    refine⟨λq=>⟨?_,o8⟩,λq=>⟨?_,o8⟩⟩
    ·rw[hsplit,zs5 (by omega)]
     rfl
    ·have:r=[]:=by simp_all
     subst this
     rw[hsplit]
     have hn14:n14=done.length:=RG.1
     subst hn14
     show zvz h.next (some (done ++ [])) _ g8
     rw[QS]
     exact⟨_,_,rfl,RG⟩
end
section
variable {K:Xs} {h:AH}
theorem zs6 (hk:K 26=none) {p q:Option Addr} {n m c d:Nat} {a b:Bs} (A:zdN h p n a) (B:zdN h q m b):
 Wf Tryz.prog K 26 [.slice p n c,.slice q m d] h λv h'=>zsY v (a=b)/\h=h':=
 zeM hk _ _ _ _ _ _ h _ ⟨_,zpb A,_,zpb B,λz=>⟨.inl ⟨rfl,zrK A.2.2.2.2 B.2.2.2.2 z⟩,rfl⟩,λz=>⟨.inr ⟨rfl,λe=>z (by grind)⟩,rfl⟩⟩
end
end Go.Am
