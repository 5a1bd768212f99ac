/-
  THE DOCUMENT'S ANSWERS of the layers 2, 5, 11, 13 and 14, as far as families and books need them.
-/
import Derived.Test.YtkapnilnhoiooaaGreatCNamed
import Derived.Test.YtkapnilnhoiooaaGreatCWay
import Derived.Test.YtkapnilnhoiooaaGreatVRef
set_option linter.unusedVariables false
set_option linter.unusedSimpArgs false
set_option maxRecDepth 100000
namespace Go.Am
open Go.Proofs
theorem zt9 {s:ByteArray} {i:Nat} (h:i < s.size):s[i]?= some (s.get! i):=by
 rw[getElem?_pos s i h,←zhY h,getElem!_pos s i h]
structure zua (K:Xs):Prop where
 nRight:K 67=none
 nSplit:K 27=none
 qRight:K 104=none
 qLess:K 100=none
 hole:K 103=none
 one:K 99=none
section
variable {K:Xs} {h:AH} {p:Option Addr} {n c:Nat} {rs:List zaj}
theorem zrc (kk:zua K) (s:ByteArray):Wf Tryz.prog K 67 [.string s] h fun v h'=>zbI v (zbf s)∧h=h':=by
 refine zeO kk.nRight _ h _ ⟨fun z=>⟨.inr ⟨rfl,fun k=>by have:=k.1; omega⟩,rfl⟩,fun z=>⟨fun y=>⟨.inr ⟨rfl,fun k=>by have:=k.2.1; omega⟩,rfl⟩,fun y=>⟨fun i k g=>∃u:Nat,i=u∧u≤s.size∧s.size - u=k∧h=g∧∀j,j < u→okB (s.get! j).toNat,⟨_,0,rfl,Nat.zero_le _,rfl,rfl,fun j hj=>absurd hj (Nat.not_lt_zero _)⟩,?_⟩⟩⟩
 rintro k1 _ i4 ⟨u,rfl,hu,rfl,rfl,hb⟩
 refine⟨fun z=>⟨by omega,s.get! u,by rw[Int.toNat_natCast]; exact zt9 (by omega),?_⟩,fun z=>⟨.inl ⟨rfl,by omega,by omega,fun j hj=>hb j (by omega)⟩,rfl⟩⟩
 have acc:okB (s.get! u).toNat→∀i6:Int,i6=IntKind.wrap .i64 ((u:Int)+1)→∃j3,j3 < s.size - u∧∃u:Nat,i6=u∧u≤s.size∧s.size - u=j3∧h=h∧∀j,j < u→okB (s.get! j).toNat:=fun k i6 e6=>by
  have e6:=zcj e6 (by omega) (by omega)
  refine⟨s.size - (u+1),by omega,u+1,by omega,by omega,rfl,rfl,fun j hj=>?_⟩
  rcases Nat.lt_succ_iff_lt_or_eq.1 hj with hj | rfl
  ·exact hb j hj
  ·exact k
 have rej:¬okB (s.get! u).toNat→zbI (.bool false) (zbf s)∧h=h:=fun k=>⟨.inr ⟨rfl,fun N=>k (N.2.2 u (by omega))⟩,rfl⟩
 generalize (s.get! u).toNat=c at acc rej ⊢
 repeat' (first | exact acc (by unfold okB; omega) | exact rej (by unfold okB; omega) | (constructor <;> intro _))
theorem zgj (kk:zua K) (f:ByteArray) (hf:f.size≤9223372036854775806):Wf Tryz.prog K 27 [.string f] h fun v h'=>((∃a b,zaX f a b∧v=.tuple #[.string a,.string b,.int .i64 0])∨((∀a b,¬zaX f a b)∧v=.tuple #[.string noB,.string noB,.int .i64 141]))∧h=h':=by
 refine zeN kk.nSplit _ h _ ((zrc kk f).mono ?_)
 rintro _ _ ⟨⟨rfl,k⟩ | ⟨rfl,k⟩,rfl⟩
 ·exact .inl ⟨rfl,.inl ⟨_,_,.inl ⟨k,rfl,rfl⟩,rfl⟩,rfl⟩
 have hno:∀a b,zaX f a b→∃u:Nat,u < f.size∧f.get! u=64∧a=f.extract 0 u∧b=f.extract (u+1) f.size∧zbf a∧zbf b:=by
  rintro a b (⟨q, -, -⟩ | ⟨q1,q2,q3⟩)
  ·exact absurd q k
  ·have hb:=congrArg btl q3
   rw[zcN] at hb
   have hu:(btl f)[(btl a).length]?= some 64:=by rw[hb,List.getElem?_append_right (Nat.le_refl _),Nat.sub_self]; rfl
   have hl:=(List.getElem?_eq_some_iff.1 hu).1
   rw[ziX f] at hl
   have h64:(64:UInt8)∉(btl f).take (btl a).length:=by rw[hb,List.take_left']; exact q1.no64; rfl
   obtain⟨e1,e2, -, -⟩:=(zoO hu h64 a b).1 (.inr ⟨q1,q2,q3⟩)
   rw[get!_btl hl] at hu
   exact⟨_,hl,Option.some.inj hu,e1,e2,q1,q2⟩
 refine .inr ⟨rfl,fun i k g=>∃u:Nat,i=u∧u≤f.size∧f.size - u=k∧h=g∧∀j,j < u→f.get! j=64→¬(zbf (f.extract 0 j)∧zbf (f.extract (j+1) f.size)),⟨_,0,rfl,Nat.zero_le _,rfl,rfl,fun j hj=>absurd hj (Nat.not_lt_zero _)⟩,?_⟩
 rintro k1 _ i4 ⟨u,rfl,hu,rfl,rfl,hb⟩
 refine⟨fun z=>⟨by omega,f.get! u,by rw[Int.toNat_natCast]; exact zt9 (by omega),?_⟩,fun z=>⟨.inr ⟨fun a b q=>?_,rfl⟩,rfl⟩⟩
 ·have hus:u < f.size:=by omega
  have step:¬(f.get! u=64∧zbf (f.extract 0 u)∧zbf (f.extract (u+1) f.size))→∀i6:Int,i6=IntKind.wrap .i64 ((u:Int)+1)→∃j3,j3 < f.size - u∧∃u:Nat,i6=u∧u≤f.size∧f.size - u=j3∧h=h∧∀j,j < u→f.get! j=64→¬(zbf (f.extract 0 j)∧zbf (f.extract (j+1) f.size)):=fun k i6 e6=>by
   have e6:=zcj e6 (by omega) (by omega)
   refine⟨f.size - (u+1),by omega,u+1,by omega,by omega,rfl,rfl,fun j hj e=>?_⟩
   rcases Nat.lt_succ_iff_lt_or_eq.1 hj with hj | rfl
   ·exact hb j hj e
   ·exact fun q=>k ⟨e,q⟩
  have s1:=fun (g:AH)=>(zfk (h:=g) Tryz.underlying9 f u (by omega)).1
  have s2:=fun (g:AH) (i:Int) (e:i=IntKind.wrap .i64 ((u:Int)+1))=>by
   have e:=zcj e (by omega) (by omega)
   have:=(zfk (h:=g) Tryz.underlying9 f (u+1) (by omega)).2
   rw[show ((u+1:Nat):Int)=i by omega] at this
   exact this
  refine⟨fun e=>⟨_,s1 _,(zrc kk _).mono ?_⟩,fun e=>step fun q=>e (by rw[q.1]; rfl)⟩
  have e' : f.get! u=64:=UInt8.toNat_inj.1 (by have:(64:UInt8).toNat=64:=rfl; omega)
  rintro _ _ ⟨⟨rfl,k1⟩ | ⟨rfl,k1⟩,rfl⟩
  ·refine .inl ⟨rfl,fun i11 e11=>⟨_,s2 _ _ e11,(zrc kk _).mono ?_⟩⟩
   rintro _ _ ⟨⟨rfl,k2⟩ | ⟨rfl,k2⟩,rfl⟩
   ·refine .inl ⟨rfl,_,s1 _,fun i16 e16=>⟨_,s2 _ _ e16,.inl ⟨_,_,?_,rfl⟩,rfl⟩⟩
    have hs:=zoN (f:=f) (n:=u) (by rw[get!_btl hus,e'])
    exact .inr ⟨k1,k2,hs⟩
   ·exact .inr ⟨rfl,step fun q=>k2 q.2.2⟩
  ·exact .inr ⟨rfl,step fun q=>k1 q.2.1⟩
 ·obtain⟨w,h1,h2,rfl,rfl,h3,h4⟩:=hno a b q
  exact hb w (by omega) h2 ⟨h3,h4⟩
theorem zwS (kk:zua K) (x y z:Int):Wf Tryz.prog K 104 [.agg #[.int .i64 x,.int .u64 y,.int .u32 z]] h fun v h'=>zbI v (zet (x,y,z))∧Old h h':=by
 refine zeP kk.qRight _ _ _ h _ fun g0 e0=>?_
 have o0:=zab e0
 have c0:=zaf e0
 have no:(¬zet (x,y,z))→zbI (.bool false) (zet (x,y,z))∧Old h g0:=fun e=>⟨.inr ⟨rfl,e⟩,o0⟩
 have yes:zet (x,y,z)→zbI (.bool true) (zet (x,y,z))∧Old h g0:=fun e=>⟨.inl ⟨rfl,e⟩,o0⟩
 have rest:¬(x=0∧y=0∧z=0)→_:=fun nz=>show ∃i12:Int,ld1 g0 h.next 0=some (.int .i64 i12)∧
  (((4:Int)≤i12→∃i13:Int,ld1 g0 h.next 0=some (.int .i64 i13)∧
  (((i13:Int)≤1023→∃i14:Int,ld1 g0 h.next 1=some (.int .u64 i14)∧
  (((1:Int)≤i14→∃i15:Int,ld1 g0 h.next 1=some (.int .u64 i15)∧
  (((i15:Int) < 281474976710656→zbI (.bool true) (zet (x,y,z))∧Old h g0)∧
  (¬(i15:Int) < 281474976710656→zbI (.bool false) (zet (x,y,z))∧Old h g0)))∧
  (¬(1:Int)≤i14→zbI (.bool false) (zet (x,y,z))∧Old h g0)))∧
  (¬(i13:Int)≤1023→zbI (.bool false) (zet (x,y,z))∧Old h g0)))∧
  (¬(4:Int)≤i12→zbI (.bool false) (zet (x,y,z))∧Old h g0)) from
  ⟨_,zae c0 rfl,fun a=>⟨_,zae c0 rfl,fun b=>⟨_,zae c0 rfl,fun c=>⟨_,zae c0 rfl,fun d=>yes (by simp only[zet]; omega),fun d=>no (by simp only[zet]; omega)⟩,fun c=>no (by simp only[zet]; omega)⟩,fun b=>no (by simp only[zet]; omega)⟩,fun a=>no (by simp only[zet]; omega)⟩
 exact⟨_,zae c0 rfl,fun a=>⟨_,zae c0 rfl,fun b=>⟨_,zae c0 rfl,fun c=>yes (.inl ⟨a,b,c⟩),fun c=>rest (by omega)⟩,fun b=>rest (by omega)⟩,fun a=>rest (by omega)⟩
theorem zvT (kk:zua K) (a b:PtI):
 Wf Tryz.prog K 100 [.agg #[.int .i64 a.1,.int .u64 a.2.1,.int .u32 a.2.2],.agg #[.int .i64 b.1,.int .u64 b.2.1,.int .u32 b.2.2]] h fun v h'=>zbI v (zbJ a b)∧Old h h':=by
 refine zfz kk.qLess _ _ _ _ _ _ h _ fun g0 e0 g1 e1=>?_
 have o0:=zab e0
 have n0:=zaa e0
 have o1:=zab e1
 have c0:=(o1.2 h.next (by omega)).trans (zaf e0)
 have c1:=zaf e1
 have oo:=o0.trans o1
 refine⟨_,zae c0 rfl,_,zae c1 rfl,fun e=>⟨_,zae c0 rfl,_,zae c1 rfl,fun e2=>⟨_,zae c0 rfl,_,zae c1 rfl,fun e3=>⟨.inl ⟨rfl,?_⟩,oo⟩,fun e3=>⟨.inr ⟨rfl,?_⟩,oo⟩⟩,fun e2=>⟨_,zae c0 rfl,_,zae c1 rfl,fun e3=>⟨.inl ⟨rfl,?_⟩,oo⟩,fun e3=>⟨.inr ⟨rfl,?_⟩,oo⟩⟩⟩,fun e=>⟨_,zae c0 rfl,_,zae c1 rfl,fun e3=>⟨.inl ⟨rfl,?_⟩,oo⟩,fun e3=>⟨.inr ⟨rfl,?_⟩,oo⟩⟩⟩ <;> unfold zbJ <;> simp_all
theorem zvU (kk:zua K) (x y z:Int):Wf Tryz.prog K 103 [.agg #[.int .i64 x,.int .u64 y,.int .u32 z]] h fun v h'=>zbI v (x=0∧y=0∧z=0)∧Old h h':=by
 refine zfA kk.hole _ _ _ h _ fun g0 e0=>?_
 have o0:=zab e0
 have c0:=zaf e0
 exact⟨_,zae c0 rfl,fun a=>⟨_,zae c0 rfl,fun b=>⟨_,zae c0 rfl,fun c=>⟨.inl ⟨rfl,a,b,c⟩,o0⟩,fun c=>⟨.inr ⟨rfl,fun z=>c z.2.2⟩,o0⟩⟩,fun b=>⟨.inr ⟨rfl,fun z=>b z.2.1⟩,o0⟩⟩,fun a=>⟨.inr ⟨rfl,fun z=>a z.1⟩,o0⟩⟩
theorem zwT (kk:zua K) (x y z:Int):Wf Tryz.prog K 99 [.agg #[.int .i64 x,.int .u64 y,.int .u32 z]] h fun v h'=>zbI v (zjJ (x,y,z))∧Old h h':=by
 refine zf4 kk.one _ _ _ h _ fun g0 e0=>?_
 have o0:=zab e0
 have n0:=zaa e0
 have c0:=zaf e0
 refine⟨_,_,_,zah c0 rfl,(zvU kk x y z).mono ?_⟩
 rintro _ g1 ⟨⟨rfl,k⟩ | ⟨rfl,k⟩,o1⟩
 ·exact .inl ⟨rfl,.inr ⟨rfl,fun q=>q.1 k⟩,o0.trans o1⟩
 ·have c1:=(o1.2 h.next (by omega)).trans c0
  refine .inr ⟨rfl,_,_,_,zah c1 rfl,(zwS kk x y z).mono ?_⟩
  rintro _ g2 ⟨⟨rfl,k2⟩ | ⟨rfl,k2⟩,o2⟩
  ·exact .inl ⟨rfl,.inl ⟨rfl,k,k2⟩,(o0.trans o1).trans o2⟩
  ·exact .inr ⟨rfl,.inr ⟨rfl,fun q=>k2 q.2⟩,(o0.trans o1).trans o2⟩
end
end Go.Am
