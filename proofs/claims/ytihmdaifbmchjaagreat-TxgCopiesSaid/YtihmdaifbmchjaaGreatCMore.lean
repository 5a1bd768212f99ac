/-
  THE SUM OF BYTES in this program: what is told of it is what it does.
-/
import Derived.Test.YtihmdaifbmchjaaGreatAmF
import Derived.Test.YtihmdaifbmchjaaGreatPFacts
set_option linter.unusedVariables false
set_option linter.unusedSimpArgs false
namespace Go.Am
open Go.Proofs
theorem zCf {K:Xs} (hk:K 86=none):zod Tryz.prog K 86 zdF:=by
 refine zfv hk ?_
 intro args h v h' hwf hg
 unfold zdF at hg
 split at hg
 rotate_left
 ·simp at hg
 rename_i s b off n c
 split at hg
 rotate_left
 ·simp at hg
 rename_i cs el ro hb
 obtain⟨hc,hg⟩:=za5 hg
 simp only[Bool.and_eq_true,Nat.blt_eq] at hc
 obtain⟨⟨hs,hle⟩,hn⟩:=hc
 have hle:=Nat.le_of_ble_eq_true hle
 split at hg
 rotate_left
 ·simp at hg
 rename_i r hr
 simp only[Option.some.injEq,Prod.mk.injEq] at hg
 obtain⟨rfl,rfl⟩:=hg
 rw[zcR hk Tryz.func86 (c:=_) rfl]
 have hu:=zmw hs
 have hxs:s ^^^ 4294967295 < 4294967296:=Nat.xor_lt_two_pow (n:=32) hs (by decide)
 simp[Tryz.f86,aOp,zap,hu,zf8]
 refine zch (fun k e1 h1=>h1=h∧∃i x:Nat,i≤n∧k=n - i∧x < 4294967296∧e1.get 10=some (.slice (some ⟨b,off,none⟩) n c)∧e1.get 11=some (.int .i64 n)∧e1.get 12=some (.int .i64 i)∧
  e1.get 0=some (.int .u32 x)∧zdf ((cs.drop (off+i)).take (n - i)) x=some r) ?_ n _ _ ⟨rfl,0,s ^^^ 4294967295,Nat.zero_le _,rfl,hxs,by simp,by simp,by simp,by simp,by simpa using hr⟩
 rintro k e1 h1 ⟨rfl,i,x,hi,rfl,hx,g10,g11,g12,g0,hby⟩
 by_cases hin:i < n
 ·have hi2:(i:Int) < n:=by omega
  obtain⟨cc,hcc,hlt,hrest⟩:∃cc:Nat,cs[off+i]?= some (.int .u8 cc)∧cc < 256∧zdf ((cs.drop (off+(i+1))).take (n - (i+1))) (znu 8 (x ^^^ cc))=some r:=by
   obtain⟨q,hq⟩:∃q,n - i=q+1:=⟨n - i - 1,by omega⟩
   have hlt:off+i < cs.length:=by omega
   rw[hq,List.drop_eq_getElem_cons hlt,List.take_succ_cons] at hby
   unfold zdf at hby
   split at hby
   ·rename_i he; simp at he
   ·rename_i xx cc rr he
    simp only[List.cons.injEq] at he
    obtain⟨he1,rfl⟩:=he
    obtain⟨p1,p2⟩:=za5 hby
    rw[Bool.and_eq_true,Nat.blt_eq] at p1
    refine⟨cc,by rw[List.getElem?_eq_getElem hlt,he1]; rfl,p1.1,?_⟩
    rw[show n - (i+1)=q by omega,show off+(i+1)=off+i+1 by omega]
    exact p2
   ·simp at hby
  have hcc' : zdb cs (off+i)=some (.int .u8 cc):=hcc
  have hxc:x ^^^ cc < 4294967296:=Nat.xor_lt_two_pow (n:=32) hx (by omega)
  have hw:IntKind.u32.wrap (cc:Int)=cc:=by
   simp[IntKind.wrap,IntKind.bits,IntKind.signed]
   omega
  have hcv:∀hh,zaH Tryz.prog hh 5 40 (.int .u8 (cc:Int))=some (.int .u32 (cc:Int),hh):=fun hh=>by
   simp[zaH,hw]
  simp[aOp,zap,g10,g11,g12,g0,hi2,hb,hcc',hcv,zf8 hx (show cc < 4294967296 by omega)]
  refine zch (fun k e2 h2=>h2=h1∧∃d y:Nat,d≤8∧k=8 - d∧y < 4294967296∧e2.get 10=some (.slice (some ⟨b,off,none⟩) n c)∧e2.get 11=some (.int .i64 n)∧e2.get 12=some (.int .i64 i)∧
   e2.get 20=some (.int .i64 d)∧e2.get 0=some (.int .u32 y)∧znu (8 - d) y=znu 8 (x ^^^ cc)) ?_ 8 _ _ ⟨rfl,0,x ^^^ cc,Nat.zero_le _,rfl,hxc,by simp[g10],by simp[g11],by simp[g12],by simp,by simp,rfl⟩
  rintro k e2 h2 ⟨rfl,d,y,hd,rfl,hy,k10,k11,k12,k20,k0,hcr⟩
  by_cases hd8:d < 8
  ·have hd2:(d:Int) < 8:=by omega
   have hst:znu (8 - (d+1)) (zdR y)=znu 8 (x ^^^ cc):=by
    rw[←hcr,show 8 - d=(8 - (d+1))+1 by omega]
    rfl
   have hdw:IntKind.i64.wrap ((d:Int)+1)=((d+1:Nat):Int):=by
    rw[zbW (by omega) (by omega)]
    rfl
   have hsl:y >>> 1 < 4294967296:=by
    rw[Nat.shiftRight_eq_div_pow]
    omega
   have hcl:=zjR hy
   obtain⟨z,hz⟩:∃z,z=y >>> 1:=⟨_,rfl⟩
   have eshr:∀t,zbq Tryz.prog .shr t (.int .u32 (y:Int)) (.int .u64 1)=some (.int .u32 (z:Int)):=fun t=>by rw[zq9,hz]
   rw[←hz] at hsl
   by_cases hodd:y &&& 1=1
   ·have hs1:zdR y=z ^^^ 2197175160:=by
     have hb1:Nat.beq (Nat.land y 1) 1=true:=zgV hodd
     unfold zdR
     rw[hb1,hz]
     rfl
    rw[hs1] at hst hcl
    obtain⟨q,hq⟩:∃q,q=z ^^^ 2197175160:=⟨_,rfl⟩
    have exor:∀t,zbq Tryz.prog .xor t (.int .u32 (z:Int)) (.int .u32 2197175160)=some (.int .u32 (q:Int)):=fun t=>by rw[zsT hsl,hq]
    have eand:∀t,zbq Tryz.prog .and t (.int .u32 (y:Int)) (.int .u32 1)=some (.int .u32 1):=fun t=>by rw[zjS hy,hodd]; rfl
    rw[←hq] at hst hcl
    simp[aOp,zap,k20,hd2,k0,eand,eshr,exor,hdw]
    exact⟨8 - (d+1),by omega,d+1,by omega,rfl,q,hcl,k10,k11,k12,rfl,rfl,hst⟩
   ·have hs1:zdR y=z:=by
     have hb1:Nat.beq (Nat.land y 1) 1=false:=zb6 hodd
     unfold zdR
     rw[hb1,hz]
     rfl
    rw[hs1] at hst hcl
    have hand0:y &&& 1=0:=by
     rw[Nat.and_one_is_mod] at hodd ⊢
     omega
    have eand:∀t,zbq Tryz.prog .and t (.int .u32 (y:Int)) (.int .u32 1)=some (.int .u32 0):=fun t=>by rw[zjS hy,hand0]; rfl
    simp[aOp,zap,k20,hd2,k0,eand,eshr,hdw]
    exact⟨8 - (d+1),by omega,d+1,by omega,rfl,z,hcl,k10,k11,k12,rfl,rfl,hst⟩
  ·have hd2:¬((d:Int) < 8):=by omega
   have hd9:d=8:=by omega
   subst hd9
   simp only[Nat.sub_self,znu] at hcr
   have hiw:IntKind.i64.wrap ((i:Int)+1)=((i+1:Nat):Int):=by
    rw[zbW (by omega) (by omega)]
    rfl
   simp[aOp,zap,k20,k12,hiw]
   exact⟨n - (i+1),by omega,i+1,by omega,rfl,y,hy,k10,k11,rfl,k0,by rw[hcr]; exact hrest⟩
 ·have hi2:¬((i:Int) < n):=by omega
  have hen:i=n:=by omega
  subst hen
  simp[zdf] at hby
  subst hby
  simp[aOp,zap,g10,g11,g12,hi2,g0,zmw hx,zbn,zbt]
end Go.Am
