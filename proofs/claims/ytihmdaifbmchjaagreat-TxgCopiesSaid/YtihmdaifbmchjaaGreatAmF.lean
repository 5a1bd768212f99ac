/-
  THE SUM OF BYTES: what is told of it, for both machines, and what its operations give.
-/
import Derived.Test.YtihmdaifbmchjaaGreatAmE
import Derived.Test.YtihmdaifbmchjaaGreatAmD
set_option linter.unusedVariables false
set_option linter.unusedSimpArgs false
namespace Go.Am
def zdR (x:Nat):Nat:=cond (Nat.beq (Nat.land x 1) 1) (Nat.xor (Nat.shiftRight x 1) 2197175160) (Nat.shiftRight x 1)
def znu:Nat→Nat→Nat
 | 0,x=>x
 | k+1,x=>znu k (zdR x)
def zdf:List Value→Nat→Option Nat
 | [],x=>some x
 | .int .u8 (.ofNat c) :: r,x=>cond (Nat.blt c 256 && Nat.blt (znu 8 (Nat.xor x c)) 4294967296) (zdf r (znu 8 (Nat.xor x c))) none
 | _,_=>none
noncomputable def zmv (t:Tr Value):Nat→Nat→Nat→Option Nat
 | 0,off,x=>some x
 | n+1,off,x=>match t.cell off with | .int .u8 (.ofNat c)=>cond (Nat.blt c 256 && Nat.blt (znu 8 (Nat.xor x c)) 4294967296) (zmv t n (off+1) (znu 8 (Nat.xor x c))) none | _=>none
def zdF:List Value→AH→Option (Value×AH)
 | [.int .u32 (.ofNat s),.slice (some ⟨b,off,none⟩) n c],h=>
   match h.get b with
   | some (.cells cs _ _)=>cond (Nat.blt s 4294967296 && Nat.ble (off+n) cs.length && Nat.blt n 9223372036854775807) (match zdf ((cs.drop off).take n) (Nat.xor s 4294967295) with | some r=>some (.int .u32 (.ofNat (Nat.xor r 4294967295)),h) | none=>none) none
   | _=>none
 | _,_=>none
noncomputable def zyg:List Value→FH→Option (Value×FH)
 | [.int .u32 (.ofNat s),.slice (some ⟨b,off,none⟩) n c],h=>
   match h.get b with
   | some (.cells t m _ _)=>cond (Nat.blt s 4294967296 && Nat.ble (off+n) m && Nat.blt n 9223372036854775807) (match zmv t n off (Nat.xor s 4294967295) with | some r=>some (.int .u32 (.ofNat (Nat.xor r 4294967295)),h) | none=>none) none
   | _=>none
 | _,_=>none
theorem zpz {t:Tr Value}:∀(n off x r:Nat),zmv t n off x=some r→zdf (t.subL off n) x=some r
 | 0,off,x,r,h=>by simpa[zmv,Tr.subL,zdf] using h
 | n+1,off,x,r,h=>by
   unfold zmv at h
   split at h
   ·rename_i c hc
    obtain⟨h1,h2⟩:=za5 h
    simp only[Tr.subL,Tr.cellK_cell,hc,zdf,h1,cond_true]
    exact zpz n _ _ _ h2
   ·simp at h
theorem zvG {args:List Value} {h h' : FH} {v:Value} (hs:zyg args h=some (v,h')):zdF args h.abs=some (v,h'.abs)∧h.next≤h'.next:=by
 unfold zyg at hs
 split at hs
 rotate_left
 ·simp at hs
 rename_i s b off n c
 split at hs
 rotate_left
 ·simp at hs
 rename_i t m e ro hg
 obtain⟨h1,h2⟩:=za5 hs
 have h1':=h1
 simp only[Bool.and_eq_true] at h1
 have hle:=Nat.le_of_ble_eq_true h1.1.2
 split at h2
 rotate_left
 ·simp at h2
 rename_i r hr
 simp only[Option.some.injEq,Prod.mk.injEq] at h2
 obtain⟨rfl,rfl⟩:=h2
 refine⟨?_,Nat.le_refl _⟩
 have hb:=zpz _ _ _ _ hr
 rw[zdt hle] at hb
 simp only[zdF,FH.abs_get,hg,Option.map_some,zaO.abs,zaL,h1',cond_true,hb]
theorem zjR {x:Nat} (h:x < 4294967296):zdR x < 4294967296:=by
 have h1:Nat.shiftRight x 1 < 4294967296:=by
  show x >>> 1 < _
  rw[Nat.shiftRight_eq_div_pow]
  omega
 unfold zdR
 cases Nat.beq (Nat.land x 1) 1
 ·exact h1
 ·exact Nat.xor_lt_two_pow (n:=32) h1 (by decide)
section
variable {P:Program}
theorem zvH {x y:Nat} (hx:x < 4294967296) (hy:y < 4294967296):IntKind.u32.wrap (BitVec.ofInt IntKind.u32.bits (x:Int) &&& BitVec.ofInt IntKind.u32.bits (y:Int)).toNat=((x &&& y:Nat):Int):=by
 have h1:(BitVec.ofInt IntKind.u32.bits (x:Int) &&& BitVec.ofInt IntKind.u32.bits (y:Int)).toNat=x &&& y:=by
  rw[BitVec.toNat_and,BitVec.ofInt_natCast,BitVec.ofInt_natCast,BitVec.toNat_ofNat,BitVec.toNat_ofNat]
  show (x % 2 ^ 32) &&& (y % 2 ^ 32)=_
  rw[Nat.mod_eq_of_lt hx,Nat.mod_eq_of_lt hy]
 rw[h1]
 have h2:x &&& y≤x:=Nat.and_le_left
 simp[IntKind.wrap,IntKind.bits,IntKind.signed]
 omega
theorem zpA {x y:Nat} (hx:x < 4294967296) (hy:y < 4294967296):IntKind.u32.wrap (BitVec.ofInt IntKind.u32.bits (x:Int) ^^^ BitVec.ofInt IntKind.u32.bits (y:Int)).toNat=((x ^^^ y:Nat):Int):=by
 have h1:(BitVec.ofInt IntKind.u32.bits (x:Int) ^^^ BitVec.ofInt IntKind.u32.bits (y:Int)).toNat=x ^^^ y:=by
  rw[BitVec.toNat_xor,BitVec.ofInt_natCast,BitVec.ofInt_natCast,BitVec.toNat_ofNat,BitVec.toNat_ofNat]
  show (x % 2 ^ 32) ^^^ (y % 2 ^ 32)=_
  rw[Nat.mod_eq_of_lt hx,Nat.mod_eq_of_lt hy]
 rw[h1]
 have h2:x ^^^ y < 2 ^ 32:=Nat.xor_lt_two_pow hx hy
 simp[IntKind.wrap,IntKind.bits,IntKind.signed]
 omega
theorem zjS {t:TypeId} {x:Nat} (hx:x < 4294967296):zbq P .and t (.int .u32 (x:Int)) (.int .u32 1)=some (.int .u32 ((x &&& 1:Nat):Int)):=by
 have:=zvH hx (show 1 < 4294967296 by decide)
 simp only[zbq,zcd,if_true]
 exact congrArg (fun z=>some (Value.int .u32 z)) this
theorem zf8 {t:TypeId} {x y:Nat} (hx:x < 4294967296) (hy:y < 4294967296):zbq P .xor t (.int .u32 (x:Int)) (.int .u32 (y:Int))=some (.int .u32 ((x ^^^ y:Nat):Int)):=by
 have:=zpA hx hy
 simp only[zbq,zcd,if_true]
 exact congrArg (fun z=>some (Value.int .u32 z)) this
theorem zsT {t:TypeId} {x:Nat} (hx:x < 4294967296):zbq P .xor t (.int .u32 (x:Int)) (.int .u32 2197175160)=some (.int .u32 ((x ^^^ 2197175160:Nat):Int)):=zf8 (y:=2197175160) hx (by decide)
theorem zq9 {t:TypeId} {x:Nat}:zbq P .shr t (.int .u32 (x:Int)) (.int .u64 1)=some (.int .u32 ((x >>> 1:Nat):Int)):=by
 rw[Nat.shiftRight_eq_div_pow]
 have e1:IntKind.u32.bits=32:=rfl
 simp only[zbq,zba]
 rw[if_neg (by decide)]
 rw[e1]
 have:min ((1:Int).toNat) 32=1:=by decide
 simp only[this]
 congr 2
 rw[Int.fdiv_eq_ediv_of_nonneg _ (by decide)]
 norm_cast
theorem zmw {x:Nat} (hx:x < 4294967296):aUn .xor (.int .u32 (x:Int))=some (.int .u32 ((x ^^^ 4294967295:Nat):Int)):=by
 have:=zpA (x:=4294967295) (by decide) hx
 rw[Nat.xor_comm] at this
 simp only[aUn]
 exact congrArg (fun z=>some (Value.int .u32 z)) this
end
theorem zfv {P:Program} {K:Xs} {fa:FuncId} {g:List Value→AH→Option (Value×AH)} (hk:K fa=none)
 (T:∀args h v h',(∀b o,h.get b=some o→b < h.next)→g args h=some (v,h')→Wf P K fa args h (fun v1 h1=>v1=v∧(∀b o,h'.get b=some o→h1.get b=some o)∧h1.next≤h'.next)):zod P K fa g:=by
 intro args h v h' hwf hg
 obtain⟨n,v1,h1,h2,rfl,h3,h4⟩:=T args h v h' hwf hg
 rw[zeh hk] at h2
 exact⟨n,h1,h2,h3,h4⟩
def zaY (acc:List (Nat×Nat)) (n:Nat):List (Nat×Nat):=
 match acc with
 | (s,l) :: r=>cond (Nat.beq (s+l) n) ((s,l+1) :: r) ((n,1) :: (s,l) :: r)
 | []=>[(n,1)]
def zbU:List Value→Nat→List (Nat×Nat)→Option (List (Nat×Nat))
 | [],_,acc=>some acc
 | .bool b :: r,n,acc=>zbU r (n+1) (cond b (zaY acc n) acc)
 | _ :: _,_,_=>none
def zeV:List (Nat×Nat)→List Value
 | []=>[]
 | (s,l) :: r=>zeV r ++ [.int .i64 (.ofNat s),.int .i64 (.ofNat l)]
theorem zcT:∀acc,(zeV acc).length=2 * acc.length
 | []=>rfl
 | (s,l) :: r=>by simp[zeV,zcT r]; omega
theorem zw1 (s l:Nat) (r:List (Nat×Nat)):zdb (zeV ((s,l) :: r)) (r.length * 2)=some (.int .i64 s):=by
 have:=zcT r
 simp only[zdb,zeV]
 rw[List.getElem?_append_right (by omega),show r.length * 2 - (zeV r).length=0 by omega]
 rfl
theorem zw2 (s l:Nat) (r:List (Nat×Nat)):zdb (zeV ((s,l) :: r)) (r.length * 2+1)=some (.int .i64 l):=by
 have:=zcT r
 simp only[zdb,zeV]
 rw[List.getElem?_append_right (by omega),show r.length * 2+1 - (zeV r).length=1 by omega]
 rfl
theorem zvI (s l m:Nat) (r:List (Nat×Nat)):(zeV ((s,l) :: r)).set (r.length * 2+1) (.int .i64 m)=zeV ((s,m) :: r):=by
 have:=zcT r
 simp only[zeV]
 rw[List.set_append_right _ _ (by omega),show r.length * 2+1 - (zeV r).length=1 by omega]
 rfl
def zcs (m b:Nat):Value:=match m with | 0=>.slice none 0 0 | m+1=>.slice (some ⟨b,0,none⟩) (m+1) zak
section
variable {P:Program} {h:AH}
theorem zij {st elem b:Nat} {i:TypeInfo} {z:Value} {new:List Value} {e2:TypeId} {ro:Bool} (h1:P.underlying st=some (.slice elem)) (h2:P.info? elem=some i) (h3:i.zero=some z) (h4:z.cells.size=i.size) (h5:0 < i.size)
 (h6:new.length=i.size) (h7:h.get b=some (.cells new e2 ro)) (h8:i.bytes≤zaE):
 zaS P h st false (.slice none 0 0) (.slice (some ⟨b,0,none⟩) 1 1)=some (.slice (some ⟨h.next,0,none⟩) 1 zak,h.alloc (.cells new elem false)):=by
 obtain⟨k,hk⟩:∃k,i.size=k+1:=⟨i.size - 1,by omega⟩
 have hf:firstC h i.size 1 (.slice (some ⟨b,0,none⟩) 1 1)=some new:=by
  simp only[firstC,Nat.one_mul,hk,h7]
  rw[if_pos ⟨Nat.le_refl _,by omega⟩]
  simp[←hk,←h6]
 unfold zaS
 rw[h1]
 simp only[h2,zlx,hf,h3]
 simp[firstC,h4,h5,h6,zak]
 simp[zaE] at h8 ⊢
 exact h8
theorem zgP {st elem b b0 m:Nat} {i:TypeInfo} {z:Value} {old new:List Value} {e2:TypeId} {ro:Bool} (h1:P.underlying st=some (.slice elem)) (h2:P.info? elem=some i) (h3:i.zero=some z) (h4:z.cells.size=i.size) (h5:0 < i.size)
 (h6:new.length=i.size) (h7:h.get b=some (.cells new e2 ro)) (h8:(m+1) * i.bytes≤zaE) (h9:h.get b0=some (.cells old elem false)) (h10:old.length=m * i.size) (h11:m+1≤9223372036854775807) (h12:0 < m):
 zaS P h st false (.slice (some ⟨b0,0,none⟩) m zak) (.slice (some ⟨b,0,none⟩) 1 1)=some (.slice (some ⟨h.next,0,none⟩) (m+1) zak,(h.del b0).alloc (.cells (old ++ new) elem false)):=by
 obtain⟨k,hk⟩:∃k,i.size=k+1:=⟨i.size - 1,by omega⟩
 have hf:firstC h i.size 1 (.slice (some ⟨b,0,none⟩) 1 1)=some new:=by
  simp only[firstC,Nat.one_mul,hk,h7]
  rw[if_pos ⟨Nat.le_refl _,by omega⟩]
  simp[←hk,←h6]
 have hg:firstC h i.size m (.slice (some ⟨b0,0,none⟩) m zak)=some old:=by
  have:0 < m * i.size:=Nat.mul_pos h12 h5
  obtain⟨q,hq⟩:∃q,m * i.size=q+1:=⟨m * i.size - 1,by omega⟩
  simp only[firstC,hq,h9]
  rw[if_pos ⟨Nat.le_refl _,by omega⟩]
  simp[←hq,←h10]
 unfold zaS
 rw[h1]
 simp only[h2,zlx,hf,hg,h3]
 rw[if_pos ⟨h4,h5,by omega,h10⟩,if_pos trivial]
 simp only[h9]
 rw[if_pos ⟨trivial,h8,h11⟩]
end
def zeG (el:TypeId):List Value→AH→Option (Value×AH)
 | [.pointer (some ⟨b,off,none⟩)],h=>
   match h.get b with
   | some (.cells cs _ _)=>
     match zbU ((cs.drop off).take 4096) 0 [] with
     | some acc=>cond (Nat.beq off 0 && Nat.ble 4096 cs.length && Nat.blt b h.next)
        (match acc with
         | []=>some (.slice none 0 0,h)
         | x :: r=>some (.slice (some ⟨h.next+2 * r.length+1,0,none⟩) (r.length+1) zak,{ tr:=h.tr.set (h.next+2 * r.length+1) (.cells (zeV (x :: r)) el false),next:=h.next+2 * r.length+2 })) none
     | none=>none
   | _=>none
 | _,_=>none
theorem zdS {P:Program} {K:Xs} {h:AH} {f:FuncId} {args:List Value} {Q:Value→AH→Prop} {g:List Value→AH→Option (Value×AH)} (hk:K f=some (.sum g)) {v:Value} {h' : AH} (hg:g args h=some (v,h')) (hn:h.next≤h'.next) (hq:Q v h'):
 Wf P K f args h Q:=by
 refine⟨0,v,h',?_,hq⟩
 unfold zfa
 rw[hk]
 simp only
 unfold zce grown
 rw[hk]
 simp only[hg]
 have:Nat.ble h.next h'.next=true:=Nat.ble_eq_true_of_le hn
 simp only[this]
def xIs:List Value→AH→Option (Value×AH)
 | [.pointer (some ⟨b,off,none⟩),.int .i64 (.ofNat i),.int .u8 (.ofNat s)],h=>
   match h.get b with
   | some (.cells cs _ _)=>
     match cs[off+i]? with
     | some (.int .u8 (.ofNat x))=>cond (Nat.blt i 1024) (some (.bool (Nat.beq x s),h)) none
     | _=>none
   | _=>none
 | _,_=>none
def zcO (N:List Nat):List Value:=(List.range 4096).map fun j=>.bool (N.contains j)
def zeH:List Value→Option (List Nat)
 | []=>some []
 | .int .i64 (.ofNat n) :: r=>cond (Nat.blt n 4096) (match zeH r with | some l=>some (n :: l) | none=>none) none
 | _=>none
def zaD (el:TypeId) (acc:List (Nat×Nat)) (tr:Tr zb7) (n:Nat):Value×AH:=
 match acc with
 | []=>(.slice none 0 0,⟨tr,n⟩)
 | x :: r=>(.slice (some ⟨n+2 * r.length+1,0,none⟩) (r.length+1) zak,⟨tr.set (n+2 * r.length+1) (.cells (zeV (x :: r)) el false),n+2 * r.length+2⟩)
def xOf (el:TypeId):List Value→AH→Option (Value×AH)
 | [.slice none 0 0],h=>some (.slice none 0 0,⟨h.tr,h.next+1⟩)
 | [.slice (some ⟨b,off,none⟩) n c],h=>
   match h.get b with
   | some (.cells cs _ _)=>
     match zeH ((cs.drop off).take n) with
     | some N=>cond (Nat.ble (off+n) cs.length && Nat.blt n 9223372036854775807 && Nat.blt b h.next)
        (match zbU (zcO N) 0 [] with | some acc=>some (zaD el acc h.tr (h.next+1)) | none=>none) none
     | none=>none
   | _=>none
 | _,_=>none
def zsU:List Value→Nat→Nat→List Nat→Option (List Nat)
 | [],_,_,N=>some N
 | .int .u8 (.ofNat x) :: r,s,i,N=>zsU r s (i+1) (cond (Nat.beq x s) (N ++ [i]) N)
 | _ :: _,_,_,_=>none
def znv (el:TypeId):List Value→AH→Option (Value×AH)
 | [.pointer (some ⟨b,off,none⟩),.int .u8 (.ofNat s)],h=>
   match h.get b with
   | some (.cells cs _ _)=>
     match zsU ((cs.drop off).take 1024) s 0 [] with
     | some N=>cond (Nat.ble (off+1024) cs.length && Nat.blt b h.next)
        (match zbU (zcO N) 0 [] with | some acc=>some (zaD el acc h.tr (h.next+2 * N.length+1)) | none=>none) none
     | none=>none
   | _=>none
 | _,_=>none
theorem zfw (N:List Nat):(zcO N).length=4096:=by simp[zcO]
theorem zik (N:List Nat) (j:Nat):(zcO N)[j]?= if j < 4096 then some (.bool (N.contains j)) else none:=by
 simp only[zcO,List.getElem?_map]
 by_cases h:j < 4096
 ·rw[if_pos h,List.getElem?_range h]
  rfl
 ·rw[if_neg h,List.getElem?_eq_none (by simpa using h)]
  rfl
theorem zsV (N:List Nat) (n:Nat) (hn:n < 4096):(zcO N).set n (.bool true)=zcO (N ++ [n]):=by
 apply List.ext_getElem?
 intro j
 rw[List.getElem?_set,zik,zik,zfw]
 by_cases h:n=j
 ·subst h
  rw[if_pos rfl,if_pos hn,if_pos hn]
  simp
 ·rw[if_neg h]
  by_cases h2:j < 4096
  ·rw[if_pos h2,if_pos h2]
   have:¬(j=n):=fun q=>h q.symm
   simp[this]
  ·rw[if_neg h2,if_neg h2]
theorem zem:∀(k i:Nat) (N:List Nat) (acc:List (Nat×Nat)),(∀n∈N,i≤n)→(∀n∈N,n < i+k)→N.Pairwise (· < ·)→
 zbU ((List.range' i k).map fun j=>.bool (N.contains j)) i acc=some (N.foldl zaY acc)
 | 0,i,N,acc,h1,h2,hp=>by
   cases N with
   | nil=>rfl
   | cons n N=>have:=h1 n (by simp); have:=h2 n (by simp); omega
 | k+1,i,N,acc,h1,h2,hp=>by
   rw[List.range'_succ,List.map_cons]
   unfold zbU
   cases N with
   | nil=>
     have:=zem k (i+1) [] acc (by simp) (by simp) .nil
     simpa using this
   | cons n N=>
     rw[List.pairwise_cons] at hp
     by_cases hn:n=i
     ·subst hn
      have:=zem k (n+1) N (zaY acc n) (fun m hm=>hp.1 m hm) (fun m hm=>by have:=h2 m (by simp[hm]); omega) hp.2
      have e:((List.range' (n+1) k).map fun j=>(.bool ((n :: N).contains j):Value))=(List.range' (n+1) k).map fun j=>.bool (N.contains j):=by
       apply List.map_congr_left
       intro j hj
       have hj':=List.mem_range'_1.1 hj
       have:¬(j=n):=by omega
       simp[this]
      simp only[List.contains_cons,BEq.rfl,Bool.true_or,cond_true,List.foldl_cons]
      rw[←this]
      congr 1
     ·have h3:=h1 n (by simp)
      have hni:(n :: N).contains i=false:=by
       simp only[List.contains_eq_mem,decide_eq_false_iff_not,List.mem_cons,not_or]
       exact⟨fun q=>hn q.symm,fun q=>by have:=hp.1 i q; omega⟩
      rw[hni]
      simp only[cond_false]
      exact zem k (i+1) (n :: N) acc (fun m hm=>by
       rcases List.mem_cons.1 hm with rfl | hm
       ·omega
       ·have:=hp.1 m hm; omega) (fun m hm=>by have:=h2 m hm; omega) (List.pairwise_cons.2 hp)
theorem zkH {N:List Nat} (h2:∀n∈N,n < 4096) (hp:N.Pairwise (· < ·)):zbU (zcO N) 0 []=some (N.foldl zaY []):=by
 unfold zcO
 rw[List.range_eq_range']
 exact zem 4096 0 N [] (fun _ _=>Nat.zero_le _) (fun n hn=>by have:=h2 n hn; omega) hp
noncomputable def zyh {β:Type} (acc:List (Nat×Nat)) (n:Nat) (k:List (Nat×Nat)→β):β:=
 match acc with
 | (s,l) :: r=>cnd (Nat.beq (Nat.add s l) n) (zaR (Nat.succ l) fun l=>k ((s,l) :: r)) (k ((n,1) :: (s,l) :: r))
 | []=>k [(n,1)]
theorem zpB {β:Type} (acc:List (Nat×Nat)) (n:Nat) (k:List (Nat×Nat)→β):zyh acc n k=k (zaY acc n):=by
 cases acc with
 | nil=>rfl
 | cons p r=>
   obtain⟨s,l⟩:=p
   show cnd (Nat.beq (s+l) n) (zaR (Nat.succ l) fun l=>k ((s,l) :: r)) (k ((n,1) :: (s,l) :: r))=k (cond (Nat.beq (s+l) n) ((s,l+1) :: r) ((n,1) :: (s,l) :: r))
   rw[zbl,zax]
   cases Nat.beq (s+l) n <;> rfl
noncomputable def zy9 (t:Tr Value) (s:Nat):Nat→Nat→Nat→Nat→List (Nat×Nat)→Option (Nat×List (Nat×Nat))
 | 0,_,_,c,acc=>some (c,acc)
 | k+1,off,i,c,acc=>zaR off fun off=>zaR i fun i=>Tr.cellK t off fun v=>onP (zif v) fun kd x=>cnd (Nat.beq (zrF kd) 4)
    (cnd (Nat.beq x s) (zaR (Nat.succ c) fun c=>zyh acc i fun acc=>zy9 t s k (Nat.succ off) (Nat.succ i) c acc) (zy9 t s k (Nat.succ off) (Nat.succ i) c acc)) none
noncomputable def zdg (el:TypeId) (acc:List (Nat×Nat)) (tr:Tr zaO) (n:Nat):Value×FH:=
 match acc with
 | []=>(.slice none 0 0,⟨tr,n⟩)
 | x :: r=>(.slice (some ⟨n+2 * r.length+1,0,none⟩) (r.length+1) zak,⟨tr.set (n+2 * r.length+1) (.cells (Tr.nil.setL 0 (zeV (x :: r))) (2 * (r.length+1)) el false),n+2 * r.length+2⟩)
noncomputable def zBR (el:TypeId):List Value→FH→Option (Value×FH)
 | [.pointer (some ⟨b,off,none⟩),.int .u8 (.ofNat s)],h=>
   match h.get b with
   | some (.cells t m _ _)=>
     match zy9 t s 1024 off 0 0 [] with
     | some (c,acc)=>cond (Nat.ble (off+1024) m && Nat.blt b h.next) (some (zdg el acc h.tr (h.next+2 * c+1))) none
     | none=>none
   | _=>none
 | _,_=>none
theorem zra (N:List Nat) (i:Nat):(N ++ [i]).foldl zaY []=zaY (N.foldl zaY []) i:=by simp
theorem zsW {t:Tr Value} {s:Nat}:∀(k off i c:Nat) (acc:List (Nat×Nat)) (N:List Nat) (c' : Nat) (acc' : List (Nat×Nat)),zy9 t s k off i c acc=some (c',acc')→N.length=c→N.foldl zaY []=acc→(∀n∈N,n < i)→N.Pairwise (· < ·)→
 ∃N',zsU (t.subL off k) s i N=some N'∧N'.length=c'∧N'.foldl zaY []=acc'∧(∀n∈N',n < i+k)∧N'.Pairwise (· < ·)
 | 0,off,i,c,acc,N,c',acc',h,h1,h2,h3,h4=>by
   simp only[zy9,Option.some.injEq,Prod.mk.injEq] at h
   obtain⟨rfl,rfl⟩:=h
   exact⟨N,rfl,h1,h2,h3,h4⟩
 | k+1,off,i,c,acc,N,c',acc',h,h1,h2,h3,h4=>by
   unfold zy9 at h
   rw[zax,zax,Tr.cellK_cell] at h
   obtain⟨kd,x,g1,g2⟩:=zaX h
   obtain⟨g3,g4⟩:=zaU g2
   have hv:=zbM g1
   have hkd:kd=.u8:=zkC (k':=.u8) g3
   subst hkd
   rw[zbl] at g4
   have hc:t.subL off (k+1)=.int .u8 (.ofNat x) :: t.subL (off+1) k:=by
    simp only[Tr.subL,Tr.cellK_cell,hv]
   cases hx:Nat.beq x s with
   | true=>
     rw[hx,cond_true,zax,zpB] at g4
     obtain⟨N',e1,e2,e3,e4,e5⟩:=zsW k (off+1) (i+1) (c+1) _ (N ++ [i]) c' acc' g4 (by simp[h1]) (by rw[zra,h2]) (fun n hn=>by
      rcases List.mem_append.1 hn with q | q
      ·have:=h3 n q; omega
      ·simp only[List.mem_singleton] at q; omega) (List.pairwise_append.2 ⟨h4,List.pairwise_singleton _ _,fun a ha b hb=>by
       simp only[List.mem_singleton] at hb
       have:=h3 a ha
       omega⟩)
     refine⟨N',?_,e2,e3,fun n hn=>by have:=e4 n hn; omega,e5⟩
     rw[hc]
     simp only[zsU,hx,cond_true]
     exact e1
   | false=>
     rw[hx,cond_false] at g4
     obtain⟨N',e1,e2,e3,e4,e5⟩:=zsW k (off+1) (i+1) c _ N c' acc' g4 h1 h2 (fun n hn=>by have:=h3 n hn; omega) h4
     refine⟨N',?_,e2,e3,fun n hn=>by have:=e4 n hn; omega,e5⟩
     rw[hc]
     simp only[zsU,hx,cond_false]
     exact e1
theorem zjT (el:TypeId) (acc:List (Nat×Nat)) (tr:Tr zaO) (n:Nat):zaD el acc (tr.map zaO.abs) n=((zdg el acc tr n).1,(zdg el acc tr n).2.abs):=by
 cases acc with
 | nil=>rfl
 | cons x r=>
   simp only[zaD,zdg]
   have hl:toL (Tr.nil.setL 0 (zeV (x :: r))) (2 * (r.length+1))=zeV (x :: r):=by
    have h1:=zcT (x :: r)
    simp only[List.length_cons] at h1
    have:=zcz (zeV (x :: r))
    rw[h1] at this
    exact this
   have:(FH.mk (tr.set (n+2 * r.length+1) (.cells (Tr.nil.setL 0 (zeV (x :: r))) (2 * (r.length+1)) el false)) (n+2 * r.length+2)).abs=⟨(tr.map zaO.abs).set (n+2 * r.length+1) (.cells (zeV (x :: r)) el false),n+2 * r.length+2⟩:=by
    show AH.mk (Tr.map zaO.abs (tr.set _ _)) _=_
    rw[Tr.map_set]
    simp only[zaO.abs,hl]
   rw[this]
theorem zyi {el:TypeId} {args:List Value} {h h' : FH} {v:Value} (hs:zBR el args h=some (v,h')):znv el args h.abs=some (v,h'.abs)∧h.next≤h'.next:=by
 unfold zBR at hs
 split at hs
 rotate_left
 ·simp at hs
 rename_i b off s
 split at hs
 rotate_left
 ·simp at hs
 rename_i t m e ro hg
 split at hs
 rotate_left
 ·simp at hs
 rename_i c acc hall
 obtain⟨h1,h2⟩:=zb9 hs
 have h1':=h1
 simp only[Bool.and_eq_true] at h1
 have hle:=Nat.le_of_ble_eq_true h1.1
 obtain⟨N',e1,e2,e3,e4,e5⟩:=zsW 1024 off 0 0 [] [] c acc hall rfl rfl (by simp) .nil
 rw[zdt hle] at e1
 have hsp:=zkH (N:=N') (fun n hn=>by have:=e4 n hn; omega) e5
 rw[e3] at hsp
 have hpair:zdg el acc h.tr (h.next+2 * c+1)=(v,h'):=h2
 constructor
 ·simp only[znv,FH.abs_get,hg,Option.map_some,zaO.abs,zaL,e1,h1',cond_true]
  have:(Nat.ble (off+1024) m && Nat.blt b h.abs.next)=true:=h1'
  rw[this]
  simp only[cond_true,hsp]
  have h3:=zjT el acc h.tr (h.next+2 * c+1)
  rw[hpair] at h3
  rw[e2]
  exact congrArg some h3
 ·have:h'= (zdg el acc h.tr (h.next+2 * c+1)).2:=by rw[hpair]
  rw[this]
  cases acc with
  | nil=>simp only[zdg]; omega
  | cons x r=>simp only[zdg]; omega
noncomputable def zjU (t:Tr Value):Nat→Nat→Nat→List (Nat×Nat)→Option (List (Nat×Nat))
 | 0,_,_,acc=>some acc
 | k+1,off,n,acc=>zaR off fun off=>zaR n fun n=>Tr.cellK t off fun v=>zmi (asBool v) fun b=>
    cnd b (zyh acc n fun acc=>zjU t k (Nat.succ off) (Nat.succ n) acc) (zjU t k (Nat.succ off) (Nat.succ n) acc)
theorem zkI {t:Tr Value}:∀(k off n:Nat) (acc acc' : List (Nat×Nat)),zjU t k off n acc=some acc'→zbU (t.subL off k) n acc=some acc'
 | 0,off,n,acc,acc',h=>by simpa[zjU,Tr.subL,zbU] using h
 | k+1,off,n,acc,acc',h=>by
   unfold zjU at h
   rw[zax,zax,Tr.cellK_cell] at h
   obtain⟨b,g1,g2⟩:=zbb h
   have hv:=zeU g1
   rw[zbl] at g2
   simp only[Tr.subL,Tr.cellK_cell,hv,zbU]
   cases b with
   | true=>
     rw[cond_true,zpB] at g2
     exact zkI k (off+1) (n+1) _ acc' g2
   | false=>
     rw[cond_false] at g2
     exact zkI k (off+1) (n+1) _ acc' g2
noncomputable def zsX (el:TypeId):List Value→FH→Option (Value×FH)
 | [.pointer (some ⟨b,off,none⟩)],h=>
   match h.get b with
   | some (.cells t m _ _)=>
     match zjU t 4096 off 0 [] with
     | some acc=>cond (Nat.beq off 0 && Nat.ble 4096 m && Nat.blt b h.next) (some (zdg el acc h.tr h.next)) none
     | none=>none
   | _=>none
 | _,_=>none
theorem zop (el:TypeId) (acc:List (Nat×Nat)) (tr:Tr zaO) (n:Nat):n≤(zdg el acc tr n).2.next:=by
 cases acc with
 | nil=>exact Nat.le_refl _
 | cons x r=>simp only[zdg]; omega
theorem zsY {el:TypeId} {args:List Value} {h h' : FH} {v:Value} (hs:zsX el args h=some (v,h')):zeG el args h.abs=some (v,h'.abs)∧h.next≤h'.next:=by
 unfold zsX at hs
 split at hs
 rotate_left
 ·simp at hs
 rename_i b off
 split at hs
 rotate_left
 ·simp at hs
 rename_i t m e ro hg
 split at hs
 rotate_left
 ·simp at hs
 rename_i acc hacc
 obtain⟨h1,h2⟩:=zb9 hs
 have h1':=h1
 simp only[Bool.and_eq_true] at h1
 have hoff:=Nat.eq_of_beq_eq_true h1.1.1
 subst hoff
 have hle:=Nat.le_of_ble_eq_true h1.1.2
 have hc:=zkI _ _ _ _ _ hacc
 rw[zdt (t:=t) (off:=0) (k:=4096) (n:=m) (by omega)] at hc
 have hpair:zdg el acc h.tr h.next=(v,h'):=h2
 constructor
 ·simp only[zeG,FH.abs_get,hg,Option.map_some,zaO.abs,zaL,hc]
  have:(Nat.beq 0 0 && Nat.ble 4096 m && Nat.blt b h.abs.next)=true:=h1'
  rw[this]
  simp only[cond_true]
  have h3:=zjT el acc h.tr h.next
  rw[hpair] at h3
  have h4:zaD el acc h.abs.tr h.abs.next=(v,h'.abs):=h3
  rw[←h4]
  cases acc <;> rfl
 ·have:h'= (zdg el acc h.tr h.next).2:=by rw[hpair]
  rw[this]
  exact zop _ _ _ _
noncomputable def fIs:List Value→FH→Option (Value×FH)
 | [.pointer (some ⟨b,off,none⟩),.int .i64 (.ofNat i),.int .u8 (.ofNat s)],h=>
   match h.get b with
   | some (.cells t m _ _)=>cond (Nat.blt i 1024 && Nat.blt (off+i) m) (Tr.cellK t (off+i) fun v=>onP (zif v) fun k x=>cnd (Nat.beq (zrF k) 4) (Bool.rec (motive:=fun _=>Option (Value×FH)) (some (.bool false,h)) (some (.bool true,h)) (Nat.beq x s)) none) none
   | _=>none
 | _,_=>none
theorem zz0 {args:List Value} {h h' : FH} {v:Value} (hs:fIs args h=some (v,h')):xIs args h.abs=some (v,h'.abs)∧h.next≤h'.next:=by
 unfold fIs at hs
 split at hs
 rotate_left
 ·simp at hs
 rename_i b off i s
 split at hs
 rotate_left
 ·simp at hs
 rename_i t m e ro hg
 obtain⟨h1,h2⟩:=za5 hs
 simp only[Bool.and_eq_true,Nat.blt_eq] at h1
 rw[Tr.cellK_cell] at h2
 obtain⟨k,x,g1,g2⟩:=zaX h2
 obtain⟨g3,g4⟩:=zaU g2
 have hv:=zbM g1
 have hkd:k=.u8:=zkC (k':=.u8) g3
 subst hkd
 have hcell:(toL t m)[off+i]?= some (.int .u8 (.ofNat x)):=by rw[zcG,if_pos h1.2,hv]
 have hb:Nat.blt i 1024=true:=by rw[Nat.blt_eq]; exact h1.1
 simp only[xIs,FH.abs_get,hg,Option.map_some,zaO.abs,hcell,hb,cond_true]
 cases hx:Nat.beq x s with
 | true=>
   rw[hx] at g4
   simp only[Option.some.injEq,Prod.mk.injEq] at g4
   obtain⟨rfl,rfl⟩:=g4
   exact⟨rfl,Nat.le_refl _⟩
 | false=>
   rw[hx] at g4
   simp only[Option.some.injEq,Prod.mk.injEq] at g4
   obtain⟨rfl,rfl⟩:=g4
   exact⟨rfl,Nat.le_refl _⟩
end Go.Am
